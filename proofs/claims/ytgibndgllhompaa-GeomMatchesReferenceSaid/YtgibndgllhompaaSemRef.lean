/- What the printed functions on numbers answer, in plain words: the reference's times and Root. -/
import Derived.Test.YtgibndgllhompaaSem5
import Derived.Test.YtgibndgllhompaaPx15
namespace Go.Proofs.Ytgibndgllhompaa.P
open Go.RowKit Go.Proofs.YtgibndgllhompaaW.PrintWords Go.Proofs.YtgibndgllhompaaW.PrintLast Go.Proofs.YtgibndgllhompaaW.PrintMore Go.Proofs.Ytgibndgllhompaa.Geo
set_option linter.unusedVariables false
set_option linter.unusedSimpArgs false

theorem refroot_loop (n : Int) (hn0 : -9223372036854775808 ≤ n) (hn : n ≤ 9223372036854775807) : ∀ (d k : Nat) (r : Int), d ≤ 32 → d < k → 0 ≤ r → r ≤ 3037000499 → (0 ≤ n → r * r ≤ n ∧ n < (r + 2 ^ d) * (r + 2 ^ d)) → (n < 0 → r = 0) →
    ∃ t, planisphereref03_Root.l0 k n r ((d : Int) - 1) = some t ∧ ((n < 0 ∧ t = 0) ∨ (0 ≤ n ∧ 0 ≤ t ∧ t * t ≤ n ∧ n < (t + 1) * (t + 1))) := by
  intro d
  induction d with
  | zero =>
    intro k r hd hk h0 h1 h2 h3
    obtain ⟨k, rfl⟩ : ∃ m, k = m + 1 := ⟨k - 1, by omega⟩
    simp only [planisphereref03_Root.l0]
    rw [if_neg (by omega)]
    refine ⟨r, rfl, ?_⟩
    by_cases h : n < 0
    · exact .inl ⟨h, h3 h⟩
    · have := h2 (by omega); exact .inr ⟨by omega, h0, by omega, by simpa using this.2⟩
  | succ d ih =>
    intro k r hd hk h0 h1 h2 h3
    obtain ⟨k, rfl⟩ : ∃ m, k = m + 1 := ⟨k - 1, by omega⟩
    simp only [planisphereref03_Root.l0]
    have e0 : (((d + 1 : Nat) : Int) - 1) = (d : Int) := by omega
    have hp : (2 : Int) ^ d ≤ 2 ^ 31 := pow2_le (by omega)
    have hp0 : (0 : Int) < 2 ^ d := Int.pow_pos (by omega)
    have ep : (2 : Int) ^ (d + 1) = 2 * 2 ^ d := by rw [Int.pow_succ]; omega
    rw [e0, if_pos (by omega), u64w (by omega) (by omega), if_pos (by omega)]
    have es : shl .i64 1 (d : Int) = 2 ^ d := by
      unfold shl
      rw [Nat.min_eq_left (by have : IntKind.i64.bits = 64 := rfl; omega), Int.toNat_natCast, Int.one_mul]
      exact i64w (by omega) (by omega)
    rw [es, w64 (x := r + 2 ^ d) (by omega) (by omega), w64 (x := (d : Int) - 1) (by omega) (by omega)]
    have big : ¬ (r + 2 ^ d ≤ 3037000499) → 0 ≤ n → n < (r + 2 ^ d) * (r + 2 ^ d) := by
      intro c _
      have : (3037000500 : Int) * 3037000500 ≤ (r + 2 ^ d) * (r + 2 ^ d) := Int.mul_le_mul (by omega) (by omega) (by omega) (by omega)
      omega
    by_cases c1 : r + 2 ^ d ≤ 3037000499
    · rw [if_pos c1]
      have hb : 0 ≤ (r + 2 ^ d) * (r + 2 ^ d) ∧ (r + 2 ^ d) * (r + 2 ^ d) ≤ 3037000499 * 3037000499 := ⟨Int.mul_nonneg (by omega) (by omega), Int.mul_le_mul (by omega) (by omega) (by omega) (by omega)⟩
      rw [w64 (x := (r + 2 ^ d) * (r + 2 ^ d)) (by omega) (by omega)]
      by_cases c2 : (r + 2 ^ d) * (r + 2 ^ d) ≤ n
      · rw [if_pos c2]
        refine ih k _ (by omega) (by omega) (by omega) c1 (fun h => ⟨c2, ?_⟩) (fun h => by omega)
        have := (h2 h).2; rw [ep] at this; grind
      · rw [if_neg c2]
        exact ih k _ (by omega) (by omega) (by omega) h1 (fun h => ⟨(h2 h).1, by omega⟩) h3
    · rw [if_neg c1]
      exact ih k _ (by omega) (by omega) (by omega) h1 (fun h => ⟨(h2 h).1, big c1 h⟩) h3
theorem refroot_sem (k : Nat) (hk : 33 ≤ k) (n : Int) (h1 : -9223372036854775808 ≤ n) (h2 : n ≤ 9223372036854775807) :
    ∃ t, planisphereref03_Root.f k n = some t ∧ ((n < 0 ∧ t = 0) ∨ (0 ≤ n ∧ 0 ≤ t ∧ t * t ≤ n ∧ n < (t + 1) * (t + 1))) := by
  unfold planisphereref03_Root.f
  exact refroot_loop n h1 h2 32 k 0 (by omega) (by omega) (by omega) (by omega) (fun h => ⟨by omega, by omega⟩) (fun _ => rfl)

/-! ### times -/
theorem times_loop (a b c : Int) (x7 : Int) (ha0 : 0 ≤ a) (hb0 : 0 ≤ b) (hbc : b < c) (hc : c ≤ 1125899906842624) (ha : a < 2251799813685248) (h70 : 0 ≤ x7) (h7 : x7 ≤ 2305843009213693952) :
    ∀ (d k : Nat) (q r : Int), d ≤ 51 → 5 * d < k → 0 ≤ q → 0 ≤ r → r < c → q * c + r = (a / 2 ^ d) * b → q ≤ a →
    planisphereref03_times.l0 k a b c x7 q r ((d : Int) - 1) = some (x7 + a * b / c) := by
  intro d
  induction d with
  | zero =>
    intro k q r hd hk hq hr hrc h hqa
    obtain ⟨k, rfl⟩ : ∃ m, k = m + 1 := ⟨k - 1, by omega⟩
    simp only [planisphereref03_times.l0]
    rw [if_neg (by omega)]
    simp at h
    have : a * b / c = q := by
      rw [← h, Int.add_comm, Int.add_mul_ediv_right _ _ (by omega), Int.ediv_eq_zero_of_lt hr hrc]; omega
    rw [this, w64 (by omega) (by omega)]
  | succ d ih =>
    intro k q r hd hk hq hr hrc h hqa
    obtain ⟨k, rfl⟩ : ∃ m, k = m + 5 := ⟨k - 5, by omega⟩
    have hM : ∃ M : Int, a / 2 ^ d = M ∧ M / 2 = a / 2 ^ (d + 1) ∧ 0 ≤ M ∧ M ≤ a := by
      refine ⟨_, rfl, ?_, Int.ediv_nonneg ha0 (by exact Int.le_of_lt (Int.pow_pos (by omega))), Int.ediv_le_self _ ha0⟩
      rw [Int.ediv_ediv_of_nonneg (by exact Int.le_of_lt (Int.pow_pos (by omega))), Int.pow_succ]
    obtain ⟨M, hM1, hM2, hM0, hMa⟩ := hM
    rw [← hM2] at h
    have key : ∀ (q' r' : Int), 0 ≤ q' → 0 ≤ r' → r' < 3 * c → q' * c + r' = M * b → ∃ z, z + 1 ≤ 4 ∧ planisphereref03_times.l1 (k + 3) a b c x7 q' r' ((d : Int)) = some (x7 + a * b / c) := by
      intro q' r' hq' hr' h3 he
      have hqM : ∀ q' r' : Int, 0 ≤ r' → q' * c + r' = M * b → q' ≤ a := by
        intro q' r' hr' he
        have h1 : q' * c ≤ M * b := by omega
        have h2 : M * b ≤ M * c := Int.mul_le_mul_of_nonneg_left (by omega) hM0
        have h3 : q' * c ≤ M * c := by omega
        have := Int.le_of_mul_le_mul_right h3 (by omega)
        omega
      have step0 : ∀ (m : Nat) (q' r' : Int), k ≤ m → 0 ≤ q' → 0 ≤ r' → r' < c → q' * c + r' = M * b → planisphereref03_times.l1 (m + 1) a b c x7 q' r' ((d : Int)) = some (x7 + a * b / c) := by
        intro m q' r' hm hq' hr' h3 he
        simp only [planisphereref03_times.l1]
        rw [if_neg (by omega), w64 (x := (d : Int) - 1) (by omega) (by omega)]
        exact ih m q' r' (by omega) (by omega) hq' hr' h3 (by rw [hM1]; exact he) (hqM q' r' hr' he)
      have step1 : ∀ (m : Nat) (q' r' : Int), k ≤ m → 0 ≤ q' → 0 ≤ r' → r' < 2 * c → q' * c + r' = M * b → planisphereref03_times.l1 (m + 2) a b c x7 q' r' ((d : Int)) = some (x7 + a * b / c) := by
        intro m q' r' hm hq' hr' h3 he
        by_cases c1 : r' ≥ c
        · simp only [planisphereref03_times.l1]
          have := hqM q' r' hr' he
          rw [if_pos c1, w64 (x := q' + 1) (by omega) (by omega), w64 (x := r' - c) (by omega) (by omega)]
          exact step0 m _ _ hm (by omega) (by omega) (by omega) (by grind)
        · exact step0 (m + 1) q' r' (by omega) hq' hr' (by omega) he
      refine ⟨0, by omega, ?_⟩
      by_cases c1 : r' ≥ c
      · simp only [planisphereref03_times.l1]
        have := hqM q' r' hr' he
        rw [if_pos c1, w64 (x := q' + 1) (by omega) (by omega), w64 (x := r' - c) (by omega) (by omega)]
        exact step1 k _ _ (by omega) (by omega) (by omega) (by omega) (by grind)
      · exact step1 (k + 1) q' r' (by omega) hq' hr' (by omega) he
    simp only [planisphereref03_times.l0]
    have e0 : (((d + 1 : Nat) : Int) - 1) = (d : Int) := by omega
    rw [e0, if_pos (by omega), u64w (x := (d : Int)) (by omega) (by omega), if_pos (by omega)]
    have es : shr .i64 a (d : Int) = M := by
      unfold shr
      rw [Nat.min_eq_left (by have : IntKind.i64.bits = 64 := rfl; omega), Int.toNat_natCast, hM1]
    have em : bits .and .i64 M 1 = M % 2 := bits_mask .i64 63 (by decide) (fun n h0 h1 => i64w (by omega) (by omega)) 1 (by decide) M hM0 (by omega)
    rw [es, em, w64 (x := 2 * q) (by omega) (by omega), w64 (x := 2 * r) (by omega) (by omega), w64 (x := 2 * r + b) (by omega) (by omega)]
    by_cases c1 : M % 2 = 1
    · rw [if_pos c1]
      simp only [planisphereref03_times.j1]
      have hM4 : M = 2 * (M / 2) + 1 := by omega
      obtain ⟨_, _, hz⟩ := key (2 * q) (2 * r + b) (by omega) (by omega) (by omega) (by
        have : M * b = 2 * (M / 2 * b) + b := by conv => lhs; rw [hM4]
                                                 grind
        rw [this, ← h]; grind)
      exact hz
    · rw [if_neg c1]
      simp only [planisphereref03_times.j1]
      have hM4 : M = 2 * (M / 2) := by omega
      obtain ⟨_, _, hz⟩ := key (2 * q) (2 * r) (by omega) (by omega) (by omega) (by
        have : M * b = 2 * (M / 2 * b) := by conv => lhs; rw [hM4]
                                             grind
        rw [this, ← h]; grind)
      exact hz
theorem times_sem (k : Nat) (hk : 300 ≤ k) (n c m : Int) (hn0 : 0 ≤ n) (hn : n < 1125899906842624) (hc0 : 0 < c) (hc : c ≤ 1125899906842624) (hm : n * n ≤ m * c) (hm1 : m ≤ 1125899906842624) :
    planisphereref03_times.f k n n c = some (n * n / c) := by
  unfold planisphereref03_times.f
  have e1 : Int.tmod n c = n % c := by rw [Int.tmod_eq_emod_of_nonneg hn0]
  have e2 : Int.tdiv n c = n / c := by rw [Int.tdiv_eq_ediv_of_nonneg hn0]
  have hd0 : 0 ≤ n / c := Int.ediv_nonneg hn0 (by omega)
  have hdn : n / c ≤ n := Int.ediv_le_self _ hn0
  have hmod := Int.emod_nonneg n (show c ≠ 0 by omega)
  have hmod2 := Int.emod_lt_of_pos n hc0
  have hdm : n = c * (n / c) + n % c := by have := Int.mul_ediv_add_emod n c; omega
  have hq : 0 ≤ n * (n / c) ∧ n * (n / c) ≤ m := by
    refine ⟨Int.mul_nonneg hn0 hd0, ?_⟩
    have h1 : n * (n / c) * c ≤ m * c := by
      refine Int.le_trans ?_ hm
      have : n * (n / c) * c = n * (c * (n / c)) := by grind
      rw [this]
      exact Int.mul_le_mul_of_nonneg_left (by omega) hn0
    exact Int.le_of_mul_le_mul_right h1 hc0
  rw [if_neg (by omega), e1, e2, w64 (x := n / c) (by omega) (by omega), w64 (x := n * (n / c)) (by omega) (by omega)]
  have := times_loop n (n % c) c (n * (n / c)) hn0 hmod hmod2 hc (by omega) hq.1 (by omega) 51 k 0 0 (by omega) (by omega) (by omega) (by omega) hc0 (by
    have : n / 2 ^ 51 = 0 := Int.ediv_eq_zero_of_lt hn0 (by omega)
    rw [this]; omega) hn0
  rw [show (50 : Int) = ((51 : Nat) : Int) - 1 from rfl, this]
  congr 1
  have e : n * n = n * (n % c) + (n * (n / c)) * c := by
    conv => lhs; rhs; rw [hdm]
    grind
  rw [e, Int.add_mul_ediv_right _ _ (by omega)]
  omega
end Go.Proofs.Ytgibndgllhompaa.P
