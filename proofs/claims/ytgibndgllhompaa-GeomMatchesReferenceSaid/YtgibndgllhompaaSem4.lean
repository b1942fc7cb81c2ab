/- What the printed Div64 of math/bits answers: the quotient of a number of 128 bits (Knuth's division). -/
import Derived.Test.YtgibndgllhompaaSem3
import Derived.Test.YtgibndgllhompaaPx7
namespace Go.Proofs.Ytgibndgllhompaa.P
open Go.RowKit Go.Proofs.YtgibndgllhompaaW.PrintWords Go.Proofs.YtgibndgllhompaaW.PrintLast Go.Proofs.YtgibndgllhompaaW.PrintMore Go.Proofs.Ytgibndgllhompaa.Geo
set_option linter.unusedVariables false
set_option linter.unusedSimpArgs false

structure Kn (y y1 y0 u d q r : Int) : Prop where
  hy : y = y1 * 4294967296 + y0
  h1 : 2147483648 ≤ y1
  h1' : y1 < 4294967296
  h0 : 0 ≤ y0
  h0' : y0 < 4294967296
  hu : 0 ≤ u
  hu' : u < y
  hd : 0 ≤ d
  hd' : d < 4294967296
  hq : q * y1 + r = u
  hr : 0 ≤ r
  hq0 : 0 ≤ q
  hq1 : q ≤ 4294967297
  hQ : (u * 4294967296 + d) / y ≤ q
theorem Kn.flag {y y1 y0 u d q r : Int} (K : Kn y y1 y0 u d q r) : (q * y0 > 4294967296 * r + d ↔ (u * 4294967296 + d) / y < q) ∧ (q ≥ 4294967296 → (u * 4294967296 + d) / y < q) := by
  obtain ⟨hy, h1, h1', h0, h0', hu, hu', hd, hd', hq, hr, hq0, hq1, hQ⟩ := K
  have e : (u * 4294967296 + d) / y < q ↔ u * 4294967296 + d < q * y := Int.ediv_lt_iff_lt_mul (by omega)
  have e2 : q * y = q * y1 * 4294967296 + q * y0 := by rw [hy]; grind
  refine ⟨?_, ?_⟩
  · rw [e, e2]; omega
  · intro h
    have : (u * 4294967296 + d) / y < 4294967296 := (Int.ediv_lt_iff_lt_mul (by omega)).2 (by omega)
    omega
theorem Kn.next {y y1 y0 u d q r : Int} (K : Kn y y1 y0 u d q r) (h : (u * 4294967296 + d) / y < q) : Kn y y1 y0 u d (q - 1) (r + y1) := by
  have hQ0 : 0 ≤ (u * 4294967296 + d) / y := Int.ediv_nonneg (by have := K.hu; have := K.hd; omega) (by have := K.hu; have := K.hu'; omega)
  obtain ⟨hy, h1, h1', h0, h0', hu, hu', hd, hd', hq, hr, hq0, hq1, hQ⟩ := K
  exact ⟨hy, h1, h1', h0, h0', hu, hu', hd, hd', by grind, by omega, by omega, by omega, by omega⟩
theorem Kn.stop {y y1 y0 u d q r : Int} (K : Kn y y1 y0 u d q r) (h : 4294967296 ≤ r) (hb : q ≤ 4294967296) : q = (u * 4294967296 + d) / y := by
  have hf := K.flag.1
  obtain ⟨hy, h1, h1', h0, h0', hu, hu', hd, hd', hq, hr, hq0, hq1, hQ⟩ := K
  have := mul_bd hq0 hb h0 (show y0 ≤ 4294967295 by omega)
  by_cases c : (u * 4294967296 + d) / y < q
  · have := hf.2 c; omega
  · omega
theorem Kn.init {y y1 y0 u d : Int} (hy : y = y1 * 4294967296 + y0) (h1 : 2147483648 ≤ y1) (h1' : y1 < 4294967296) (h0 : 0 ≤ y0) (h0' : y0 < 4294967296) (hu : 0 ≤ u) (hu' : u < y) (hd : 0 ≤ d) (hd' : d < 4294967296) :
    Kn y y1 y0 u d (u / y1) (u % y1) ∧ u % y1 < 4294967296 := by
  have e := Int.mul_ediv_add_emod u y1
  have m0 := Int.emod_nonneg u (show y1 ≠ 0 by omega)
  have m1 := Int.emod_lt_of_pos u (show 0 < y1 by omega)
  have q0 : 0 ≤ u / y1 := Int.ediv_nonneg hu (by omega)
  refine ⟨⟨hy, h1, h1', h0, h0', hu, hu', hd, hd', by rw [Int.mul_comm]; exact e, m0, q0, ?_, ?_⟩, by omega⟩
  · rw [Int.ediv_le_iff_le_mul (by omega)]
    have : y1 * 4294967297 = y1 * 4294967296 + y1 := by omega
    omega
  · rw [Int.ediv_le_iff_le_mul (by omega)]
    have e3 : u / y1 * y = (u / y1 * y1) * 4294967296 + u / y1 * y0 := by rw [hy]; grind
    have e4 : u / y1 * y1 = u - u % y1 := by rw [Int.mul_comm]; omega
    have hp := Int.mul_nonneg q0 h0
    rw [e3, e4]
    have : (u % y1) * 4294967296 + d + 1 ≤ y := by omega
    omega
theorem Kn.bd {y y1 y0 u d q r : Int} (K : Kn y y1 y0 u d q r) : 0 ≤ q * y0 ∧ q * y0 < 18446744073709551616 := by
  have := mul_bd K.hq0 K.hq1 K.h0 (show y0 ≤ 4294967295 by have := K.h0'; omega)
  omega
theorem div_loop1 (y s y1 y0 u0 q1 u : Int) (hs : 0 ≤ s) (hq1 : 0 ≤ q1) (hq1' : q1 < 4294967296) : ∀ (m k : Nat) (q r : Int), Kn y y1 y0 u u0 q r → r < 4294967296 → q - (u * 4294967296 + u0) / y = m → 2 * m + 2 ≤ k →
    ∃ z, bits_Div64.l1 k y s y1 y0 u0 q1 r u q = some (q1 * 4294967296 + (u * 4294967296 + u0) / y, z) := by
  intro m
  have fin : ∀ q r : Int, Kn y y1 y0 u u0 q r → q = (u * 4294967296 + u0) / y → q < 4294967296 ∧ 0 ≤ q := by
    intro q r K e
    refine ⟨?_, K.hq0⟩
    by_cases c : q ≥ 4294967296
    · have := K.flag.2 c; omega
    · omega
  induction m with
  | zero =>
    intro k q r K hr hm hk
    obtain ⟨k, rfl⟩ : ∃ m, k = m + 2 := ⟨k - 2, by omega⟩
    have hf := K.flag
    have hb := K.bd
    obtain ⟨f1, f2⟩ := fin q r K (by omega)
    simp only [bits_Div64.l1]
    have hd := K.hd; have hd' := K.hd'; have hr0 := K.hr
    rw [if_neg (by omega), u64w hb.1 hb.2, u64w (x := 4294967296 * r) (by omega) (by omega), u64w (x := 4294967296 * r + u0) (by omega) (by omega)]
    rw [decide_eq_false (fun h => by have := hf.1.1 h; omega)]
    simp only [bits_Div64.j4]
    rw [if_neg (by simp), if_pos hs, u64w (x := q1 * 4294967296) (by omega) (by omega), u64w (x := q1 * 4294967296 + q) (by omega) (by omega)]
    exact ⟨_, by rw [show q = (u * 4294967296 + u0) / y from by omega]⟩
  | succ m ih =>
    intro k q r K hr hm hk
    obtain ⟨k, rfl⟩ : ∃ m, k = m + 2 := ⟨k - 2, by omega⟩
    have hf := K.flag
    have hb := K.bd
    have K' := K.next (by omega)
    simp only [bits_Div64.l1]
    have hd := K.hd; have hd' := K.hd'; have hr0 := K.hr; have h1 := K.h1'; have h1' := K.h1; have hq0' := K'.hq0
    have e : (if q ≥ 4294967296 then (bits_Div64.j4 (k + 1) y s y1 y0 u0 q1 r u q true) else (bits_Div64.j4 (k + 1) y s y1 y0 u0 q1 r u q (decide ((IntKind.u64.wrap (q * y0)) > (IntKind.u64.wrap ((IntKind.u64.wrap (4294967296 * r)) + u0)))))) = bits_Div64.j4 (k + 1) y s y1 y0 u0 q1 r u q true := by
      split
      · rfl
      · rw [u64w hb.1 hb.2, u64w (x := 4294967296 * r) (by omega) (by omega), u64w (x := 4294967296 * r + u0) (by omega) (by omega), decide_eq_true (hf.1.2 (by omega))]
    rw [e]
    simp only [bits_Div64.j4]
    rw [if_pos trivial, u64w (x := r + y1) (by omega) (by omega), u64w (x := q - 1) (by omega) (by have := K'.hq1; omega)]
    by_cases c : r + y1 ≥ 4294967296
    · rw [if_pos c, if_pos hs]
      have hst := K'.stop c (by have := K.hq1; omega)
      obtain ⟨f1, f2⟩ := fin _ _ K' hst
      rw [u64w (x := q1 * 4294967296) (by omega) (by omega), u64w (x := q1 * 4294967296 + (q - 1)) (by omega) (by omega)]
      exact ⟨_, by rw [hst]⟩
    · rw [if_neg c]
      exact ih k _ _ K' (by omega) (by omega) (by omega)
theorem div_loop0 (y s y1 y0 u d u0 : Int) (hs : 0 ≤ s) (hu0 : 0 ≤ u0) (hu0' : u0 < 4294967296) : ∀ (m k : Nat) (q r : Int), Kn y y1 y0 u d q r → r < 4294967296 → q - (u * 4294967296 + d) / y = m → 2 * m + 20 ≤ k →
    ∃ z, bits_Div64.l0 k y s y1 y0 u d u0 q r = some ((u * 4294967296 + d) / y * 4294967296 + ((u * 4294967296 + d) % y * 4294967296 + u0) / y, z) := by
  have tail : ∀ (k : Nat) (q r : Int), 14 ≤ k → Kn y y1 y0 u d q r → q = (u * 4294967296 + d) / y → ∃ z, bits_Div64.j2 k y s y1 y0 u d u0 q = some ((u * 4294967296 + d) / y * 4294967296 + ((u * 4294967296 + d) % y * 4294967296 + u0) / y, z) := by
    intro k q r hk K hq
    obtain ⟨k, rfl⟩ : ∃ m, k = m + 1 := ⟨k - 1, by omega⟩
    have hf := K.flag.2
    obtain ⟨hy, h1, h1', h0, h0', hu, hu', hd, hd', hqr, hr, hq0, hq1, hQ⟩ := K
    have hlt : q < 4294967296 := by
      by_cases c : q ≥ 4294967296
      · have := hf c; omega
      · omega
    simp only [bits_Div64.j2]
    rw [if_neg (by omega)]
    have em := Int.mul_ediv_add_emod (u * 4294967296 + d) y
    rw [← hq, Int.mul_comm] at em
    have m0 := Int.emod_nonneg (u * 4294967296 + d) (show y ≠ 0 by omega)
    have m1 := Int.emod_lt_of_pos (u * 4294967296 + d) (show 0 < y by omega)
    have e21 : IntKind.u64.wrap ((IntKind.u64.wrap ((IntKind.u64.wrap (u * 4294967296)) + d)) - (IntKind.u64.wrap (q * y))) = (u * 4294967296 + d) % y := by
      rw [u64w2, u64w2, u64w2, u64w2]
      generalize (u * 4294967296 + d) % y = w at *
      generalize q * y = z at *
      omega
    rw [e21]
    generalize hw : (u * 4294967296 + d) % y = w at *
    have et : Int.tdiv w y1 = w / y1 := Int.tdiv_eq_ediv_of_nonneg m0
    obtain ⟨K2, hlt2⟩ := Kn.init (d := u0) hy h1 h1' h0 h0' m0 m1 hu0 hu0'
    have er := Int.mul_ediv_add_emod w y1
    have hq2 : w / y1 ≤ 4294967297 := K2.hq1
    have hq20 := K2.hq0
    have hprod : 0 ≤ w / y1 * y1 ∧ w / y1 * y1 ≤ w := by
      have h1 := Int.emod_nonneg w (show y1 ≠ 0 by omega)
      have h2 := Int.mul_nonneg hq20 (show 0 ≤ y1 by omega)
      rw [Int.mul_comm] at er
      omega
    have erh : IntKind.u64.wrap (w - IntKind.u64.wrap (IntKind.u64.wrap (Int.tdiv w y1) * y1)) = w % y1 := by
      rw [et, u64w (x := w / y1) hq20 (by omega), u64w (x := w / y1 * y1) hprod.1 (by omega), u64w (by omega) (by omega)]
      rw [Int.mul_comm] at er
      omega
    rw [erh, et, u64w (x := w / y1) hq20 (by omega)]
    have hmm := K2.hQ
    have hQ2 : 0 ≤ (w * 4294967296 + u0) / y := Int.ediv_nonneg (by omega) (by omega)
    have hgap : w / y1 - (w * 4294967296 + u0) / y ≤ 2 := by
      by_cases c : (w * 4294967296 + u0) / y < w / y1
      · have K3 := K2.next c
        by_cases c3 : (w * 4294967296 + u0) / y < w / y1 - 1
        · have K4 := K3.next c3
          have hr4 : 4294967296 ≤ w % y1 + y1 + y1 := by have := K2.hr; omega
          have := K4.stop hr4 (by omega)
          omega
        · omega
      · omega
    obtain ⟨z, hz⟩ := div_loop1 y s y1 y0 u0 q w hs hq0 hlt (w / y1 - (w * 4294967296 + u0) / y).toNat k (w / y1) (w % y1) K2 hlt2 (by omega) (by omega)
    exact ⟨z, by rw [hz, hq]⟩
  intro m
  induction m with
  | zero =>
    intro k q r K hr hm hk
    obtain ⟨k, rfl⟩ : ∃ m, k = m + 2 := ⟨k - 2, by omega⟩
    have hf := K.flag
    have hb := K.bd
    have hlt : q < 4294967296 := by
      by_cases c : q ≥ 4294967296
      · have := hf.2 c; omega
      · omega
    simp only [bits_Div64.l0]
    have hd := K.hd; have hd' := K.hd'; have hr0 := K.hr
    rw [if_neg (by omega), u64w hb.1 hb.2, u64w (x := 4294967296 * r) (by omega) (by omega), u64w (x := 4294967296 * r + d) (by omega) (by omega)]
    rw [decide_eq_false (fun h => by have := hf.1.1 h; omega)]
    simp only [bits_Div64.j1]
    rw [if_neg (by simp)]
    exact tail k q r (by omega) K (by omega)
  | succ m ih =>
    intro k q r K hr hm hk
    obtain ⟨k, rfl⟩ : ∃ m, k = m + 2 := ⟨k - 2, by omega⟩
    have hf := K.flag
    have hb := K.bd
    have K' := K.next (by omega)
    simp only [bits_Div64.l0]
    have hd := K.hd; have hd' := K.hd'; have hr0 := K.hr; have h1 := K.h1'; have h1' := K.h1; have hq0' := K'.hq0
    have e : (if q ≥ 4294967296 then (bits_Div64.j1 (k + 1) y s y1 y0 u d u0 q r true) else (bits_Div64.j1 (k + 1) y s y1 y0 u d u0 q r (decide ((IntKind.u64.wrap (q * y0)) > (IntKind.u64.wrap ((IntKind.u64.wrap (4294967296 * r)) + d)))))) = bits_Div64.j1 (k + 1) y s y1 y0 u d u0 q r true := by
      split
      · rfl
      · rw [u64w hb.1 hb.2, u64w (x := 4294967296 * r) (by omega) (by omega), u64w (x := 4294967296 * r + d) (by omega) (by omega), decide_eq_true (hf.1.2 (by omega))]
    rw [e]
    simp only [bits_Div64.j1]
    rw [if_pos trivial, u64w (x := r + y1) (by omega) (by omega), u64w (x := q - 1) (by omega) (by have := K'.hq1; omega)]
    by_cases c : r + y1 ≥ 4294967296
    · rw [if_pos c]
      exact tail k _ _ (by omega) K' (K'.stop c (by have := K.hq1; omega))
    · rw [if_neg c]
      exact ih k _ _ K' (by omega) (by omega) (by omega)
theorem two_step (U d1 d0 y : Int) (hy : 0 < y) (hd0 : 0 ≤ d0) (h : d0 < 4294967296) :
    (U * 4294967296 + d1) / y * 4294967296 + ((U * 4294967296 + d1) % y * 4294967296 + d0) / y = ((U * 4294967296 + d1) * 4294967296 + d0) / y := by
  have em := Int.mul_ediv_add_emod (U * 4294967296 + d1) y
  generalize (U * 4294967296 + d1) / y = Q at *
  generalize (U * 4294967296 + d1) % y = R at *
  rw [← em, show (y * Q + R) * 4294967296 + d0 = (R * 4294967296 + d0) + (Q * 4294967296) * y from by grind, Int.add_mul_ediv_right _ _ (by omega)]
  omega
theorem div64_sem (k : Nat) (hk : 40 ≤ k) (hi lo y : Int) (h0 : 0 ≤ hi) (hl0 : 0 ≤ lo) (hl : lo < 18446744073709551616) (hy : hi < y) (hy1 : y < 18446744073709551616) :
    ∃ z, bits_Div64.f k hi lo y = some ((hi * 18446744073709551616 + lo) / y, z) := by
  unfold bits_Div64.f
  rw [if_neg (by omega), if_neg (by omega)]
  by_cases c : hi = 0
  · rw [if_pos c]
    have ed : Int.tdiv lo y = lo / y := Int.tdiv_eq_ediv_of_nonneg hl0
    have : 0 ≤ lo / y := Int.ediv_nonneg hl0 (by omega)
    have : lo / y ≤ lo := Int.ediv_le_self _ hl0
    exact ⟨Int.tmod lo y, by rw [ed, u64w (by omega) (by omega), c]; simp only [Int.zero_mul, Int.zero_add]⟩
  · rw [if_neg c]
    obtain ⟨n, en, hn0, hn1, hn2, hn3⟩ := len64_sem k (by omega) y (by omega) hy1
    obtain ⟨hn3, hn4⟩ := hn3 (by omega)
    unfold bits_LeadingZeros64.f
    rw [en]
    simp only [Option.bind_some]
    rw [w64 (x := 64 - n) (by omega) (by omega), u64w (x := 64 - n) (by omega) (by omega), if_pos (by omega), u64w (x := 64 - (64 - n)) (by omega) (by omega), if_pos (by omega)]
    obtain ⟨s, hs⟩ : ∃ s : Nat, 64 - n = (s : Int) := ⟨(64 - n).toNat, by omega⟩
    rw [hs, show (64 : Int) - (s : Int) = ((64 - s : Nat) : Int) from by omega]
    have hs63 : s ≤ 63 := by omega
    have en' : n.toNat = 64 - s := by omega
    rw [en'] at hn2 hn4
    have p0 : (0 : Int) < 2 ^ s := Int.pow_pos (by omega)
    have p1 : (0 : Int) < 2 ^ (64 - s) := Int.pow_pos (by omega)
    have pp : (2 : Int) ^ s * 2 ^ (64 - s) = 18446744073709551616 := by rw [← Int.pow_add, show s + (64 - s) = 64 from by omega]; rfl
    have pm : (2 : Int) ^ s * 2 ^ (64 - s - 1) = 9223372036854775808 := by rw [← Int.pow_add, show s + (64 - s - 1) = 63 from by omega]; rfl
    rw [shl64 (by omega) (by omega), shl64 (by omega) (by omega), shl64 (by omega) (by omega), shr64 (by omega) (by omega), Int.toNat_natCast, Int.toNat_natCast]
    have hyN1 : y * 2 ^ s < 18446744073709551616 := by
      have := Int.mul_lt_mul_of_pos_right hn2 p0; rw [Int.mul_comm (2 ^ (64 - s))] at this; omega
    have hyN0 : 9223372036854775808 ≤ y * 2 ^ s := by
      have := Int.mul_le_mul_of_nonneg_right hn4 (show (0 : Int) ≤ 2 ^ s by omega); rw [Int.mul_comm (2 ^ (64 - s - 1))] at this; omega
    have hhN : hi * 2 ^ s + 2 ^ s ≤ y * 2 ^ s := by
      have := Int.mul_le_mul_of_nonneg_right (show hi + 1 ≤ y by omega) (show (0 : Int) ≤ 2 ^ s by omega); rw [Int.add_mul] at this; omega
    have hh0 : 0 ≤ hi * 2 ^ s := Int.mul_nonneg h0 (by omega)
    have hlo : 0 ≤ lo / 2 ^ (64 - s) ∧ lo / 2 ^ (64 - s) < 2 ^ s := by
      refine ⟨Int.ediv_nonneg hl0 (by omega), (Int.ediv_lt_iff_lt_mul p1).2 (by omega)⟩
    rw [u64w (x := y * 2 ^ s) (by omega) hyN1, u64w (x := hi * 2 ^ s) hh0 (by omega), u64w2 (lo * 2 ^ s)]
    rw [u64_join s hh0 (Int.mul_emod_left _ _) (by omega) hlo.1 hlo.2 (by omega)]
    have hml0 := Int.emod_nonneg (lo * 2 ^ s) (show (18446744073709551616 : Int) ≠ 0 by omega)
    have hml1 := Int.emod_lt_of_pos (lo * 2 ^ s) (show (0 : Int) < 18446744073709551616 by omega)
    rw [u64_mask32 (x := y * 2 ^ s) (by omega) hyN1, u64_mask32 hml0 hml1]
    -- the number, moved
    have hmove : (hi * 2 ^ s + lo / 2 ^ (64 - s)) * 18446744073709551616 + lo * 2 ^ s % 18446744073709551616 = (hi * 18446744073709551616 + lo) * 2 ^ s := by
      have e1 : lo * 2 ^ s / 18446744073709551616 = lo / 2 ^ (64 - s) := by
        rw [← pp, Int.mul_comm lo, Int.mul_ediv_mul_of_pos _ _ p0]
      have e2 := Int.mul_ediv_add_emod (lo * 2 ^ s) 18446744073709551616
      rw [e1] at e2
      grind
    have hU : hi * 2 ^ s + lo / 2 ^ (64 - s) < y * 2 ^ s := by omega
    have hU0 : 0 ≤ hi * 2 ^ s + lo / 2 ^ (64 - s) := by omega
    have hdivv : ((hi * 18446744073709551616 + lo) * 2 ^ s) / (y * 2 ^ s) = (hi * 18446744073709551616 + lo) / y := by
      rw [Int.mul_ediv_mul_of_pos_left _ _ p0]
    generalize hi * 2 ^ s + lo / 2 ^ (64 - s) = U at *
    generalize lo * 2 ^ s % 18446744073709551616 = L at *
    generalize y * 2 ^ s = Y at *
    rw [if_neg (by omega)]
    have et : Int.tdiv U (Y / 4294967296) = U / (Y / 4294967296) := Int.tdiv_eq_ediv_of_nonneg hU0
    obtain ⟨K, hlt⟩ := Kn.init (y := Y) (y1 := Y / 4294967296) (y0 := Y % 4294967296) (u := U) (d := L / 4294967296) (by omega) (by omega) (by omega) (by omega) (by omega) hU0 hU (by omega) (by omega)
    have hq0 := K.hq0
    have hq1 := K.hq1
    have er := Int.mul_ediv_add_emod U (Y / 4294967296)
    rw [Int.mul_comm] at er
    have hprod := Int.mul_nonneg hq0 (show 0 ≤ Y / 4294967296 by omega)
    have hm0 := K.hr
    have erh : IntKind.u64.wrap (U - IntKind.u64.wrap (IntKind.u64.wrap (Int.tdiv U (Y / 4294967296)) * (Y / 4294967296))) = U % (Y / 4294967296) := by
      rw [et, u64w (x := U / (Y / 4294967296)) hq0 (by omega), u64w (x := U / (Y / 4294967296) * (Y / 4294967296)) hprod (by omega), u64w (by omega) (by omega)]
      omega
    rw [erh, et, u64w (x := U / (Y / 4294967296)) hq0 (by omega)]
    have hgap : U / (Y / 4294967296) - (U * 4294967296 + L / 4294967296) / Y ≤ 2 := by
      by_cases c : (U * 4294967296 + L / 4294967296) / Y < U / (Y / 4294967296)
      · have K3 := K.next c
        by_cases c3 : (U * 4294967296 + L / 4294967296) / Y < U / (Y / 4294967296) - 1
        · have K4 := K3.next c3
          have hr4 : 4294967296 ≤ U % (Y / 4294967296) + Y / 4294967296 + Y / 4294967296 := by omega
          have := K4.stop hr4 (by omega)
          omega
        · omega
      · omega
    have hQ := K.hQ
    obtain ⟨z, hz⟩ := div_loop0 Y (s : Int) (Y / 4294967296) (Y % 4294967296) U (L / 4294967296) (L % 4294967296) (by omega) (by omega) (by omega) (U / (Y / 4294967296) - (U * 4294967296 + L / 4294967296) / Y).toNat k _ _ K hlt (by omega) (by omega)
    refine ⟨z, ?_⟩
    rw [hz, two_step U (L / 4294967296) (L % 4294967296) Y (by omega) (by omega) (by omega)]
    rw [show (U * 4294967296 + L / 4294967296) * 4294967296 + L % 4294967296 = U * 18446744073709551616 + L from by omega, hmove, hdivv]
end Go.Proofs.Ytgibndgllhompaa.P
