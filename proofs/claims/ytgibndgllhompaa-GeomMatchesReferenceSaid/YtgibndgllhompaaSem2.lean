/- What the printed functions on numbers answer, in plain words: Root. -/
import Derived.Test.YtgibndgllhompaaSem1
import Derived.Test.YtgibndgllhompaaPx9
namespace Go.Proofs.Ytgibndgllhompaa.P
open Go.RowKit Go.Proofs.YtgibndgllhompaaW.PrintWords Go.Proofs.YtgibndgllhompaaW.PrintLast Go.Proofs.YtgibndgllhompaaW.PrintMore Go.Proofs.Ytgibndgllhompaa.Geo
set_option linter.unusedVariables false
set_option linter.unusedSimpArgs false

theorem pow2_le {i j : Nat} (h : i ≤ j) : (2 : Int) ^ i ≤ 2 ^ j := by exact_mod_cast Nat.pow_le_pow_right (by omega) h
theorem u64w {x : Int} (h1 : 0 ≤ x) (h2 : x < 18446744073709551616) : IntKind.u64.wrap x = x := by
  have e : IntKind.u64.wrap x = x % 18446744073709551616 := by simp [IntKind.wrap, IntKind.bits, IntKind.signed]
  rw [e]; omega
theorem u64w2 (x : Int) : IntKind.u64.wrap x = x % 18446744073709551616 := by simp [IntKind.wrap, IntKind.bits, IntKind.signed]
theorem i64w {x : Int} (h1 : -9223372036854775808 ≤ x) (h2 : x ≤ 9223372036854775807) : IntKind.i64.wrap x = x := by
  have e : IntKind.i64.wrap x = (x + 9223372036854775808) % 18446744073709551616 - 9223372036854775808 := by
    simp [IntKind.wrap, IntKind.bits, IntKind.signed]; split <;> omega
  rw [e]; omega
theorem wraps_u64 (n : Int) (h0 : 0 ≤ n) (h1 : n < 2 ^ 64) : IntKind.u64.wrap n = n := u64w h0 (by omega)
theorem u64_mask32 {x : Int} (h0 : 0 ≤ x) (h1 : x < 18446744073709551616) : bits .and .u64 x 4294967295 = x % 4294967296 :=
  bits_mask .u64 64 (by decide) wraps_u64 32 (by decide) x h0 (by omega)
theorem u64_mask2 {x : Int} (h0 : 0 ≤ x) (h1 : x < 18446744073709551616) : bits .and .u64 x 3 = x % 4 :=
  bits_mask .u64 64 (by decide) wraps_u64 2 (by decide) x h0 (by omega)
theorem u64_join (i : Nat) {x y : Int} (hx0 : 0 ≤ x) (hx : x % 2 ^ i = 0) (hx1 : x < 18446744073709551616) (hy0 : 0 ≤ y) (hy : y < 2 ^ i) (hy1 : y < 18446744073709551616) : bits .or .u64 x y = x + y :=
  bits_join .u64 64 (by decide) wraps_u64 i x y hx0 hx (by omega) hy0 hy (by omega)
theorem shr64 {x y : Int} (h0 : 0 ≤ y) (h : y ≤ 64) : shr .u64 x y = x / 2 ^ y.toNat := by
  unfold shr; rw [Nat.min_eq_left (by have : IntKind.u64.bits = 64 := rfl; omega)]
theorem shl64 {x y : Int} (h0 : 0 ≤ y) (h : y ≤ 64) : shl .u64 x y = IntKind.u64.wrap (x * 2 ^ y.toNat) := by
  unfold shl; rw [Nat.min_eq_left (by have : IntKind.u64.bits = 64 := rfl; omega)]

/-! ### Root -/
theorem root_loop (n : Int) (hn0 : 0 ≤ n) (hn : n ≤ 9223372036854775807) : ∀ (d i k : Nat) (r s : Int), 32 - i = d → i ≤ 32 → d < k → r * r + s = n / 2 ^ (64 - 2 * i) → 0 ≤ s → s ≤ 2 * r → 0 ≤ r → r < 2 ^ i →
    ∃ t, geom_Root.l0 k n r s (i : Int) = some t ∧ 0 ≤ t ∧ t * t ≤ n ∧ n < (t + 1) * (t + 1) := by
  intro d
  induction d with
  | zero =>
    intro i k r s hd hi hk hv hs0 hs hr0 hr
    obtain ⟨k, rfl⟩ : ∃ m, k = m + 1 := ⟨k - 1, by omega⟩
    obtain rfl : i = 32 := by omega
    simp only [geom_Root.l0]
    rw [if_neg (by omega)]
    simp at hv
    have : r ≤ 4294967296 := by omega
    refine ⟨r, by rw [w64 (by omega) (by omega)], hr0, by omega, by grind⟩
  | succ d ih =>
    intro i k r s hd hi hk hv hs0 hs hr0 hr
    obtain ⟨k, rfl⟩ : ∃ m, k = m + 1 := ⟨k - 1, by omega⟩
    have hi' : i < 32 := by omega
    have hr' : r < 2147483648 := by
      have : (2 : Int) ^ i ≤ 2 ^ 31 := pow2_le (by omega)
      omega
    simp only [geom_Root.l0]
    rw [if_pos (by omega), w64 (x := 2 * (i : Int)) (by omega) (by omega), w64 (x := 62 - 2 * (i : Int)) (by omega) (by omega), if_pos (by omega)]
    rw [u64w (x := n) hn0 (by omega), shr64 (by omega) (by omega)]
    have et : (62 - 2 * (i : Int)).toNat = 62 - 2 * i := by omega
    rw [et]
    have hM : ∃ M : Int, n / 2 ^ (62 - 2 * i) = M ∧ M / 4 = n / 2 ^ (64 - 2 * i) ∧ 0 ≤ M := by
      refine ⟨_, rfl, ?_, Int.ediv_nonneg hn0 (by exact Int.le_of_lt (Int.pow_pos (by omega)))⟩
      rw [Int.ediv_ediv_of_nonneg (by exact Int.le_of_lt (Int.pow_pos (by omega)))]
      congr 1
      rw [show 64 - 2 * i = (62 - 2 * i) + 2 from by omega, Int.pow_add]
      rfl
    obtain ⟨M, hM1, hM2, hM0⟩ := hM
    have hMn : M ≤ n := by rw [← hM1]; exact Int.ediv_le_self _ hn0
    rw [hM1, u64_mask2 hM0 (by omega)]
    rw [u64w (x := s * 4) (by omega) (by omega), u64w (x := r * 2) (by omega) (by omega), u64w (x := r * 2 * 2) (by omega) (by omega)]
    rw [u64_join 2 (x := s * 4) (y := M % 4) (by omega) (by omega) (by omega) (by omega) (by omega) (by omega)]
    rw [u64_join 2 (x := r * 2 * 2) (y := 1) (by omega) (by omega) (by omega) (by omega) (by omega) (by omega)]
    rw [u64_join 1 (x := r * 2) (y := 1) (by omega) (by omega) (by omega) (by omega) (by omega) (by omega)]
    rw [w64 (x := (i : Int) + 1) (by omega) (by omega)]
    have e1 : ((i : Int) + 1) = ((i + 1 : Nat) : Int) := by omega
    have e2 : 64 - 2 * (i + 1) = 62 - 2 * i := by omega
    have ep : (2 : Int) ^ (i + 1) = 2 * 2 ^ i := by rw [Int.pow_succ]; omega
    have hM3 : M = 4 * (r * r + s) + M % 4 := by omega
    by_cases c : r * 2 * 2 + 1 ≤ s * 4 + M % 4
    · rw [if_pos c, u64w (x := s * 4 + M % 4 - (r * 2 * 2 + 1)) (by omega) (by omega), e1]
      exact ih (i + 1) k _ _ (by omega) (by omega) (by omega) (by rw [e2, hM1]; grind) (by omega) (by omega) (by omega) (by omega)
    · rw [if_neg c, e1]
      exact ih (i + 1) k _ _ (by omega) (by omega) (by omega) (by rw [e2, hM1]; grind) (by omega) (by omega) (by omega) (by omega)
theorem sq_uniq {a b n : Int} (ha : 0 ≤ a) (hb : 0 ≤ b) (h1 : a * a ≤ n) (h2 : n < (a + 1) * (a + 1)) (h3 : b * b ≤ n) (h4 : n < (b + 1) * (b + 1)) : a = b := by
  rcases Int.lt_trichotomy a b with h | h | h
  · have : (a + 1) * (a + 1) ≤ b * b := Int.mul_le_mul (by omega) (by omega) (by omega) (by omega)
    omega
  · exact h
  · have : (b + 1) * (b + 1) ≤ a * a := Int.mul_le_mul (by omega) (by omega) (by omega) (by omega)
    omega
theorem root_sem (k : Nat) (hk : 33 ≤ k) (n : Int) (h1 : -9223372036854775808 ≤ n) (h2 : n ≤ 9223372036854775807) :
    ∃ t, geom_Root.f k n = some t ∧ ((n < 0 ∧ t = 0) ∨ (0 ≤ n ∧ 0 ≤ t ∧ t * t ≤ n ∧ n < (t + 1) * (t + 1))) := by
  unfold geom_Root.f
  by_cases h : n < 0
  · exact ⟨0, by rw [if_pos h], .inl ⟨h, rfl⟩⟩
  · obtain ⟨t, e, h3, h4, h5⟩ := root_loop n (by omega) h2 32 0 k 0 0 rfl (by omega) (by omega) (by
      have : n / 2 ^ 64 = 0 := Int.ediv_eq_zero_of_lt (by omega) (by omega)
      rw [show 64 - 2 * 0 = 64 from rfl, this]; omega) (by omega) (by omega) (by omega) (by omega)
    exact ⟨t, by rw [if_neg h]; exact e, .inr ⟨by omega, h3, h4, h5⟩⟩

end Go.Proofs.Ytgibndgllhompaa.P
