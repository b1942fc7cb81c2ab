/- What the printed functions of math/bits answer, in plain words: Mul64, Len64, Div64. -/
import Derived.Test.YtgibndgllhompaaSem2
import Derived.Test.YtgibndgllhompaaPx6
namespace Go.Proofs.Ytgibndgllhompaa.P
open Go.RowKit Go.Proofs.YtgibndgllhompaaW.PrintWords Go.Proofs.YtgibndgllhompaaW.PrintLast Go.Proofs.YtgibndgllhompaaW.PrintMore Go.Proofs.Ytgibndgllhompaa.Geo
set_option linter.unusedVariables false
set_option linter.unusedSimpArgs false

theorem mul_bd {a b A B : Int} (ha0 : 0 ≤ a) (ha : a ≤ A) (hb0 : 0 ≤ b) (hb : b ≤ B) : 0 ≤ a * b ∧ a * b ≤ A * B :=
  ⟨Int.mul_nonneg ha0 hb0, Int.mul_le_mul ha hb hb0 (by omega)⟩
theorem mul64_sem (a b : Int) (ha0 : 0 ≤ a) (ha : a < 18446744073709551616) (hb0 : 0 ≤ b) (hb : b < 18446744073709551616) :
    bits_Mul64.f a b = some (a * b / 18446744073709551616, a * b % 18446744073709551616) := by
  unfold bits_Mul64.f
  rw [u64_mask32 ha0 ha, u64_mask32 hb0 hb]
  have ea : a = (a / 4294967296) * 4294967296 + a % 4294967296 := by omega
  have eb : b = (b / 4294967296) * 4294967296 + b % 4294967296 := by omega
  have e : a * b = (a / 4294967296) * (b / 4294967296) * 18446744073709551616 + ((a / 4294967296) * (b % 4294967296) + (a % 4294967296) * (b / 4294967296)) * 4294967296 + (a % 4294967296) * (b % 4294967296) := by
    conv => lhs; rw [ea, eb]
    grind
  have h1 := mul_bd (a := a / 4294967296) (b := b / 4294967296) (A := 4294967295) (B := 4294967295) (by omega) (by omega) (by omega) (by omega)
  have h2 := mul_bd (a := a / 4294967296) (b := b % 4294967296) (A := 4294967295) (B := 4294967295) (by omega) (by omega) (by omega) (by omega)
  have h3 := mul_bd (a := a % 4294967296) (b := b / 4294967296) (A := 4294967295) (B := 4294967295) (by omega) (by omega) (by omega) (by omega)
  have h4 := mul_bd (a := a % 4294967296) (b := b % 4294967296) (A := 4294967295) (B := 4294967295) (by omega) (by omega) (by omega) (by omega)
  rw [u64w2 (a * b)]
  generalize a * b = p at *
  generalize (a / 4294967296) * (b / 4294967296) = p11 at *
  generalize (a / 4294967296) * (b % 4294967296) = p10 at *
  generalize (a % 4294967296) * (b / 4294967296) = p01 at *
  generalize (a % 4294967296) * (b % 4294967296) = p00 at *
  rw [u64w (x := p00) (by omega) (by omega), u64w (x := p10) (by omega) (by omega), u64w (x := p01) (by omega) (by omega), u64w (x := p11) (by omega) (by omega)]
  rw [u64w (x := p10 + p00 / 4294967296) (by omega) (by omega), u64_mask32 (x := p10 + p00 / 4294967296) (by omega) (by omega)]
  rw [u64w (x := (p10 + p00 / 4294967296) % 4294967296 + p01) (by omega) (by omega)]
  rw [u64w (x := p11 + (p10 + p00 / 4294967296) / 4294967296) (by omega) (by omega)]
  rw [u64w (by omega) (by omega)]
  congr 2
  omega

/-! ### Len64 -/
def T8 : ByteArray := ⟨#[0, 1, 2, 2, 3, 3, 3, 3, 4, 4, 4, 4, 4, 4, 4, 4, 5, 5, 5, 5, 5, 5, 5, 5, 5, 5, 5, 5, 5, 5, 5, 5, 6, 6, 6, 6, 6, 6, 6, 6, 6, 6, 6, 6, 6, 6, 6, 6, 6, 6, 6, 6, 6, 6, 6, 6, 6, 6, 6, 6, 6, 6, 6, 6, 7, 7, 7, 7, 7, 7, 7, 7, 7, 7, 7, 7, 7, 7, 7, 7, 7, 7, 7, 7, 7, 7, 7, 7, 7, 7, 7, 7, 7, 7, 7, 7, 7, 7, 7, 7, 7, 7, 7, 7, 7, 7, 7, 7, 7, 7, 7, 7, 7, 7, 7, 7, 7, 7, 7, 7, 7, 7, 7, 7, 7, 7, 7, 7, 8, 8, 8, 8, 8, 8, 8, 8, 8, 8, 8, 8, 8, 8, 8, 8, 8, 8, 8, 8, 8, 8, 8, 8, 8, 8, 8, 8, 8, 8, 8, 8, 8, 8, 8, 8, 8, 8, 8, 8, 8, 8, 8, 8, 8, 8, 8, 8, 8, 8, 8, 8, 8, 8, 8, 8, 8, 8, 8, 8, 8, 8, 8, 8, 8, 8, 8, 8, 8, 8, 8, 8, 8, 8, 8, 8, 8, 8, 8, 8, 8, 8, 8, 8, 8, 8, 8, 8, 8, 8, 8, 8, 8, 8, 8, 8, 8, 8, 8, 8, 8, 8, 8, 8, 8, 8, 8, 8, 8, 8, 8, 8, 8, 8, 8, 8, 8, 8, 8, 8, 8, 8, 8, 8, 8, 8, 8, 8]⟩
def lenOk (t v : Int) : Prop := (t = 0 ∧ v = 0) ∨ (t = 1 ∧ v = 1) ∨ (t = 2 ∧ 2 ≤ v ∧ v < 4) ∨ (t = 3 ∧ 4 ≤ v ∧ v < 8) ∨ (t = 4 ∧ 8 ≤ v ∧ v < 16) ∨ (t = 5 ∧ 16 ≤ v ∧ v < 32) ∨ (t = 6 ∧ 32 ≤ v ∧ v < 64) ∨ (t = 7 ∧ 64 ≤ v ∧ v < 128) ∨ (t = 8 ∧ 128 ≤ v ∧ v < 256)
instance (t v : Int) : Decidable (lenOk t v) := by unfold lenOk; infer_instance
theorem T8_ok0 : ∀ v : Fin 256, lenOk (bt T8 ((v.val : Nat) : Int)) ((v.val : Nat) : Int) := by decide +kernel
theorem T8_ok {v : Int} (h0 : 0 ≤ v) (h : v < 256) : lenOk (bt T8 v) v := by
  have := T8_ok0 ⟨v.toNat, by omega⟩
  simp only at this
  rwa [Int.toNat_of_nonneg h0] at this
/-- how many binary digits a number has -/
def Len (n x : Int) : Prop := 0 ≤ n ∧ n ≤ 64 ∧ x < 2 ^ n.toNat ∧ (0 < x → 1 ≤ n ∧ 2 ^ (n.toNat - 1) ≤ x)
theorem len_of {t v x : Int} (s : Nat) (hs : s ≤ 56) (h : lenOk t v) (hx : 0 ≤ x) (hv : v = x / 2 ^ s) (hz : s = 0 ∨ v ≠ 0) : Len (t + s) x := by
  have hp : (0 : Int) < 2 ^ s := Int.pow_pos (by omega)
  have h1 : v * 2 ^ s ≤ x := by rw [hv]; exact Int.ediv_mul_le x (by omega)
  have h2 : x < (v + 1) * 2 ^ s := by rw [hv]; exact Int.lt_ediv_add_one_mul_self x hp
  unfold lenOk at h
  unfold Len
  have hup : ∀ (m : Nat) (u : Int), v + 1 ≤ u → u = 2 ^ m → x < 2 ^ (m + s) := by
    intro m u hu e
    rw [Int.pow_add, ← e]
    exact Int.lt_of_lt_of_le h2 (Int.mul_le_mul_of_nonneg_right hu (by omega))
  have hlo : ∀ (m : Nat) (u : Int), u ≤ v → u = 2 ^ m → 2 ^ (m + s) ≤ x := by
    intro m u hu e
    rw [Int.pow_add, ← e]
    exact Int.le_trans (Int.mul_le_mul_of_nonneg_right hu (by omega)) h1
  rcases h with ⟨rfl, h⟩ | ⟨rfl, h⟩ | ⟨rfl, h, h'⟩ | ⟨rfl, h, h'⟩ | ⟨rfl, h, h'⟩ | ⟨rfl, h, h'⟩ | ⟨rfl, h, h'⟩ | ⟨rfl, h, h'⟩ | ⟨rfl, h, h'⟩
  · rcases hz with rfl | hz
    · simp at hv
      exact ⟨by omega, by omega, by simp; omega, by omega⟩
    · exact absurd h hz
  · refine ⟨by omega, by omega, ?_, fun _ => ⟨by omega, ?_⟩⟩
    · rw [show ((1 : Int) + s).toNat = 1 + s from by omega]; exact hup 1 2 (by omega) rfl
    · rw [show ((1 : Int) + s).toNat - 1 = 0 + s from by omega]; exact hlo 0 1 (by omega) rfl
  · refine ⟨by omega, by omega, ?_, fun _ => ⟨by omega, ?_⟩⟩
    · rw [show ((2 : Int) + s).toNat = 2 + s from by omega]; exact hup 2 4 (by omega) rfl
    · rw [show ((2 : Int) + s).toNat - 1 = 1 + s from by omega]; exact hlo 1 2 (by omega) rfl
  · refine ⟨by omega, by omega, ?_, fun _ => ⟨by omega, ?_⟩⟩
    · rw [show ((3 : Int) + s).toNat = 3 + s from by omega]; exact hup 3 8 (by omega) rfl
    · rw [show ((3 : Int) + s).toNat - 1 = 2 + s from by omega]; exact hlo 2 4 (by omega) rfl
  · refine ⟨by omega, by omega, ?_, fun _ => ⟨by omega, ?_⟩⟩
    · rw [show ((4 : Int) + s).toNat = 4 + s from by omega]; exact hup 4 16 (by omega) rfl
    · rw [show ((4 : Int) + s).toNat - 1 = 3 + s from by omega]; exact hlo 3 8 (by omega) rfl
  · refine ⟨by omega, by omega, ?_, fun _ => ⟨by omega, ?_⟩⟩
    · rw [show ((5 : Int) + s).toNat = 5 + s from by omega]; exact hup 5 32 (by omega) rfl
    · rw [show ((5 : Int) + s).toNat - 1 = 4 + s from by omega]; exact hlo 4 16 (by omega) rfl
  · refine ⟨by omega, by omega, ?_, fun _ => ⟨by omega, ?_⟩⟩
    · rw [show ((6 : Int) + s).toNat = 6 + s from by omega]; exact hup 6 64 (by omega) rfl
    · rw [show ((6 : Int) + s).toNat - 1 = 5 + s from by omega]; exact hlo 5 32 (by omega) rfl
  · refine ⟨by omega, by omega, ?_, fun _ => ⟨by omega, ?_⟩⟩
    · rw [show ((7 : Int) + s).toNat = 7 + s from by omega]; exact hup 7 128 (by omega) rfl
    · rw [show ((7 : Int) + s).toNat - 1 = 6 + s from by omega]; exact hlo 6 64 (by omega) rfl
  · refine ⟨by omega, by omega, ?_, fun _ => ⟨by omega, ?_⟩⟩
    · rw [show ((8 : Int) + s).toNat = 8 + s from by omega]; exact hup 8 256 (by omega) rfl
    · rw [show ((8 : Int) + s).toNat - 1 = 7 + s from by omega]; exact hlo 7 128 (by omega) rfl
theorem len64_eq (k : Nat) (x m : Int) : bits_Len64.j0 (k + 1) x m = (if x ≥ 65536 then (if (x / 65536) ≥ 256 then (if 0 ≤ (((x / 65536) / 256) % 256) then (if (((x / 65536) / 256) % 256) < 256 then (some (wrap64 ((wrap64 ((wrap64 (m + 16)) + 8)) + (wrap64 (bt T8 (((x / 65536) / 256) % 256)))))) else (none)) else (none)) else (if 0 ≤ ((x / 65536) % 256) then (if ((x / 65536) % 256) < 256 then (some (wrap64 ((wrap64 (m + 16)) + (wrap64 (bt T8 ((x / 65536) % 256)))))) else (none)) else (none))) else (if x ≥ 256 then (if 0 ≤ ((x / 256) % 256) then (if ((x / 256) % 256) < 256 then (some (wrap64 ((wrap64 (m + 8)) + (wrap64 (bt T8 ((x / 256) % 256)))))) else (none)) else (none)) else (if 0 ≤ (x % 256) then (if (x % 256) < 256 then (some (wrap64 (m + (wrap64 (bt T8 (x % 256)))))) else (none)) else (none)))) := rfl
attribute [irreducible] T8
theorem len64_tail (k : Nat) (x m : Int) (hx : 0 ≤ x) (hx1 : x < 4294967296) (hm : 0 ≤ m ∧ m ≤ 32) :
    ∃ (t v : Int) (s : Nat), bits_Len64.j0 (k + 1) x m = some (t + s + m) ∧ lenOk t v ∧ s ≤ 24 ∧ v = x / 2 ^ s ∧ (s = 0 ∨ v ≠ 0) := by
  rw [len64_eq]
  have hb : ∀ v : Int, 0 ≤ bt T8 v ∧ bt T8 v ≤ 255 := fun v => bt_range T8 v
  by_cases c1 : x ≥ 65536
  · rw [if_pos c1]
    by_cases c2 : x / 65536 ≥ 256
    · rw [if_pos c2, if_pos (by omega), if_pos (by omega)]
      have := hb (x / 65536 / 256 % 256)
      refine ⟨_, _, 24, ?_, T8_ok (v := x / 65536 / 256 % 256) (by omega) (by omega), by omega, by omega, by omega⟩
      rw [w64 (x := m + 16) (by omega) (by omega), w64 (x := m + 16 + 8) (by omega) (by omega), w64 (x := bt T8 _) (by omega) (by omega), w64 (by omega) (by omega)]
      congr 1; omega
    · rw [if_neg c2, if_pos (by omega), if_pos (by omega)]
      have := hb (x / 65536 % 256)
      refine ⟨_, _, 16, ?_, T8_ok (v := x / 65536 % 256) (by omega) (by omega), by omega, by omega, by omega⟩
      rw [w64 (x := m + 16) (by omega) (by omega), w64 (x := bt T8 _) (by omega) (by omega), w64 (by omega) (by omega)]
      congr 1; omega
  · rw [if_neg c1]
    by_cases c2 : x ≥ 256
    · rw [if_pos c2, if_pos (by omega), if_pos (by omega)]
      have := hb (x / 256 % 256)
      refine ⟨_, _, 8, ?_, T8_ok (v := x / 256 % 256) (by omega) (by omega), by omega, by omega, by omega⟩
      rw [w64 (x := m + 8) (by omega) (by omega), w64 (x := bt T8 _) (by omega) (by omega), w64 (by omega) (by omega)]
      congr 1; omega
    · rw [if_neg c2, if_pos (by omega), if_pos (by omega)]
      have := hb (x % 256)
      refine ⟨_, _, 0, ?_, T8_ok (v := x % 256) (by omega) (by omega), by omega, by omega, by omega⟩
      rw [w64 (x := bt T8 _) (by omega) (by omega), w64 (by omega) (by omega)]
      congr 1; omega
theorem len64_sem (k : Nat) (hk : 1 ≤ k) (x : Int) (h0 : 0 ≤ x) (h1 : x < 18446744073709551616) : ∃ n, bits_Len64.f k x = some n ∧ Len n x := by
  obtain ⟨k, rfl⟩ : ∃ m, k = m + 1 := ⟨k - 1, by omega⟩
  unfold bits_Len64.f
  by_cases c : x ≥ 4294967296
  · rw [if_pos c]
    obtain ⟨t, v, s, e, h, hs, hv, hz⟩ := len64_tail k (x / 4294967296) 32 (by omega) (by omega) (by omega)
    refine ⟨_, e, ?_⟩
    have ev : v = x / 2 ^ (s + 32) := by
      rw [hv, Nat.add_comm s 32, Int.pow_add, ← Int.ediv_ediv_of_nonneg (show (0 : Int) ≤ 2 ^ 32 by omega)]
      rfl
    have hv0 : v ≠ 0 := by
      rcases hz with rfl | hz
      · simp at hv; omega
      · exact hz
    have := len_of (s + 32) (by omega) h h0 ev (.inr hv0)
    rw [show t + (s : Int) + 32 = t + ((s + 32 : Nat) : Int) from by omega]
    exact this
  · rw [if_neg c]
    obtain ⟨t, v, s, e, h, hs, hv, hz⟩ := len64_tail k x 0 h0 (by omega) (by omega)
    refine ⟨_, e, ?_⟩
    rw [show t + (s : Int) + 0 = t + (s : Int) from by omega]
    exact len_of s (by omega) h h0 hv hz
end Go.Proofs.Ytgibndgllhompaa.P
