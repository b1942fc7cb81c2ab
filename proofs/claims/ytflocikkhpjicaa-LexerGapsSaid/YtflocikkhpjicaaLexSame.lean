/- Where found things stand; the reference's Same over found things that stand elsewhere. -/
import Derived.Test.YtflocikkhpjicaaLexRef
namespace Go.Proofs.Ytflocikkhpjicaa.Pure
open Go.RowKit Go.Proofs.Ytflocikkhpjicaa.P Go.Proofs.YtflocikkhpjicaaW.PrintWords Go.Proofs.YtflocikkhpjicaaW.PrintLast
open Go.Proofs.Ytflocikkhpjicaa
set_option linter.unusedVariables false
theorem founds_pos : ∀ (n : Nat) (r : List UInt8) (k : Nat) (x : Lx.Fd), r.length ≤ n → x ∈ Lx.founds k r → k ≤ x.pos ∧ x.pos < k + r.length
  | _, [], k, x, _, h => by simp [Lx.founds_nil] at h
  | 0, c :: m, _, _, h, _ => by simp at h
  | n + 1, c :: m, k, x, hn, h => by
    by_cases he : (Lx.piece (c :: m)).err = 0
    · have hl := Lx.piece_len he
      have hd : ((c :: m).drop (Lx.piece (c :: m)).len).length = m.length + 1 - (Lx.piece (c :: m)).len := by simp
      rw [List.length_cons] at hn ⊢
      rw [Lx.founds_ok k he] at h
      rcases List.mem_append.1 h with h | h
      · unfold Lx.tokOf at h
        split at h
        · cases h
        · rw [List.mem_singleton.1 h]; exact ⟨Nat.le_refl _, by show k < _; omega⟩
      · have := founds_pos n _ _ x (by omega) h
        rw [hd] at this
        omega
    · rw [Lx.founds_bad k he] at h
      rw [List.mem_singleton.1 h, List.length_cons]
      exact ⟨Nat.le_refl _, by show k < _; omega⟩
theorem same_sem (xs : List Lx.Fd) (e : Nat) (hl : xs.length ≤ 281474976710656) (h : ∀ x ∈ xs, x.pos + e ≤ 281474976710656) : ∀ (d k i : Nat), xs.length - i = d → i ≤ xs.length → d < k → planisphereref08_Same.l0 k (xs.map toS) (e : Int) ((xs.map (Lx.shift e)).map toS) (i : Int) = some true
  | 0, k, i, hd, hi, hk => by
    obtain ⟨k, rfl⟩ : ∃ m, k = m + 1 := ⟨k - 1, by omega⟩
    simp only [planisphereref08_Same.l0]
    rw [if_neg (by rw [List.length_map]; omega)]
  | d + 1, k, i, hd, hi, hk => by
    obtain ⟨k, rfl⟩ : ∃ m, k = m + 1 := ⟨k - 1, by omega⟩
    obtain ⟨a, ha⟩ : ∃ x, xs[i]? = some x := ⟨xs[i], List.getElem?_eq_getElem (by omega)⟩
    have hb : (xs.map (Lx.shift e))[i]? = some (Lx.shift e a) := by rw [List.getElem?_map, ha]; rfl
    have hp := h a (List.mem_of_getElem? ha)
    have hw : wrap64 ((a.pos : Int) + (e : Int)) = ((a.pos + e : Nat) : Int) := by unfold wrap64; omega
    simp only [planisphereref08_Same.l0]
    have hw' : wrap64 ((toS a).f2 + (e : Int)) = (toS (Lx.shift e a)).f2 := hw
    rw [if_pos (by rw [List.length_map]; omega), if_pos (by omega), if_pos (by rw [List.length_map, List.length_map]; omega), rd_map xs i a ha, rd_map _ i _ hb, wn i (by omega), hw']
    rw [if_neg (by
      have h0 : (toS a).f0 = (toS (Lx.shift e a)).f0 := rfl
      have h1 : (toS a).f1 = (toS (Lx.shift e a)).f1 := rfl
      rw [h0, h1]; simp)]
    exact same_sem xs e hl h d k (i + 1) (by omega) (by omega) (by omega)
theorem same_true (xs : List Lx.Fd) (e : Nat) (hl : xs.length ≤ 281474976710656) (h : ∀ x ∈ xs, x.pos + e ≤ 281474976710656) (k : Nat) (hk : xs.length < k) : planisphereref08_Same.f k (xs.map toS) (e : Int) ((xs.map (Lx.shift e)).map toS) = some true := by
  unfold planisphereref08_Same.f
  rw [if_pos (by rw [List.length_map, List.length_map, List.length_map])]
  exact same_sem xs e hl h xs.length k 0 (by omega) (by omega) hk
theorem map_shift0 (xs : List Lx.Fd) : xs.map (Lx.shift 0) = xs := by
  conv => rhs; rw [← List.map_id xs]
  rfl
end Go.Proofs.Ytflocikkhpjicaa.Pure
