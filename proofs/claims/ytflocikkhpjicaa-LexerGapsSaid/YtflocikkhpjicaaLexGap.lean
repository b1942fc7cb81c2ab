/- Gaps: where they end, and that they hold no token. Plain words. -/
import Derived.Test.YtflocikkhpjicaaLexRef
namespace Go.Proofs.Ytflocikkhpjicaa.Pure
open Go.RowKit Go.Proofs.Ytflocikkhpjicaa.P Go.Proofs.YtflocikkhpjicaaW.PrintWords Go.Proofs.YtflocikkhpjicaaW.PrintLast
open Go.Proofs.Ytflocikkhpjicaa
set_option linter.unusedVariables false
theorem gapl_take : ∀ (b : Bool) (r : List UInt8) (n : Nat), n ≤ gapl b r → gapl b (r.take n) = n
  | _, [], n, h => by simp [gapl] at h; simp [gapl, h]
  | _, c :: m, 0, _ => by simp [gapl]
  | false, c :: m, n + 1, h => by
    simp only [List.take_succ_cons, gapl] at h ⊢
    split
    · rename_i e; rw [if_pos e] at h; rw [gapl_take false m n (by omega)]
    · rename_i e; rw [if_neg e] at h
      split
      · rename_i e2; rw [if_pos e2] at h; rw [gapl_take true m n (by omega)]
      · rename_i e2; rw [if_neg e2] at h; omega
  | true, c :: m, n + 1, h => by
    simp only [List.take_succ_cons, gapl] at h ⊢
    split
    · rename_i e; rw [if_pos e] at h; rw [gapl_take false m n (by omega)]
    · rename_i e; rw [if_neg e] at h; rw [gapl_take true m n (by omega)]
theorem gapl_line : ∀ (m : List UInt8), gapl true m = Lx.span Lx.notLine m + gapl false (m.drop (Lx.span Lx.notLine m))
  | [] => by simp [gapl, Lx.span]
  | c :: m => by
    by_cases e : c = 10
    · subst e
      have hs : Lx.span Lx.notLine (10 :: m) = 0 := by simp [Lx.span, Lx.notLine]
      rw [hs]; simp [gapl, cls10]
    · have hs : Lx.span Lx.notLine (c :: m) = Lx.span Lx.notLine m + 1 := by
        have hn : Lx.notLine c = true := by simp [Lx.notLine, e]
        simp [Lx.span, hn]
      rw [hs]; simp only [gapl, if_neg e, List.drop_succ_cons, gapl_line m]; omega
/-- the gaps that a text begins with hold no token -/
theorem founds_skip : ∀ (n : Nat) (r : List UInt8) (k : Nat), r.length ≤ n → Lx.founds k r = Lx.founds (k + gapl false r) (r.drop (gapl false r)) ∧ gapl false (r.drop (gapl false r)) = 0
  | _, [], k, _ => by simp [gapl]
  | 0, c :: m, _, h => by simp at h
  | n + 1, c :: m, k, h => by
    simp only [List.length_cons] at h
    by_cases e1 : Lx.cls c = 1
    · have hp : Lx.piece (c :: m) = ⟨0, [], 0, 1⟩ := by simp [Lx.piece, e1]
      obtain ⟨i1, i2⟩ := founds_skip n m (k + 1) (by omega)
      have hg : gapl false (c :: m) = gapl false m + 1 := by simp [gapl, e1]
      rw [hg, List.drop_succ_cons]
      refine ⟨?_, i2⟩
      rw [Lx.founds_ok k (by rw [hp]), hp]
      show [] ++ Lx.founds (k + 1) m = _
      rw [List.nil_append, i1]; congr 1; omega
    · by_cases e2 : Lx.cls c = 2
      · have hp : Lx.piece (c :: m) = ⟨0, [], 0, Lx.span Lx.notLine (c :: m)⟩ := by simp [Lx.piece, e2]
        have hc := (Lx.cls_hash c).2 e2
        have hs : Lx.span Lx.notLine (c :: m) = Lx.span Lx.notLine m + 1 := by
          have hn : Lx.notLine c = true := by subst hc; decide
          simp [Lx.span, hn]
        obtain ⟨i1, i2⟩ := founds_skip n (m.drop (Lx.span Lx.notLine m)) (k + (Lx.span Lx.notLine m + 1)) (by simp; omega)
        have hg : gapl false (c :: m) = Lx.span Lx.notLine m + 1 + gapl false (m.drop (Lx.span Lx.notLine m)) := by
          simp only [gapl, if_neg e1, if_pos e2, gapl_line m]; omega
        have hd : (c :: m).drop (gapl false (c :: m)) = (m.drop (Lx.span Lx.notLine m)).drop (gapl false (m.drop (Lx.span Lx.notLine m))) := by
          rw [hg, List.drop_drop, show Lx.span Lx.notLine m + 1 + gapl false (m.drop (Lx.span Lx.notLine m)) = (Lx.span Lx.notLine m + gapl false (m.drop (Lx.span Lx.notLine m))) + 1 by omega, List.drop_succ_cons]
        rw [hd]
        refine ⟨?_, i2⟩
        rw [Lx.founds_ok k (by rw [hp]), hp]
        show [] ++ Lx.founds (k + Lx.span Lx.notLine (c :: m)) ((c :: m).drop (Lx.span Lx.notLine (c :: m))) = _
        rw [List.nil_append, hs, List.drop_succ_cons, i1, hg]; congr 1; omega
      · have hg : gapl false (c :: m) = 0 := by simp [gapl, e1, e2]
        rw [hg]; exact ⟨rfl, hg⟩
end Go.Proofs.Ytflocikkhpjicaa.Pure
