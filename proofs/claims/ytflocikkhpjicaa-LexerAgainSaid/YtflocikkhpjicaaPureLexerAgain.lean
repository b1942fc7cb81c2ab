/- For every text without an error, its tokens, written with one blank after each, have the same tokens apart from offsets. -/
import Derived.Test.YtflocikkhpjicaaLexHead
import Derived.Test.YtflocikkhpjicaaLexWr
import Derived.Test.YtflocikkhpjicaaPx13
namespace Go.Proofs.Ytflocikkhpjicaa.Pure
open Go.RowKit Go.Proofs.Ytflocikkhpjicaa.P Go.Proofs.YtflocikkhpjicaaW.PrintWords Go.Proofs.YtflocikkhpjicaaW.PrintLast
open Go.Proofs.Ytflocikkhpjicaa
theorem LexerAgain : planispherelaw08_LexerAgain.Pure := by
  intro a0 h0
  refine ⟨100000, ?_⟩
  unfold planispherelaw08_LexerAgain.f
  rw [head_true 99998]
  simp only [Option.bind_some]
  by_cases c0 : (a0.size : Int) > 2000
  · rw [if_pos c0]
  · rw [if_neg c0]
    have hsz : a0.data.toList.length = a0.size := by simp
    rcases Lx.lexS_short (l := a0.data.toList) (by omega) with ⟨h1, h2⟩ | ⟨pre, x, h1, h2, h3, h4⟩
    · obtain ⟨v1, v2⟩ := founds_valid _ _ _ (Nat.le_refl _) h1
      have v3 := Lx.founds_length 0 a0.data.toList
      obtain ⟨w1, w2⟩ := founds_wrs (Lx.founds 0 a0.data.toList) 0 v1
      have e1 : lexer_Lex.f a0 = some ((Lx.founds 0 a0.data.toList).map toS, 0, 0) := by unfold lexer_Lex.f lexR; rw [h2]; rfl
      have hw : planispherelaw08_written.f 100000 ((Lx.founds 0 a0.data.toList).map toS) = some ⟨(wrs (Lx.founds 0 a0.data.toList)).toArray⟩ :=
        written_all _ (fun x hx => by have := text_le_wrs _ x hx; omega) (by omega) (by omega) (Lx.founds 0 a0.data.toList).length _ 0 _ (by omega) (by omega) (fun x hx => by have := text_le_wrs _ x hx; omega) (by omega) rfl
      have s2 := Lx.lexS_clean (l := wrs (Lx.founds 0 a0.data.toList)) (by omega) (by rw [← alikes_len w1]; omega) w2
      have e2 : lexer_Lex.f ⟨(wrs (Lx.founds 0 a0.data.toList)).toArray⟩ = some ((Lx.founds 0 (wrs (Lx.founds 0 a0.data.toList))).map toS, 0, 0) := by
        unfold lexer_Lex.f lexR
        rw [show (⟨(wrs (Lx.founds 0 a0.data.toList)).toArray⟩ : ByteArray).data.toList = wrs (Lx.founds 0 a0.data.toList) from rfl, s2]; rfl
      rw [e1]
      simp only [Option.bind_some, if_true]
      rw [hw]
      simp only [Option.bind_some]
      rw [e2]
      simp only [Option.bind_some, if_true]
      rw [alike_true _ _ (alikes_len w1) (by omega) (alikes_get w1) 100000 (by omega)]
      rfl
    · have e1 : lexer_Lex.f a0 = some ([], (x.err : Int), (x.pos : Int)) := by unfold lexer_Lex.f lexR; rw [h4]; rfl
      rw [e1]
      simp only [Option.bind_some]
      rw [if_neg (by omega)]
end Go.Proofs.Ytflocikkhpjicaa.Pure
