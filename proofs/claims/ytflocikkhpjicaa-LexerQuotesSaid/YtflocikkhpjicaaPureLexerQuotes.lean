/- For every two texts, the string that stands for the first one is a single token with this text; the strings are equal exactly if the texts are. -/
import Derived.Test.YtflocikkhpjicaaLexHead
import Derived.Test.YtflocikkhpjicaaLexLaws
import Derived.Test.YtflocikkhpjicaaPx15
namespace Go.Proofs.Ytflocikkhpjicaa.Pure
open Go.RowKit Go.Proofs.Ytflocikkhpjicaa.P Go.Proofs.YtflocikkhpjicaaW.PrintWords Go.Proofs.YtflocikkhpjicaaW.PrintLast
theorem founds_quote (l : List UInt8) : Lx.founds 0 (Lx.quote l) = [⟨3, l, 0, 0⟩] := by
  have hp : Lx.piece (Lx.quote l) = ⟨3, l, 0, (Lx.quote l).length⟩ := by
    have hs : Lx.str (l.flatMap Lx.esc ++ [34]) = some (l, (l.flatMap Lx.esc).length + 1) := Lx.str_of l []
    simp [Lx.quote, Lx.piece, show Lx.cls 34 = 7 by decide, hs]
  have e := Lx.founds_ok (c := 34) (m := l.flatMap Lx.esc ++ [34]) 0 (by show (Lx.piece (Lx.quote l)).err = 0; rw [hp])
  show Lx.founds 0 (34 :: (l.flatMap Lx.esc ++ [34])) = _
  rw [e, show Lx.piece (34 :: (l.flatMap Lx.esc ++ [34])) = ⟨3, l, 0, (Lx.quote l).length⟩ from hp]
  show _ ++ Lx.founds _ ((Lx.quote l).drop (Lx.quote l).length) = _
  rw [List.drop_length]
  rfl
theorem quote_length (l : List UInt8) : (Lx.quote l).length ≤ 2 * l.length + 2 := by
  have := Lx.escs_le l
  simp [Lx.quote] at this ⊢; omega
theorem lex_quote (l : List UInt8) (hl : l.length ≤ 2000) : lexer_Lex.f ⟨(Lx.quote l).toArray⟩ = some ([⟨3, ⟨l.toArray⟩, 0⟩], 0, 0) := by
  have h1 := quote_length l
  have h := Lx.lexS_clean (l := Lx.quote l) (by omega) (by rw [founds_quote]; simp) (by intro x hx; rw [founds_quote] at hx; simp at hx; rw [hx])
  rw [founds_quote] at h
  unfold lexer_Lex.f lexR
  rw [h]; rfl
theorem LexerQuotes : planispherelaw08_LexerQuotes.Pure := by
  intro a0 a1 h0 h1
  refine ⟨3, ?_⟩
  unfold planispherelaw08_LexerQuotes.f
  rw [head_true 1]
  simp only [Option.bind_some, planispherelaw08_LexerQuotes.j0]
  by_cases c0 : (a0.size : Int) > 2000
  · rw [if_pos c0]; rfl
  · rw [if_neg c0]
    by_cases c1 : (a1.size : Int) > 2000
    · rw [if_pos (decide_eq_true c1)]
    · rw [if_neg (by simpa using c1)]
      have hq0 : lexer_Quote.f a0 = some ⟨(Lx.quote a0.data.toList).toArray⟩ := by unfold lexer_Quote.f; rw [if_pos (by omega)]
      have hq1 : lexer_Quote.f a1 = some ⟨(Lx.quote a1.data.toList).toArray⟩ := by unfold lexer_Quote.f; rw [if_pos (by omega)]
      rw [hq0, hq1]
      simp only [Option.bind_some]
      rw [lex_quote _ (by simp; omega)]
      simp only [Option.bind_some, if_true, ByteArray.toList_eq]
      simp [rd_T31]
      by_cases e : a0.data = a1.data
      · rw [e, beq_self_eq_true, beq_self_eq_true]
      · have : Lx.quote a0.data.toList ≠ Lx.quote a1.data.toList := fun z => e (by simpa using Lx.quote_inj z)
        rw [beq_eq_false_iff_ne.2 this, beq_eq_false_iff_ne.2 e]
end Go.Proofs.Ytflocikkhpjicaa.Pure
