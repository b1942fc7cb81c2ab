/- For every text with an error, the text before its offset has none, and the text from there on has the same error at 0. -/
import Derived.Test.YtflocikkhpjicaaLexHead
import Derived.Test.YtflocikkhpjicaaLexLaws
import Derived.Test.YtflocikkhpjicaaPx15
namespace Go.Proofs.Ytflocikkhpjicaa.Pure
open Go.RowKit Go.Proofs.Ytflocikkhpjicaa.P Go.Proofs.YtflocikkhpjicaaW.PrintWords Go.Proofs.YtflocikkhpjicaaW.PrintLast
open Go.Proofs.Ytflocikkhpjicaa
/-- cut where the error stands -/
theorem cut_error : ∀ (n : Nat) (r : List UInt8) (k : Nat) (pre : List Lx.Fd) (x : Lx.Fd), r.length ≤ n → Lx.founds k r = pre ++ [x] → (∀ y ∈ pre, y.err = 0) → x.err ≠ 0 →
    k ≤ x.pos ∧ x.pos < k + r.length ∧ Lx.founds k (r.take (x.pos - k)) = pre ∧ ∀ j, Lx.founds j (r.drop (x.pos - k)) = [⟨x.kind, x.text, j, x.err⟩]
  | _, [], k, pre, x, _, h, _, _ => by simp [Lx.founds_nil] at h
  | 0, c :: m, _, _, _, h, _, _, _ => by simp at h
  | n + 1, c :: m, k, pre, x, hn, h, h1, h2 => by
    by_cases he : (Lx.piece (c :: m)).err = 0
    · have hl := Lx.piece_len he
      have hE := Lx.piece_ends he
      rw [Lx.founds_ok k he] at h
      -- the token, if it is one, is the first of pre
      obtain ⟨pre', hp, h'⟩ : ∃ pre', pre = Lx.tokOf k (Lx.piece (c :: m)) ++ pre' ∧ Lx.founds (k + (Lx.piece (c :: m)).len) ((c :: m).drop (Lx.piece (c :: m)).len) = pre' ++ [x] := by
        unfold Lx.tokOf at h ⊢
        by_cases hk : (Lx.piece (c :: m)).kind = 0
        · rw [if_pos hk] at h ⊢; exact ⟨pre, rfl, h⟩
        · rw [if_neg hk] at h ⊢
          cases pre with
          | nil => simp at h; obtain ⟨e, _⟩ := h; rw [← e] at h2; exact absurd rfl h2
          | cons y pre => simp at h; exact ⟨pre, by simp [h.1], h.2⟩
      obtain ⟨i1, i2, i3, i4⟩ := cut_error n ((c :: m).drop (Lx.piece (c :: m)).len) (k + (Lx.piece (c :: m)).len) pre' x (by simp at hn ⊢; omega) h' (fun y hy => h1 y (by rw [hp]; exact List.mem_append_right _ hy)) h2
      have hd : ((c :: m).drop (Lx.piece (c :: m)).len).length = m.length + 1 - (Lx.piece (c :: m)).len := by simp
      refine ⟨by omega, by rw [hd] at i2; simp; omega, ?_, fun j => ?_⟩
      · have hg := Lx.founds_glue1 (t := ((c :: m).drop (Lx.piece (c :: m)).len).take (x.pos - (k + (Lx.piece (c :: m)).len))) k he (hE.head fun d hd => by
          rw [List.head?_take] at hd
          split at hd
          · cases hd
          · exact hd)
        have ht : (c :: m).take (x.pos - k) = (c :: m).take (Lx.piece (c :: m)).len ++ ((c :: m).drop (Lx.piece (c :: m)).len).take (x.pos - (k + (Lx.piece (c :: m)).len)) := by
          rw [show x.pos - k = (Lx.piece (c :: m)).len + (x.pos - (k + (Lx.piece (c :: m)).len)) by omega, List.take_add]
        rw [ht, hg, i3, hp]
      · have := i4 j
        rw [List.drop_drop] at this
        rw [show x.pos - k = (Lx.piece (c :: m)).len + (x.pos - (k + (Lx.piece (c :: m)).len)) by omega]
        exact this
    · rw [Lx.founds_bad k he] at h
      obtain ⟨rfl, hx⟩ : pre = [] ∧ x = ⟨(Lx.piece (c :: m)).kind, (Lx.piece (c :: m)).text, k, (Lx.piece (c :: m)).err⟩ := by
        cases pre with
        | nil => simp at h; exact ⟨rfl, h.symm⟩
        | cons y pre => simp at h
      subst hx
      simp only [Nat.sub_self, List.take_zero, List.drop_zero]
      exact ⟨Nat.le_refl _, by simp, rfl, fun j => Lx.founds_bad j he⟩
theorem LexerBeginnings : planispherelaw08_LexerBeginnings.Pure := by
  intro a0 h0
  refine ⟨3, ?_⟩
  unfold planispherelaw08_LexerBeginnings.f
  rw [head_true 1]
  simp only [Option.bind_some]
  by_cases c0 : (a0.size : Int) > 3000
  · rw [if_pos c0]
  · rw [if_neg c0]
    have hsz : a0.data.toList.length = a0.size := by simp
    rcases Lx.lexS_short (l := a0.data.toList) (by omega) with ⟨h1, h2⟩ | ⟨pre, x, h1, h2, h3, h4⟩
    · unfold lexer_Lex.f lexR
      rw [h2]; rfl
    · obtain ⟨i1, i2, i3, i4⟩ := cut_error _ _ _ _ _ (Nat.le_refl _) h1 h2 h3
      have e1 : lexer_Lex.f a0 = some ([], (x.err : Int), (x.pos : Int)) := by unfold lexer_Lex.f lexR; rw [h4]; rfl
      simp only [Nat.sub_zero] at i3 i4
      have l1 : (a0.extract 0 x.pos).data.toList = a0.data.toList.take x.pos := by simp
      have l2 : (a0.extract x.pos a0.size).data.toList = a0.data.toList.drop x.pos := by simp; exact List.take_of_length_le (by simp)
      have s1 : Lx.lexS (a0.data.toList.take x.pos) = (Lx.founds 0 (a0.data.toList.take x.pos), 0, 0) := Lx.lexS_clean (by simp; omega) (by have := Lx.founds_length 0 (a0.data.toList.take x.pos); simp at this; omega) (by intro y hy; rw [i3] at hy; exact h2 y hy)
      have s2 : Lx.lexS (a0.data.toList.drop x.pos) = ([], x.err, ((0 : Nat) : Int)) := Lx.lexS_err (pre := []) (x := ⟨x.kind, x.text, 0, x.err⟩) (by simp; omega) (by simp) (i4 0) (by simp) h3
      have e2 : lexer_Lex.f (a0.extract 0 x.pos) = some ((Lx.founds 0 (a0.data.toList.take x.pos)).map toS, 0, 0) := by unfold lexer_Lex.f lexR; rw [l1, s1]; rfl
      have e3 : lexer_Lex.f (a0.extract x.pos a0.size) = some ([], (x.err : Int), 0) := by unfold lexer_Lex.f lexR; rw [l2, s2]; rfl
      rw [e1]
      simp only [Option.bind_some]
      rw [if_neg (by omega), if_neg (by omega), show decide ((x.pos : Int) ≥ (a0.size : Int)) = false from decide_eq_false (by omega)]
      simp only [planispherelaw08_LexerBeginnings.j0]
      rw [if_neg (by simp), if_pos (by omega), if_pos (by omega)]
      simp only [Int.toNat_natCast, e2, e3, Option.bind_some]
      simp
end Go.Proofs.Ytflocikkhpjicaa.Pure
