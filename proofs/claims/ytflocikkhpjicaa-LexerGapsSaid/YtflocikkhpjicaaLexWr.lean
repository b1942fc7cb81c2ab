/- Tokens written again: what stands where a token was found is how it is written; written tokens are found again. Plain words. -/
import Derived.Test.YtflocikkhpjicaaLexRef
namespace Go.Proofs.Ytflocikkhpjicaa.Pure
open Go.Proofs.Ytflocikkhpjicaa
set_option linter.unusedVariables false
theorem escs_ge (l : List UInt8) : l.length ≤ (l.flatMap Lx.esc).length := by
  induction l with
  | nil => simp
  | cons c l ih =>
    have : 1 ≤ (Lx.esc c).length := by unfold Lx.esc; split; · simp
                                       split <;> simp
    simp only [List.flatMap_cons, List.length_append, List.length_cons]; omega
theorem text_le_wr (x : Lx.Fd) : x.text.length ≤ (wr x).length := by
  unfold wr
  split
  · have := escs_ge x.text; simp [Lx.quote] at this ⊢; omega
  · exact Nat.le_refl _
/-- a token is written ar it stands in the text -/
theorem wr_piece {c : UInt8} {m : List UInt8} (k : Nat) (h : (Lx.piece (c :: m)).err = 0) (hk : (Lx.piece (c :: m)).kind ≠ 0) :
    wr ⟨(Lx.piece (c :: m)).kind, (Lx.piece (c :: m)).text, k, 0⟩ = (c :: m).take (Lx.piece (c :: m)).len ∧ Lx.cls c ≠ 2 ∧ Lx.cls c ≠ 1 := by
  have c1 : Lx.cls c = 1 ∨ Lx.cls c = 2 ∨ Lx.cls c = 3 ∨ Lx.cls c = 4 ∨ Lx.cls c = 7 ∨ Lx.cls c = 6 ∨ (Lx.cls c = 0 ∨ Lx.cls c = 5) := by have := Lx.cls_le c; omega
  rcases c1 with e | e | e | e | e | e | e
  · simp [Lx.piece, e] at hk
  · simp [Lx.piece, e] at hk
  · refine ⟨?_, by omega, by omega⟩
    simp [wr, Lx.piece, e]
  · refine ⟨?_, by omega, by omega⟩
    simp [wr, Lx.piece, e]
  · refine ⟨?_, by omega, by omega⟩
    cases hs : Lx.str m with
    | none => simp [Lx.piece, e, hs] at h
    | some r =>
      obtain ⟨x, n⟩ := r
      have hq := (Lx.cls_quote c).2 e
      have hw := Lx.str_written hs
      have hp : Lx.piece (c :: m) = ⟨3, x, 0, n + 1⟩ := by simp [Lx.piece, e, hs]
      rw [hp]
      simp [wr, Lx.quote, hq, hw]
  · refine ⟨?_, by omega, by omega⟩
    simp [wr, Lx.piece, e]
  · rcases e with e | e <;> simp [Lx.piece, e] at h
/-- a token that reads ar itself when a blank, or what else is no part of a word, stands behind it -/
def Valid (x : Lx.Fd) : Prop := x.kind ≠ 0 ∧ x.err = 0 ∧ wr x ≠ [] ∧ ∀ t, (∀ d, t.head? = some d → Lx.word d = false) → Lx.piece (wr x ++ t) = ⟨x.kind, x.text, 0, (wr x).length⟩
theorem valid_piece {c : UInt8} {m : List UInt8} (k : Nat) (h : (Lx.piece (c :: m)).err = 0) (hk : (Lx.piece (c :: m)).kind ≠ 0) : Valid ⟨(Lx.piece (c :: m)).kind, (Lx.piece (c :: m)).text, k, 0⟩ ∧ (wr ⟨(Lx.piece (c :: m)).kind, (Lx.piece (c :: m)).text, k, 0⟩).length = (Lx.piece (c :: m)).len := by
  obtain ⟨hw, hc, _⟩ := wr_piece k h hk
  have hl := Lx.piece_len h
  have hn : ((c :: m).take (Lx.piece (c :: m)).len).length = (Lx.piece (c :: m)).len := by rw [List.length_take]; simp; omega
  refine ⟨⟨hk, rfl, by rw [hw]; intro z; rw [z] at hn; simp at hn; omega, fun t ht => ?_⟩, by rw [hw, hn]⟩
  rw [hw, hn, Lx.piece_cut h ⟨fun e => absurd e hc, fun _ => ht⟩]
  cases hp : Lx.piece (c :: m)
  rw [hp] at h
  simp only at h
  rw [h]
/-- every token is valid; the tokens' texts fit into the text -/
theorem founds_valid : ∀ (n : Nat) (r : List UInt8) (k : Nat), r.length ≤ n → Lx.Clean k r → (∀ x ∈ Lx.founds k r, Valid x) ∧ (wrs (Lx.founds k r)).length ≤ r.length + (Lx.founds k r).length
  | _, [], k, _, _ => ⟨fun x hx => by simp [Lx.founds_nil] at hx, by simp [Lx.founds_nil, wrs]⟩
  | 0, c :: m, _, h, _ => by simp at h
  | n + 1, c :: m, k, h, hc => by
    obtain ⟨he, hc'⟩ := Lx.clean_cons hc
    have hl := Lx.piece_len he
    obtain ⟨i1, i2⟩ := founds_valid n ((c :: m).drop (Lx.piece (c :: m)).len) (k + (Lx.piece (c :: m)).len) (by simp at h ⊢; omega) hc'
    rw [Lx.founds_ok k he]
    unfold Lx.tokOf
    have hd : ((c :: m).drop (Lx.piece (c :: m)).len).length = m.length + 1 - (Lx.piece (c :: m)).len := by simp
    rw [hd] at i2
    by_cases hk : (Lx.piece (c :: m)).kind = 0
    · rw [if_pos hk, List.nil_append]
      exact ⟨i1, by simp only [List.length_cons]; omega⟩
    · rw [if_neg hk]
      obtain ⟨v1, v2⟩ := valid_piece k he hk
      refine ⟨fun x hx => ?_, ?_⟩
      · rcases List.mem_append.1 hx with hx | hx
        · simp at hx; rw [hx]; exact v1
        · exact i1 x hx
      · simp only [wrs, List.cons_append, List.nil_append, List.flatMap_cons, List.length_append, List.length_cons, List.length_nil, v2] at i2 ⊢
        omega
theorem text_le_wrs : ∀ (xs : List Lx.Fd) (x : Lx.Fd), x ∈ xs → x.text.length ≤ (wrs xs).length
  | y :: ys, x, hx => by
    simp only [wrs, List.flatMap_cons, List.length_append]
    rcases List.mem_cons.1 hx with rfl | hx
    · have := text_le_wr x; omega
    · have := text_le_wrs ys x hx; simp only [wrs] at this; omega
def alikes : List Lx.Fd → List Lx.Fd → Prop
  | [], [] => True
  | a :: ar, b :: br => alike a b ∧ alikes ar br
  | _, _ => False
theorem alikes_len : ∀ {xs ys : List Lx.Fd}, alikes xs ys → xs.length = ys.length
  | [], [], _ => rfl
  | a :: ar, b :: br, h => by simp [alikes_len h.2]
theorem alikes_get : ∀ {xs ys : List Lx.Fd}, alikes xs ys → ∀ (i : Nat) a b, xs[i]? = some a → ys[i]? = some b → alike a b
  | [], [], _, i, a, b, h, _ => by simp at h
  | a' :: ar, b' :: br, h, 0, a, b, ha, hb => by simp at ha hb; rw [← ha, ← hb]; exact h.1
  | a' :: ar, b' :: br, h, i + 1, a, b, ha, hb => alikes_get h.2 i a b (by simpa using ha) (by simpa using hb)
theorem alikes_append : ∀ {xs ys xs' ys' : List Lx.Fd}, alikes xs ys → alikes xs' ys' → alikes (xs ++ xs') (ys ++ ys')
  | [], [], _, _, _, h => h
  | a :: ar, b :: br, _, _, h, h' => ⟨h.1, alikes_append h.2 h'⟩
theorem alikes_refl : ∀ (xs : List Lx.Fd), alikes xs xs
  | [] => trivial
  | a :: ar => ⟨⟨rfl, rfl⟩, alikes_refl ar⟩
theorem alikes_shift (d : Nat) : ∀ (xs : List Lx.Fd), alikes xs (xs.map (Lx.shift d))
  | [] => trivial
  | a :: ar => ⟨⟨rfl, rfl⟩, alikes_shift d ar⟩
theorem alikes_trans : ∀ {xs ys zs : List Lx.Fd}, alikes xs ys → alikes ys zs → alikes xs zs
  | [], [], [], _, _ => trivial
  | a :: ar, b :: br, c :: cr, h, h' => ⟨⟨h.1.1.trans h'.1.1, h.1.2.trans h'.1.2⟩, alikes_trans h.2 h'.2⟩
theorem founds_valid_head {x : Lx.Fd} (hx : Valid x) (t : List UInt8) (ht : ∀ d, t.head? = some d → Lx.word d = false) (k : Nat) : Lx.founds k (wr x ++ t) = ⟨x.kind, x.text, k, 0⟩ :: Lx.founds (k + (wr x).length) t := by
  obtain ⟨h1, h2, h3, h4⟩ := hx
  have hp := h4 t ht
  obtain ⟨c, m, hcm⟩ : ∃ c m, wr x ++ t = c :: m := by
    cases hw : wr x with
    | nil => exact absurd hw h3
    | cons c m => exact ⟨c, m ++ t, rfl⟩
  have hd : (wr x ++ t).drop (wr x).length = t := List.drop_left' rfl
  rw [hcm] at hp hd ⊢
  rw [Lx.founds_ok k (by rw [hp]), hp]
  simp only [Lx.tokOf]
  rw [if_neg h1, hd]; rfl
theorem founds_32 (k : Nat) (t : List UInt8) : Lx.founds k (32 :: t) = Lx.founds (k + 1) t := by
  have hp : Lx.piece (32 :: t) = ⟨0, [], 0, 1⟩ := by simp [Lx.piece, show Lx.cls 32 = 1 by decide]
  rw [Lx.founds_ok k (by rw [hp]), hp]; rfl
/-- written tokens are found again -/
theorem founds_wrs : ∀ (xs : List Lx.Fd) (k : Nat), (∀ x ∈ xs, Valid x) → alikes xs (Lx.founds k (wrs xs)) ∧ Lx.Clean k (wrs xs)
  | [], k, _ => ⟨trivial, fun x hx => by simp [wrs, Lx.founds_nil] at hx⟩
  | x :: xs, k, h => by
    have hf := founds_valid_head (h x List.mem_cons_self) (32 :: wrs xs) (fun d hd => by cases hd; decide) k
    rw [founds_32] at hf
    have e : wrs (x :: xs) = wr x ++ 32 :: wrs xs := by simp [wrs]
    obtain ⟨i1, i2⟩ := founds_wrs xs (k + (wr x).length + 1) (fun y hy => h y (List.mem_cons_of_mem _ hy))
    unfold Lx.Clean
    rw [e, hf]
    exact ⟨⟨⟨rfl, rfl⟩, i1⟩, fun y hy => by
      rcases List.mem_cons.1 hy with rfl | hy
      · rfl
      · exact i2 y hy⟩
end Go.Proofs.Ytflocikkhpjicaa.Pure
