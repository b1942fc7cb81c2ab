/- What the found things of a text are when the text is cut, or another one stands behind it: plain words. -/
import Derived.Test.YtflocikkhpjicaaLexAns
namespace Go.Proofs.Ytflocikkhpjicaa.Lx
/-! ### where an error stands -/
theorem fnd_shape : ∀ (n k : Nat) (r : List UInt8), (∀ x ∈ fnd n k r, x.err = 0) ∨ ∃ pre x, fnd n k r = pre ++ [x] ∧ (∀ y ∈ pre, y.err = 0) ∧ x.err ≠ 0
  | 0, _, _ => .inl (by simp [fnd])
  | _ + 1, _, [] => .inl (by simp [fnd])
  | n + 1, k, c :: m => by
    simp only [fnd]
    by_cases he : (piece (c :: m)).err = 0
    · rw [if_pos he]
      rcases fnd_shape n (k + (piece (c :: m)).len) ((c :: m).drop (piece (c :: m)).len) with h | ⟨pre, x, h1, h2, h3⟩
      · refine .inl fun x hx => ?_
        rcases List.mem_append.1 hx with hx | hx
        · split at hx <;> simp at hx; rw [hx]
        · exact h x hx
      · refine .inr ⟨_ ++ pre, x, by rw [h1, List.append_assoc], fun y hy => ?_, h3⟩
        rcases List.mem_append.1 hy with hy | hy
        · split at hy <;> simp at hy; rw [hy]
        · exact h2 y hy
    · rw [if_neg he]
      exact .inr ⟨[], _, rfl, by simp, he⟩
def Clean (k : Nat) (r : List UInt8) : Prop := ∀ x ∈ founds k r, x.err = 0
theorem shape (k : Nat) (r : List UInt8) : Clean k r ∨ ∃ pre x, founds k r = pre ++ [x] ∧ (∀ y ∈ pre, y.err = 0) ∧ x.err ≠ 0 := fnd_shape _ _ _
theorem founds_length (k : Nat) (r : List UInt8) : (founds k r).length ≤ r.length := founds_len _ _ _
theorem lexS_clean {l : List UInt8} (hl : l.length ≤ 20000) (hc : (founds 0 l).length ≤ 5000) (h : Clean 0 l) : lexS l = (founds 0 l, 0, 0) := by
  unfold lexS
  rw [if_neg (by omega), res_good _ _ h (by simpa using hc)]; rfl
theorem lexS_err {l : List UInt8} {pre : List Fd} {x : Fd} (hl : l.length ≤ 20000) (hc : pre.length ≤ 5000) (h : founds 0 l = pre ++ [x]) (h1 : ∀ y ∈ pre, y.err = 0) (h2 : x.err ≠ 0) : lexS l = ([], x.err, (x.pos : Int)) := by
  unfold lexS
  rw [if_neg (by omega), h]
  have := res_stop_err (xs := []) ⟨h1, hc⟩ h2
  simpa using this
/-- a text of at most 5000 bytes: the tokens, or an error -/
theorem lexS_short {l : List UInt8} (hl : l.length ≤ 5000) : (Clean 0 l ∧ lexS l = (founds 0 l, 0, 0)) ∨ ∃ pre x, founds 0 l = pre ++ [x] ∧ (∀ y ∈ pre, y.err = 0) ∧ x.err ≠ 0 ∧ lexS l = ([], x.err, (x.pos : Int)) := by
  have h5 := founds_length 0 l
  rcases shape 0 l with h | ⟨pre, x, h1, h2, h3⟩
  · exact .inl ⟨h, lexS_clean (by omega) (by omega) h⟩
  · refine .inr ⟨pre, x, h1, h2, h3, lexS_err (by omega) ?_ h1 h2 h3⟩
    rw [h1] at h5; simp at h5; omega
/-! ### a piece, and what stands behind it -/
theorem span_append_stop {p : UInt8 → Bool} (r t : List UInt8) (ht : ∀ d, t.head? = some d → p d = false) (hr : ∀ c ∈ r, p c = true) : span p (r ++ t) = r.length := by
  unfold span
  rw [List.takeWhile_append_of_pos (by simpa using hr)]
  cases t with
  | nil => simp
  | cons d t => simp [ht d rfl]
theorem span_take {p : UInt8 → Bool} (r : List UInt8) : r.take (span p r) = r.takeWhile p := by
  unfold span
  conv => lhs; arg 2; rw [← List.takeWhile_append_dropWhile (p := p) (l := r)]
  rw [List.take_left']; rfl
theorem span_drop {p : UInt8 → Bool} (r : List UInt8) : r.drop (span p r) = r.dropWhile p := by
  unfold span
  conv => lhs; arg 2; rw [← List.takeWhile_append_dropWhile (p := p) (l := r)]
  rw [List.drop_left']; rfl
theorem span_behind {p : UInt8 → Bool} (r : List UInt8) : ∀ d, (r.drop (span p r)).head? = some d → p d = false := by
  intro d hd
  rw [span_drop] at hd
  have := List.head?_dropWhile_not p r
  rw [hd] at this
  simpa using this
/-- a piece taken by itself, something else behind it -/
theorem span_cut {p : UInt8 → Bool} (r t : List UInt8) (ht : ∀ d, t.head? = some d → p d = false) : span p (r.take (span p r) ++ t) = span p r := by
  rw [span_take, span_append_stop _ _ ht (fun c hc => by
    have h := List.all_takeWhile (p := p) (l := r)
    rw [List.all_eq_true] at h
    exact h c hc)]; rfl
theorem str_more {m t : List UInt8} {x : List UInt8} {n : Nat} (h : str m = some (x, n)) : str (m.take n ++ t) = some (x, n) := by
  induction m using str.induct generalizing x n with
  | case1 => simp [str] at h
  | case2 l => rw [str_quote] at h; cases h; simp [str_quote]
  | case3 l h1 => rw [str_line] at h; cases h
  | case4 h1 h2 => rw [str_last] at h; cases h
  | case5 m h1 h2 ih =>
    rw [str_esc, if_pos rfl] at h
    obtain ⟨r, hr, e⟩ := Option.map_eq_some_iff.1 h
    cases e
    simp only [List.take_succ_cons, List.cons_append]
    rw [str_esc, if_pos rfl, ih hr]; rfl
  | case6 m h1 h2 h3 ih =>
    rw [str_esc, if_neg (by decide), if_pos rfl] at h
    obtain ⟨r, hr, e⟩ := Option.map_eq_some_iff.1 h
    cases e
    simp only [List.take_succ_cons, List.cons_append]
    rw [str_esc, if_neg (by decide), if_pos rfl, ih hr]; rfl
  | case7 m h1 h2 h3 h4 ih =>
    rw [str_esc, if_neg (by decide), if_neg (by decide), if_pos rfl] at h
    obtain ⟨r, hr, e⟩ := Option.map_eq_some_iff.1 h
    cases e
    simp only [List.take_succ_cons, List.cons_append]
    rw [str_esc, if_neg (by decide), if_neg (by decide), if_pos rfl, ih hr]; rfl
  | case8 d m h1 h2 h3 h4 h5 =>
    rw [str_esc, if_neg h1, if_neg h2, if_neg h3] at h; cases h
  | case9 c l h1 h2 h3 ih =>
    rw [str_byte _ h1 h2 h3] at h
    obtain ⟨r, hr, e⟩ := Option.map_eq_some_iff.1 h
    cases e
    simp only [List.take_succ_cons, List.cons_append]
    rw [str_byte _ h1 h2 h3, ih hr]; rfl
/-- what stands between the quotes, as it is written -/
theorem str_written {m : List UInt8} {x : List UInt8} {n : Nat} (h : str m = some (x, n)) : m.take n = x.flatMap esc ++ [34] := by
  induction m using str.induct generalizing x n with
  | case1 => simp [str] at h
  | case2 l => rw [str_quote] at h; cases h; rfl
  | case3 l h1 => rw [str_line] at h; cases h
  | case4 h1 h2 => rw [str_last] at h; cases h
  | case5 m h1 h2 ih =>
    rw [str_esc, if_pos rfl] at h
    obtain ⟨r, hr, e⟩ := Option.map_eq_some_iff.1 h
    cases e
    simp only [List.take_succ_cons, List.flatMap_cons]
    rw [ih hr]; rfl
  | case6 m h1 h2 h3 ih =>
    rw [str_esc, if_neg (by decide), if_pos rfl] at h
    obtain ⟨r, hr, e⟩ := Option.map_eq_some_iff.1 h
    cases e
    simp only [List.take_succ_cons, List.flatMap_cons]
    rw [ih hr]; rfl
  | case7 m h1 h2 h3 h4 ih =>
    rw [str_esc, if_neg (by decide), if_neg (by decide), if_pos rfl] at h
    obtain ⟨r, hr, e⟩ := Option.map_eq_some_iff.1 h
    cases e
    simp only [List.take_succ_cons, List.flatMap_cons]
    rw [ih hr]; rfl
  | case8 d m h1 h2 h3 h4 h5 =>
    rw [str_esc, if_neg h1, if_neg h2, if_neg h3] at h; cases h
  | case9 c l h1 h2 h3 ih =>
    rw [str_byte _ h1 h2 h3] at h
    obtain ⟨r, hr, e⟩ := Option.map_eq_some_iff.1 h
    cases e
    simp only [List.take_succ_cons, List.flatMap_cons]
    rw [ih hr, show esc c = [c] by unfold esc; rw [if_neg h2, if_neg (by simp [h1, h3])]]; rfl
/-- a quoted text reads as itself -/
theorem str_of (x t : List UInt8) : str (x.flatMap esc ++ 34 :: t) = some (x, (x.flatMap esc).length + 1) := by
  induction x with
  | nil => simp [str_quote]
  | cons c x ih =>
    rw [List.flatMap_cons, List.append_assoc]
    by_cases h2 : c = 10
    · subst h2
      rw [show esc 10 = [92, 110] from rfl]
      simp only [List.cons_append, List.nil_append]
      rw [str_esc, if_neg (by decide), if_neg (by decide), if_pos rfl, ih]
      simp
    · by_cases h1 : c = 34 ∨ c = 92
      · rw [show esc c = [92, c] by unfold esc; rw [if_neg h2, if_pos h1]]
        simp only [List.cons_append, List.nil_append]
        rw [str_esc, ih]
        rcases h1 with rfl | rfl
        · rw [if_neg (by decide), if_pos rfl]; simp
        · rw [if_pos rfl]; simp
      · rw [show esc c = [c] by unfold esc; rw [if_neg h2, if_neg h1]]
        simp only [List.cons_append, List.nil_append]
        rw [str_byte _ (fun z => h1 (.inl z)) h2 (fun z => h1 (.inr z)), ih]
        simp
theorem quote_inj {a b : List UInt8} (h : quote a = quote b) : a = b := by
  have e : a.flatMap esc ++ 34 :: [] = b.flatMap esc ++ 34 :: [] := by simpa [quote] using h
  have h1 := str_of a []
  rw [e, str_of b []] at h1
  exact (congrArg (·.1) (Option.some.inj h1)).symm
/-- what may stand behind a piece that begins with c -/
def Ends (c : UInt8) (t : List UInt8) : Prop := (cls c = 2 → ∀ d, t.head? = some d → notLine d = false) ∧ (cls c = 3 ∨ cls c = 4 → ∀ d, t.head? = some d → word d = false)
theorem digit_word {d : UInt8} (h : word d = false) : digit d = false := by
  unfold word at h; simp only [Bool.or_eq_false_iff] at h; exact h.1.2
theorem piece_ends {c : UInt8} {m : List UInt8} (h : (piece (c :: m)).err = 0) : Ends c ((c :: m).drop (piece (c :: m)).len) := by
  unfold piece at h ⊢
  refine ⟨fun h2 => ?_, fun h34 => ?_⟩
  · simp only [if_neg (show ¬ cls c = 1 by omega), if_pos h2]
    exact span_behind _
  · rcases h34 with h3 | h4
    · simp only [if_neg (show ¬ cls c = 1 by omega), if_neg (show ¬ cls c = 2 by omega), if_pos h3]
      exact span_behind _
    · simp only [if_neg (show ¬ cls c = 1 by omega), if_neg (show ¬ cls c = 2 by omega), if_neg (show ¬ cls c = 3 by omega), if_pos h4] at h ⊢
      intro d hd
      have hdg := span_behind (p := digit) (c :: m) d hd
      have hw : wordAt (c :: m) (span digit (c :: m)) = false := by
        cases hw : wordAt (c :: m) (span digit (c :: m)) with
        | false => rfl
        | true => rw [if_pos (.inr hw)] at h; cases h
      unfold wordAt at hw
      rw [List.head?_drop] at hd
      rw [hd] at hw
      unfold word
      simp only [Bool.or_eq_false_iff] at hw ⊢
      exact ⟨⟨hw.1, hdg⟩, hw.2⟩
/-- a piece by itself, something else behind it -/
theorem piece_cut {c : UInt8} {m t : List UInt8} (h : (piece (c :: m)).err = 0) (ht : Ends c t) : piece ((c :: m).take (piece (c :: m)).len ++ t) = piece (c :: m) := by
  have hl := piece_len h
  have hc : (c :: m).take (piece (c :: m)).len ++ t = c :: (m.take ((piece (c :: m)).len - 1) ++ t) := by
    obtain ⟨k, hk⟩ : ∃ k, (piece (c :: m)).len = k + 1 := ⟨(piece (c :: m)).len - 1, by omega⟩
    rw [hk]; rfl
  have c1 : cls c = 1 ∨ cls c = 2 ∨ cls c = 3 ∨ cls c = 4 ∨ cls c = 7 ∨ cls c = 6 ∨ (cls c = 0 ∨ cls c = 5) := by have := cls_le c; omega
  rcases c1 with e | e | e | e | e | e | e
  · rw [hc]; simp [piece, e]
  · have hp : piece (c :: m) = ⟨0, [], 0, span notLine (c :: m)⟩ := by simp [piece, e]
    have hs := span_cut (p := notLine) (c :: m) t (ht.1 e)
    rw [hp] at hc ⊢
    rw [hc] at hs ⊢
    simp [piece, e, hs]
  · have hp : piece (c :: m) = ⟨1, (c :: m).take (span word (c :: m)), if span word (c :: m) > 24 then 2 else 0, span word (c :: m)⟩ := by simp [piece, e]
    have hs := span_cut (p := word) (c :: m) t (ht.2 (.inl e))
    have ht' : ((c :: m).take (span word (c :: m)) ++ t).take (span word (c :: m)) = (c :: m).take (span word (c :: m)) := List.take_left' (by rw [List.length_take]; have := span_le word (c :: m); omega)
    rw [hp] at hc ⊢
    rw [hc] at hs ht' ⊢
    simp only [piece, e, hs, ht']; simp
  · have hp : piece (c :: m) = ⟨2, (c :: m).take (span digit (c :: m)), if span digit (c :: m) > 7 ∨ wordAt (c :: m) (span digit (c :: m)) = true then 4 else 0, span digit (c :: m)⟩ := by simp [piece, e]
    have hw := ht.2 (.inr e)
    have hs := span_cut (p := digit) (c :: m) t (fun d hd => digit_word (hw d hd))
    have hn : ((c :: m).take (span digit (c :: m))).length = span digit (c :: m) := by rw [List.length_take]; have := span_le digit (c :: m); omega
    have ht' : ((c :: m).take (span digit (c :: m)) ++ t).take (span digit (c :: m)) = (c :: m).take (span digit (c :: m)) := List.take_left' hn
    have hx : wordAt ((c :: m).take (span digit (c :: m)) ++ t) (span digit (c :: m)) = false := by
      unfold wordAt
      rw [List.getElem?_append_right (by omega), hn, Nat.sub_self]
      cases t with
      | nil => rfl
      | cons d t =>
        have := hw d rfl
        unfold word at this
        simp only [Bool.or_eq_false_iff] at this
        simp [this.1.1, this.2]
    have hy : wordAt (c :: m) (span digit (c :: m)) = false := by
      rw [hp] at h
      cases hw : wordAt (c :: m) (span digit (c :: m)) with
      | false => rfl
      | true => rw [hw] at h; simp at h
    rw [hp] at hc ⊢
    rw [hc] at hs ht' hx ⊢
    simp only [piece, e, hs, ht', hx, hy]; simp
  · cases hs : str m with
    | none => simp [piece, e, hs] at h
    | some r =>
      obtain ⟨x, n⟩ := r
      have hp : piece (c :: m) = ⟨3, x, 0, n + 1⟩ := by simp [piece, e, hs]
      rw [hp]
      simp only [List.take_succ_cons, List.cons_append]
      simp [piece, e, str_more hs]
  · rw [hc]; simp [piece, e]
  · rcases e with e | e <;> simp [piece, e] at h
/-! ### founds, cut and glued -/
def tokOf (k : Nat) (p : Pc) : List Fd := if p.kind = 0 then [] else [⟨p.kind, p.text, k, 0⟩]
theorem founds_ok {c : UInt8} {m : List UInt8} (k : Nat) (h : (piece (c :: m)).err = 0) : founds k (c :: m) = tokOf k (piece (c :: m)) ++ founds (k + (piece (c :: m)).len) ((c :: m).drop (piece (c :: m)).len) := by
  rw [founds_cons, if_pos h]; rfl
theorem founds_bad {c : UInt8} {m : List UInt8} (k : Nat) (h : (piece (c :: m)).err ≠ 0) : founds k (c :: m) = [⟨(piece (c :: m)).kind, (piece (c :: m)).text, k, (piece (c :: m)).err⟩] := by
  rw [founds_cons, if_neg h]
/-- a piece, then whatever may stand behind it -/
theorem founds_glue1 {c : UInt8} {m t : List UInt8} (k : Nat) (h : (piece (c :: m)).err = 0) (ht : Ends c t) : founds k ((c :: m).take (piece (c :: m)).len ++ t) = tokOf k (piece (c :: m)) ++ founds (k + (piece (c :: m)).len) t := by
  have hl := piece_len h
  have hp := piece_cut h ht
  have hn : ((c :: m).take (piece (c :: m)).len).length = (piece (c :: m)).len := by rw [List.length_take]; simp; omega
  obtain ⟨q, hq⟩ : ∃ q, (c :: m).take (piece (c :: m)).len ++ t = c :: q := by
    obtain ⟨j, hj⟩ : ∃ j, (piece (c :: m)).len = j + 1 := ⟨(piece (c :: m)).len - 1, by omega⟩
    rw [hj]; exact ⟨_, rfl⟩
  have hd : ((c :: m).take (piece (c :: m)).len ++ t).drop (piece (c :: m)).len = t := List.drop_left' hn
  rw [hq] at hp hd ⊢
  rw [founds_ok k (by rw [hp]; exact h), hp, hd]
theorem clean_cons {c : UInt8} {m : List UInt8} {k : Nat} (h : Clean k (c :: m)) : (piece (c :: m)).err = 0 ∧ Clean (k + (piece (c :: m)).len) ((c :: m).drop (piece (c :: m)).len) := by
  have he : (piece (c :: m)).err = 0 := by
    rcases Nat.eq_zero_or_pos (piece (c :: m)).err with e | e
    · exact e
    · have := h _ (by rw [founds_bad k (by omega)]; exact List.mem_cons_self)
      simp at this; exact this
  exact ⟨he, fun x hx => h x (by rw [founds_ok k he]; exact List.mem_append_right _ hx)⟩
theorem Ends.head {c : UInt8} {t t' : List UInt8} (h : Ends c t) (ht : ∀ d, t'.head? = some d → t.head? = some d) : Ends c t' :=
  ⟨fun e d hd => h.1 e d (ht d hd), fun e d hd => h.2 e d (ht d hd)⟩
theorem ends_line (c : UInt8) (t : List UInt8) : Ends c (10 :: t) :=
  ⟨fun _ d hd => by cases hd; decide, fun _ d hd => by cases hd; decide⟩
theorem ends_append {c : UInt8} {r t : List UInt8} (h : Ends c r) (ht : Ends c t) : Ends c (r ++ t) := by
  cases r with
  | nil => exact ht
  | cons d r => exact h.head fun d' hd => hd
/-- a text without an error, a line feed, another text -/
theorem founds_line : ∀ (n : Nat) (r t : List UInt8) (k : Nat), r.length ≤ n → Clean k r → founds k (r ++ 10 :: t) = founds k r ++ founds (k + r.length) (10 :: t)
  | _, [], t, k, _, _ => by simp [founds_nil]
  | 0, c :: m, _, _, h, _ => by simp at h
  | n + 1, c :: m, t, k, h, hc => by
    obtain ⟨he, hc'⟩ := clean_cons hc
    have hl := piece_len he
    have hE := piece_ends he
    have ih := founds_line n ((c :: m).drop (piece (c :: m)).len) t (k + (piece (c :: m)).len) (by simp at h ⊢; omega) hc'
    have hg := founds_glue1 (t := (c :: m).drop (piece (c :: m)).len ++ 10 :: t) k he (ends_append hE (ends_line c t))
    rw [← List.append_assoc, List.take_append_drop] at hg
    rw [hg, ih, founds_ok k he, List.append_assoc]
    congr 3
    simp; omega
theorem span_line (p : UInt8 → Bool) (hp : p 10 = false) (r t : List UInt8) : span p (r ++ 10 :: t) = span p r := by
  unfold span
  induction r with
  | nil => simp [hp]
  | cons c r ih =>
    simp only [List.cons_append, List.takeWhile_cons]
    cases p c <;> simp [ih]
theorem str_line_none (m t : List UInt8) (h : str m = none) : str (m ++ 10 :: t) = none := by
  induction m using str.induct with
  | case1 => exact str_line t
  | case2 l => rw [str_quote] at h; cases h
  | case3 l h1 => exact str_line _
  | case4 h1 h2 =>
    show str (92 :: 10 :: t) = none
    rw [str_esc]; rfl
  | case5 m h1 h2 ih =>
    rw [str_esc, if_pos rfl] at h
    show str (92 :: 92 :: (m ++ 10 :: t)) = none
    rw [str_esc, if_pos rfl, ih (Option.map_eq_none_iff.1 h)]; rfl
  | case6 m h1 h2 h3 ih =>
    rw [str_esc, if_neg (by decide), if_pos rfl] at h
    show str (92 :: 34 :: (m ++ 10 :: t)) = none
    rw [str_esc, if_neg (by decide), if_pos rfl, ih (Option.map_eq_none_iff.1 h)]; rfl
  | case7 m h1 h2 h3 h4 ih =>
    rw [str_esc, if_neg (by decide), if_neg (by decide), if_pos rfl] at h
    show str (92 :: 110 :: (m ++ 10 :: t)) = none
    rw [str_esc, if_neg (by decide), if_neg (by decide), if_pos rfl, ih (Option.map_eq_none_iff.1 h)]; rfl
  | case8 d m h1 h2 h3 h4 h5 =>
    show str (92 :: d :: (m ++ 10 :: t)) = none
    rw [str_esc, if_neg h1, if_neg h2, if_neg h3]
  | case9 c l h1 h2 h3 ih =>
    rw [str_byte _ h1 h2 h3] at h
    show str (c :: (l ++ 10 :: t)) = none
    rw [str_byte _ h1 h2 h3, ih (Option.map_eq_none_iff.1 h)]; rfl
/-- an error stays one when a line feed and another text stand behind -/
theorem piece_line {c : UInt8} {m t : List UInt8} (h : (piece (c :: m)).err ≠ 0) : (piece (c :: (m ++ 10 :: t))).err ≠ 0 := by
  have c1 : cls c = 1 ∨ cls c = 2 ∨ cls c = 3 ∨ cls c = 4 ∨ cls c = 7 ∨ cls c = 6 ∨ (cls c = 0 ∨ cls c = 5) := by have := cls_le c; omega
  rcases c1 with e | e | e | e | e | e | e
  · simp [piece, e] at h
  · simp [piece, e] at h
  · have hs : span word (c :: (m ++ 10 :: t)) = span word (c :: m) := span_line word (by decide) (c :: m) t
    simp [piece, e, hs] at h ⊢; exact h
  · have hs : span digit (c :: (m ++ 10 :: t)) = span digit (c :: m) := span_line digit (by decide) (c :: m) t
    have hw : wordAt (c :: m) (span digit (c :: m)) = true → wordAt (c :: (m ++ 10 :: t)) (span digit (c :: m)) = true := by
      intro hw
      unfold wordAt at hw ⊢
      cases hx : (c :: m)[span digit (c :: m)]? with
      | none => rw [hx] at hw; cases hw
      | some d =>
        rw [hx] at hw
        have : (c :: (m ++ 10 :: t))[span digit (c :: m)]? = some d := by
          rw [← List.cons_append, List.getElem?_append_left (List.getElem?_eq_some_iff.1 hx).1]; exact hx
        rw [this]; exact hw
    simp only [piece, e, hs] at h ⊢
    simp at h ⊢
    exact fun z => hw (h z)
  · cases hs : str m with
    | none => simp [piece, e, str_line_none m t hs]
    | some r => simp [piece, e, hs] at h
  · simp [piece, e] at h
  · rcases e with e | e <;> simp [piece, e]
theorem not_clean_line : ∀ (n : Nat) (r t : List UInt8) (k : Nat), r.length ≤ n → ¬ Clean k r → ¬ Clean k (r ++ 10 :: t)
  | _, [], t, k, _, h => absurd (fun x hx => by simp [founds_nil] at hx) h
  | 0, c :: m, _, _, h, _ => by simp at h
  | n + 1, c :: m, t, k, h, hc => by
    by_cases he : (piece (c :: m)).err = 0
    · have hl := piece_len he
      have hE := piece_ends he
      have ih := not_clean_line n ((c :: m).drop (piece (c :: m)).len) t (k + (piece (c :: m)).len) (by simp at h ⊢; omega) (fun z => hc fun x hx => by
        rw [founds_ok k he] at hx
        rcases List.mem_append.1 hx with hx | hx
        · unfold tokOf at hx; split at hx <;> simp at hx; rw [hx]
        · exact z x hx)
      have hg := founds_glue1 (t := (c :: m).drop (piece (c :: m)).len ++ 10 :: t) k he (ends_append hE (ends_line c t))
      rw [← List.append_assoc, List.take_append_drop] at hg
      exact fun z => ih fun x hx => z x (by rw [hg]; exact List.mem_append_right _ hx)
    · intro z
      exact piece_line (t := t) he (clean_cons (m := m ++ 10 :: t) z).1
/-! ### other offsets -/
def shift (d : Nat) (x : Fd) : Fd := { x with pos := x.pos + d }
theorem fnd_shift (d : Nat) : ∀ (n k : Nat) (r : List UInt8), fnd n (k + d) r = (fnd n k r).map (shift d)
  | 0, _, _ => rfl
  | _ + 1, _, [] => rfl
  | n + 1, k, c :: m => by
    simp only [fnd]
    by_cases he : (piece (c :: m)).err = 0
    · rw [if_pos he, if_pos he, List.map_append]
      have := fnd_shift d n (k + (piece (c :: m)).len) ((c :: m).drop (piece (c :: m)).len)
      rw [show k + d + (piece (c :: m)).len = k + (piece (c :: m)).len + d by omega, this]
      congr 1
      split <;> rfl
    · rw [if_neg he, if_neg he]; rfl
theorem founds_shift (d k : Nat) (r : List UInt8) : founds (k + d) r = (founds k r).map (shift d) := fnd_shift d _ k r
theorem clean_shift {k j : Nat} {r : List UInt8} (h : Clean k r) : Clean j r := by
  intro x hx
  have e : founds j r = (founds 0 r).map (shift j) := by have := founds_shift j 0 r; rwa [Nat.zero_add] at this
  have f : founds k r = (founds 0 r).map (shift k) := by have := founds_shift k 0 r; rwa [Nat.zero_add] at this
  rw [e] at hx
  obtain ⟨y, hy, rfl⟩ := List.mem_map.1 hx
  exact h (shift k y) (by rw [f]; exact List.mem_map_of_mem hy)
theorem founds_10 (k : Nat) (t : List UInt8) : founds k (10 :: t) = founds (k + 1) t := by
  have hp : piece (10 :: t) = ⟨0, [], 0, 1⟩ := by simp [piece, show cls 10 = 1 by decide]
  rw [founds_ok k (by rw [hp]), hp]; rfl
end Go.Proofs.Ytflocikkhpjicaa.Lx
