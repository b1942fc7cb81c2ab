/- The tokens of a text, in plain words: one piece after the other. -/
import Derived.Test.YtflocikkhpjicaaLexSpec
namespace Go.Proofs.Ytflocikkhpjicaa.Lx
/-- a piece: its kind (0: a gap, or none), what it stands for, its error, its length -/
structure Pc where
  kind : Nat
  text : List UInt8
  err : Nat
  len : Nat
def span (p : UInt8 → Bool) (r : List UInt8) : Nat := (r.takeWhile p).length
def notLine (c : UInt8) : Bool := c != 10
/-- does a byte go on with a word? -/
def wordAt (r : List UInt8) (k : Nat) : Bool := match r[k]? with | some c => letter c || c == 95 | none => false
def piece (r : List UInt8) : Pc :=
  match r with
  | [] => ⟨0, [], 0, 0⟩
  | c :: m =>
    if cls c = 1 then ⟨0, [], 0, 1⟩
    else if cls c = 2 then ⟨0, [], 0, span notLine (c :: m)⟩
    else if cls c = 3 then ⟨1, (c :: m).take (span word (c :: m)), if span word (c :: m) > 24 then 2 else 0, span word (c :: m)⟩
    else if cls c = 4 then ⟨2, (c :: m).take (span digit (c :: m)), if span digit (c :: m) > 7 ∨ wordAt (c :: m) (span digit (c :: m)) = true then 4 else 0, span digit (c :: m)⟩
    else if cls c = 7 then match str m with
      | none => ⟨0, [], 3, 0⟩
      | some r => ⟨3, r.1, 0, r.2 + 1⟩
    else if cls c = 6 then ⟨4, [c], 0, 1⟩
    else ⟨0, [], 3, 0⟩
/-- a token with its place, or an error with its place -/
structure Fd where
  kind : Nat
  text : List UInt8
  pos : Nat
  err : Nat
def fnd : Nat → Nat → List UInt8 → List Fd
  | 0, _, _ => []
  | _ + 1, _, [] => []
  | n + 1, k, c :: m =>
    let p := piece (c :: m)
    if p.err = 0 then (if p.kind = 0 then [] else [⟨p.kind, p.text, k, 0⟩]) ++ fnd n (k + p.len) ((c :: m).drop p.len) else [⟨p.kind, p.text, k, p.err⟩]
def founds (k : Nat) (r : List UInt8) : List Fd := fnd r.length k r
theorem span_pos {p : UInt8 → Bool} {c : UInt8} (m : List UInt8) (h : p c = true) : 1 ≤ span p (c :: m) := by simp [span, h]
theorem span_le (p : UInt8 → Bool) (r : List UInt8) : span p r ≤ r.length := List.Sublist.length_le (List.takeWhile_sublist p)
theorem str_pos {m t : List UInt8} {n : Nat} (h : str m = some (t, n)) : 1 ≤ n ∧ n ≤ m.length := by
  induction m using str.induct generalizing t n with
  | case1 => simp [str] at h
  | case2 l => rw [str_quote] at h; cases h; simp
  | case3 l h1 => rw [str_line] at h; cases h
  | case4 h1 h2 => rw [str_last] at h; cases h
  | case5 m h1 h2 ih =>
    rw [str_esc, if_pos rfl] at h
    obtain ⟨r, hr, e⟩ := Option.map_eq_some_iff.1 h
    cases e
    have := ih hr
    simp; omega
  | case6 m h1 h2 h3 ih =>
    rw [str_esc, if_neg (by decide), if_pos rfl] at h
    obtain ⟨r, hr, e⟩ := Option.map_eq_some_iff.1 h
    cases e
    have := ih hr
    simp; omega
  | case7 m h1 h2 h3 h4 ih =>
    rw [str_esc, if_neg (by decide), if_neg (by decide), if_pos rfl] at h
    obtain ⟨r, hr, e⟩ := Option.map_eq_some_iff.1 h
    cases e
    have := ih hr
    simp; omega
  | case8 d m h1 h2 h3 h4 h5 =>
    rw [str_esc, if_neg h1, if_neg h2, if_neg h3] at h; cases h
  | case9 c l h1 h2 h3 ih =>
    rw [str_byte _ h1 h2 h3] at h
    obtain ⟨r, hr, e⟩ := Option.map_eq_some_iff.1 h
    cases e
    have := ih hr
    simp; omega
theorem piece_len {c : UInt8} {m : List UInt8} (h : (piece (c :: m)).err = 0) : 1 ≤ (piece (c :: m)).len ∧ (piece (c :: m)).len ≤ m.length + 1 := by
  have e : ∀ p, span p (c :: m) ≤ m.length + 1 := fun p => by have := span_le p (c :: m); simpa using this
  unfold piece at h ⊢
  by_cases h1 : cls c = 1
  · simp only [if_pos h1]; omega
  · simp only [if_neg h1] at h ⊢
    by_cases h2 : cls c = 2
    · simp only [if_pos h2]
      exact ⟨span_pos m (by rw [(cls_hash c).2 h2]; decide), e _⟩
    · simp only [if_neg h2] at h ⊢
      by_cases h3 : cls c = 3
      · simp only [if_pos h3]
        exact ⟨span_pos m ((cls_word c).2 (.inl h3)), e _⟩
      · simp only [if_neg h3] at h ⊢
        by_cases h4 : cls c = 4
        · simp only [if_pos h4]
          exact ⟨span_pos m ((cls_digit c).2 h4), e _⟩
        · simp only [if_neg h4] at h ⊢
          by_cases h7 : cls c = 7
          · simp only [if_pos h7] at h ⊢
            cases hs : str m with
            | none => rw [hs] at h; simp at h
            | some r => obtain ⟨t, n⟩ := r; have := str_pos hs; simp; omega
          · simp only [if_neg h7] at h ⊢
            by_cases h6 : cls c = 6
            · simp only [if_pos h6]; omega
            · simp only [if_neg h6] at h; simp at h
theorem fnd_more : ∀ (n n' k : Nat) (r : List UInt8), r.length ≤ n → r.length ≤ n' → fnd n k r = fnd n' k r
  | 0, 0, _, [], _, _ => rfl
  | 0, _ + 1, _, [], _, _ => rfl
  | _ + 1, 0, _, [], _, _ => rfl
  | _ + 1, _ + 1, _, [], _, _ => rfl
  | 0, _, _, c :: m, h, _ => by simp at h
  | _ + 1, 0, _, c :: m, _, h => by simp at h
  | n + 1, n' + 1, k, c :: m, h, h' => by
    simp only [fnd]
    by_cases he : (piece (c :: m)).err = 0
    · have hl := piece_len he
      rw [if_pos he, if_pos he, fnd_more n n' _ _ (by simp at h ⊢; omega) (by simp at h' ⊢; omega)]
    · rw [if_neg he, if_neg he]
theorem founds_nil (k : Nat) : founds k [] = [] := rfl
theorem founds_cons (k : Nat) (c : UInt8) (m : List UInt8) : founds k (c :: m) =
    if (piece (c :: m)).err = 0 then (if (piece (c :: m)).kind = 0 then [] else [⟨(piece (c :: m)).kind, (piece (c :: m)).text, k, 0⟩]) ++ founds (k + (piece (c :: m)).len) ((c :: m).drop (piece (c :: m)).len) else [⟨(piece (c :: m)).kind, (piece (c :: m)).text, k, (piece (c :: m)).err⟩] := by
  show fnd (m.length + 1) k (c :: m) = _
  simp only [fnd]
  by_cases he : (piece (c :: m)).err = 0
  · have hl := piece_len he
    rw [if_pos he, if_pos he]
    congr 1
    exact fnd_more _ _ _ _ (by simp; omega) (by simp)
  · rw [if_neg he, if_neg he]
/-- the first found things are these, the rest of the text is still to be read from its place k on -/
def Read (l : List UInt8) (k : Nat) (pre : List Fd) : Prop := k ≤ l.length ∧ founds 0 l = pre ++ founds k (l.drop k)
theorem read_zero (l : List UInt8) : Read l 0 [] := ⟨by omega, by simp⟩
theorem read_end {l : List UInt8} {k : Nat} {pre : List Fd} (h : Read l k pre) (hk : l.length ≤ k) : founds 0 l = pre := by
  rw [h.2, List.drop_eq_nil_of_le hk, founds_nil, List.append_nil]
theorem read_gap {l : List UInt8} {k : Nat} {pre : List Fd} {c : UInt8} (h : Read l k pre) (hc : l[k]? = some c) (he : (piece (l.drop k)).err = 0) (hk : (piece (l.drop k)).kind = 0) : Read l (k + (piece (l.drop k)).len) pre := by
  rw [drop_cons hc] at he hk ⊢
  have hl := piece_len he
  have hlt := (List.getElem?_eq_some_iff.1 hc).1
  have hd : (l.drop (k + 1)).length = l.length - (k + 1) := by simp
  refine ⟨by omega, ?_⟩
  rw [h.2, drop_cons hc, founds_cons, if_pos he, if_pos hk, List.nil_append, ← drop_cons hc, List.drop_drop]
theorem read_tok {l : List UInt8} {k : Nat} {pre : List Fd} {c : UInt8} (h : Read l k pre) (hc : l[k]? = some c) (he : (piece (l.drop k)).err = 0) (hk : (piece (l.drop k)).kind ≠ 0) : Read l (k + (piece (l.drop k)).len) (pre ++ [⟨(piece (l.drop k)).kind, (piece (l.drop k)).text, k, 0⟩]) := by
  rw [drop_cons hc] at he hk ⊢
  have hl := piece_len he
  have hlt := (List.getElem?_eq_some_iff.1 hc).1
  have hd : (l.drop (k + 1)).length = l.length - (k + 1) := by simp
  refine ⟨by omega, ?_⟩
  rw [h.2, drop_cons hc, founds_cons, if_pos he, if_neg hk, ← drop_cons hc, List.drop_drop, List.append_assoc]
theorem read_err {l : List UInt8} {k : Nat} {pre : List Fd} {c : UInt8} (h : Read l k pre) (hc : l[k]? = some c) (he : (piece (l.drop k)).err ≠ 0) : founds 0 l = pre ++ [⟨(piece (l.drop k)).kind, (piece (l.drop k)).text, k, (piece (l.drop k)).err⟩] := by
  rw [drop_cons hc] at he ⊢
  rw [h.2, drop_cons hc, founds_cons, if_neg he]
theorem read_prefix {l : List UInt8} {k : Nat} {pre : List Fd} (h : Read l k pre) : pre <+: founds 0 l := by rw [h.2]; exact List.prefix_append _ _
theorem founds_len : ∀ (n k : Nat) (r : List UInt8), (fnd n k r).length ≤ r.length
  | 0, _, _ => by simp [fnd]
  | _ + 1, _, [] => by simp [fnd]
  | n + 1, k, c :: m => by
    simp only [fnd]
    by_cases he : (piece (c :: m)).err = 0
    · have hl := piece_len he
      have ih := founds_len n (k + (piece (c :: m)).len) ((c :: m).drop (piece (c :: m)).len)
      rw [if_pos he]
      simp only [List.length_append, List.length_drop, List.length_cons] at ih ⊢
      split <;> simp <;> omega
    · rw [if_neg he]; simp
/-! ### the loops within a piece -/
theorem span_step {p : UInt8 → Bool} {l : List UInt8} {x : Nat} {c : UInt8} (hc : l[x]? = some c) (h : p c = true) : x + span p (l.drop x) = x + 1 + span p (l.drop (x + 1)) := by
  rw [drop_cons hc]; simp only [span, List.takeWhile_cons, h, if_true, List.length_cons]; omega
theorem span_stop {p : UInt8 → Bool} {l : List UInt8} {x : Nat} {c : UInt8} (hc : l[x]? = some c) (h : p c = false) : span p (l.drop x) = 0 := by
  rw [drop_cons hc]; simp [span, h]
theorem span_end {p : UInt8 → Bool} {l : List UInt8} {x : Nat} (hx : l.length ≤ x) : span p (l.drop x) = 0 := by
  rw [List.drop_eq_nil_of_le hx]; rfl
/-- the class of the byte at a place; 0 behind the end -/
def clsAt (l : List UInt8) (k : Nat) : Nat := match l[k]? with | some c => cls c | none => 0
theorem piece1 {l : List UInt8} {k : Nat} {c : UInt8} (hc : l[k]? = some c) (h : cls c = 1) : piece (l.drop k) = ⟨0, [], 0, 1⟩ := by
  rw [drop_cons hc]; simp [piece, h]
theorem piece2 {l : List UInt8} {k : Nat} {c : UInt8} (hc : l[k]? = some c) (h : cls c = 2) : piece (l.drop k) = ⟨0, [], 0, span notLine (l.drop k)⟩ := by
  rw [drop_cons hc]; simp [piece, h]
theorem piece3 {l : List UInt8} {k : Nat} {c : UInt8} (hc : l[k]? = some c) (h : cls c = 3) : piece (l.drop k) = ⟨1, (l.drop k).take (span word (l.drop k)), if span word (l.drop k) > 24 then 2 else 0, span word (l.drop k)⟩ := by
  rw [drop_cons hc]; simp [piece, h]
theorem piece4 {l : List UInt8} {k : Nat} {c : UInt8} (hc : l[k]? = some c) (h : cls c = 4) : piece (l.drop k) = ⟨2, (l.drop k).take (span digit (l.drop k)), if span digit (l.drop k) > 7 ∨ wordAt (l.drop k) (span digit (l.drop k)) = true then 4 else 0, span digit (l.drop k)⟩ := by
  rw [drop_cons hc]; simp [piece, h]
theorem piece7 {l : List UInt8} {k : Nat} {c : UInt8} (hc : l[k]? = some c) (h : cls c = 7) : piece (l.drop k) = match str (l.drop (k + 1)) with | none => ⟨0, [], 3, 0⟩ | some r => ⟨3, r.1, 0, r.2 + 1⟩ := by
  rw [drop_cons hc]; simp [piece, h]
theorem piece6 {l : List UInt8} {k : Nat} {c : UInt8} (hc : l[k]? = some c) (h : cls c = 6) : piece (l.drop k) = ⟨4, [c], 0, 1⟩ := by
  rw [drop_cons hc]; simp [piece, h]
theorem piece0 {l : List UInt8} {k : Nat} {c : UInt8} (hc : l[k]? = some c) (h : cls c = 0 ∨ cls c = 5) : piece (l.drop k) = ⟨0, [], 3, 0⟩ := by
  rw [drop_cons hc]; rcases h with h | h <;> simp [piece, h]
theorem word_at {l : List UInt8} {k : Nat} (h : clsAt l k = 3 ∨ clsAt l k = 4 ∨ clsAt l k = 5) : k < l.length ∧ ∃ c, l[k]? = some c ∧ word c = true := by
  unfold clsAt at h
  cases hc : l[k]? with
  | none => rw [hc] at h; simp at h
  | some c => rw [hc] at h; exact ⟨(List.getElem?_eq_some_iff.1 hc).1, c, rfl, (cls_word c).2 h⟩
theorem word_no {l : List UInt8} {k : Nat} (h : ¬ (clsAt l k = 3 ∨ clsAt l k = 4 ∨ clsAt l k = 5)) : span word (l.drop k) = 0 := by
  unfold clsAt at h
  cases hc : l[k]? with
  | none => exact span_end (List.getElem?_eq_none_iff.1 hc)
  | some c => rw [hc] at h; exact span_stop hc (by rw [← Bool.not_eq_true, cls_word]; exact h)
theorem digit_at {l : List UInt8} {k : Nat} (h : clsAt l k = 4) : k < l.length ∧ ∃ c, l[k]? = some c ∧ digit c = true := by
  unfold clsAt at h
  cases hc : l[k]? with
  | none => rw [hc] at h; simp at h
  | some c => rw [hc] at h; exact ⟨(List.getElem?_eq_some_iff.1 hc).1, c, rfl, (cls_digit c).2 h⟩
theorem digit_no {l : List UInt8} {k : Nat} (h : clsAt l k ≠ 4) : span digit (l.drop k) = 0 := by
  unfold clsAt at h
  cases hc : l[k]? with
  | none => exact span_end (List.getElem?_eq_none_iff.1 hc)
  | some c => rw [hc] at h; exact span_stop hc (by rw [← Bool.not_eq_true, cls_digit]; exact h)
theorem wordAt_iff (l : List UInt8) (k n : Nat) : wordAt (l.drop k) n = true ↔ clsAt l (k + n) = 3 ∨ clsAt l (k + n) = 5 := by
  unfold wordAt clsAt
  rw [List.getElem?_drop]
  cases l[k + n]? with
  | none => simp
  | some c => simp only [Bool.or_eq_true, beq_iff_eq]; rw [cls_letter, cls_under]
end Go.Proofs.Ytflocikkhpjicaa.Lx
