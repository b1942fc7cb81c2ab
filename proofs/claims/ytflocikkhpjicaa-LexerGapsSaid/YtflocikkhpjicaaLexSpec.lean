/- What a lexer answers, in plain words: the classes of bytes, the pieces of a text, the tokens. -/
namespace Go.Proofs.Ytflocikkhpjicaa.Lx
def letter (c : UInt8) : Bool := (97 ≤ c && c ≤ 122) || (65 ≤ c && c ≤ 90)
def digit (c : UInt8) : Bool := 48 ≤ c && c ≤ 57
def blank (c : UInt8) : Bool := c == 32 || c == 9 || c == 10
def symbol (c : UInt8) : Bool := [59, 44, 46, 58, 40, 41, 123, 125, 91, 93, 61, 60, 62, 47, 45].contains c
def word (c : UInt8) : Bool := letter c || digit c || c == 95
/-- a byte's class, the three single ones left out -/
def cls0 (c : UInt8) : Nat := if letter c then 3 else if digit c then 4 else if blank c then 1 else if symbol c then 6 else 0
/-- a byte's class -/
def cls (c : UInt8) : Nat := if c = 35 then 2 else if c = 95 then 5 else if c = 34 then 7 else cls0 c
/-- what stands between the quotes for a byte -/
def esc (c : UInt8) : List UInt8 := if c = 10 then [92, 110] else if c = 34 ∨ c = 92 then [92, c] else [c]
/-- a text in double quotes -/
def quote (l : List UInt8) : List UInt8 := 34 :: (l.flatMap esc ++ [34])
theorem esc_le (c : UInt8) : (esc c).length ≤ 2 := by
  by_cases h : c = 10
  · simp [esc, h]
  · by_cases h2 : c = 34 ∨ c = 92
    · simp [esc, h, h2]
    · simp [esc, h, h2]
theorem escs_le (l : List UInt8) : (l.flatMap esc).length ≤ 2 * l.length := by
  induction l with
  | nil => simp
  | cons c l ih => simp only [List.flatMap_cons, List.length_append, List.length_cons]; have := esc_le c; omega
/-- what a string stands for, behind its first quote, and how many bytes that takes -/
def str : List UInt8 → Option (List UInt8 × Nat)
  | [] => none
  | c :: l =>
    if c = 34 then some ([], 1)
    else if c = 10 then none
    else if c = 92 then
      match l with
      | [] => none
      | d :: m => if d = 92 then (str m).map (fun r => (92 :: r.1, r.2 + 2)) else if d = 34 then (str m).map (fun r => (34 :: r.1, r.2 + 2)) else if d = 110 then (str m).map (fun r => (10 :: r.1, r.2 + 2)) else none
    else (str l).map (fun r => (c :: r.1, r.2 + 1))
theorem str_quote (l : List UInt8) : str (34 :: l) = some ([], 1) := by rw [str.eq_def]; simp
theorem str_line (l : List UInt8) : str (10 :: l) = none := by rw [str.eq_def]; simp
theorem str_byte {c : UInt8} (l : List UInt8) (h1 : c ≠ 34) (h2 : c ≠ 10) (h3 : c ≠ 92) : str (c :: l) = (str l).map (fun r => (c :: r.1, r.2 + 1)) := by rw [str.eq_def]; simp [h1, h2, h3]
theorem str_last : str [92] = none := by rw [str.eq_def]; simp
theorem str_esc (d : UInt8) (m : List UInt8) : str (92 :: d :: m) = if d = 92 then (str m).map (fun r => (92 :: r.1, r.2 + 2)) else if d = 34 then (str m).map (fun r => (34 :: r.1, r.2 + 2)) else if d = 110 then (str m).map (fun r => (10 :: r.1, r.2 + 2)) else none := by rw [str.eq_def]; simp
/-- what the loop over a string has found when its first x bytes are read, acc being what they stand for -/
def StrTo (l : List UInt8) (x : Nat) (acc : List UInt8) : Prop := 1 ≤ x ∧ acc.length ≤ x ∧ str (l.drop 1) = (str (l.drop x)).map (fun r => (acc ++ r.1, r.2 + (x - 1)))
theorem strTo_one (l : List UInt8) : StrTo l 1 [] := by
  refine ⟨by omega, by simp, ?_⟩
  cases str (l.drop 1) <;> simp
theorem strTo_end {l acc : List UInt8} {x : Nat} (h : StrTo l x acc) (hx : l.length ≤ x) : str (l.drop 1) = none := by
  rw [h.2.2, List.drop_eq_nil_of_le hx]; simp [str]
theorem drop_cons {l : List UInt8} {x : Nat} {c : UInt8} (h : l[x]? = some c) : l.drop x = c :: l.drop (x + 1) := by
  obtain ⟨hx, rfl⟩ := List.getElem?_eq_some_iff.1 h
  exact List.drop_eq_getElem_cons hx
theorem strTo_quote {l acc : List UInt8} {x : Nat} (h : StrTo l x acc) (hc : l[x]? = some 34) : str (l.drop 1) = some (acc, x) := by
  rw [h.2.2, drop_cons hc, str_quote]
  have := h.1
  simp; omega
theorem strTo_line {l acc : List UInt8} {x : Nat} (h : StrTo l x acc) (hc : l[x]? = some 10) : str (l.drop 1) = none := by
  rw [h.2.2, drop_cons hc, str_line]; rfl
theorem strTo_byte {l acc : List UInt8} {x : Nat} {c : UInt8} (h : StrTo l x acc) (hc : l[x]? = some c) (h1 : c ≠ 34) (h2 : c ≠ 10) (h3 : c ≠ 92) : StrTo l (x + 1) (acc ++ [c]) := by
  refine ⟨by omega, by have := h.2.1; simp; omega, ?_⟩
  rw [h.2.2, drop_cons hc, str_byte _ h1 h2 h3]
  have := h.1
  cases str (l.drop (x + 1)) with
  | none => rfl
  | some r => simp; omega
theorem strTo_last {l acc : List UInt8} {x : Nat} (h : StrTo l x acc) (hc : l[x]? = some 92) (hx : l.length ≤ x + 1) : str (l.drop 1) = none := by
  rw [h.2.2, drop_cons hc, List.drop_eq_nil_of_le hx, str_last]; rfl
theorem strTo_other {l acc : List UInt8} {x : Nat} {d : UInt8} (h : StrTo l x acc) (hc : l[x]? = some 92) (hd : l[x + 1]? = some d) (h1 : d ≠ 92) (h2 : d ≠ 34) (h3 : d ≠ 110) : str (l.drop 1) = none := by
  rw [h.2.2, drop_cons hc, drop_cons hd, str_esc]
  simp [h1, h2, h3]
theorem strTo_esc {l acc : List UInt8} {x : Nat} {d e : UInt8} (h : StrTo l x acc) (hc : l[x]? = some 92) (hd : l[x + 1]? = some d) (he : (d = 92 ∧ e = 92) ∨ (d = 34 ∧ e = 34) ∨ (d = 110 ∧ e = 10)) : StrTo l (x + 2) (acc ++ [e]) := by
  refine ⟨by omega, by have := h.2.1; simp; omega, ?_⟩
  rw [h.2.2, drop_cons hc, drop_cons hd, str_esc]
  have := h.1
  rcases he with ⟨rfl, rfl⟩ | ⟨rfl, rfl⟩ | ⟨rfl, rfl⟩
  all_goals
    simp only [if_true, if_neg (show ¬ (34 : UInt8) = 92 by decide), if_neg (show ¬ (110 : UInt8) = 92 by decide), if_neg (show ¬ (110 : UInt8) = 34 by decide)]
    cases str (l.drop (x + 1 + 1)) with
    | none => rfl
    | some r => simp; omega
/-- a name -/
def name : List UInt8 → Bool
  | [] => false
  | c :: l => letter c && l.all word && decide (l.length + 1 ≤ 24)
theorem all_bytes {p : UInt8 → Prop} (h : ∀ k : Fin 256, p (UInt8.ofNat k.1)) (c : UInt8) : p c := by
  have := h ⟨c.toNat, c.toNat_lt⟩
  simpa using this
theorem cls_letter (c : UInt8) : letter c = true ↔ cls c = 3 := all_bytes (p := fun c => letter c = true ↔ cls c = 3) (by decide +kernel) c
theorem cls_digit (c : UInt8) : digit c = true ↔ cls c = 4 := all_bytes (p := fun c => digit c = true ↔ cls c = 4) (by decide +kernel) c
theorem cls_under (c : UInt8) : c = 95 ↔ cls c = 5 := all_bytes (p := fun c => c = 95 ↔ cls c = 5) (by decide +kernel) c
theorem cls_blank (c : UInt8) : blank c = true ↔ cls c = 1 := all_bytes (p := fun c => blank c = true ↔ cls c = 1) (by decide +kernel) c
theorem cls_hash (c : UInt8) : c = 35 ↔ cls c = 2 := all_bytes (p := fun c => c = 35 ↔ cls c = 2) (by decide +kernel) c
theorem cls_quote (c : UInt8) : c = 34 ↔ cls c = 7 := all_bytes (p := fun c => c = 34 ↔ cls c = 7) (by decide +kernel) c
theorem cls_symbol (c : UInt8) : symbol c = true ↔ cls c = 6 := all_bytes (p := fun c => symbol c = true ↔ cls c = 6) (by decide +kernel) c
theorem cls_le (c : UInt8) : cls c ≤ 7 := all_bytes (p := fun c => cls c ≤ 7) (by decide +kernel) c
theorem cls_word (c : UInt8) : word c = true ↔ cls c = 3 ∨ cls c = 4 ∨ cls c = 5 := all_bytes (p := fun c => word c = true ↔ cls c = 3 ∨ cls c = 4 ∨ cls c = 5) (by decide +kernel) c
/-- the first byte is a letter, the others are letters, digits, underscores: up to k -/
def nameTo (l : List UInt8) (k : Nat) : Prop := ∀ i, i < k → ∀ c, l[i]? = some c → (cls c = 3 ∨ (i ≠ 0 ∧ (cls c = 4 ∨ cls c = 5)))
theorem name_no {l : List UInt8} {k : Nat} {c : UInt8} (h : l[k]? = some c) (h3 : cls c ≠ 3) (hk : k = 0 ∨ (cls c ≠ 4 ∧ cls c ≠ 5)) : name l = false := by
  cases l with
  | nil => rfl
  | cons d l =>
    cases k with
    | zero =>
      have : d = c := by simpa using h
      subst this
      have : letter d = false := by rw [← Bool.not_eq_true, cls_letter]; exact h3
      simp [name, this]
    | succ k =>
      have hc : c ∈ l := List.mem_of_getElem? (by simpa using h)
      have : word c = false := by
        rw [← Bool.not_eq_true, cls_word]
        rcases hk with hk | ⟨h4, h5⟩
        · cases hk
        · exact fun z => by rcases z with z | z | z <;> contradiction
      have : l.all word = false := by rw [List.all_eq_false]; exact ⟨c, hc, by rw [this]; simp⟩
      simp [name, this]
theorem name_end {l : List UInt8} (h : nameTo l l.length) : name l = (!l.isEmpty && decide (l.length ≤ 24)) := by
  cases l with
  | nil => rfl
  | cons d l =>
    have h0 := h 0 (by simp) d rfl
    have h1 : letter d = true := (cls_letter d).2 (by rcases h0 with h0 | h0 <;> simp_all)
    have h2 : l.all word = true := by
      rw [List.all_eq_true]
      intro c hc
      obtain ⟨i, hi, rfl⟩ := List.mem_iff_getElem.1 hc
      have := h (i + 1) (by simpa using hi) l[i] (by simp [hi])
      exact (cls_word _).2 (by rcases this with h | ⟨_, h | h⟩ <;> simp [h])
    simp [name, h1, h2]
theorem nameTo_succ {l : List UInt8} {k : Nat} {c : UInt8} (h : nameTo l k) (hc : l[k]? = some c) (hk : cls c = 3 ∨ (k ≠ 0 ∧ (cls c = 4 ∨ cls c = 5))) : nameTo l (k + 1) := by
  intro i hi d hd
  rcases Nat.lt_succ_iff_lt_or_eq.1 hi with hi | rfl
  · exact h i hi d hd
  · rw [hc] at hd; cases hd; exact hk
end Go.Proofs.Ytflocikkhpjicaa.Lx
