/- What the printed functions of the lexer's reference answer: has, letter, digit, word, gap, Gaps, Quote, Name, Written, Alike, Same. -/
import Derived.Test.YtflocikkhpjicaaLexLaws
import Derived.Test.YtflocikkhpjicaaWalkLex
import Derived.Test.YtflocikkhpjicaaPx8
import Derived.Test.YtflocikkhpjicaaPx12
import Derived.Test.YtflocikkhpjicaaPx6
import Derived.Test.YtflocikkhpjicaaPx10
import Derived.Test.YtflocikkhpjicaaPx11
namespace Go.Proofs.Ytflocikkhpjicaa.Pure
open Go.RowKit Go.Proofs.Ytflocikkhpjicaa.P Go.Proofs.YtflocikkhpjicaaW.PrintWords Go.Proofs.YtflocikkhpjicaaW.PrintLast
open Go.Proofs.Ytflocikkhpjicaa
set_option linter.unusedVariables false
theorem wn (i : Nat) (h : i ≤ 281474976710656) : wrap64 ((i : Int) + 1) = ((i + 1 : Nat) : Int) := by unfold wrap64; omega
theorem byte_nat (s : ByteArray) (i : Nat) (h : i < s.size) : ∃ c : UInt8, s.data.toList[i]? = some c ∧ bt s (i : Int) = (c.toNat : Int) := by
  obtain ⟨c, h1, h2⟩ := P.byte_at s (i : Int) (by omega) (by omega)
  exact ⟨c, by simpa using h1, h2⟩
theorem toNat_inj' {c d : UInt8} : ((c.toNat : Int) = (d.toNat : Int)) ↔ c = d := by
  rw [Int.natCast_inj, UInt8.toNat_inj]
theorem letter_sem (c : UInt8) : planisphereref08_letter.f (c.toNat : Int) = some (Lx.letter c) := Lx.all_bytes (p := fun c => planisphereref08_letter.f (c.toNat : Int) = some (Lx.letter c)) (by decide +kernel) c
theorem digit_sem (c : UInt8) : planisphereref08_digit.f (c.toNat : Int) = some (Lx.digit c) := Lx.all_bytes (p := fun c => planisphereref08_digit.f (c.toNat : Int) = some (Lx.digit c)) (by decide +kernel) c
theorem word_sem (c : UInt8) : planisphereref08_word.f (c.toNat : Int) = some (Lx.word c) := Lx.all_bytes (p := fun c => planisphereref08_word.f (c.toNat : Int) = some (Lx.word c)) (by decide +kernel) c
theorem has_sem (s : ByteArray) (c : UInt8) (hs : s.size ≤ 1000) : ∀ (d k i : Nat), s.size - i = d → i ≤ s.size → d < k → planisphereref08_has.l0 k s (c.toNat : Int) (i : Int) = some ((s.data.toList.drop i).contains c)
  | 0, k, i, hd, hi, hk => by
    obtain ⟨k, rfl⟩ : ∃ m, k = m + 1 := ⟨k - 1, by omega⟩
    simp only [planisphereref08_has.l0]
    rw [if_neg (by omega), List.drop_eq_nil_of_le (by simp; omega)]; rfl
  | d + 1, k, i, hd, hi, hk => by
    obtain ⟨k, rfl⟩ : ∃ m, k = m + 1 := ⟨k - 1, by omega⟩
    obtain ⟨b, h1, h2⟩ := byte_nat s i (by omega)
    simp only [planisphereref08_has.l0]
    rw [if_pos (by omega), if_pos (by omega), h2, wn i (by omega), Lx.drop_cons h1, List.contains_cons]
    by_cases e : b = c
    · rw [if_pos (by rw [e])]; simp [e]
    · rw [if_neg (fun z => e (toNat_inj'.1 z)), has_sem s c hs d k (i + 1) (by omega) (by omega) (by omega)]
      rw [show (c == b) = false from beq_eq_false_iff_ne.2 (fun z => e z.symm)]; rfl
theorem has_blank (c : UInt8) (k : Nat) (hk : 4 ≤ k) : planisphereref08_has.f k (⟨#[32, 9, 10]⟩ : ByteArray) (c.toNat : Int) = some (Lx.blank c) := by
  have h := has_sem ⟨#[32, 9, 10]⟩ c (by decide) 3 k 0 rfl (by decide) (by omega)
  exact h.trans (congrArg some (Lx.all_bytes (p := fun c => ([32, 9, 10] : List UInt8).contains c = Lx.blank c) (by decide +kernel) c))
theorem has_symbol (c : UInt8) (k : Nat) (hk : 16 ≤ k) : planisphereref08_has.f k (⟨#[59, 44, 46, 58, 40, 41, 123, 125, 91, 93, 61, 60, 62, 47, 45]⟩ : ByteArray) (c.toNat : Int) = some (Lx.symbol c) :=
  has_sem ⟨#[59, 44, 46, 58, 40, 41, 123, 125, 91, 93, 61, 60, 62, 47, 45]⟩ c (by decide) 15 k 0 rfl (by decide) (by omega)
theorem has_esc (c : UInt8) (k : Nat) (hk : 4 ≤ k) : planisphereref08_has.f k (⟨#[92, 34, 110]⟩ : ByteArray) (c.toNat : Int) = some (([92, 34, 110] : List UInt8).contains c) :=
  has_sem ⟨#[92, 34, 110]⟩ c (by decide) 3 k 0 rfl (by decide) (by omega)
/-! ### gaps -/
/-- the length of the gaps that a text begins with; true: within a comment -/
def gapl : Bool → List UInt8 → Nat
  | _, [] => 0
  | false, c :: m => if Lx.cls c = 1 then gapl false m + 1 else if Lx.cls c = 2 then gapl true m + 1 else 0
  | true, c :: m => if c = 10 then gapl false m + 1 else gapl true m + 1
theorem gapl_le : ∀ (b : Bool) (r : List UInt8), gapl b r ≤ r.length
  | _, [] => by simp [gapl]
  | false, c :: m => by
    have := gapl_le false m; have := gapl_le true m
    simp only [gapl, List.length_cons]; split; · omega
    split <;> omega
  | true, c :: m => by
    have := gapl_le false m; have := gapl_le true m
    simp only [gapl, List.length_cons]; split <;> omega
theorem cls10 : Lx.cls 10 = 1 := by decide
mutual
theorem gap_sem0 (s : ByteArray) (hs : s.size ≤ 140737488351232) : ∀ (d k i : Nat), s.size - i = d → i ≤ s.size → 3 * d + 5 < k → planisphereref08_gap.l0 k s (i : Int) = some ((i + gapl false (s.data.toList.drop i) : Nat) : Int)
  | 0, k, i, hd, hi, hk => by
    obtain ⟨k, rfl⟩ : ∃ m, k = m + 1 := ⟨k - 1, by omega⟩
    simp only [planisphereref08_gap.l0]
    rw [if_neg (by omega), List.drop_eq_nil_of_le (by simp; omega)]; rfl
  | d + 1, k, i, hd, hi, hk => by
    obtain ⟨k, rfl⟩ : ∃ m, k = m + 1 := ⟨k - 1, by omega⟩
    obtain ⟨b, h1, h2⟩ := byte_nat s i (by omega)
    simp only [planisphereref08_gap.l0]
    rw [if_pos (by omega), if_pos (by omega), h2, wn i (by omega), Lx.drop_cons h1, has_blank b k (by omega)]
    simp only [Option.bind_some]
    by_cases e1 : Lx.cls b = 1
    · rw [if_pos ((Lx.cls_blank b).2 e1), gap_sem0 s hs d k (i + 1) (by omega) (by omega) (by omega)]
      simp only [gapl, if_pos e1]; congr 2; omega
    · rw [if_neg (fun z => e1 ((Lx.cls_blank b).1 z))]
      by_cases e2 : Lx.cls b = 2
      · have hb := (Lx.cls_hash b).2 e2
        subst hb
        rw [if_pos (by decide)]
        obtain ⟨k, rfl⟩ : ∃ m, k = m + 1 := ⟨k - 1, by omega⟩
        simp only [planisphereref08_gap.l1]
        rw [if_pos (by omega), if_pos (by omega), h2, if_neg (by decide), wn i (by omega), gap_sem1 s hs d k (i + 1) (by omega) (by omega) (by omega)]
        simp only [gapl, if_neg e1, if_pos e2]; congr 2; omega
      · rw [if_neg (fun z => e2 ((Lx.cls_hash b).1 (toNat_inj'.1 (z.trans (by decide : (35 : Int) = ((35 : UInt8).toNat : Int))))))]
        simp only [gapl, if_neg e1, if_neg e2]; rfl
theorem gap_sem1 (s : ByteArray) (hs : s.size ≤ 140737488351232) : ∀ (d k i : Nat), s.size - i = d → i ≤ s.size → 3 * d + 6 < k → planisphereref08_gap.l1 k s (i : Int) = some ((i + gapl true (s.data.toList.drop i) : Nat) : Int)
  | 0, k, i, hd, hi, hk => by
    obtain ⟨k, rfl⟩ : ∃ m, k = m + 1 := ⟨k - 1, by omega⟩
    simp only [planisphereref08_gap.l1]
    rw [if_neg (by omega), gap_sem0 s hs 0 k i hd hi (by omega), List.drop_eq_nil_of_le (by simp; omega)]; rfl
  | d + 1, k, i, hd, hi, hk => by
    obtain ⟨k, rfl⟩ : ∃ m, k = m + 1 := ⟨k - 1, by omega⟩
    obtain ⟨b, h1, h2⟩ := byte_nat s i (by omega)
    simp only [planisphereref08_gap.l1]
    rw [if_pos (by omega), if_pos (by omega), h2, wn i (by omega), Lx.drop_cons h1]
    by_cases e : b = 10
    · subst e
      rw [if_pos (by decide)]
      obtain ⟨k, rfl⟩ : ∃ m, k = m + 1 := ⟨k - 1, by omega⟩
      simp only [planisphereref08_gap.l0]
      rw [if_pos (by omega), if_pos (by omega), h2, wn i (by omega), has_blank 10 k (by omega)]
      simp only [Option.bind_some]
      rw [if_pos (by decide), gap_sem0 s hs d k (i + 1) (by omega) (by omega) (by omega)]
      simp only [gapl, if_true]; congr 2; omega
    · rw [if_neg (fun z => e (toNat_inj'.1 (z.trans (by decide : (10 : Int) = ((10 : UInt8).toNat : Int))))), gap_sem1 s hs d k (i + 1) (by omega) (by omega) (by omega)]
      simp only [gapl, if_neg e]; congr 2; omega
end
theorem gaps_sem (s : ByteArray) (hs : s.size ≤ 140737488351232) (k : Nat) (hk : 3 * s.size + 5 < k) : planisphereref08_Gaps.f k s = some (gapl false s.data.toList == s.data.toList.length) := by
  unfold planisphereref08_Gaps.f planisphereref08_gap.f
  have h := gap_sem0 s hs s.size k 0 (by omega) (by omega) hk
  rw [show ((0 : Int)) = ((0 : Nat) : Int) from rfl, h]
  simp only [Option.bind_some, List.drop_zero, Nat.zero_add]
  congr 1
  rw [Bool.eq_iff_iff]
  simp only [beq_iff_eq, Array.length_toList]
  show ((gapl false s.data.toList : Nat) : Int) = ((s.data.size : Nat) : Int) ↔ _
  omega
/-! ### Quote -/
theorem ext_list (s : ByteArray) (a b : Nat) : (s.extract a b).data.toList = (s.data.toList.take b).drop a := by
  simp [List.drop_take]
theorem ba_ext {a b : ByteArray} (h : a.data.toList = b.data.toList) : a = b := by
  apply ByteArray.ext; apply Array.ext'; exact h
theorem append_list (a b : ByteArray) : (a ++ b).data.toList = a.data.toList ++ b.data.toList := by simp
theorem size_list (a : ByteArray) : a.size = a.data.toList.length := by simp
theorem toNat_lit {c : UInt8} (k : Nat) (hk : k < 256) : ((c.toNat : Int) = (k : Int)) ↔ c = UInt8.ofNat k := by
  have : ((k : Nat) : Int) = ((UInt8.ofNat k).toNat : Int) := by simp; omega
  rw [this]; exact toNat_inj'
theorem quote_sem (s : ByteArray) (hs : s.size ≤ 1099511627776) : ∀ (d k i f : Nat) (out : ByteArray), s.size - i = d → i ≤ s.size → f ≤ i → d < k →
    out.data.toList ++ (s.data.toList.take i).drop f = 34 :: (s.data.toList.take i).flatMap Lx.esc →
    planisphereref08_Quote.l0 k s out (f : Int) (i : Int) = some ⟨(Lx.quote s.data.toList).toArray⟩
  | 0, k, i, f, out, hd, hi, hf, hk, ho => by
    obtain ⟨k, rfl⟩ : ∃ m, k = m + 1 := ⟨k - 1, by omega⟩
    have hii : i = s.size := by omega
    subst hii
    have hl : s.data.toList.take s.size = s.data.toList := List.take_of_length_le (by simp)
    rw [hl] at ho
    have e := congrArg List.length ho
    have he := Lx.escs_le s.data.toList
    simp only [List.length_append, List.length_drop, List.length_cons, Array.length_toList] at e he
    have hx : (s.extract f s.size).data.toList = s.data.toList.drop f := by rw [ext_list, hl]
    have hsz : out.size + (s.extract f s.size).size = out.data.toList.length + (s.data.size - f) := by rw [size_list, size_list, hx]; simp
    have hsd : s.data.size = s.size := rfl
    simp only [Array.length_toList] at hsz
    simp only [planisphereref08_Quote.l0]
    rw [if_neg (by omega), if_pos (by omega), if_pos (by omega)]
    simp only [Int.toNat_natCast]
    rw [if_pos (by rw [hsz]; omega), if_pos (by rw [ByteArray.size_append, hsz]; omega)]
    congr 1
    apply ba_ext
    rw [append_list, append_list, hx, ho]
    simp [Lx.quote]
  | d + 1, k, i, f, out, hd, hi, hf, hk, ho => by
    obtain ⟨k, rfl⟩ : ∃ m, k = m + 1 := ⟨k - 1, by omega⟩
    obtain ⟨c, h1, h2⟩ := byte_nat s i (by omega)
    have e := congrArg List.length ho
    have he := Lx.escs_le (s.data.toList.take i)
    have hsd : s.data.size = s.size := rfl
    simp only [List.length_append, List.length_drop, List.length_cons, List.length_take, Array.length_toList] at e he
    have hx := ext_list s f i
    have hsz : out.size + (s.extract f i).size = out.data.toList.length + (min i s.data.size - f) := by rw [size_list, size_list, hx]; simp
    have htk : s.data.toList.take (i + 1) = s.data.toList.take i ++ [c] := by rw [List.take_add_one, h1]; rfl
    have hdr : (s.data.toList.take i ++ [c]).drop f = (s.data.toList.take i).drop f ++ [c] := List.drop_append_of_le_length (by simp; omega)
    have hdi : (s.data.toList.take i ++ [c]).drop i = [c] := List.drop_left' (by simp; omega)
    simp only [Array.length_toList] at hsz
    simp only [planisphereref08_Quote.l0]
    rw [if_pos (by omega), if_pos (by omega), h2, wn i (by omega)]
    have n10 : ((c.toNat : Int) = 10) ↔ c = 10 := toNat_lit 10 (by omega)
    have n34 : ((c.toNat : Int) = 34) ↔ c = 34 := toNat_lit 34 (by omega)
    have n92 : ((c.toNat : Int) = 92) ↔ c = 92 := toNat_lit 92 (by omega)
    by_cases e10 : c = 10
    · rw [if_pos (n10.2 e10), if_pos (by omega), if_pos (by omega), if_pos (by omega)]
      simp only [Int.toNat_natCast]
      rw [if_pos (by rw [hsz]; omega), if_pos (by rw [ByteArray.size_append, hsz]; omega)]
      refine quote_sem s hs d k (i + 1) (i + 1) _ (by omega) (by omega) (by omega) (by omega) ?_
      rw [append_list, append_list, hx, ho, htk, List.flatMap_append, List.drop_eq_nil_of_le (by simp; omega)]
      subst e10; simp [Lx.esc]
    · rw [if_neg (fun z => e10 (n10.1 z))]
      have hstep : ∀ w, planisphereref08_Quote.l0 k s ((out ++ s.extract f i) ++ (⟨#[92]⟩ : ByteArray)) (i : Int) ((i + 1 : Nat) : Int) = w → (c = 34 ∨ c = 92) → w = some ⟨(Lx.quote s.data.toList).toArray⟩ := by
        intro w hw hc
        rw [← hw]
        refine quote_sem s hs d k (i + 1) i _ (by omega) (by omega) (by omega) (by omega) ?_
        rw [append_list, append_list, hx, ho, htk, List.flatMap_append, hdi]
        have : Lx.esc c = [92, c] := by unfold Lx.esc; rw [if_neg e10, if_pos hc]
        simp [this]
      by_cases e34 : c = 34
      · rw [if_pos (n34.2 e34), if_pos (by omega), if_pos (by omega), if_pos (by omega)]
        simp only [Int.toNat_natCast]
        rw [if_pos (by rw [hsz]; omega), if_pos (by rw [ByteArray.size_append, hsz]; omega)]
        exact hstep _ rfl (.inl e34)
      · rw [if_neg (fun z => e34 (n34.1 z))]
        by_cases e92 : c = 92
        · rw [if_pos (n92.2 e92), if_pos (by omega), if_pos (by omega), if_pos (by omega)]
          simp only [Int.toNat_natCast]
          rw [if_pos (by rw [hsz]; omega), if_pos (by rw [ByteArray.size_append, hsz]; omega)]
          exact hstep _ rfl (.inr e92)
        · rw [if_neg (fun z => e92 (n92.1 z))]
          refine quote_sem s hs d k (i + 1) f out (by omega) (by omega) (by omega) (by omega) ?_
          rw [htk, hdr, ← List.append_assoc, ho, List.flatMap_append]
          have : Lx.esc c = [c] := by unfold Lx.esc; rw [if_neg e10, if_neg (by simp [e34, e92])]
          simp [this]
theorem quote_ref (s : ByteArray) (hs : s.size ≤ 1099511627776) (k : Nat) (hk : s.size < k) : planisphereref08_Quote.f k s = some ⟨(Lx.quote s.data.toList).toArray⟩ :=
  quote_sem s hs s.size k 0 0 ⟨#[34]⟩ (by omega) (by omega) (by omega) hk (by simp)
/-! ### written tokens -/
/-- how a token is written -/
def wr (x : Lx.Fd) : List UInt8 := if x.kind = 3 then Lx.quote x.text else x.text
theorem written_sem (k : Nat) (x : Lx.Fd) (h : x.text.length ≤ 1099511627776) (hk : x.text.length < k) : planisphereref08_Written.f k (toS x).f0 (toS x).f1 (toS x).f2 = some ⟨(wr x).toArray⟩ := by
  unfold planisphereref08_Written.f wr toS
  by_cases e : x.kind = 3
  · rw [if_pos (by simp [e]), if_pos e, quote_ref _ (by show x.text.toArray.size ≤ _; simpa using h) k (by show x.text.toArray.size < _; simpa using hk)]
    rfl
  · rw [if_neg (by simp; omega), if_neg e]
/-- the tokens written, a blank behind each -/
def wrs (xs : List Lx.Fd) : List UInt8 := xs.flatMap fun x => wr x ++ [32]
theorem rd_map (xs : List Lx.Fd) (i : Nat) (x : Lx.Fd) (h : xs[i]? = some x) : rd_T31 (xs.map toS) (i : Int) = toS x := by
  unfold rd_T31
  rw [List.getD_eq_getElem?_getD]
  simp [h]
theorem written_all (xs : List Lx.Fd) (hx : ∀ x ∈ xs, x.text.length ≤ 1099511627776) (hlen : xs.length ≤ 1099511627776) (hw : (wrs xs).length ≤ 1099511627776) : ∀ (d k i : Nat) (out : ByteArray), xs.length - i = d → i ≤ xs.length → (∀ x ∈ xs, x.text.length + d < k) →  d < k →
    out.data.toList = wrs (xs.take i) → planispherelaw08_written.l0 k (xs.map toS) out (i : Int) = some ⟨(wrs xs).toArray⟩
  | 0, k, i, out, hd, hi, hk, hk0, ho => by
    obtain ⟨k, rfl⟩ : ∃ m, k = m + 1 := ⟨k - 1, by omega⟩
    simp only [planispherelaw08_written.l0]
    rw [if_neg (by rw [List.length_map]; omega)]
    congr 1
    apply ba_ext
    rw [ho, List.take_of_length_le (by omega)]
  | d + 1, k, i, out, hd, hi, hk, hk0, ho => by
    obtain ⟨k, rfl⟩ : ∃ m, k = m + 1 := ⟨k - 1, by omega⟩
    obtain ⟨x, hxi⟩ : ∃ x, xs[i]? = some x := ⟨xs[i], List.getElem?_eq_getElem (by omega)⟩
    have hxm : x ∈ xs := List.mem_of_getElem? hxi
    have hkx := hk x hxm
    simp only [planispherelaw08_written.l0]
    rw [if_pos (by rw [List.length_map]; omega), if_pos (by omega), rd_map xs i x hxi, written_sem k x (hx x hxm) (by omega), wn i (by omega)]
    simp only [Option.bind_some]
    have htk : xs.take (i + 1) = xs.take i ++ [x] := by rw [List.take_add_one, hxi]; rfl
    have hsplit : wrs xs = wrs (xs.take i) ++ ((wr x ++ [32]) ++ wrs (xs.drop (i + 1))) := by
      have hdc : xs.drop i = x :: xs.drop (i + 1) := by
        obtain ⟨h1, h2⟩ := List.getElem?_eq_some_iff.1 hxi
        rw [← h2]; exact List.drop_eq_getElem_cons h1
      conv => lhs; rw [← List.take_append_drop i xs, hdc]
      simp [wrs]
    have hl := congrArg List.length hsplit
    simp only [List.length_append, List.length_cons, List.length_nil] at hl
    have hs1 : (⟨(wr x).toArray⟩ : ByteArray).size = (wr x).length := by show (wr x).toArray.size = _; simp
    have hs2 : out.size = (wrs (xs.take i)).length := by rw [size_list, ho]
    rw [if_pos (by rw [hs1]; omega), if_pos (by rw [ByteArray.size_append, hs1, hs2]; show _ + (_ + 1) ≤ _; omega)]
    refine written_all xs hx hlen hw d k (i + 1) _ (by omega) (by omega) (fun y hy => by have := hk y hy; omega) (by omega) ?_
    rw [append_list, append_list, ho, htk]
    simp [wrs]
/-! ### comparing tokens -/
def alike (a b : Lx.Fd) : Prop := a.kind = b.kind ∧ a.text = b.text
theorem alike_sem (xs ys : List Lx.Fd) (hlen : xs.length = ys.length) (hl : xs.length ≤ 1099511627776) (h : ∀ (i : Nat) a b, xs[i]? = some a → ys[i]? = some b → alike a b) : ∀ (d k i : Nat), xs.length - i = d → i ≤ xs.length → d < k → planisphereref08_Alike.l0 k (xs.map toS) (ys.map toS) (i : Int) = some true
  | 0, k, i, hd, hi, hk => by
    obtain ⟨k, rfl⟩ : ∃ m, k = m + 1 := ⟨k - 1, by omega⟩
    simp only [planisphereref08_Alike.l0]
    rw [if_neg (by rw [List.length_map]; omega)]
  | d + 1, k, i, hd, hi, hk => by
    obtain ⟨k, rfl⟩ : ∃ m, k = m + 1 := ⟨k - 1, by omega⟩
    obtain ⟨a, ha⟩ : ∃ x, xs[i]? = some x := ⟨xs[i], List.getElem?_eq_getElem (by omega)⟩
    obtain ⟨b, hb⟩ : ∃ x, ys[i]? = some x := ⟨ys[i], List.getElem?_eq_getElem (by omega)⟩
    obtain ⟨e1, e2⟩ := h i a b ha hb
    simp only [planisphereref08_Alike.l0]
    rw [if_pos (by rw [List.length_map]; omega), if_pos (by omega), if_pos (by rw [List.length_map]; omega), rd_map xs i a ha, rd_map ys i b hb, wn i (by omega), if_pos (by simp [toS, e1]), if_pos (by simp [toS, e2])]
    exact alike_sem xs ys hlen hl h d k (i + 1) (by omega) (by omega) (by omega)
theorem alike_true (xs ys : List Lx.Fd) (hlen : xs.length = ys.length) (hl : xs.length ≤ 1099511627776) (h : ∀ (i : Nat) a b, xs[i]? = some a → ys[i]? = some b → alike a b) (k : Nat) (hk : xs.length < k) : planisphereref08_Alike.f k (xs.map toS) (ys.map toS) = some true := by
  unfold planisphereref08_Alike.f
  rw [if_pos (by rw [List.length_map, List.length_map, hlen])]
  exact alike_sem xs ys hlen hl h xs.length k 0 (by omega) (by omega) hk
end Go.Proofs.Ytflocikkhpjicaa.Pure
