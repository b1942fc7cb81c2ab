/- For every text, the tokens, the error and its offset, the string that stands for it, and whether it is a name, agree with the reference. -/
import Derived.Test.YtflocikkhpjicaaLexHead
import Derived.Test.YtflocikkhpjicaaLexGap
import Derived.Test.YtflocikkhpjicaaLexSame
import Derived.Test.YtflocikkhpjicaaPx4
import Derived.Test.YtflocikkhpjicaaPx5
import Derived.Test.YtflocikkhpjicaaPx6
import Derived.Test.YtflocikkhpjicaaPx7
namespace Go.Proofs.Ytflocikkhpjicaa.Pure
open Go.RowKit Go.Proofs.Ytflocikkhpjicaa.P Go.Proofs.YtflocikkhpjicaaW.PrintWords Go.Proofs.YtflocikkhpjicaaW.PrintLast
open Go.Proofs.Ytflocikkhpjicaa
set_option linter.unusedVariables false
/-! ### the reference's str -/
def strR (out : List UInt8) (i : Nat) : Option (List UInt8 × Nat) → Option (ByteArray × Int × Bool)
  | none => some (⟨#[]⟩, 0, false)
  | some r => some (⟨(out ++ r.1).toArray⟩, ((i + r.2 : Nat) : Int), true)
theorem strR_map (out : List UInt8) (i j n : Nat) (c : UInt8) (o : Option (List UInt8 × Nat)) (h : j = i + n) : strR out i (o.map fun r => (c :: r.1, r.2 + n)) = strR (out ++ [c]) j o := by
  subst h
  cases o with
  | none => rfl
  | some r => simp [strR]; omega
theorem ext_one (s : ByteArray) (i : Nat) (c : UInt8) (h : s.data.toList[i]? = some c) : (s.extract i (i + 1)).data.toList = [c] := by
  rw [ext_list, List.take_add_one, h]
  have hl := (List.getElem?_eq_some_iff.1 h).1
  exact List.drop_left' (by simp at hl ⊢; omega)
theorem ext_one_size (s : ByteArray) (i : Nat) (c : UInt8) (h : s.data.toList[i]? = some c) : (s.extract i (i + 1)).size = 1 := by rw [size_list, ext_one s i c h]; rfl
theorem app_size (out : ByteArray) (s : ByteArray) (i j : Nat) (c : UInt8) (h : s.data.toList[i]? = some c) (ho : out.size + 1 ≤ j) : (out ++ s.extract i (i + 1)).size ≤ j := by rw [ByteArray.size_append, ext_one_size s i c h]; exact ho
theorem j1_esc (s out : ByteArray) (k i : Nat) (b : UInt8) (g1 : s.data.toList[i]? = some b) (g2 : bt s (i : Int) = (b.toNat : Int)) (hb : b = 92 ∨ b = 34) (o2 : (0 : Int) ≤ (i : Int)) (o3 : (i : Int) < (s.size : Int)) (o6 : i + 1 ≤ s.size) (o9 : out.size + 1 ≤ 9223372036854775807) (w2 : wrap64 ((i : Int) + 1) = ((i + 1 : Nat) : Int)) :
    planisphereref08_str.j1 (k + 1) s out (i : Int) false = planisphereref08_str.l0 k s (out ++ s.extract i (i + 1)) ((i + 1 : Nat) : Int) := by
  have n : ¬ (b.toNat : Int) = 110 := by rcases hb with rfl | rfl <;> decide
  have p1 : (i : Int) ≤ ((i + 1 : Nat) : Int) := by omega
  have p2 : ((i + 1 : Nat) : Int) ≤ (s.size : Int) := by omega
  simp only [planisphereref08_str.j1]
  rw [if_neg (by decide), if_pos o2, if_pos o3, g2, if_neg n, w2, if_pos p1, if_pos p2]
  simp only [Int.toNat_natCast]
  rw [ext_one_size s i b g1, if_pos o9]
theorem j1_line (s out : ByteArray) (k i : Nat) (b : UInt8) (g2 : bt s (i : Int) = (b.toNat : Int)) (hb : b = 110) (o2 : (0 : Int) ≤ (i : Int)) (o3 : (i : Int) < (s.size : Int)) (o9 : out.size + 1 ≤ 9223372036854775807) (w2 : wrap64 ((i : Int) + 1) = ((i + 1 : Nat) : Int)) :
    planisphereref08_str.j1 (k + 1) s out (i : Int) false = planisphereref08_str.l0 k s (out ++ (⟨#[10]⟩ : ByteArray)) ((i + 1 : Nat) : Int) := by
  have n : (b.toNat : Int) = 110 := by rw [hb]; decide
  simp only [planisphereref08_str.j1]
  rw [if_neg (by decide), if_pos o2, if_pos o3, g2, if_pos n, if_pos o9, w2]
theorem str_sem (s : ByteArray) (hs : s.size ≤ 1099511627776) : ∀ (d k i : Nat) (out : ByteArray), s.size - i ≤ d → out.size ≤ i → i ≤ s.size → 2 * d + 10 < k → planisphereref08_str.l0 k s out (i : Int) = strR out.data.toList i (Lx.str (s.data.toList.drop i))
  | 0, k, i, out, hd, ho, hi, hk => by
    obtain ⟨k, rfl⟩ : ∃ m, k = m + 1 := ⟨k - 1, by omega⟩
    simp only [planisphereref08_str.l0]
    rw [if_neg (by omega), List.drop_eq_nil_of_le (by simp; omega)]; rfl
  | d + 1, k, i, out, hd, ho, hi, hk => by
    obtain ⟨k, rfl⟩ : ∃ m, k = m + 1 := ⟨k - 1, by omega⟩
    by_cases hlt : i < s.size
    · obtain ⟨c, h1, h2⟩ := byte_nat s i hlt
      have w1 := wn i (by omega)
      simp only [planisphereref08_str.l0]
      rw [if_pos (by omega), if_pos (by omega), h2, w1, Lx.drop_cons h1]
      have n34 : ((c.toNat : Int) = 34) ↔ c = 34 := toNat_lit 34 (by omega)
      have n10 : ((c.toNat : Int) = 10) ↔ c = 10 := toNat_lit 10 (by omega)
      have n92 : ((c.toNat : Int) = 92) ↔ c = 92 := toNat_lit 92 (by omega)
      by_cases e34 : c = 34
      · rw [if_pos (n34.2 e34), e34, Lx.str_quote]
        simp only [strR, List.append_nil]
      · rw [if_neg (fun z => e34 (n34.1 z))]
        by_cases e10 : c = 10
        · rw [if_pos (n10.2 e10), e10, Lx.str_line]; rfl
        · rw [if_neg (fun z => e10 (n10.1 z))]
          by_cases e92 : c = 92
          · rw [if_pos (n92.2 e92), e92]
            clear h2 n34 n10 n92
            obtain ⟨k, rfl⟩ : ∃ m, k = m + 1 := ⟨k - 1, by omega⟩
            have w2 := wn (i + 1) (by omega)
            by_cases hl2 : i + 1 < s.size
            · have o1 : ¬ (((i + 1 : Nat) : Int) ≥ (s.size : Int)) := by omega
              have o2 : (0 : Int) ≤ ((i + 1 : Nat) : Int) := by omega
              have o3 : ((i + 1 : Nat) : Int) < (s.size : Int) := by omega
              have o4 : s.size - (i + 1 + 1) ≤ d := by omega
              have o5 : out.size + 1 ≤ i + 1 + 1 := by omega
              have o6 : i + 1 + 1 ≤ s.size := by omega
              have o7 : 2 * d + 10 < k := by omega
              have o8 : 4 ≤ k + 1 := by omega
              have o9 : out.size + 1 ≤ 9223372036854775807 := by omega
              obtain ⟨b, g1, g2⟩ := byte_nat s (i + 1) hl2
              rw [if_neg o1, if_pos o2, if_pos o3, g2, has_esc b (k + 1) o8]
              simp only [Option.bind_some]
              rw [Lx.drop_cons g1, Lx.str_esc]
              by_cases m92 : b = 92
              · rw [if_pos m92, show (!([92, 34, 110] : List UInt8).contains b) = false by rw [m92]; rfl, j1_esc s out k (i + 1) b g1 g2 (.inl m92) o2 o3 o6 o9 w2]
                rw [str_sem s hs d k (i + 1 + 1) _ o4 (app_size _ _ _ _ b g1 o5) o6 o7, append_list, ext_one s (i + 1) b g1, m92]
                exact (strR_map out.data.toList i (i + 1 + 1) 2 92 _ rfl).symm
              · by_cases m34 : b = 34
                · rw [if_neg m92, if_pos m34, show (!([92, 34, 110] : List UInt8).contains b) = false by rw [m34]; rfl, j1_esc s out k (i + 1) b g1 g2 (.inr m34) o2 o3 o6 o9 w2]
                  rw [str_sem s hs d k (i + 1 + 1) _ o4 (app_size _ _ _ _ b g1 o5) o6 o7, append_list, ext_one s (i + 1) b g1, m34]
                  exact (strR_map out.data.toList i (i + 1 + 1) 2 34 _ rfl).symm
                · by_cases m110 : b = 110
                  · rw [if_neg m92, if_neg m34, if_pos m110, show (!([92, 34, 110] : List UInt8).contains b) = false by rw [m110]; rfl, j1_line s out k (i + 1) b g2 m110 o2 o3 o9 w2]
                    rw [str_sem s hs d k (i + 1 + 1) _ o4 (by rw [ByteArray.size_append]; exact o5) o6 o7, append_list]
                    exact (strR_map out.data.toList i (i + 1 + 1) 2 10 _ rfl).symm
                  · rw [if_neg m92, if_neg m34, if_neg m110, show (!([92, 34, 110] : List UInt8).contains b) = true by simp [m92, m34, m110]]
                    simp only [planisphereref08_str.j1]
                    rw [if_pos trivial]; rfl
            · rw [if_pos (by omega), List.drop_eq_nil_of_le (by simp; omega), Lx.str_last]
              simp only [planisphereref08_str.j1]
              rw [if_pos trivial]; rfl
          · rw [if_neg (fun z => e92 (n92.1 z))]
            clear h2 n34 n10 n92
            rw [if_pos (by omega), if_pos (by omega)]
            simp only [Int.toNat_natCast]
            rw [ext_one_size s i c h1, if_pos (by omega), str_sem s hs d k (i + 1) _ (by omega) (app_size _ _ _ _ c h1 (by omega)) (by omega) (by omega), append_list, ext_one s i c h1, Lx.str_byte _ e34 e10 e92]
            exact (strR_map out.data.toList i (i + 1) 1 c _ (by omega)).symm
    · simp only [planisphereref08_str.l0]
      rw [if_neg (by omega), List.drop_eq_nil_of_le (by simp; omega)]; rfl
/-! ### the reference's next -/
theorem wsub (a b : Nat) (h : b ≤ a) (ha : a ≤ 281474976710656) : wrap64 ((a : Int) - (b : Int)) = ((a - b : Nat) : Int) := by unfold wrap64; omega
theorem word_loop (s : ByteArray) (hs : s.size ≤ 1099511627776) (a : Nat) : ∀ (d k i : Nat), s.size - i = d → a ≤ i → i ≤ s.size → d < k →
    planisphereref08_next.l0 k s (a : Int) (i : Int) = (if i + Lx.span Lx.word (s.data.toList.drop i) - a > 24 then some (0, (⟨#[]⟩ : ByteArray), 0, 0, 2) else some (1, s.extract a (i + Lx.span Lx.word (s.data.toList.drop i)), (a : Int), ((i + Lx.span Lx.word (s.data.toList.drop i) : Nat) : Int), 0))
  | 0, k, i, hd, ha, hi, hk => by
    obtain ⟨k, rfl⟩ : ∃ m, k = m + 1 := ⟨k - 1, by omega⟩
    simp only [planisphereref08_next.l0]
    rw [if_neg (by omega), Lx.span_end (by simp; omega), Nat.add_zero, wsub i a ha (by omega)]
    by_cases h : i - a > 24
    · rw [if_pos (by omega), if_pos h]
    · rw [if_neg (by omega), if_neg h, if_pos (by omega), if_pos (by omega), if_pos (by omega)]; rfl
  | d + 1, k, i, hd, ha, hi, hk => by
    obtain ⟨k, rfl⟩ : ∃ m, k = m + 1 := ⟨k - 1, by omega⟩
    obtain ⟨c, h1, h2⟩ := byte_nat s i (by omega)
    simp only [planisphereref08_next.l0]
    rw [if_pos (by omega), if_pos (by omega), h2, word_sem]
    simp only [Option.bind_some]
    by_cases hw : Lx.word c = true
    · rw [if_pos hw, wn i (by omega), word_loop s hs a d k (i + 1) (by omega) (by omega) (by omega) (by omega), Lx.span_step h1 hw]
    · rw [if_neg hw, Lx.span_stop h1 (by simpa using hw), Nat.add_zero, wsub i a ha (by omega)]
      by_cases h : i - a > 24
      · rw [if_pos (by omega), if_pos h]
      · rw [if_neg (by omega), if_neg h, if_pos (by omega), if_pos (by omega), if_pos (by omega)]; rfl
theorem digit_loop (s : ByteArray) (hs : s.size ≤ 1099511627776) (a : Nat) : ∀ (d k i : Nat), s.size - i = d → a ≤ i → i ≤ s.size → d < k →
    planisphereref08_next.l1 k s (a : Int) (i : Int) = (if i + Lx.span Lx.digit (s.data.toList.drop i) - a > 7 ∨ Lx.wordAt (s.data.toList.drop a) (i + Lx.span Lx.digit (s.data.toList.drop i) - a) = true then some (0, (⟨#[]⟩ : ByteArray), 0, 0, 4) else some (2, s.extract a (i + Lx.span Lx.digit (s.data.toList.drop i)), (a : Int), ((i + Lx.span Lx.digit (s.data.toList.drop i) : Nat) : Int), 0))
  | 0, k, i, hd, ha, hi, hk => by
    obtain ⟨k, rfl⟩ : ∃ m, k = m + 1 := ⟨k - 1, by omega⟩
    have hw : Lx.wordAt (s.data.toList.drop a) (i - a) = false := by
      unfold Lx.wordAt
      rw [List.getElem?_drop, List.getElem?_eq_none (by simp; omega)]
    simp only [planisphereref08_next.l1]
    rw [if_neg (by omega), Lx.span_end (by simp; omega), Nat.add_zero, wsub i a ha (by omega), hw]
    by_cases h : i - a > 7
    · rw [if_pos (by omega), if_pos (.inl h)]
    · rw [if_neg (by omega), if_neg (show ¬ (i - a > 7 ∨ false = true) from by simp; omega), if_pos (by omega), if_pos (by omega), if_pos (by omega)]; rfl
  | d + 1, k, i, hd, ha, hi, hk => by
    obtain ⟨k, rfl⟩ : ∃ m, k = m + 1 := ⟨k - 1, by omega⟩
    obtain ⟨c, h1, h2⟩ := byte_nat s i (by omega)
    simp only [planisphereref08_next.l1]
    rw [if_pos (by omega), if_pos (by omega), h2, digit_sem]
    simp only [Option.bind_some]
    by_cases hw : Lx.digit c = true
    · rw [if_pos hw, wn i (by omega), digit_loop s hs a d k (i + 1) (by omega) (by omega) (by omega) (by omega), Lx.span_step h1 hw]
    · have hw' : Lx.digit c = false := by simpa using hw
      have hwa : Lx.wordAt (s.data.toList.drop a) (i - a) = Lx.word c := by
        unfold Lx.wordAt
        rw [List.getElem?_drop, show a + (i - a) = i by omega, h1]
        simp [Lx.word, hw']
      rw [if_neg hw, Lx.span_stop h1 hw', Nat.add_zero, wsub i a ha (by omega), word_sem, hwa]
      simp only [Option.bind_some]
      by_cases h : i - a > 7
      · rw [if_pos (by omega), if_pos (.inl h)]
      · rw [if_neg (by omega)]
        by_cases hx : Lx.word c = true
        · rw [if_pos hx, if_pos (.inr hx)]
        · rw [if_neg hx, if_neg (show ¬ (i - a > 7 ∨ Lx.word c = true) from fun z => z.elim h hx), if_pos (by omega), if_pos (by omega), if_pos (by omega)]; rfl
/-- a piece as the reference answers it -/
def nextR (a : Nat) (p : Lx.Pc) : Option (Int × ByteArray × Int × Int × Int) :=
  if p.err = 0 then some ((p.kind : Int), ⟨p.text.toArray⟩, (a : Int), ((a + p.len : Nat) : Int), 0) else some (0, ⟨#[]⟩, 0, 0, (p.err : Int))
theorem ext_of (s : ByteArray) (a n : Nat) : (⟨((s.data.toList.drop a).take n).toArray⟩ : ByteArray) = s.extract a (a + n) := by
  apply ba_ext
  rw [ext_list, List.drop_take, Nat.add_sub_cancel_left]
theorem next_sem (s : ByteArray) (hs : s.size ≤ 1099511627776) (k a : Nat) (ha : a < s.size) (hk : 2 * s.size + 20 < k) (hg : gapl false (s.data.toList.drop a) = 0) :
    planisphereref08_next.f k s (a : Int) = nextR a (Lx.piece (s.data.toList.drop a)) := by
  obtain ⟨c, h1, h2⟩ := byte_nat s a ha
  have w1 := wn a (by omega)
  unfold planisphereref08_next.f
  rw [if_pos (by omega), if_pos (by omega), h2, letter_sem, digit_sem, w1]
  simp only [Option.bind_some]
  have n34 : ((c.toNat : Int) = 34) ↔ c = 34 := toNat_lit 34 (by omega)
  have hcl : Lx.cls c ≠ 1 ∧ Lx.cls c ≠ 2 := by
    rw [Lx.drop_cons h1] at hg
    refine ⟨fun z => ?_, fun z => ?_⟩
    · simp [gapl, z] at hg
    · simp [gapl, z] at hg
  have c1 : Lx.cls c = 3 ∨ Lx.cls c = 4 ∨ Lx.cls c = 7 ∨ Lx.cls c = 6 ∨ (Lx.cls c = 0 ∨ Lx.cls c = 5) := by have := Lx.cls_le c; omega
  rcases c1 with z | z | z | z | z
  · have hsp := Lx.span_step (p := Lx.word) h1 ((Lx.cls_word c).2 (.inl z))
    rw [if_pos ((Lx.cls_letter c).2 z), word_loop s hs a _ k (a + 1) rfl (by omega) (by omega) (by omega), Lx.piece3 h1 z, ← hsp]
    unfold nextR
    rw [Nat.add_sub_cancel_left]
    by_cases h : Lx.span Lx.word (s.data.toList.drop a) > 24
    · simp only [if_pos h]; rfl
    · simp only [if_neg h]; rw [ext_of]; rfl
  · have l0 : ¬ Lx.letter c = true := fun y => by have := (Lx.cls_letter c).1 y; omega
    have hsp := Lx.span_step (p := Lx.digit) h1 ((Lx.cls_digit c).2 z)
    rw [if_neg l0, if_pos ((Lx.cls_digit c).2 z), digit_loop s hs a _ k (a + 1) rfl (by omega) (by omega) (by omega), Lx.piece4 h1 z, ← hsp]
    unfold nextR
    rw [Nat.add_sub_cancel_left]
    by_cases h : Lx.span Lx.digit (s.data.toList.drop a) > 7 ∨ Lx.wordAt (s.data.toList.drop a) (Lx.span Lx.digit (s.data.toList.drop a)) = true
    · simp only [if_pos h]; rfl
    · simp only [if_neg h]; rw [ext_of]; rfl
  · have l0 : ¬ Lx.letter c = true := fun y => by have := (Lx.cls_letter c).1 y; omega
    have l1 : ¬ Lx.digit c = true := fun y => by have := (Lx.cls_digit c).1 y; omega
    rw [if_neg l0, if_neg l1, if_pos (n34.2 ((Lx.cls_quote c).2 z)), Lx.piece7 h1 z]
    have hst := str_sem s hs (s.size - (a + 1)) k (a + 1) ⟨#[]⟩ (by omega) (by show 0 ≤ _; omega) (by omega) (by omega)
    unfold planisphereref08_str.f
    rw [w1, hst]
    cases hq : Lx.str (s.data.toList.drop (a + 1)) with
    | none => simp only [strR, Option.bind_some]; rfl
    | some r =>
      simp only [strR, Option.bind_some, nextR, if_true]
      rw [show a + 1 + r.2 = a + (r.2 + 1) by omega]; rfl
  · have l0 : ¬ Lx.letter c = true := fun y => by have := (Lx.cls_letter c).1 y; omega
    have l1 : ¬ Lx.digit c = true := fun y => by have := (Lx.cls_digit c).1 y; omega
    have l2 : ¬ (c.toNat : Int) = 34 := fun y => by have := (Lx.cls_quote c).1 (n34.1 y); omega
    rw [if_neg l0, if_neg l1, if_neg l2, has_symbol c k (by omega), Lx.piece6 h1 z]
    simp only [Option.bind_some]
    rw [if_pos ((Lx.cls_symbol c).2 z), if_pos (by omega), if_pos (by omega)]
    simp only [Int.toNat_natCast, nextR, if_true]
    have : s.extract a (a + 1) = (⟨[c].toArray⟩ : ByteArray) := ba_ext (ext_one s a c h1)
    rw [this]; rfl
  · have l0 : ¬ Lx.letter c = true := fun y => by have := (Lx.cls_letter c).1 y; omega
    have l1 : ¬ Lx.digit c = true := fun y => by have := (Lx.cls_digit c).1 y; omega
    have l2 : ¬ (c.toNat : Int) = 34 := fun y => by have := (Lx.cls_quote c).1 (n34.1 y); omega
    have l3 : ¬ Lx.symbol c = true := fun y => by have := (Lx.cls_symbol c).1 y; omega
    rw [if_neg l0, if_neg l1, if_neg l2, has_symbol c k (by omega), Lx.piece0 h1 z]
    simp only [Option.bind_some]
    rw [if_neg l3]; rfl
/-! ### the reference's Lex -/
def resR (r : List Lx.Fd × Nat × Int) : List S31 × Int × Int := (r.1.map toS, (r.2.1 : Int), r.2.2)
theorem lex_loop (s : ByteArray) (hs : s.size ≤ 100000) : ∀ (d k a : Nat) (acc : List Lx.Fd), s.size - a ≤ d → a ≤ s.size → acc.length ≤ 5000 → 3 * s.size + 100 + d < k → gapl false (s.data.toList.drop a) = 0 →
    planisphereref08_Lex.l0 k s (acc.map toS) (a : Int) = some (resR (Lx.res acc (Lx.founds a (s.data.toList.drop a))))
  | d, k, a, acc, hd, ha, hacc, hk, hg => by
    obtain ⟨k, rfl⟩ : ∃ m, k = m + 1 := ⟨k - 1, by omega⟩
    by_cases hlt : a < s.size
    · obtain ⟨c, h1, h2⟩ := byte_nat s a hlt
      have hn := next_sem s (by omega) k a hlt (by omega) hg
      simp only [planisphereref08_Lex.l0]
      rw [if_pos (by omega), hn]
      have hdc := Lx.drop_cons h1
      have hlm : (s.data.toList.drop (a + 1)).length = s.size - (a + 1) := by simp
      have hcl : Lx.cls c ≠ 1 ∧ Lx.cls c ≠ 2 := by
        rw [hdc] at hg
        refine ⟨fun z => ?_, fun z => ?_⟩
        · simp [gapl, z] at hg
        · simp [gapl, z] at hg
      rw [hdc]
      unfold nextR
      by_cases he : (Lx.piece (c :: s.data.toList.drop (a + 1))).err = 0
      · have hl := Lx.piece_len he
        have hkd : (Lx.piece (c :: s.data.toList.drop (a + 1))).kind ≠ 0 := by
          have c1 : Lx.cls c = 3 ∨ Lx.cls c = 4 ∨ Lx.cls c = 7 ∨ Lx.cls c = 6 ∨ (Lx.cls c = 0 ∨ Lx.cls c = 5) := by have := Lx.cls_le c; omega
          rcases c1 with z | z | z | z | z
          · simp [Lx.piece, z]
          · simp [Lx.piece, z]
          · cases hst : Lx.str (s.data.toList.drop (a + 1)) with
            | none => simp [Lx.piece, z, hst] at he
            | some r => simp [Lx.piece, z, hst]
          · simp [Lx.piece, z]
          · rcases z with z | z <;> simp [Lx.piece, z] at he
        rw [if_pos he]
        simp only [Option.bind_some, if_true]
        rw [Lx.founds_ok a he, Lx.tokOf, if_neg hkd, List.cons_append, List.nil_append, ← hdc, List.drop_drop]
        obtain ⟨p, hp⟩ : ∃ p, Lx.piece (s.data.toList.drop a) = p := ⟨_, rfl⟩
        rw [← hdc] at hl he hkd
        rw [hp] at hl he hkd ⊢
        rw [Lx.res, if_neg (show ¬ (⟨p.kind, p.text, a, 0⟩ : Lx.Fd).err ≠ 0 from by simp)]
        by_cases hm : acc.length = 5000
        · rw [if_pos (by rw [List.length_map, hm]; rfl), if_pos hm]; rfl
        · rw [if_neg (show ¬ (((acc.map toS).length : Nat) : Int) = 5000 from by rw [List.length_map]; omega), if_neg hm, if_pos (show (acc.map toS).length < 4398046511104 from by rw [List.length_map]; omega)]
          have hgp := gap_sem0 s (by omega) _ k (a + p.len) rfl (by omega) (by omega)
          unfold planisphereref08_gap.f
          rw [hgp]
          simp only [Option.bind_some]
          obtain ⟨f1, f2⟩ := founds_skip _ (s.data.toList.drop (a + p.len)) (a + p.len) (Nat.le_refl _)
          have hgl := gapl_le false (s.data.toList.drop (a + p.len))
          have hdl : (s.data.toList.drop (a + p.len)).length = s.size - (a + p.len) := by simp
          rw [List.drop_drop] at f1 f2
          have hmap : (acc.map toS ++ [(⟨(p.kind : Int), ⟨p.text.toArray⟩, (a : Int)⟩ : S31)]) = (acc ++ [(⟨p.kind, p.text, a, 0⟩ : Lx.Fd)]).map toS := by simp [toS]
          rw [hmap]
          cases d with
          | zero => omega
          | succ d =>
            rw [lex_loop s hs d k _ (acc ++ [(⟨p.kind, p.text, a, 0⟩ : Lx.Fd)]) (by omega) (by omega) (by simp; omega) (by omega) f2, f1]
      · rw [if_neg he]
        simp only [Option.bind_some]
        rw [if_neg (by omega), Lx.founds_bad a he, Lx.res, if_pos he]; rfl
    · simp only [planisphereref08_Lex.l0]
      rw [if_neg (by omega), List.drop_eq_nil_of_le (by simp; omega), Lx.founds_nil]; rfl
theorem lex_ref (s : ByteArray) (hs : s.size ≤ 100000) (k : Nat) (hk : 5 * s.size + 200 < k) : planisphereref08_Lex.f k s = some (resR (Lx.lexS s.data.toList)) := by
  unfold planisphereref08_Lex.f Lx.lexS
  have hl : s.data.toList.length = s.size := by simp
  by_cases h : s.size > 20000
  · rw [if_pos (by omega), if_pos (by omega)]; rfl
  · have hgp := gap_sem0 s (by omega) s.size k 0 rfl (by omega) (by omega)
    obtain ⟨f1, f2⟩ := founds_skip _ s.data.toList 0 (Nat.le_refl _)
    have hgl := gapl_le false s.data.toList
    rw [if_neg (by omega), if_neg (by omega)]
    unfold planisphereref08_gap.f
    rw [show ((0 : Int)) = ((0 : Nat) : Int) from rfl, hgp]
    simp only [Option.bind_some, List.drop_zero]
    rw [show ([] : List S31) = ([] : List Lx.Fd).map toS from rfl, lex_loop s hs s.size k _ [] (by omega) (by omega) (by simp) (by omega) (by rw [Nat.zero_add]; exact f2), Nat.zero_add]
    rw [Nat.zero_add] at f1
    rw [← f1]
/-! ### the reference's Name -/
theorem name_loop (s : ByteArray) (hs : s.size ≤ 1099511627776) : ∀ (d k i : Nat), s.size - i = d → i ≤ s.size → d < k → (s.data.toList.take i).all Lx.word = true →
    planisphereref08_Name.l0 k s (i : Int) = some (Lx.name s.data.toList)
  | 0, k, i, hd, hi, hk, ha => by
    obtain ⟨k, rfl⟩ : ∃ m, k = m + 1 := ⟨k - 1, by omega⟩
    have hl : s.data.toList.length = s.size := by simp
    rw [List.take_of_length_le (by omega)] at ha
    simp only [planisphereref08_Name.l0]
    rw [if_neg (by omega)]
    by_cases h0 : (s.size : Int) > 0
    · obtain ⟨c, h1, h2⟩ := byte_nat s 0 (by omega)
      have h2' : bt s 0 = (c.toNat : Int) := h2
      rw [if_pos h0, h2', letter_sem]
      simp only [Option.bind_some]
      cases hx : s.data.toList with
      | nil => rw [hx] at hl; simp at hl; omega
      | cons b m =>
        rw [hx] at h1 ha hl
        have hbc : b = c := by simpa using h1
        subst hbc
        simp only [List.all_cons, Bool.and_eq_true] at ha
        simp only [Lx.name, ha.2, Bool.and_true]
        simp only [List.length_cons] at hl
        by_cases h24 : (s.size : Int) ≤ 24
        · rw [if_pos h24, if_pos (by omega), decide_eq_true (by omega), Bool.and_true]
        · rw [if_neg h24, decide_eq_false (by omega), Bool.and_false]
    · rw [if_neg h0]
      have : s.data.toList = [] := List.length_eq_zero_iff.1 (by omega)
      rw [this]; rfl
  | d + 1, k, i, hd, hi, hk, ha => by
    obtain ⟨k, rfl⟩ : ∃ m, k = m + 1 := ⟨k - 1, by omega⟩
    obtain ⟨c, h1, h2⟩ := byte_nat s i (by omega)
    simp only [planisphereref08_Name.l0]
    rw [if_pos (by omega), if_pos (by omega), h2, word_sem]
    simp only [Option.bind_some]
    by_cases hw : Lx.word c = true
    · rw [if_pos hw, wn i (by omega), name_loop s hs d k (i + 1) (by omega) (by omega) (by omega) (by rw [List.take_add_one, h1]; simp only [Option.toList_some, List.all_append, ha, List.all_cons, hw]; rfl)]
    · rw [if_neg hw]
      have : Lx.name s.data.toList = false := by
        cases hx : s.data.toList with
        | nil => rfl
        | cons b m =>
          rw [hx] at h1
          cases i with
          | zero =>
            have hbc : b = c := by simpa using h1
            subst hbc
            have : Lx.letter b = false := by
              have hw' : Lx.word b = false := by simpa using hw
              unfold Lx.word at hw'; simp only [Bool.or_eq_false_iff] at hw'; exact hw'.1.1
            simp [Lx.name, this]
          | succ i =>
            have hm : c ∈ m := List.mem_of_getElem? (by simpa using h1)
            have : m.all Lx.word = false := by rw [List.all_eq_false]; exact ⟨c, hm, hw⟩
            simp [Lx.name, this]
      rw [this]
/-! ### the law -/
theorem res_all : ∀ (xs acc : List Lx.Fd), (Lx.res acc xs).1 = [] ∨ (Lx.res acc xs).1 = acc ++ xs
  | [], acc => .inr (by simp [Lx.res])
  | x :: xs, acc => by
    rw [Lx.res]
    by_cases h1 : x.err ≠ 0
    · rw [if_pos h1]; exact .inl rfl
    · rw [if_neg h1]
      by_cases h2 : acc.length = 5000
      · rw [if_pos h2]; exact .inl rfl
      · rw [if_neg h2]
        rcases res_all xs (acc ++ [x]) with h | h
        · exact .inl h
        · exact .inr (by rw [h, List.append_assoc]; rfl)
theorem lexS_all (l : List UInt8) : (Lx.lexS l).1 = [] ∨ (Lx.lexS l).1 = Lx.founds 0 l := by
  unfold Lx.lexS
  by_cases h : l.length > 20000
  · rw [if_pos h]; exact .inl rfl
  · rw [if_neg h]; simpa using res_all (Lx.founds 0 l) []
theorem matches_j0 (k : Nat) (hk : 3001 < k) (a0 : ByteArray) (b : Bool) (hb : b = false) : planispherelaw08_LexerMatchesReference.j0 (k + 1) a0 true b = some true := by
  subst hb
  simp only [planispherelaw08_LexerMatchesReference.j0]
  rw [if_neg (by decide), if_pos trivial]
  by_cases h : (a0.size : Int) > 3000
  · rw [if_pos h]
  · rw [if_neg h]
    have hq : lexer_Quote.f a0 = some ⟨(Lx.quote a0.data.toList).toArray⟩ := by
      unfold lexer_Quote.f
      rw [if_pos (by omega)]
    rw [hq, quote_ref a0 (by omega) k (by omega)]
    simp only [Option.bind_some, beq_self_eq_true]
theorem LexerMatchesReference : planispherelaw08_LexerMatchesReference.Pure := by
  intro a0 h0
  refine ⟨1000000, ?_⟩
  unfold planispherelaw08_LexerMatchesReference.f
  rw [head_true 999998]
  simp only [Option.bind_some]
  by_cases c0 : (a0.size : Int) > 21000
  · rw [if_pos c0]
  · rw [if_neg c0, lex_ref a0 (by omega) 1000000 (by omega)]
    have hL : lexer_Lex.f a0 = some (resR (Lx.lexS a0.data.toList)) := by unfold lexer_Lex.f lexR; rfl
    have hN : planisphereref08_Name.f 1000000 a0 = some (Lx.name a0.data.toList) := by
      unfold planisphereref08_Name.f
      exact name_loop a0 (by omega) _ 1000000 0 rfl (by omega) (by omega) (by simp)
    have hN2 : lexer_Name.f a0 = some (Lx.name a0.data.toList) := by
      unfold lexer_Name.f
      rw [if_pos h0]
    obtain ⟨r, hr⟩ : ∃ r, Lx.lexS a0.data.toList = r := ⟨_, rfl⟩
    have hlen : r.1.length ≤ 21000 ∧ ∀ x ∈ r.1, x.pos ≤ 21000 := by
      rw [← hr]
      have hl : a0.data.toList.length = a0.size := by simp
      rcases lexS_all a0.data.toList with h | h
      · rw [h]; exact ⟨by simp, fun x hx => by cases hx⟩
      · rw [h]
        have h1 := Lx.founds_length 0 a0.data.toList
        refine ⟨by omega, fun x hx => ?_⟩
        have := (founds_pos _ _ 0 x (Nat.le_refl _) hx).2
        omega
    rw [hL, hN, hN2, hr]
    simp only [Option.bind_some, if_true, resR]
    have hS := same_true r.1 0 (by omega) (fun x hx => by have := hlen.2 x hx; omega) 1000000 (by omega)
    rw [map_shift0] at hS
    rw [show ((0 : Nat) : Int) = 0 from rfl] at hS
    rw [hS]
    simp only [Option.bind_some, if_true]
    exact matches_j0 999999 (by omega) a0 _ (by simp)
end Go.Proofs.Ytflocikkhpjicaa.Pure
