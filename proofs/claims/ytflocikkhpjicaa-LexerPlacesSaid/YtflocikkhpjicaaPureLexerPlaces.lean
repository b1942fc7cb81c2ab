/- For every text without an error, the offsets of the tokens increase, each token stands at its offset, a string as Quote writes it, and before, between and after them there are only gaps. -/
import Derived.Test.YtflocikkhpjicaaLexHead
import Derived.Test.YtflocikkhpjicaaLexWr
import Derived.Test.YtflocikkhpjicaaPx9
namespace Go.Proofs.Ytflocikkhpjicaa.Pure
open Go.RowKit Go.Proofs.Ytflocikkhpjicaa.P Go.Proofs.YtflocikkhpjicaaW.PrintWords Go.Proofs.YtflocikkhpjicaaW.PrintLast
open Go.Proofs.Ytflocikkhpjicaa
set_option linter.unusedVariables false
theorem gapl_take : ∀ (b : Bool) (r : List UInt8) (n : Nat), n ≤ gapl b r → gapl b (r.take n) = n
  | _, [], n, h => by simp [gapl] at h; simp [gapl, h]
  | _, c :: m, 0, _ => by simp [gapl]
  | false, c :: m, n + 1, h => by
    simp only [List.take_succ_cons, gapl] at h ⊢
    split
    · rename_i e; rw [if_pos e] at h; rw [gapl_take false m n (by omega)]
    · rename_i e; rw [if_neg e] at h
      split
      · rename_i e2; rw [if_pos e2] at h; rw [gapl_take true m n (by omega)]
      · rename_i e2; rw [if_neg e2] at h; omega
  | true, c :: m, n + 1, h => by
    simp only [List.take_succ_cons, gapl] at h ⊢
    split
    · rename_i e; rw [if_pos e] at h; rw [gapl_take false m n (by omega)]
    · rename_i e; rw [if_neg e] at h; rw [gapl_take true m n (by omega)]
theorem gapl_line : ∀ (m : List UInt8), gapl true m = Lx.span Lx.notLine m + gapl false (m.drop (Lx.span Lx.notLine m))
  | [] => by simp [gapl, Lx.span]
  | c :: m => by
    by_cases e : c = 10
    · subst e
      have hs : Lx.span Lx.notLine (10 :: m) = 0 := by simp [Lx.span, Lx.notLine]
      rw [hs]; simp [gapl, cls10]
    · have hs : Lx.span Lx.notLine (c :: m) = Lx.span Lx.notLine m + 1 := by
        have hn : Lx.notLine c = true := by simp [Lx.notLine, e]
        simp [Lx.span, hn]
      rw [hs]; simp only [gapl, if_neg e, List.drop_succ_cons, gapl_line m]; omega
/-- the gaps that a text begins with hold no token -/
theorem founds_skip : ∀ (n : Nat) (r : List UInt8) (k : Nat), r.length ≤ n → Lx.founds k r = Lx.founds (k + gapl false r) (r.drop (gapl false r)) ∧ gapl false (r.drop (gapl false r)) = 0
  | _, [], k, _ => by simp [gapl]
  | 0, c :: m, _, h => by simp at h
  | n + 1, c :: m, k, h => by
    simp only [List.length_cons] at h
    by_cases e1 : Lx.cls c = 1
    · have hp : Lx.piece (c :: m) = ⟨0, [], 0, 1⟩ := by simp [Lx.piece, e1]
      obtain ⟨i1, i2⟩ := founds_skip n m (k + 1) (by omega)
      have hg : gapl false (c :: m) = gapl false m + 1 := by simp [gapl, e1]
      rw [hg, List.drop_succ_cons]
      refine ⟨?_, i2⟩
      rw [Lx.founds_ok k (by rw [hp]), hp]
      show [] ++ Lx.founds (k + 1) m = _
      rw [List.nil_append, i1]; congr 1; omega
    · by_cases e2 : Lx.cls c = 2
      · have hp : Lx.piece (c :: m) = ⟨0, [], 0, Lx.span Lx.notLine (c :: m)⟩ := by simp [Lx.piece, e2]
        have hc := (Lx.cls_hash c).2 e2
        have hs : Lx.span Lx.notLine (c :: m) = Lx.span Lx.notLine m + 1 := by
          have hn : Lx.notLine c = true := by subst hc; decide
          simp [Lx.span, hn]
        obtain ⟨i1, i2⟩ := founds_skip n (m.drop (Lx.span Lx.notLine m)) (k + (Lx.span Lx.notLine m + 1)) (by simp; omega)
        have hg : gapl false (c :: m) = Lx.span Lx.notLine m + 1 + gapl false (m.drop (Lx.span Lx.notLine m)) := by
          simp only [gapl, if_neg e1, if_pos e2, gapl_line m]; omega
        have hd : (c :: m).drop (gapl false (c :: m)) = (m.drop (Lx.span Lx.notLine m)).drop (gapl false (m.drop (Lx.span Lx.notLine m))) := by
          rw [hg, List.drop_drop, show Lx.span Lx.notLine m + 1 + gapl false (m.drop (Lx.span Lx.notLine m)) = (Lx.span Lx.notLine m + gapl false (m.drop (Lx.span Lx.notLine m))) + 1 by omega, List.drop_succ_cons]
        rw [hd]
        refine ⟨?_, i2⟩
        rw [Lx.founds_ok k (by rw [hp]), hp]
        show [] ++ Lx.founds (k + Lx.span Lx.notLine (c :: m)) ((c :: m).drop (Lx.span Lx.notLine (c :: m))) = _
        rw [List.nil_append, hs, List.drop_succ_cons, i1, hg]; congr 1; omega
      · have hg : gapl false (c :: m) = 0 := by simp [gapl, e1, e2]
        rw [hg]; exact ⟨rfl, hg⟩
/-- each token stands where it says, gaps alone between -/
def Places (l : List UInt8) : Nat → List Lx.Fd → Prop
  | e, [] => e ≤ l.length ∧ gapl false (l.drop e) = (l.drop e).length
  | e, x :: xs => e ≤ x.pos ∧ wr x ≠ [] ∧ x.pos + (wr x).length ≤ l.length ∧ (l.drop x.pos).take (wr x).length = wr x ∧ gapl false ((l.take x.pos).drop e) = x.pos - e ∧ Places l (x.pos + (wr x).length) xs
theorem places_of (l : List UInt8) : ∀ (n e : Nat), l.length - e ≤ n → e ≤ l.length → Lx.Clean e (l.drop e) → Places l e (Lx.founds e (l.drop e))
  | n, e, hn, he, hc => by
    obtain ⟨s1, s2⟩ := founds_skip _ (l.drop e) e (Nat.le_refl _)
    have hgl := gapl_le false (l.drop e)
    have hlen : (l.drop e).length = l.length - e := by simp
    have hgt := gapl_take false (l.drop e) _ (Nat.le_refl _)
    obtain ⟨g, hg⟩ : ∃ g, gapl false (l.drop e) = g := ⟨_, rfl⟩
    rw [hg] at s1 s2 hgl hgt
    rw [List.drop_drop] at s1 s2
    cases hr : l.drop (e + g) with
    | nil =>
      rw [s1, hr, Lx.founds_nil]
      have : l.length ≤ e + g := List.drop_eq_nil_iff.1 hr
      exact ⟨he, by rw [hg]; omega⟩
    | cons c m =>
      rw [hr] at s2
      have hc2 : Lx.Clean (e + g) (c :: m) := by
        intro x hx; refine hc x ?_; rw [s1, hr]; exact hx
      obtain ⟨k0, hc3⟩ := Lx.clean_cons hc2
      have hl := Lx.piece_len k0
      have hlm : m.length + 1 = l.length - (e + g) := by have := congrArg List.length hr; simp at this; omega
      have hcl : Lx.cls c ≠ 1 ∧ Lx.cls c ≠ 2 := by
        refine ⟨fun z => ?_, fun z => ?_⟩
        · simp [gapl, z] at s2
        · simp [gapl, z] at s2
      have hk : (Lx.piece (c :: m)).kind ≠ 0 := by
        have c1 : Lx.cls c = 3 ∨ Lx.cls c = 4 ∨ Lx.cls c = 7 ∨ Lx.cls c = 6 ∨ (Lx.cls c = 0 ∨ Lx.cls c = 5) := by have := Lx.cls_le c; omega
        rcases c1 with z | z | z | z | z
        · simp [Lx.piece, z]
        · simp [Lx.piece, z]
        · cases hs : Lx.str m with
          | none => simp [Lx.piece, z, hs] at k0
          | some r => simp [Lx.piece, z, hs]
        · simp [Lx.piece, z]
        · rcases z with z | z <;> simp [Lx.piece, z] at k0
      obtain ⟨hw, _, _⟩ := wr_piece (e + g) k0 hk
      obtain ⟨hv, hv2⟩ := valid_piece (e + g) k0 hk
      rw [s1, hr, Lx.founds_ok _ k0]
      unfold Lx.tokOf
      rw [if_neg hk]
      have hdd : (c :: m).drop (Lx.piece (c :: m)).len = l.drop (e + g + (Lx.piece (c :: m)).len) := by rw [← hr, List.drop_drop]
      cases n with
      | zero => omega
      | succ n =>
        have ih := places_of l n (e + g + (Lx.piece (c :: m)).len) (by omega) (by omega) (by rw [← hdd]; exact hc3)
        rw [hdd]
        refine ⟨by show e ≤ e + g; omega, hv.2.2.1, by rw [hv2]; show e + g + _ ≤ _; omega, ?_, ?_, ?_⟩
        · show (l.drop (e + g)).take _ = _
          rw [hv2, hr, hw]
        · show gapl false ((l.take (e + g)).drop e) = e + g - e
          rw [List.drop_take, show e + g - e = g by omega]; exact hgt
        · rw [hv2]; exact ih
set_option maxHeartbeats 2000000 in
theorem places_walk (s : ByteArray) (hs : s.size ≤ 3000) (xs : List Lx.Fd) (hx : xs.length ≤ 3000) : ∀ (d k i e : Nat), xs.length - i = d → i ≤ xs.length → d + 20000 < k → Places s.data.toList e (xs.drop i) →
    planispherelaw08_LexerPlaces.l0 k s true (xs.map toS) 0 (e : Int) (i : Int) = some true
  | 0, k, i, e, hd, hi, hk, hp => by
    obtain ⟨k, rfl⟩ : ∃ m, k = m + 1 := ⟨k - 1, by omega⟩
    rw [List.drop_eq_nil_of_le (by omega)] at hp
    obtain ⟨h1, h2⟩ := hp
    have hsl : s.data.toList.length = s.size := by simp
    have hel : (s.extract e s.size).data.toList = s.data.toList.drop e := by rw [ext_list, List.take_of_length_le (by omega)]
    have hes : (s.extract e s.size).size ≤ 3000 := by rw [size_list, hel]; simp; omega
    have hg := gaps_sem (s.extract e s.size) (by omega) k (by omega)
    rw [hel, h2, beq_self_eq_true] at hg
    simp only [planispherelaw08_LexerPlaces.l0]
    rw [if_neg (by rw [List.length_map]; omega)]
    simp only [if_true]
    rw [if_pos (by omega), if_pos (by omega)]
    simp only [Int.toNat_natCast, hg, Option.bind_some]
  | d + 1, k, i, e, hd, hi, hk, hp => by
    obtain ⟨k, rfl⟩ : ∃ m, k = m + 1 := ⟨k - 1, by omega⟩
    obtain ⟨x, hxi⟩ : ∃ x, xs[i]? = some x := ⟨xs[i], List.getElem?_eq_getElem (by omega)⟩
    have hdc : xs.drop i = x :: xs.drop (i + 1) := by
      obtain ⟨h1, h2⟩ := List.getElem?_eq_some_iff.1 hxi
      rw [← h2]; exact List.drop_eq_getElem_cons h1
    rw [hdc] at hp
    obtain ⟨p1, p2, p3, p4, p5, p6⟩ := hp
    have hsl : s.data.toList.length = s.size := by simp
    have ih := places_walk s hs xs hx d k (i + 1) (x.pos + (wr x).length) (by omega) (by omega) (by omega) p6
    have hw0 : 0 < (wr x).length := by rw [List.length_pos_iff]; exact p2
    have ht := text_le_wr x
    obtain ⟨w, hw⟩ : ∃ w, (wr x).length = w := ⟨_, rfl⟩
    obtain ⟨z, hz⟩ : ∃ z, s.size = z := ⟨_, rfl⟩
    rw [hsl] at p3
    rw [hw] at hw0 p3 ht
    rw [hz] at p3 hs
    obtain ⟨q, hq0⟩ : ∃ q, x.pos = q := ⟨_, rfl⟩
    rw [hq0] at p1 p3
    have hel : (s.extract e x.pos).data.toList = (s.data.toList.take x.pos).drop e := ext_list s e x.pos
    have hle : ((s.data.toList.take x.pos).drop e).length = x.pos - e := by
      rw [List.length_drop, List.length_take, hsl, hz, hq0]; clear hel; omega
    have hes : (s.extract e x.pos).size = q - e := by rw [size_list, hel, hle, hq0]
    have hg := gaps_sem (s.extract e x.pos) (by rw [hes]; clear hel hes hle; omega) k (by rw [hes]; clear hel hes hle; omega)
    rw [hel, p5, hle, beq_self_eq_true] at hg
    have hwb : (⟨(wr x).toArray⟩ : ByteArray).size = w := by rw [← hw]; show (wr x).toArray.size = _; simp
    have hext : (s.extract x.pos (x.pos + (wr x).length)).toList = (⟨(wr x).toArray⟩ : ByteArray).toList := by
      rw [ByteArray.toList_eq, ByteArray.toList_eq, ext_list, List.drop_take, Nat.add_sub_cancel_left, p4]
    have n1 : ¬ ((q : Int) < (e : Int)) := by clear hel hes hle hg hwb hext ih; omega
    have n2 : ¬ ((w : Int) = 0) := by clear hel hes hle hg hwb hext ih; omega
    have n3 : ¬ (((q + w : Nat) : Int) > (z : Int)) := by clear hel hes hle hg hwb hext ih; omega
    have n4 : 0 ≤ (q : Int) := by clear hel hes hle hg hwb hext ih; omega
    have n5 : (q : Int) ≤ ((q + w : Nat) : Int) := by clear hel hes hle hg hwb hext ih; omega
    have n6 : ((q + w : Nat) : Int) ≤ (z : Int) := by clear hel hes hle hg hwb hext ih; omega
    have n7 : 0 ≤ (e : Int) := by clear hel hes hle hg hwb hext ih; omega
    have n8 : (e : Int) ≤ (q : Int) := by clear hel hes hle hg hwb hext ih; omega
    have n9 : (q : Int) ≤ (z : Int) := by clear hel hes hle hg hwb hext ih; omega
    have n10 : i ≤ 281474976710656 := by clear hel hes hle hg hwb hext ih; omega
    have n11 : i < xs.length := by clear hel hes hle hg hwb hext ih; omega
    have hwp : wrap64 ((q : Int) + (w : Int)) = ((q + w : Nat) : Int) := by clear hel hes hle hg hwb hext ih; unfold wrap64; omega
    have n12 : x.text.length ≤ 1099511627776 := Nat.le_trans (Nat.le_trans ht (Nat.le_trans (Nat.le_add_left w q) (Nat.le_trans p3 hs))) (by decide)
    have wi := wn i n10
    rw [hq0, hw] at ih hext
    rw [hq0] at hg
    have hf2 : (toS x).f2 = (q : Int) := by rw [← hq0]; rfl
    have main : ∀ (t : ByteArray), t = ⟨(wr x).toArray⟩ → (if (q : Int) < (e : Int) then (some false) else (if (t.size : Int) = 0 then (some false) else (if (wrap64 ((q : Int) + (t.size : Int))) > (z : Int) then (some false) else (if 0 ≤ (q : Int) then (if (q : Int) ≤ (wrap64 ((q : Int) + (t.size : Int))) then (if (wrap64 ((q : Int) + (t.size : Int))) ≤ (z : Int) then (if (s.extract ((q : Int)).toNat ((wrap64 ((q : Int) + (t.size : Int))) : Int).toNat).toList = t.toList then (if 0 ≤ (e : Int) then (if (e : Int) ≤ (q : Int) then (if (q : Int) ≤ (z : Int) then ((planisphereref08_Gaps.f k (s.extract (e : Int).toNat ((q : Int)).toNat)).bind fun t189 => (if t189 = true then (planispherelaw08_LexerPlaces.l0 k s true (xs.map toS) 0 (wrap64 ((q : Int) + (t.size : Int))) (wrap64 ((i : Int) + 1))) else (some false))) else (none)) else (none)) else (none)) else (some false)) else (none)) else (none)) else (none))))) = some true := by
      rintro t rfl
      rw [hwb, hwp, if_neg n1, if_neg n2, if_neg n3, if_pos n4, if_pos n5, if_pos n6]
      simp only [Int.toNat_natCast]
      rw [if_pos hext, if_pos n7, if_pos n8, if_pos n9, hg]
      simp only [Option.bind_some, if_true]
      rw [wi]
      exact ih
    simp only [planispherelaw08_LexerPlaces.l0]
    rw [if_pos (by rw [List.length_map]; exact Int.ofNat_lt.2 n11), if_pos (Int.natCast_nonneg i), rd_map xs i x hxi, hf2, hz]
    by_cases e3 : x.kind = 3
    · have hq : lexer_Quote.f (toS x).f1 = some ⟨(wr x).toArray⟩ := by
        have : (wr x) = Lx.quote x.text := by unfold wr; rw [if_pos e3]
        unfold lexer_Quote.f
        rw [if_pos (by show x.text.toArray.size ≤ _; rw [List.size_toArray]; exact n12), this]; rfl
      rw [if_pos (by simp [toS, e3]), hq]
      simp only [Option.bind_some]
      exact main _ rfl
    · rw [if_neg (by simp [toS]; omega)]
      refine main _ ?_
      have : (wr x) = x.text := by unfold wr; rw [if_neg e3]
      rw [this]; rfl
theorem err_place : ∀ (n : Nat) (r : List UInt8) (k : Nat) (pre : List Lx.Fd) (x : Lx.Fd), r.length ≤ n → Lx.founds k r = pre ++ [x] → x.pos < k + r.length
  | _, [], k, pre, x, _, h => by simp [Lx.founds_nil] at h
  | 0, c :: m, _, _, _, h, _ => by simp at h
  | n + 1, c :: m, k, pre, x, hn, h => by
    by_cases he : (Lx.piece (c :: m)).err = 0
    · have hl := Lx.piece_len he
      rw [Lx.founds_ok k he] at h
      have hd : ((c :: m).drop (Lx.piece (c :: m)).len).length = m.length + 1 - (Lx.piece (c :: m)).len := by simp
      rcases List.eq_nil_or_concat (Lx.founds (k + (Lx.piece (c :: m)).len) ((c :: m).drop (Lx.piece (c :: m)).len)) with e | ⟨ys, y, e⟩
      · rw [e, List.append_nil] at h
        unfold Lx.tokOf at h
        by_cases hk : (Lx.piece (c :: m)).kind = 0
        · rw [if_pos hk] at h; simp at h
        · rw [if_neg hk] at h
          cases pre with
          | nil => simp at h; rw [← h]; show k < _; simp
          | cons z pre => simp at h
      · have ih := err_place n _ _ ys y (by simp at hn ⊢; omega) (e.trans (List.concat_eq_append ..))
        rw [e, List.concat_eq_append, ← List.append_assoc] at h
        have := (List.append_inj' h rfl).2
        simp at this
        rw [← this, List.length_cons]; omega
    · rw [Lx.founds_bad k he] at h
      cases pre with
      | nil => simp at h; rw [← h]; show k < _; simp
      | cons z pre => simp at h
theorem LexerPlaces : planispherelaw08_LexerPlaces.Pure := by
  intro a0 h0
  refine ⟨100000, ?_⟩
  unfold planispherelaw08_LexerPlaces.f
  rw [head_true 99998]
  simp only [Option.bind_some]
  by_cases c0 : (a0.size : Int) > 3000
  · rw [if_pos c0]
  · rw [if_neg c0]
    have hsz : a0.data.toList.length = a0.size := by simp
    rcases Lx.lexS_short (l := a0.data.toList) (by omega) with ⟨h1, h2⟩ | ⟨pre, x, h1, h2, h3, h4⟩
    · have v3 := Lx.founds_length 0 a0.data.toList
      have hp := places_of a0.data.toList _ 0 (Nat.le_refl _) (by omega) (by rw [List.drop_zero]; exact h1)
      rw [List.drop_zero] at hp
      have e1 : lexer_Lex.f a0 = some ((Lx.founds 0 a0.data.toList).map toS, 0, 0) := by unfold lexer_Lex.f lexR; rw [h2]; rfl
      rw [e1]
      simp only [Option.bind_some, if_true]
      exact places_walk a0 (by omega) _ (by omega) _ 100000 0 0 rfl (by omega) (by omega) (by rw [List.drop_zero]; exact hp)
    · obtain ⟨i1, i2⟩ : x.pos < a0.data.toList.length ∧ True := ⟨by
        have := err_place _ _ _ _ _ (Nat.le_refl _) h1
        omega, trivial⟩
      have e1 : lexer_Lex.f a0 = some ([], (x.err : Int), (x.pos : Int)) := by unfold lexer_Lex.f lexR; rw [h4]; rfl
      rw [e1]
      simp only [Option.bind_some]
      rw [if_neg (by omega)]
      simp only [if_true]
      rw [if_pos (by rfl), if_pos (by omega), show decide ((x.pos : Int) < (a0.size : Int)) = true from decide_eq_true (by omega)]
end Go.Proofs.Ytflocikkhpjicaa.Pure
