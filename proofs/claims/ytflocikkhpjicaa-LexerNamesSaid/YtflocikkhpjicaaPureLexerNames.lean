/- A text is a name exactly if it is one token of that kind; a name, a symbol and a number, one after the other, are three tokens. -/
import Derived.Test.YtflocikkhpjicaaLexHead
import Derived.Test.YtflocikkhpjicaaLexRef
import Derived.Test.YtflocikkhpjicaaPx19
namespace Go.Proofs.Ytflocikkhpjicaa.Pure
open Go.RowKit Go.Proofs.Ytflocikkhpjicaa.P Go.Proofs.YtflocikkhpjicaaW.PrintWords Go.Proofs.YtflocikkhpjicaaW.PrintLast
open Go.Proofs.Ytflocikkhpjicaa
set_option linter.unusedVariables false
/-- a name, something that is no word behind it -/
theorem name_piece {l t : List UInt8} (h : Lx.name l = true) (ht : ∀ d, t.head? = some d → Lx.word d = false) : Lx.piece (l ++ t) = ⟨1, l, 0, l.length⟩ := by
  cases l with
  | nil => simp [Lx.name] at h
  | cons c m =>
    simp only [Lx.name, Bool.and_eq_true, decide_eq_true_eq, List.all_eq_true] at h
    obtain ⟨⟨h1, h2⟩, h3⟩ := h
    have e := (Lx.cls_letter c).1 h1
    have hw : ∀ d ∈ c :: m, Lx.word d = true := by
      intro d hd
      rcases List.mem_cons.1 hd with rfl | hd
      · exact (Lx.cls_word d).2 (.inl e)
      · exact h2 d hd
    have hs := Lx.span_append_stop (p := Lx.word) (c :: m) t ht hw
    have ht' : ((c :: m) ++ t).take (c :: m).length = c :: m := List.take_left' rfl
    have hl : (c :: m).length ≤ 24 := by simpa using h3
    obtain ⟨q, hq⟩ : ∃ q, (c :: m) ++ t = c :: q := ⟨_, rfl⟩
    obtain ⟨n, hn⟩ : ∃ n, (c :: m).length = n := ⟨_, rfl⟩
    rw [hq] at hs ht' ⊢
    rw [hn] at hs ht' hl ⊢
    simp only [Lx.piece, e, hs, ht']
    rw [if_neg (by decide), if_neg (by decide), if_pos trivial, if_neg (by omega)]
theorem digits_piece {l : List UInt8} (h0 : l ≠ []) (h1 : ∀ c ∈ l, Lx.digit c = true) (h2 : l.length ≤ 7) : Lx.piece l = ⟨2, l, 0, l.length⟩ := by
  cases l with
  | nil => exact absurd rfl h0
  | cons c m =>
    have e := (Lx.cls_digit c).1 (h1 c List.mem_cons_self)
    have hs := Lx.span_append_stop (p := Lx.digit) (c :: m) [] (by simp) h1
    rw [List.append_nil] at hs
    have hw : Lx.wordAt (c :: m) (c :: m).length = false := by unfold Lx.wordAt; rw [List.getElem?_eq_none (Nat.le_refl _)]
    have ht : (c :: m).take (c :: m).length = c :: m := List.take_length
    obtain ⟨n, hn⟩ : ∃ n, (c :: m).length = n := ⟨_, rfl⟩
    rw [hn] at hs ht h2 hw ⊢
    simp only [Lx.piece, e, hs, ht, hw]
    rw [if_neg (by decide), if_neg (by decide), if_neg (by decide), if_pos trivial, if_neg (by simp; omega)]
theorem name_founds {l : List UInt8} (h : Lx.name l = true) (t : List UInt8) (ht : ∀ d, t.head? = some d → Lx.word d = false) (k : Nat) : Lx.founds k (l ++ t) = ⟨1, l, k, 0⟩ :: Lx.founds (k + l.length) t := by
  have hp := name_piece h ht
  have hd : (l ++ t).drop l.length = t := List.drop_left' rfl
  obtain ⟨c, q, hq⟩ : ∃ c q, l ++ t = c :: q := by
    cases l with
    | nil => simp [Lx.name] at h
    | cons c m => exact ⟨c, m ++ t, rfl⟩
  rw [hq] at hp hd ⊢
  rw [Lx.founds_ok k (by rw [hp]), hp, hd]; rfl
/-- one token, a name that is the whole text -/
theorem one_name {l : List UInt8} (h : Lx.founds 0 l = [⟨1, l, 0, 0⟩]) : Lx.name l = true := by
  cases l with
  | nil => simp [Lx.founds_nil] at h
  | cons c m =>
    by_cases he : (Lx.piece (c :: m)).err = 0
    · have hl := Lx.piece_len he
      rw [Lx.founds_ok 0 he] at h
      unfold Lx.tokOf at h
      by_cases hk : (Lx.piece (c :: m)).kind = 0
      · rw [if_pos hk, List.nil_append] at h
        rw [Lx.founds_shift (Lx.piece (c :: m)).len 0] at h
        cases hf : Lx.founds 0 ((c :: m).drop (Lx.piece (c :: m)).len) with
        | nil => rw [hf] at h; cases h
        | cons y ys =>
          rw [hf] at h
          have h1 := (List.cons.inj h).1
          have : y.pos + (Lx.piece (c :: m)).len = 0 := congrArg Lx.Fd.pos h1
          omega
      · rw [if_neg hk] at h
        have h1 := (List.cons.inj h).1
        have hkind : (Lx.piece (c :: m)).kind = 1 := congrArg Lx.Fd.kind h1
        have htext : (Lx.piece (c :: m)).text = c :: m := congrArg Lx.Fd.text h1
        have c1 : Lx.cls c = 1 ∨ Lx.cls c = 2 ∨ Lx.cls c = 3 ∨ Lx.cls c = 4 ∨ Lx.cls c = 7 ∨ Lx.cls c = 6 ∨ (Lx.cls c = 0 ∨ Lx.cls c = 5) := by have := Lx.cls_le c; omega
        rcases c1 with e | e | e | e | e | e | e
        · simp [Lx.piece, e] at hkind
        · simp [Lx.piece, e] at hkind
        · have hp : Lx.piece (c :: m) = ⟨1, (c :: m).take (Lx.span Lx.word (c :: m)), if Lx.span Lx.word (c :: m) > 24 then 2 else 0, Lx.span Lx.word (c :: m)⟩ := by simp [Lx.piece, e]
          rw [hp] at he htext
          simp only at he htext
          have h24 : ¬ Lx.span Lx.word (c :: m) > 24 := by intro z; rw [if_pos z] at he; cases he
          have hall := List.all_takeWhile (p := Lx.word) (l := c :: m)
          rw [← Lx.span_take, htext, List.all_eq_true] at hall
          have hlen := congrArg List.length htext
          rw [List.length_take] at hlen
          simp only [Lx.name, Bool.and_eq_true, decide_eq_true_eq, List.all_eq_true]
          refine ⟨⟨(Lx.cls_letter c).2 e, fun d hd => hall d (List.mem_cons_of_mem _ hd)⟩, ?_⟩
          simp only [List.length_cons] at hlen
          omega
        · simp [Lx.piece, e] at hkind
        · cases hs : Lx.str m with
          | none => simp [Lx.piece, e, hs] at hkind
          | some r => simp [Lx.piece, e, hs] at hkind
        · simp [Lx.piece, e] at hkind
        · rcases e with e | e <;> simp [Lx.piece, e] at hkind
    · rw [Lx.founds_bad 0 he] at h
      have h1 := (List.cons.inj h).1
      exact absurd (congrArg Lx.Fd.err h1) he
/-! ### the number -/
def Digs (d : ByteArray) (n : Nat) : Prop := d.data.toList ≠ [] ∧ (∀ c ∈ d.data.toList, Lx.digit c = true) ∧ d.data.toList.length ≤ n
theorem ext_one (s : ByteArray) (i : Int) (h0 : 0 ≤ i) (h : i < (s.size : Int)) (hs : s.size ≤ 1000) : ∃ c ∈ s.data.toList, s.extract i.toNat (wrap64 (i + 1)).toNat = ⟨#[c]⟩ := by
  have hw : wrap64 (i + 1) = i + 1 := by unfold wrap64; omega
  obtain ⟨n, rfl⟩ : ∃ n : Nat, i = (n : Int) := ⟨i.toNat, by omega⟩
  obtain ⟨c, h1, h2⟩ := byte_nat s n (by omega)
  refine ⟨c, List.mem_of_getElem? h1, ?_⟩
  apply ba_ext
  rw [hw, show ((n : Int) + 1).toNat = n + 1 by omega, Int.toNat_natCast, ext_list, List.take_add_one, h1, List.drop_left' (by
    rw [List.length_take, ← size_list]; omega)]
  rfl
theorem dec_one (k : Nat) (n : Int) (h0 : 0 ≤ n) (h : n < 10) : ∃ d, planisphereref08_Decimal.f (k + 1) n = some d ∧ Digs d 1 := by
  obtain ⟨c, c1, c2⟩ := ext_one ⟨#[48, 49, 50, 51, 52, 53, 54, 55, 56, 57]⟩ n h0 h (by decide)
  have hw : wrap64 (n + 1) = n + 1 := by unfold wrap64; omega
  refine ⟨⟨#[c]⟩, ?_, by simp, ?_, by simp⟩
  · unfold planisphereref08_Decimal.f
    rw [if_pos h, if_pos h0, c2, hw, if_pos (by omega), if_pos (by omega)]
  · intro d hd
    have : d = c := by simpa using hd
    rw [this]
    have hall : ∀ c ∈ ([48, 49, 50, 51, 52, 53, 54, 55, 56, 57] : List UInt8), Lx.digit c = true := by decide
    exact hall c c1
theorem dec_sem : ∀ (j k : Nat) (n : Int), 1 ≤ j → j ≤ 7 → j < k → 0 ≤ n → n ≤ 9999999 → n < 10 ^ j → ∃ d, planisphereref08_Decimal.f k n = some d ∧ Digs d j
  | 0, _, _, h, _, _, _, _, _ => by omega
  | j + 1, k, n, _, hj, hk, h0, hn, h1 => by
    obtain ⟨k, rfl⟩ : ∃ m, k = m + 1 := ⟨k - 1, by omega⟩
    by_cases h10 : n < 10
    · obtain ⟨d, e, d1, d2, d3⟩ := dec_one k n h0 h10
      exact ⟨d, e, d1, d2, by omega⟩
    · have hj1 : 1 ≤ j := by
        rcases Nat.eq_zero_or_pos j with e | e
        · subst e; simp at h1; omega
        · exact e
      have hp : (10 : Int) ^ (j + 1) = 10 * 10 ^ j := by rw [Int.pow_succ, Int.mul_comm]
      rw [hp] at h1
      have e1 : wrap64 (Int.tdiv n 10) = n / 10 := by rw [Int.tdiv_eq_ediv_of_nonneg h0]; unfold wrap64; omega
      have e2 : Int.tmod n 10 = n % 10 := Int.tmod_eq_emod_of_nonneg h0
      obtain ⟨p, hp2⟩ : ∃ p : Int, (10 : Int) ^ j = p := ⟨_, rfl⟩
      rw [hp2] at h1
      obtain ⟨a, a1, a2, a3, a4⟩ := dec_sem j k (n / 10) hj1 (by omega) (by omega) (by omega) (by omega) (by rw [hp2]; omega)
      obtain ⟨k, rfl⟩ : ∃ m, k = m + 1 := ⟨k - 1, by omega⟩
      obtain ⟨b, b1, b2, b3, b4⟩ := dec_one k (n % 10) (by omega) (by omega)
      refine ⟨a ++ b, ?_, ?_, ?_, ?_⟩
      · have hf : ∀ q, planisphereref08_Decimal.f (q + 1) n = if n < 10 then _ else _ := fun q => rfl
        rw [hf, if_neg h10, e1, a1, e2, b1]
        simp only [Option.bind_some]
        rw [if_pos (by rw [size_list, size_list]; omega)]
      · rw [append_list]; simp [a2]
      · intro c hc
        rw [append_list] at hc
        rcases List.mem_append.1 hc with hc | hc
        · exact a3 c hc
        · exact b3 c hc
      · rw [append_list, List.length_append]; omega
theorem sym_sem (i : Int) (h0 : 0 ≤ i) (h : i < 15) : ∃ c : UInt8, Lx.cls c = 6 ∧ (⟨#[61, 59, 60, 62, 40, 41, 123, 125, 91, 93, 44, 46, 58, 47, 45]⟩ : ByteArray).extract i.toNat (wrap64 (i + 1)).toNat = ⟨#[c]⟩ := by
  obtain ⟨c, c1, c2⟩ := ext_one ⟨#[61, 59, 60, 62, 40, 41, 123, 125, 91, 93, 44, 46, 58, 47, 45]⟩ i h0 h (by decide)
  have hall : ∀ c ∈ ([61, 59, 60, 62, 40, 41, 123, 125, 91, 93, 44, 46, 58, 47, 45] : List UInt8), Lx.cls c = 6 := by decide
  exact ⟨c, hall c c1, c2⟩
theorem names_j0 (a0 : ByteArray) (a1 a2 : Int) (hs : a0.size ≤ 3000) (u1 : 0 ≤ a1) (u2 : 0 ≤ a2) (u3 : a2 < 256) : planispherelaw08_LexerNames.j0 100 a0 a1 a2 true (Lx.name a0.data.toList) = some true := by
  obtain ⟨l, hl⟩ : ∃ l, a0.data.toList = l := ⟨_, rfl⟩
  have hN : lexer_Name.f a0 = some (Lx.name l) := by
    unfold lexer_Name.f
    rw [if_pos (by omega), hl]
  rw [hl]
  simp only [planispherelaw08_LexerNames.j0]
  rw [hN]
  simp only [Option.bind_some, bne_self_eq_false]
  rw [if_neg (by decide)]
  cases hn : Lx.name l with
  | false => rfl
  | true =>
    rw [if_pos rfl]
    have ht : Int.tmod a1 10000000 = a1 % 10000000 := Int.tmod_eq_emod_of_nonneg u1
    have hw : wrap64 (Int.tmod a1 10000000) = a1 % 10000000 := by rw [ht]; unfold wrap64; omega
    have h7 : a1 % 10000000 < (10 : Int) ^ 7 := by rw [show (10 : Int) ^ 7 = 10000000 by decide]; omega
    obtain ⟨d, e, d1, d2, d3⟩ := dec_sem 7 99 (a1 % 10000000) (by omega) (by omega) (by omega) (by omega) (by omega) h7
    rw [hw, e]
    simp only [Option.bind_some]
    have hw2 : wrap64 a2 = a2 := by unfold wrap64; omega
    have ht2 : Int.tmod (wrap64 a2) 15 = a2 % 15 := by rw [hw2]; exact Int.tmod_eq_emod_of_nonneg u2
    rw [ht2]
    obtain ⟨c, c1, c2⟩ := sym_sem (a2 % 15) (by omega) (by omega)
    have hw3 : wrap64 (a2 % 15 + 1) = a2 % 15 + 1 := by unfold wrap64; omega
    rw [c2, hw3, if_pos (by omega), if_pos (by omega), if_pos (by omega)]
    obtain ⟨ds, hds⟩ : ∃ ds, d.data.toList = ds := ⟨_, rfl⟩
    rw [hds] at d1 d2 d3
    have hc1 : (⟨#[c]⟩ : ByteArray).data.toList = [c] := rfl
    have hsz : a0.size = l.length := by rw [size_list, hl]
    have hcz : (⟨#[c]⟩ : ByteArray).size = 1 := rfl
    have hdz : d.size = ds.length := by rw [size_list, hds]
    rw [ByteArray.size_append, hcz, hdz]
    rw [if_pos (by omega), if_pos (by omega)]
    have hcat : ((a0 ++ (⟨#[c]⟩ : ByteArray)) ++ d).data.toList = l ++ c :: ds := by rw [append_list, append_list, hl, hc1, hds]; simp
    have hcw : Lx.word c = false := by
      have := (Lx.cls_word c)
      cases hx : Lx.word c with
      | false => rfl
      | true => have := this.1 hx; omega
    have hp1 : Lx.piece (c :: ds) = ⟨4, [c], 0, 1⟩ := by simp [Lx.piece, c1]
    have hf1 : Lx.founds 0 (l ++ c :: ds) = [⟨1, l, 0, 0⟩, ⟨4, [c], l.length, 0⟩, ⟨2, ds, l.length + 1, 0⟩] := by
      rw [name_founds hn (c :: ds) (fun d hd => by cases hd; exact hcw) 0, Nat.zero_add, Lx.founds_ok _ (by rw [hp1]), hp1]
      show _ :: ([_] ++ Lx.founds (l.length + 1) ds) = _
      have hp2 := digits_piece d1 d2 d3
      cases hdd : ds with
      | nil => exact absurd hdd d1
      | cons x xs =>
        rw [hdd] at hp2
        rw [Lx.founds_ok _ (by rw [hp2]), hp2]
        simp only [List.drop_length, Lx.founds_nil]
        rfl
    have hL : lexer_Lex.f ((a0 ++ (⟨#[c]⟩ : ByteArray)) ++ d) = some ([toS ⟨1, l, 0, 0⟩, toS ⟨4, [c], l.length, 0⟩, toS ⟨2, ds, l.length + 1, 0⟩], 0, 0) := by
      unfold lexer_Lex.f lexR
      rw [hcat, Lx.lexS_clean (by rw [List.length_append, List.length_cons]; omega) (by rw [hf1]; simp) (by intro y hy; rw [hf1] at hy; simp at hy; rcases hy with rfl | rfl | rfl <;> rfl), hf1]; rfl
    rw [hL]
    simp only [Option.bind_some]
    rw [if_pos trivial, if_pos (by rfl), if_pos trivial, if_pos (by show (0 : Int) < 3; decide)]
    have r0 : ∀ (x y z : S31), rd_T31 [x, y, z] 0 = x := fun _ _ _ => rfl
    have r1 : ∀ (x y z : S31), rd_T31 [x, y, z] 1 = y := fun _ _ _ => rfl
    have r2 : ∀ (x y z : S31), rd_T31 [x, y, z] 2 = z := fun _ _ _ => rfl
    have hwl : wrap64 ((l.length : Int) + 1) = ((l.length + 1 : Nat) : Int) := wn l.length (by omega)
    rw [r0, r1, r2, hsz, hwl]
    have g0 : ((toS ⟨1, l, 0, 0⟩).f0 == 1 && ((toS ⟨1, l, 0, 0⟩).f1.toList == a0.toList && (toS ⟨1, l, 0, 0⟩).f2 == 0)) = true := by
      rw [ByteArray.toList_eq, ByteArray.toList_eq, hl]; simp [toS]
    have g1 : ((toS ⟨4, [c], l.length, 0⟩).f0 == 4 && ((toS ⟨4, [c], l.length, 0⟩).f1.toList == (⟨#[c]⟩ : ByteArray).toList && (toS ⟨4, [c], l.length, 0⟩).f2 == (l.length : Int))) = true := by
      rw [ByteArray.toList_eq, ByteArray.toList_eq]; simp [toS]
    have g2 : ((toS ⟨2, ds, l.length + 1, 0⟩).f0 == 2 && ((toS ⟨2, ds, l.length + 1, 0⟩).f1.toList == d.toList && (toS ⟨2, ds, l.length + 1, 0⟩).f2 == ((l.length + 1 : Nat) : Int))) = true := by
      rw [ByteArray.toList_eq, ByteArray.toList_eq, hds]; simp [toS]
    rw [if_pos g0, if_pos (by show (1 : Int) < 3; decide), if_pos g1, if_pos (by show (2 : Int) < 3; decide), g2]
theorem LexerNames : planispherelaw08_LexerNames.Pure := by
  intro a0 a1 a2 h0 h1 h2
  refine ⟨100, ?_⟩
  have u1 : 0 ≤ a1 := by simp [Lit.wf, IntKind.min, IntKind.signed] at h1; omega
  have u2 : 0 ≤ a2 ∧ a2 < 256 := by simp [Lit.wf, IntKind.min, IntKind.max, IntKind.signed, IntKind.bits] at h2; omega
  unfold planispherelaw08_LexerNames.f
  rw [head_true 98]
  simp only [Option.bind_some]
  by_cases c0 : (a0.size : Int) > 3000
  · rw [if_pos c0]
  · rw [if_neg c0]
    have hsz : a0.data.toList.length = a0.size := by simp
    have hj := names_j0 a0 a1 a2 (by omega) u1 u2.1 u2.2
    rcases Lx.lexS_short (l := a0.data.toList) (by omega) with ⟨h1, h2⟩ | ⟨pre, x, h1, h2, h3, h4⟩
    · have e1 : lexer_Lex.f a0 = some ((Lx.founds 0 a0.data.toList).map toS, 0, 0) := by unfold lexer_Lex.f lexR; rw [h2]; rfl
      rw [e1]
      simp only [Option.bind_some]
      rw [if_pos trivial]
      by_cases c1 : (Lx.founds 0 a0.data.toList).length = 1
      · obtain ⟨x, hx⟩ := List.length_eq_one_iff.1 c1
        have hxe := h1 x (by rw [hx]; exact List.mem_singleton.2 rfl)
        rw [hx]
        rw [if_pos (by rfl), if_pos (by show (0 : Int) < 1; decide)]
        have r0 : rd_T31 ([x].map toS) 0 = toS x := rfl
        rw [r0]
        have hb : ((toS x).f0 == 1 && ((toS x).f1.toList == a0.toList && (toS x).f2 == 0)) = Lx.name a0.data.toList := by
          rw [Bool.eq_iff_iff]
          refine ⟨fun h => ?_, fun h => ?_⟩
          · rw [ByteArray.toList_eq, ByteArray.toList_eq] at h
            simp only [Bool.and_eq_true, beq_iff_eq] at h
            obtain ⟨q1, q2, q3⟩ := h
            apply one_name
            obtain ⟨xk, xt, xp, xe⟩ := x
            have z1 : xk = 1 := by have z : (xk : Int) = 1 := q1
                                   omega
            have z2 : xt = a0.data.toList := q2
            have z3 : xp = 0 := by have z : (xp : Int) = 0 := q3
                                   omega
            have z4 : xe = 0 := hxe
            rw [hx, z1, z2, z3, z4]
          · have := name_founds h [] (by simp) 0
            rw [List.append_nil, Lx.founds_nil, hx] at this
            have := (List.cons.inj this).1
            rw [this, ByteArray.toList_eq, ByteArray.toList_eq]
            simp [toS]
        rw [hb]; exact hj
      · rw [if_neg (by rw [List.length_map]; omega)]
        have hb : false = Lx.name a0.data.toList := by
          cases hn : Lx.name a0.data.toList with
          | false => rfl
          | true =>
            have := name_founds hn [] (by simp) 0
            rw [List.append_nil, Lx.founds_nil] at this
            rw [this] at c1; exact absurd rfl c1
        rw [hb]; exact hj
    · have e1 : lexer_Lex.f a0 = some ([], (x.err : Int), (x.pos : Int)) := by unfold lexer_Lex.f lexR; rw [h4]; rfl
      rw [e1]
      simp only [Option.bind_some]
      rw [if_neg (by omega)]
      have hb : false = Lx.name a0.data.toList := by
        cases hn : Lx.name a0.data.toList with
        | false => rfl
        | true =>
          have := name_founds hn [] (by simp) 0
          rw [List.append_nil, Lx.founds_nil, h1] at this
          cases pre with
          | nil => have := (List.cons.inj this).1; rw [this] at h3; exact absurd rfl h3
          | cons y ys => have := (List.cons.inj this).2; simp at this
      rw [hb]; exact hj
end Go.Proofs.Ytflocikkhpjicaa.Pure
