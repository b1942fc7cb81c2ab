/- A text without an error, gaps and a line feed before it, after it and after one of its tokens: the same tokens apart from offsets. -/
import Derived.Test.YtflocikkhpjicaaLexHead
import Derived.Test.YtflocikkhpjicaaLexGap
import Derived.Test.YtflocikkhpjicaaLexWr
import Derived.Test.YtflocikkhpjicaaLexSame
import Derived.Test.YtflocikkhpjicaaPx16
namespace Go.Proofs.Ytflocikkhpjicaa.Pure
open Go.RowKit Go.Proofs.Ytflocikkhpjicaa.P Go.Proofs.YtflocikkhpjicaaW.PrintWords Go.Proofs.YtflocikkhpjicaaW.PrintLast
open Go.Proofs.Ytflocikkhpjicaa
set_option linter.unusedVariables false
/-! ### plain words -/
/-- gaps hold nothing -/
theorem founds_gaps {g : List UInt8} (h : gapl false g = g.length) (k : Nat) : Lx.founds k g = [] := by
  obtain ⟨s1, _⟩ := founds_skip _ g k (Nat.le_refl _)
  rw [s1, h, List.drop_eq_nil_of_le (Nat.le_refl _), Lx.founds_nil]
/-- gaps, a line feed, a text -/
theorem founds_gline {g : List UInt8} (h : gapl false g = g.length) (t : List UInt8) (k : Nat) : Lx.founds k (g ++ 10 :: t) = Lx.founds (k + g.length + 1) t := by
  rw [Lx.founds_line _ g t k (Nat.le_refl _) (fun x hx => by rw [founds_gaps h] at hx; cases hx), founds_gaps h, List.nil_append, Lx.founds_10]
/-- a byte that begins gaps is no part of a word -/
theorem gap_head {g : List UInt8} (h : gapl false g = g.length) (t : List UInt8) : ∀ d, (g ++ 10 :: t).head? = some d → Lx.word d = false := by
  intro d hd
  cases g with
  | nil => cases hd; decide
  | cons c m =>
    have hdc : c = d := by simpa using hd
    subst hdc
    have hc : Lx.cls c = 1 ∨ Lx.cls c = 2 := by
      by_cases e1 : Lx.cls c = 1
      · exact .inl e1
      · by_cases e2 : Lx.cls c = 2
        · exact .inr e2
        · simp [gapl, e1, e2] at h
    rw [← Bool.not_eq_true, Lx.cls_word]
    omega
theorem wr_pos {x : Lx.Fd} (h : Valid x) : 1 ≤ (wr x).length := List.length_pos_iff.2 h.2.2.1
/-- cut behind a token -/
theorem cut_at : ∀ (n : Nat) (r : List UInt8) (k : Nat) (x : Lx.Fd), r.length ≤ n → Lx.Clean k r → x ∈ Lx.founds k r →
    x.pos + (wr x).length ≤ k + r.length ∧ k ≤ x.pos ∧ ∃ pre, Lx.founds k r = pre ++ Lx.founds (x.pos + (wr x).length) (r.drop (x.pos + (wr x).length - k)) ∧
      ∀ t, (∀ d, t.head? = some d → Lx.word d = false) → Lx.founds k (r.take (x.pos + (wr x).length - k) ++ t) = pre ++ Lx.founds (x.pos + (wr x).length) t
  | _, [], k, x, _, _, hx => by simp [Lx.founds_nil] at hx
  | 0, c :: m, _, _, h, _, _ => by simp at h
  | n + 1, c :: m, k, x, h, hc, hx => by
    obtain ⟨he, hc'⟩ := Lx.clean_cons hc
    have hl := Lx.piece_len he
    have hE := Lx.piece_ends he
    have hd : ((c :: m).drop (Lx.piece (c :: m)).len).length = m.length + 1 - (Lx.piece (c :: m)).len := by simp
    have hcm : (c :: m).length = m.length + 1 := rfl
    rw [hcm] at h ⊢
    have hfo := Lx.founds_ok k he
    rw [hfo] at hx
    rcases List.mem_append.1 hx with hx | hx
    · unfold Lx.tokOf at hx
      by_cases hk : (Lx.piece (c :: m)).kind = 0
      · rw [if_pos hk] at hx; cases hx
      · rw [if_neg hk] at hx
        obtain rfl := List.mem_singleton.1 hx
        obtain ⟨hw, hc2, _⟩ := wr_piece k he hk
        obtain ⟨_, hvl⟩ := valid_piece k he hk
        rw [hvl]
        have ek : k + (Lx.piece (c :: m)).len - k = (Lx.piece (c :: m)).len := by omega
        refine ⟨by show k + _ ≤ _; omega, Nat.le_refl _, Lx.tokOf k (Lx.piece (c :: m)), ?_, fun t ht => ?_⟩
        · show _ = _ ++ Lx.founds (k + _) ((c :: m).drop (k + _ - k))
          rw [ek]; exact hfo
        · show Lx.founds k ((c :: m).take (k + _ - k) ++ t) = _ ++ Lx.founds (k + _) t
          rw [ek]; exact Lx.founds_glue1 k he ⟨fun e => absurd e hc2, fun _ => ht⟩
    · obtain ⟨i0, i1, pre, i2, i3⟩ := cut_at n _ _ x (by rw [hd]; omega) hc' hx
      have hv := (founds_valid _ _ _ (Nat.le_refl _) hc').1 x hx
      have hp := wr_pos hv
      rw [hd] at i0
      generalize hz : (wr x).length = z at *
      generalize hq : x.pos = q at *
      have e1 : q + z - k = (Lx.piece (c :: m)).len + (q + z - (k + (Lx.piece (c :: m)).len)) := by omega
      refine ⟨by omega, by omega, Lx.tokOf k (Lx.piece (c :: m)) ++ pre, ?_, fun t ht => ?_⟩
      · rw [hfo, i2, List.append_assoc, List.drop_drop, e1]
      · have htk : (c :: m).take (q + z - k) = (c :: m).take (Lx.piece (c :: m)).len ++ ((c :: m).drop (Lx.piece (c :: m)).len).take (q + z - (k + (Lx.piece (c :: m)).len)) := by
          rw [e1, List.take_add]
        rw [htk, List.append_assoc, Lx.founds_glue1 k he, i3 t ht, List.append_assoc]
        refine hE.head fun d hd' => ?_
        rw [List.head?_append] at hd'
        cases hx2 : (c :: m).drop (Lx.piece (c :: m)).len with
        | nil =>
          rw [hx2] at hd; simp at hd
          omega
        | cons b bs =>
          rw [hx2] at hd'
          obtain ⟨u, hu⟩ : ∃ u, q + z - (k + (Lx.piece (c :: m)).len) = u + 1 := ⟨q + z - (k + (Lx.piece (c :: m)).len) - 1, by omega⟩
          rw [hu] at hd'
          simpa using hd'
theorem clean_at {k : Nat} {r : List UInt8} (h : Lx.Clean k r) (j : Nat) : Lx.Clean j r := Lx.clean_shift h
theorem founds_at (k j : Nat) (r : List UInt8) : alikes (Lx.founds j r) (Lx.founds (j + k) r) := by
  rw [Lx.founds_shift]; exact alikes_shift k _
theorem alikes_symm : ∀ {xs ys : List Lx.Fd}, alikes xs ys → alikes ys xs
  | [], [], _ => trivial
  | a :: ar, b :: br, h => ⟨⟨h.1.1.symm, h.1.2.symm⟩, alikes_symm h.2⟩
theorem founds_any (k j : Nat) (r : List UInt8) : alikes (Lx.founds j r) (Lx.founds k r) := by
  have h1 := founds_at j 0 r
  have h2 := founds_at k 0 r
  rw [Nat.zero_add] at h1 h2
  exact alikes_trans (alikes_symm h1) h2
/-- the law in plain words: m is 0 or the end of a token -/
theorem gaps_law (l g : List UInt8) (m : Nat) (hg : gapl false g = g.length) (hc : Lx.Clean 0 l) (hm : (m = 0) ∨ ∃ x ∈ Lx.founds 0 l, m = x.pos + (wr x).length) :
    m ≤ l.length ∧ alikes (Lx.founds 0 l) (Lx.founds 0 ((((((g ++ [10]) ++ l.take m) ++ (g ++ [10])) ++ l.drop m) ++ [10]) ++ g)) ∧ Lx.Clean 0 ((((((g ++ [10]) ++ l.take m) ++ (g ++ [10])) ++ l.drop m) ++ [10]) ++ g) := by
  have key : m ≤ l.length ∧ ∃ pre, Lx.founds 0 l = pre ++ Lx.founds m (l.drop m) ∧ ∀ t, (∀ d, t.head? = some d → Lx.word d = false) → Lx.founds 0 (l.take m ++ t) = pre ++ Lx.founds m t := by
    rcases hm with rfl | ⟨x, hx, rfl⟩
    · exact ⟨by omega, [], by simp, fun t _ => by simp⟩
    · obtain ⟨i0, _, pre, i2, i3⟩ := cut_at _ l 0 x (Nat.le_refl _) hc hx
      rw [Nat.sub_zero] at i2 i3
      exact ⟨by omega, pre, i2, i3⟩
  obtain ⟨hml, pre, k1, k2⟩ := key
  have e0 : (((((g ++ [10]) ++ l.take m) ++ (g ++ [10])) ++ l.drop m) ++ [10]) ++ g = g ++ 10 :: (l.take m ++ (g ++ 10 :: (l.drop m ++ 10 :: g))) := by simp
  have hcd : Lx.Clean m (l.drop m) := fun x hx => hc x (by rw [k1]; exact List.mem_append_right _ hx)
  have hcp : ∀ x ∈ pre, x.err = 0 := fun x hx => hc x (by rw [k1]; exact List.mem_append_left _ hx)
  obtain ⟨j1, hj1⟩ : ∃ j, j = m + g.length + 1 := ⟨_, rfl⟩
  have e1 : Lx.founds 0 (l.take m ++ (g ++ 10 :: (l.drop m ++ 10 :: g))) = pre ++ Lx.founds j1 (l.drop m) := by
    rw [k2 _ (gap_head hg _), founds_gline hg, ← hj1, Lx.founds_line _ _ g j1 (Nat.le_refl _) (clean_at hcd j1), Lx.founds_10, founds_gaps hg, List.append_nil]
  have hc1 : Lx.Clean 0 (l.take m ++ (g ++ 10 :: (l.drop m ++ 10 :: g))) := by
    intro x hx
    rw [e1] at hx
    rcases List.mem_append.1 hx with hx | hx
    · exact hcp x hx
    · exact clean_at hcd j1 x hx
  refine ⟨hml, ?_, ?_⟩
  · rw [e0, founds_gline hg]
    refine alikes_trans ?_ (founds_any _ 0 _)
    rw [e1, k1]
    exact alikes_append (alikes_refl _) (founds_any _ _ _)
  · intro x hx
    rw [e0, founds_gline hg] at hx
    exact clean_at hc1 _ x hx
/-! ### the walk -/
theorem lex_of {s : ByteArray} {l : List UInt8} (h : s.data.toList = l) {xs : List Lx.Fd} {e : Nat} {p : Int} (hx : Lx.lexS l = (xs, e, p)) : lexer_Lex.f s = some (xs.map toS, (e : Int), p) := by
  unfold lexer_Lex.f lexR; rw [h, hx]
theorem gaps_j2 (k : Nat) (hk : 5000 < k) (a0 a1 : ByteArray) (l g : List UInt8) (hl : a0.data.toList = l) (hg : a1.data.toList = g) (h0 : l.length ≤ 1500) (h1 : g.length ≤ 300) (hgp : gapl false g = g.length) (hc : Lx.Clean 0 l) (m : Nat) (hm : (m = 0) ∨ ∃ x ∈ Lx.founds 0 l, m = x.pos + (wr x).length) :
    planispherelaw08_LexerGaps.j2 (k + 1) a0 a1 true ((Lx.founds 0 l).map toS) (m : Int) false = some true := by
  obtain ⟨hml, hal, hcl⟩ := gaps_law l g m hgp hc hm
  have z0 : a0.size = l.length := by rw [size_list, hl]
  have z1 : a1.size = g.length := by rw [size_list, hg]
  have z2 : (⟨#[10]⟩ : ByteArray).size = 1 := rfl
  have x0 : (a0.extract 0 m).data.toList = l.take m := by rw [ext_list, hl, List.drop_zero]
  have x1 : (a0.extract m a0.size).data.toList = l.drop m := by rw [ext_list, hl, List.take_of_length_le (by omega)]
  have y0 : (a0.extract 0 m).size = m := by rw [size_list, x0, List.length_take]; omega
  have y1 : (a0.extract m a0.size).size = l.length - m := by rw [size_list, x1, List.length_drop]
  have hcat : ((((((a1 ++ (⟨#[10]⟩ : ByteArray)) ++ (a0.extract 0 m)) ++ (a1 ++ (⟨#[10]⟩ : ByteArray))) ++ (a0.extract m a0.size)) ++ (⟨#[10]⟩ : ByteArray)) ++ a1).data.toList = (((((g ++ [10]) ++ l.take m) ++ (g ++ [10])) ++ l.drop m) ++ [10]) ++ g := by
    simp only [append_list, x0, x1, hg]
  obtain ⟨ys, hys⟩ : ∃ ys, Lx.founds 0 ((((((g ++ [10]) ++ l.take m) ++ (g ++ [10])) ++ l.drop m) ++ [10]) ++ g) = ys := ⟨_, rfl⟩
  have hn := Lx.founds_length 0 ((((((g ++ [10]) ++ l.take m) ++ (g ++ [10])) ++ l.drop m) ++ [10]) ++ g)
  have hln : ((((((g ++ [10]) ++ l.take m) ++ (g ++ [10])) ++ l.drop m) ++ [10]) ++ g).length ≤ 2600 := by
    simp only [List.length_append, List.length_take, List.length_drop, List.length_cons, List.length_nil]; omega
  have L2 := lex_of hcat (Lx.lexS_clean (Nat.le_trans hln (by decide)) (Nat.le_trans hn (Nat.le_trans hln (by decide))) hcl)
  have hnx := Lx.founds_length 0 l
  rw [hys] at L2 hal
  have hA := alike_true (Lx.founds 0 l) ys (alikes_len hal) (by omega) (alikes_get hal) k (by omega)
  clear hcat hcl hys hn hln
  have b1 : a1.size + 1 ≤ 9223372036854775807 := by rw [z1]; omega
  have b2 : (0 : Int) ≤ (m : Int) := by omega
  have b3 : (m : Int) ≤ (a0.size : Int) := by rw [z0]; omega
  have s1 : (a1 ++ (⟨#[10]⟩ : ByteArray)).size = g.length + 1 := by rw [ByteArray.size_append, z1, z2]
  have s2 : ((a1 ++ (⟨#[10]⟩ : ByteArray)) ++ (a0.extract 0 m)).size = g.length + 1 + m := by rw [ByteArray.size_append, s1, y0]
  have s3 : (((a1 ++ (⟨#[10]⟩ : ByteArray)) ++ (a0.extract 0 m)) ++ (a1 ++ (⟨#[10]⟩ : ByteArray))).size = g.length + 1 + m + (g.length + 1) := by rw [ByteArray.size_append, s2, s1]
  have s4 : ((((a1 ++ (⟨#[10]⟩ : ByteArray)) ++ (a0.extract 0 m)) ++ (a1 ++ (⟨#[10]⟩ : ByteArray))) ++ (a0.extract m a0.size)).size = g.length + 1 + m + (g.length + 1) + (l.length - m) := by rw [ByteArray.size_append, s3, y1]
  have s5 : (((((a1 ++ (⟨#[10]⟩ : ByteArray)) ++ (a0.extract 0 m)) ++ (a1 ++ (⟨#[10]⟩ : ByteArray))) ++ (a0.extract m a0.size)) ++ (⟨#[10]⟩ : ByteArray)).size = g.length + 1 + m + (g.length + 1) + (l.length - m) + 1 := by rw [ByteArray.size_append, s4, z2]
  simp only [planispherelaw08_LexerGaps.j2]
  simp only [Int.toNat_natCast]
  rw [if_neg (by decide), if_pos b1, if_pos b2, if_pos b3, s1, y0, s2, s3, s4, s5, y1, z1]
  clear s1 s2 s3 s4 s5 x0 x1 y0 y1 z1 z2 b1 b2 b3
  rw [if_pos (by omega), if_pos (by omega), if_pos (by omega), if_pos (by omega), if_pos (by omega), L2]
  simp only [Option.bind_some, if_true]
  rw [if_pos (by rfl), hA]
  rfl
theorem gaps_j1 (k : Nat) (hk : 5000 < k) (a0 a1 : ByteArray) (l g : List UInt8) (hl : a0.data.toList = l) (hg : a1.data.toList = g) (h0 : l.length ≤ 1500) (h1 : g.length ≤ 300) (hgp : gapl false g = g.length) (hc : Lx.Clean 0 l) (m : Nat) (hm : (m = 0) ∨ ∃ x ∈ Lx.founds 0 l, m = x.pos + (wr x).length) :
    planispherelaw08_LexerGaps.j1 (k + 1 + 1) a0 a1 true ((Lx.founds 0 l).map toS) (m : Int) = some true := by
  have hml := (gaps_law l g m hgp hc hm).1
  have z0 : a0.size = l.length := by rw [size_list, hl]
  simp only [planispherelaw08_LexerGaps.j1]
  rw [if_neg (by rw [z0]; omega), decide_eq_false (show ¬ (m : Int) < 0 by omega)]
  exact gaps_j2 k hk a0 a1 l g hl hg h0 h1 hgp hc m hm
theorem w16 (a : Int) (h0 : 0 ≤ a) (h1 : a < 65536) : wrap64 a = a := by unfold wrap64; omega
theorem wadd (a b : Nat) (h : a + b ≤ 281474976710656) : wrap64 ((a : Int) + (b : Int)) = ((a + b : Nat) : Int) := by unfold wrap64; omega
theorem tmod_at (a : Int) (n : Nat) (h : 0 ≤ a) (hn : 0 < n) : ∃ i : Nat, (i : Int) = Int.tmod a (n : Int) ∧ i < n := by
  refine ⟨a.toNat % n, ?_, Nat.mod_lt _ hn⟩
  rw [Int.natCast_emod, Int.toNat_of_nonneg h, Int.tmod_eq_emod_of_nonneg h]
theorem gaps_j0_some (k : Nat) (a0 a1 : ByteArray) (a2 : Int) (X : List S31) (e p : Int) (L0 : lexer_Lex.f a0 = some (X, e, p)) (he : e = 0) (hn : (X.length : Int) > 0) (hw : wrap64 a2 = a2)
    (i : Nat) (hi : (i : Int) = Int.tmod a2 (X.length : Int)) (hil : (i : Int) < (X.length : Int)) (t : ByteArray)
    (hW : planisphereref08_Written.f k (rd_T31 X (i : Int)).f0 (rd_T31 X (i : Int)).f1 (rd_T31 X (i : Int)).f2 = some t) (m : Int) (hm : wrap64 ((rd_T31 X (i : Int)).f2 + (t.size : Int)) = m)
    (J : planispherelaw08_LexerGaps.j1 k a0 a1 true X m = some true) : planispherelaw08_LexerGaps.j0 (k + 1) a0 a1 a2 true false = some true := by
  simp only [planispherelaw08_LexerGaps.j0]
  rw [if_neg (by decide), L0]
  simp only [Option.bind_some]
  rw [hw, ← hi, if_pos he, if_pos hn, if_neg (by omega), if_pos (Int.natCast_nonneg i), if_pos hil, hW]
  simp only [Option.bind_some]
  rw [hm, J]
theorem gaps_j0_none (k : Nat) (a0 a1 : ByteArray) (a2 : Int) (X : List S31) (e p : Int) (L0 : lexer_Lex.f a0 = some (X, e, p)) (he : e = 0) (hn : ¬ (X.length : Int) > 0)
    (J : planispherelaw08_LexerGaps.j1 k a0 a1 true X 0 = some true) : planispherelaw08_LexerGaps.j0 (k + 1) a0 a1 a2 true false = some true := by
  simp only [planispherelaw08_LexerGaps.j0]
  rw [if_neg (by decide), L0]
  simp only [Option.bind_some]
  rw [if_pos he, if_neg hn, J]
theorem gaps_j0_err (k : Nat) (a0 a1 : ByteArray) (a2 : Int) (X : List S31) (e p : Int) (L0 : lexer_Lex.f a0 = some (X, e, p)) (he : ¬ e = 0) : planispherelaw08_LexerGaps.j0 (k + 1) a0 a1 a2 true false = some true := by
  simp only [planispherelaw08_LexerGaps.j0]
  rw [if_neg (by decide), L0]
  simp only [Option.bind_some]
  rw [if_neg he]
theorem gaps_mid (a2 : Int) (u1 : 0 ≤ a2) (l : List UInt8) (h0 : l.length ≤ 1500) (c0 : Lx.Clean 0 l) (xs : List Lx.Fd) (hxs : Lx.founds 0 l = xs) (hn : 0 < xs.length) :
    ∃ (i : Nat) (x : Lx.Fd), (i : Int) = Int.tmod a2 (xs.length : Int) ∧ i < xs.length ∧ xs[i]? = some x ∧ x ∈ xs ∧ x.text.length ≤ 3000 ∧ x.pos + (wr x).length ≤ 1500 := by
  obtain ⟨v1, v2⟩ := founds_valid _ _ _ (Nat.le_refl _) c0
  have hnx := Lx.founds_length 0 l
  rw [hxs] at v1 v2 hnx
  obtain ⟨i, hi, hil⟩ := tmod_at a2 xs.length u1 hn
  obtain ⟨x, hx⟩ : ∃ x, xs[i]? = some x := ⟨_, List.getElem?_eq_getElem hil⟩
  have hxm : x ∈ xs := List.mem_of_getElem? hx
  have hxt := text_le_wrs _ x hxm
  have hcut := (cut_at _ l 0 x (Nat.le_refl _) c0 (by rw [hxs]; exact hxm)).1
  exact ⟨i, x, hi, hil, hx, hxm, by omega, by omega⟩
theorem gaps_j0 (k : Nat) (hk : 5000 < k) (a0 a1 : ByteArray) (a2 : Int) (u1 : 0 ≤ a2) (u2 : a2 < 65536) (l g : List UInt8) (hl : a0.data.toList = l) (hg : a1.data.toList = g) (h0 : l.length ≤ 1500) (h1 : g.length ≤ 300) (hgp : gapl false g = g.length) :
    planispherelaw08_LexerGaps.j0 (k + 1 + 1 + 1) a0 a1 a2 true false = some true := by
  rcases Lx.lexS_short (l := l) (Nat.le_trans h0 (by decide)) with ⟨c0, e0⟩ | ⟨pre, x, q1, q2, q3, e0⟩
  · have L0 := lex_of hl e0
    have J := gaps_j1 k hk a0 a1 l g hl hg h0 h1 hgp c0
    have M := gaps_mid a2 u1 l h0 c0
    obtain ⟨xs, hxs⟩ : ∃ xs, Lx.founds 0 l = xs := ⟨_, rfl⟩
    rw [hxs] at L0 J
    have hm : (xs.map toS).length = xs.length := List.length_map ..
    by_cases hn : 0 < xs.length
    · obtain ⟨i, x, hi, hil, hx, hxm, hb1, hb2⟩ := M xs hxs hn
      have hsz : (⟨(wr x).toArray⟩ : ByteArray).size = (wr x).length := by show (wr x).toArray.size = _; simp
      refine gaps_j0_some (k + 1 + 1) a0 a1 a2 _ _ _ L0 rfl (by rw [hm]; exact Int.natCast_pos.2 hn) (w16 a2 u1 u2) i (by rw [hm]; exact hi) (by rw [hm]; exact Int.ofNat_lt.2 hil) ⟨(wr x).toArray⟩ ?_ ((x.pos + (wr x).length : Nat) : Int) ?_ (J _ (.inr ⟨x, hxm, rfl⟩))
      · rw [rd_map _ i x hx]
        exact written_sem (k + 1 + 1) x (Nat.le_trans hb1 (by decide)) (Nat.lt_of_le_of_lt hb1 (Nat.lt_of_lt_of_le (Nat.lt_trans (by decide) hk) (Nat.le_add_right k 2)))
      · rw [rd_map _ i x hx, hsz]
        exact wadd x.pos (wr x).length (Nat.le_trans hb2 (by decide))
    · exact gaps_j0_none (k + 1 + 1) a0 a1 a2 _ _ _ L0 rfl (by rw [hm]; omega) (J 0 (.inl rfl))
  · exact gaps_j0_err (k + 1 + 1) a0 a1 a2 _ _ _ (lex_of hl e0) (by omega)
theorem LexerGaps : planispherelaw08_LexerGaps.Pure := by
  intro a0 a1 a2 h0 h1 h2
  refine ⟨100000, ?_⟩
  have u : 0 ≤ a2 ∧ a2 < 65536 := by
    simp [Lit.wf, IntKind.min, IntKind.max, IntKind.signed, IntKind.bits] at h2; omega
  obtain ⟨l, hl⟩ : ∃ l, a0.data.toList = l := ⟨_, rfl⟩
  obtain ⟨g, hg⟩ : ∃ g, a1.data.toList = g := ⟨_, rfl⟩
  have z0 : a0.size = l.length := by rw [size_list, hl]
  have z1 : a1.size = g.length := by rw [size_list, hg]
  unfold planispherelaw08_LexerGaps.f
  rw [head_true 99998]
  simp only [Option.bind_some]
  have ht : planispherelaw08_LexerGaps.j0 100000 a0 a1 a2 true true = some true := by
    simp only [planispherelaw08_LexerGaps.j0]
    rw [if_pos trivial]
  by_cases c0 : (a0.size : Int) > 1500
  · rw [if_pos c0]; exact ht
  · rw [if_neg c0]
    by_cases c1 : (a1.size : Int) > 300
    · rw [if_pos c1]; exact ht
    · rw [if_neg c1, gaps_sem a1 h1 100000 (by omega), hg]
      simp only [Option.bind_some]
      by_cases hgp : gapl false g = g.length
      · rw [hgp, beq_self_eq_true]
        exact gaps_j0 99997 (by decide) a0 a1 a2 u.1 u.2 l g hl hg (by omega) (by omega) hgp
      · rw [show (gapl false g == g.length) = false from beq_eq_false_iff_ne.2 hgp]
        exact ht
end Go.Proofs.Ytflocikkhpjicaa.Pure
