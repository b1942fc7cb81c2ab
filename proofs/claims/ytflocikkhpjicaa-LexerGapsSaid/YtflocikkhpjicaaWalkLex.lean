/- What lexer.Lex answers. -/
import Derived.Test.YtflocikkhpjicaaWalkToks
import Derived.Test.YtflocikkhpjicaaLexAns
import Derived.Test.YtflocikkhpjicaaPx0
namespace Go.Proofs.Ytflocikkhpjicaa.P
open Go.RowKit Go.Shelf Go.Proofs.YtflocikkhpjicaaW.PrintWords Go.Proofs.YtflocikkhpjicaaW.PrintLast Go.Proofs.YtflocikkhpjicaaW.PrintMore
set_option linter.unusedVariables false
set_option linter.unusedSimpArgs false
attribute [local go_sem] Oper.semAt_some
theorem KeepT.trans {b : Nat} {w w1 w2 : World} (h : KeepT b w w1) (k : KeepT b w1 w2) : KeepT b w w2 := fun i cs T hb hT hi => k i cs T hb hT (h i cs T hb hT hi)
theorem KeepT.refl (b : Nat) (w : World) : KeepT b w w := fun _ _ _ _ _ h => h
theorem KeepT.turn {b : Nat} {W : World} {l : Nat} {o o' : Obj} (h : W.heap[l]? = some o) (hc : o.isCells = false) : KeepT b W (W.putObj l o') := fun k cs T hb hT hi => by
  have hne : k ≠ l := fun e => by subst e; rw [h] at hi; cases hi; cases hc
  exact (World.putObj_heap_other hne).trans hi
/-- the cells of a token -/
def cellsF (x : Lx.Fd) : List Value := [.int .i64 x.kind, .string ⟨x.text.toArray⟩, .int .i64 x.pos]
theorem cellsF_length (pre : List Lx.Fd) : (pre.flatMap cellsF).length = pre.length * 3 := by
  induction pre with
  | nil => rfl
  | cons x pre ih => simp only [List.flatMap_cons, List.length_append, List.length_cons, ih]; simp [cellsF]; omega
theorem ownsRow_kept {W W' : World} {row : Option Nat} {base e size n : Nat} {v : Value} {xs : List Value} (h : W.ownsRow base e size v n xs) (hg : W.grownBy W' row) (hr : ∀ r, row = some r → ∃ o : Obj, W.heap[r]? = some o ∧ o.isCells = false) : W'.ownsRow base e size v n xs := by
  obtain ⟨h1, h2⟩ := h
  refine ⟨h1, ?_⟩
  rcases h2 with h2 | ⟨g, cap, cur, rfl, hb, hh, r⟩
  · exact .inl h2
  · refine .inr ⟨g, cap, cur, rfl, hb, (hg.block g (blk_lt hh) (fun e => ?_)).trans hh, r⟩
    obtain ⟨o, ho, hc⟩ := hr g e.symm
    rw [hh] at ho; cases ho; cases hc
theorem cells_kept {W W' : World} {row : Option Nat} {g t : Nat} {cs : Array Value} (h : W.heap[g]? = some (.cells cs t (0, 0))) (hg : W.grownBy W' row) (hr : ∀ r, row = some r → ∃ o : Obj, W.heap[r]? = some o ∧ o.isCells = false) : W'.heap[g]? = some (.cells cs t (0, 0)) := by
  refine (hg.block g (blk_lt h) (fun e => ?_)).trans h
  obtain ⟨o, ho, hc⟩ := hr g e.symm
  rw [h] at ho; cases ho; cases hc
theorem keepT_append {W w1 : World} {base n ro : Nat} {v : Value} {xs : List Value} {tmp : Obj} (h : W.ownsRow base 31 3 v n xs) (hg : (W.alloc tmp).grownBy w1 v.ownBlock) (u : Value) : KeepT ro W (w1.setCell ⟨ro, 0, none⟩ u) :=
  fun k cs T hk hT hh => blk_far (blk_grown (blk_alloc hh tmp) hg (own_ne (h.alloc tmp) (blk_alloc hh tmp) (Ne.symm hT))) hk _
theorem cells_one (x : Lx.Fd) : ∀ u ∈ cellsF x, u.oneCell' = true := by
  intro u hu
  simp only [cellsF, List.mem_cons, List.not_mem_nil, or_false] at hu
  rcases hu with rfl | rfl | rfl <;> rfl
theorem news_tok (W : World) (x : Lx.Fd) : ∀ j u, (cellsF x)[j]? = some u → (W.alloc (.cells #[.int .i64 x.kind, .string ⟨x.text.toArray⟩, .int .i64 x.pos] 31)).cell? ((⟨W.heap.size, 0, none⟩ : Addr).add j) = some u := by
  have h := World.news_of_block (cs := #[.int .i64 x.kind, .string ⟨x.text.toArray⟩, .int .i64 x.pos]) (t := 31) (fr := (0, 0)) (heap_alloc_new W (.cells #[.int .i64 x.kind, .string ⟨x.text.toArray⟩, .int .i64 x.pos] 31))
  exact h
/-- what the loop over the found things has in memory: r2, r3, r4: the results' cells, ro: the tokens so far -/
def LexI (w0 : World) (r2 r3 r4 ro : Nat) (pre : List Lx.Fd) (W : World) : Prop :=
  Lx.Good pre ∧ (∃ v, W.heap[ro]? = some (.cells #[v] 23 (0, 0)) ∧ W.ownsRow w0.heap.size 31 3 v pre.length (pre.flatMap cellsF)) ∧
  W.heap[r2]? = some (.cells #[.slice none 0 0] 23 (0, 0)) ∧ W.heap[r3]? = some (.cells #[.int .i64 0] 24 (0, 0)) ∧ W.heap[r4]? = some (.cells #[.int .i64 0] 3 (0, 0)) ∧ Below w0.heap.size w0 W
/-- .. when it has left by a return -/
def LexX (w0 : World) (r2 r3 r4 : Nat) (all : List Lx.Fd) (c : Code) (pre : List Lx.Fd) (W : World) : Prop :=
  c = .ret ∧ ∃ (e : Nat) (a : Int), (∀ xs, Lx.res [] (pre ++ xs) = ([], e, a)) ∧
  W.heap[r2]? = some (.cells #[.slice none 0 0] 23 (0, 0)) ∧ W.heap[r3]? = some (.cells #[.int .i64 e] 24 (0, 0)) ∧ W.heap[r4]? = some (.cells #[.int .i64 a] 3 (0, 0)) ∧ Below w0.heap.size w0 W
theorem lexI_own (w0 : World) (r2 r3 r4 ro B : Nat) (hB : w0.heap.size ≤ B) : OwnFrom B (LexI w0 r2 r3 r4 ro) := by
  intro pre W W' row h hg hr
  obtain ⟨h1, ⟨v, h2, h3⟩, h4, h5, h6, h7⟩ := h
  have hr' : ∀ r, row = some r → ∃ o : Obj, W.heap[r]? = some o ∧ o.isCells = false := fun r e => (hr r e).2
  exact ⟨h1, ⟨v, cells_kept h2 hg hr', ownsRow_kept h3 hg hr'⟩, cells_kept h4 hg hr', cells_kept h5 hg hr', cells_kept h6 hg hr', h7.grown hg h7.size (fun k e => Nat.le_trans hB (hr k e).1)⟩
theorem lexX_own (w0 : World) (r2 r3 r4 B : Nat) (all : List Lx.Fd) (hB : w0.heap.size ≤ B) (c : Code) : OwnFrom B (LexX w0 r2 r3 r4 all c) := by
  intro pre W W' row h hg hr
  obtain ⟨h0, e, a, h1, h4, h5, h6, h7⟩ := h
  have hr' : ∀ r, row = some r → ∃ o : Obj, W.heap[r]? = some o ∧ o.isCells = false := fun r e => (hr r e).2
  exact ⟨h0, e, a, h1, cells_kept h4 hg hr', cells_kept h5 hg hr', cells_kept h6 hg hr', h7.grown hg h7.size (fun k e => Nat.le_trans hB (hr k e).1)⟩
theorem results_cells3 {tmps : Array Value} {w : World} {r2 r3 r4 : Nat} {A : Option Addr} {n c : Nat} {x y : Int} (h2 : w.heap[r2]? = some (.cells #[.slice A n c] 23 (0, 0))) (h3 : w.heap[r3]? = some (.cells #[.int .i64 x] 24 (0, 0))) (h4 : w.heap[r4]? = some (.cells #[.int .i64 y] 3 (0, 0)))
    (e2 : tmps[2]?.getD undef = .pointer (some ⟨r2, 0, none⟩) := by rfl) (e3 : tmps[3]?.getD undef = .pointer (some ⟨r3, 0, none⟩) := by rfl) (e4 : tmps[4]?.getD undef = .pointer (some ⟨r4, 0, none⟩) := by rfl) :
    (results Try.f12 tmps).run Try.prog w = .ok (.tuple #[.slice A n c, .int .i64 x, .int .i64 y]) w := by
  have z2 : w.cell? ⟨r2, 0, none⟩ = some (.slice A n c) := (blk_cell h2 0).trans rfl
  have z3 : w.cell? ⟨r3, 0, none⟩ = some (.int .i64 x) := (blk_cell h3 0).trans rfl
  have z4 : w.cell? ⟨r4, 0, none⟩ = some (.int .i64 y) := (blk_cell h4 0).trans rfl
  simp [results, Try.results12, go_sem, e2, e3, e4, z2, z3, z4]
set_option maxHeartbeats 4000000 in
set_option maxRecDepth 100000 in
theorem lex_short (s : ByteArray) (w : World) (hs : s.size ≤ 20000) :
    Calls Try.prog 12 #[.string s] w fun e w' => ∃ v, e = .returned (.tuple #[v, .int .i64 (Lx.lexS s.data.toList).2.1, .int .i64 (Lx.lexS s.data.toList).2.2]) ∧
      w'.ownsRow w.heap.size 31 3 v (Lx.lexS s.data.toList).1.length ((Lx.lexS s.data.toList).1.flatMap cellsF) ∧ Below w.heap.size w w' := by
  refine (callsIn_wide (n := 4)).1 ?_
  refine callsIn_of_wp_marks Try.func12 rfl trivial ?_ rfl
  simp only [Try.ntmps12, List.size_toArray, List.length_cons, List.length_nil, Nat.reduceAdd, Nat.reduceSub, Array.replicate_succ, Array.replicate_zero, List.push_toArray, List.append_toArray, List.nil_append, List.cons_append]
  have hd : decide ((20000 : Int) < s.size) = false := decide_eq_false (by omega)
  have HS := Aside0.mk hs
  clear hs
  gi_wp2_with (refine ⟨trivial, ?_⟩; gi_at_call 24; refine (callsIn_wide.2 (tokens_any s _)).mono ?_; rintro e w' ⟨gt, gc, ga, rfl, hIt, hB⟩)
  have b2 := blk_below (blk_alloc (blk_alloc (blk_alloc (blk_new w (.cells #[.slice none 0 0] 23)) (.cells #[.int .i64 0] 24)) (.cells #[.int .i64 0] 3)) (.cells #[.slice none 0 0] 23)) hB
  have b3 := blk_below (blk_alloc (blk_alloc (blk_new (w.alloc (.cells #[.slice none 0 0] 23)) (.cells #[.int .i64 0] 24)) (.cells #[.int .i64 0] 3)) (.cells #[.slice none 0 0] 23)) hB
  have b4 := blk_below (blk_alloc (blk_new ((w.alloc (.cells #[.slice none 0 0] 23)).alloc (.cells #[.int .i64 0] 24)) (.cells #[.int .i64 0] 3)) (.cells #[.slice none 0 0] 23)) hB
  have b5 := blk_below (blk_new (((w.alloc (.cells #[.slice none 0 0] 23)).alloc (.cells #[.int .i64 0] 24)).alloc (.cells #[.int .i64 0] 3)) (.cells #[.slice none 0 0] 23)) hB
  have hBw : Below w.heap.size w w' := (((((Below.refl _ w).alloc (Nat.le_refl _) _).alloc (by simp) _).alloc (by simp; omega) _).alloc (by simp; omega) _).trans (hB.mono (by simp; omega))
  have hsz := hB.size
  simp only [World.size_alloc] at b3 b4 b5 hIt hsz
  clear hB
  obtain ⟨r2, h2⟩ : ∃ r, r = w.heap.size := ⟨_, rfl⟩
  obtain ⟨r3, h3⟩ : ∃ r, r = w.heap.size + 1 := ⟨_, rfl⟩
  obtain ⟨r4, h4⟩ : ∃ r, r = w.heap.size + 1 + 1 := ⟨_, rfl⟩
  obtain ⟨ro, ho⟩ : ∃ r, r = w.heap.size + 1 + 1 + 1 := ⟨_, rfl⟩
  rw [← ho] at b5
  rw [← h4] at b4
  rw [← h3] at b3
  rw [← h2] at b2
  rw [← ho, ← h4, ← h3, ← h2]
  have HR := Aside0.mk (And.intro h2 (And.intro h3 (And.intro h4 ho)))
  clear h2 h3 h4 ho
  have hlo : w.heap.size ≤ w'.heap.size := hBw.size
  refine wpIn_rangeFunc_ownH rfl (by omega) (gf := 34) (lb := #[.pointer (some ⟨gt, 0, none⟩), .pointer (some ⟨ga, 0, none⟩)]) rfl trivial (enters_of Try.func34 (by kernel_rfl) rfl)
    (toks_stops s _ gt gc ga ro 2 w' (by have := HS.out; omega) hIt (by have := HR.out; omega)) (fun h k => h.trans k) (fun W l o o' hl h hc _ => KeepT.turn h hc) (Below.refl _ _) (fun _ => rfl)
    (LexI w r2 r3 r4 ro) (LexX w r2 r3 r4 (Lx.founds 0 s.data.toList)) (lexI_own _ _ _ _ _ _ hlo) (fun c => lexX_own _ _ _ _ _ _ hlo c)
    ⟨Lx.good_nil, ⟨_, b5, rfl, .inl ⟨rfl, rfl⟩⟩, b2, b3, b4, hBw⟩
    (fun x a' W => ∃ B, w.heap.size ≤ B ∧ W.heap[B]? = some (.cells #[.int .i64 x.kind, .string ⟨x.text.toArray⟩, .int .i64 x.pos, .int .i64 x.err] 45 (0, 0)) ∧ a' = { tmps := #[.string s, undef, .pointer (some ⟨r2, 0, none⟩), .pointer (some ⟨r3, 0, none⟩), .pointer (some ⟨r4, 0, none⟩), .pointer (some ⟨ro, 0, none⟩), .pointer (some ⟨B, 0, none⟩), .string s, .int .i64 s.size, .bool false, .string s, iterV gt ga, .agg #[.int .i64 x.kind, .string ⟨x.text.toArray⟩, .int .i64 x.pos, .int .i64 x.err], undef, undef, undef, undef, undef, undef, undef, undef, undef, undef, undef, undef, undef, undef, undef, undef, undef, undef, undef, undef, undef, undef], defers := [] })
    (fun x a' _ W W' row h hg hr => by
      obtain ⟨B, h1, h2, h3⟩ := h
      exact ⟨B, h1, cells_kept h2 hg (fun r e => (hr r e).2), h3⟩)
    ?assign ?body ?done ?stop
  case assign =>
    intro l pre x W K hI hK
    have hI2 := (lexI_own w r2 r3 r4 ro w.heap.size (Nat.le_refl _)).alloc (.cells #[.int .i64 x.kind, .string ⟨x.text.toArray⟩, .int .i64 x.pos, .int .i64 x.err] 45) hI
    have hle : w.heap.size ≤ W.heap.size := hI.2.2.2.2.2.size
    have HK := Aside0.mk (hK _ _ ((KeepsOthers.alloc _ _).from _) (fun k cs T _ _ h => blk_alloc h _) hI2 ⟨W.heap.size, hle, blk_new _ _, rfl⟩)
    clear hK hI hI2
    dsimp only [encF]
    gi_wp2
    exact HK.out
  case body =>
    rintro l pre x a' W hl ⟨rec, hrec⟩ hI ⟨B, hB, hblk, rfl⟩ hlt
    dsimp only
    obtain ⟨hG, ⟨v, ho, hown⟩, h2, h3, h4, hBl⟩ := hI
    have z0 : W.cell? ⟨B, 0, none⟩ = some (.int .i64 x.kind) := (blk_cell hblk 0).trans rfl
    have z1 : W.cell? ⟨B, 1, none⟩ = some (.string ⟨x.text.toArray⟩) := (blk_cell hblk 1).trans rfl
    have z2 : W.cell? ⟨B, 2, none⟩ = some (.int .i64 x.pos) := (blk_cell hblk 2).trans rfl
    have z3 : W.cell? ⟨B, 3, none⟩ = some (.int .i64 x.err) := (blk_cell hblk 3).trans rfl
    have n23 : r2 ≠ r3 := by have := HR.out; omega
    have n24 : r2 ≠ r4 := by have := HR.out; omega
    have n34 : r3 ≠ r4 := by have := HR.out; omega
    have nB2 : B ≠ r2 := blk_ne hblk h2 (by decide)
    have nB3 : B ≠ r3 := blk_ne hblk h3 (by decide)
    have nB4 : B ≠ r4 := blk_ne hblk h4 (by decide)
    have n32 := n23.symm
    have n42 := n24.symm
    have n43 := n34.symm
    have n2B := nB2.symm
    have n3B := nB3.symm
    have n4B := nB4.symm
    by_cases hx : x.err = 0
    · have e0 : (((x.err : Nat) : Int) != 0) = false := by rw [hx]; rfl
      obtain ⟨A, c, rfl⟩ : ∃ A c, v = .slice A pre.length c := by
        rcases hown.2 with ⟨rfl, h0⟩ | ⟨g, cap, cur, rfl, _⟩
        · exact ⟨none, 0, by rw [h0]⟩
        · exact ⟨_, cap, rfl⟩
      have zo : W.cell? ⟨ro, 0, none⟩ = some (.slice A pre.length c) := (blk_cell ho 0).trans rfl
      have fo := blk_frozen ho 0
      by_cases hl5 : pre.length = 5000
      · have l1 : (((pre.length : Nat) : Int) == 5000) = true := by rw [hl5]; rfl
        have l2 : (pre.length == 5000) = true := by rw [hl5]; rfl
        have zr2 : W.cell? ⟨r2, 0, none⟩ = some (.slice none 0 0) := (blk_cell h2 0).trans rfl
        have zr3 : W.cell? ⟨r3, 0, none⟩ = some (.int .i64 0) := (blk_cell h3 0).trans rfl
        have zr4 : W.cell? ⟨r4, 0, none⟩ = some (.int .i64 0) := (blk_cell h4 0).trans rfl
        have fr2 := blk_frozen h2 0
        have fr3 := blk_frozen h3 0
        have fr4 := blk_frozen h4 0
        have HG := Aside0.mk hG
        have HO := Aside0.mk ho
        have HW := Aside0.mk hown
        have H2 := Aside0.mk h2
        have H3 := Aside0.mk h3
        have H4 := Aside0.mk h4
        have HBL := Aside0.mk hBl
        have HX := Aside0.mk hx
        have HBK := Aside0.mk hblk
        have HL5 := Aside0.mk hl5
        clear hl5
        clear hG ho hown h2 h3 h4 hBl hx hblk
        gi_wp2
        refine wpIn_mono (Q := fun e_ a_ w_ => e_ = .normal ∧ a_ = { tmps := #[.string s, undef, .pointer (some ⟨r2, 0, none⟩), .pointer (some ⟨r3, 0, none⟩), .pointer (some ⟨r4, 0, none⟩), .pointer (some ⟨ro, 0, none⟩), .pointer (some ⟨B, 0, none⟩), .string s, .int .i64 s.size, .bool false, .string s, iterV gt ga, .agg #[.int .i64 x.kind, .string ⟨x.text.toArray⟩, .int .i64 x.pos, .int .i64 x.err], .bool false, .pointer (some ⟨B, 3, none⟩), .int .i64 x.err, .bool false, undef, undef, undef, undef, undef, .bool true, .slice A pre.length c, .int .i64 (pre.length : Int), .bool true, .pointer (some ⟨B, 0, none⟩), .pointer (some ⟨B, 2, none⟩), .int .i64 x.pos, undef, undef, undef, undef, undef, undef], defers := [] } ∧ w_ = (((W.setCell ⟨r2, 0, none⟩ (.slice none 0 0)).setCell ⟨r3, 0, none⟩ (.int .i64 2)).setCell ⟨r4, 0, none⟩ (.int .i64 x.pos)).drew) ?_ ?_
        · as_aux_lemma =>
            gi_region
            all_goals exact ⟨rfl, rfl, rfl⟩
        rintro _ _ _ ⟨rfl, rfl, rfl⟩
        dsimp only
        have hlx : LexX w r2 r3 r4 (Lx.founds 0 s.data.toList) .ret (pre ++ [x]) ((((W.setCell ⟨r2, 0, none⟩ (.slice none 0 0)).setCell ⟨r3, 0, none⟩ (.int .i64 2)).setCell ⟨r4, 0, none⟩ (.int .i64 x.pos)).drew) :=
          ⟨rfl, 2, x.pos, fun xs => Lx.res_stop_many HG.out HX.out HL5.out,
            blk_drew (blk_far (blk_far (blk_put H2.out 0 _ rfl) n23 _) n24 _), blk_drew (blk_far (blk_put (blk_far H3.out n32 _) 0 _ rfl) n34 _), blk_drew (blk_put (blk_far (blk_far H4.out n42 _) n43 _) 0 _ rfl),
            below_drew1 (below_set (below_set (below_set HBL.out (by have := HR.out; show w.heap.size ≤ r2; omega)) (by have := HR.out; show w.heap.size ≤ r3; omega)) (by have := HR.out; show w.heap.size ≤ r4; omega))⟩
        have hko : KeepsOthers W ((((W.setCell ⟨r2, 0, none⟩ (.slice none 0 0)).setCell ⟨r3, 0, none⟩ (.int .i64 2)).setCell ⟨r4, 0, none⟩ (.int .i64 x.pos)).drew) := (((KeepsOthers.setCell _ _ _).trans (KeepsOthers.setCell _ _ _)).trans (KeepsOthers.setCell _ _ _)).trans (KeepsOthers.drew _)
        gi_wp2
        exact ⟨hko.from _, hlx⟩
      · have l1 : (((pre.length : Nat) : Int) == 5000) = false := by rw [beq_eq_false_iff_ne]; omega
        have l2 : (pre.length == 5000) = false := by rw [beq_eq_false_iff_ne]; exact hl5
        have hgood := Lx.good_snoc hG hx hl5
        have HGD := Aside0.mk hgood
        have HG := Aside0.mk hG
        have HO := Aside0.mk ho
        have HW := Aside0.mk hown
        have H2 := Aside0.mk h2
        have H3 := Aside0.mk h3
        have H4 := Aside0.mk h4
        have HBL := Aside0.mk hBl
        have HX := Aside0.mk hx
        have HBK := Aside0.mk hblk
        have HLE : Aside0 (pre.length ≤ 5000) := ⟨hG.2⟩
        have N23 : Aside0 ((23 : Nat) ≠ 31) := ⟨by decide⟩
        have N24 : Aside0 ((24 : Nat) ≠ 31) := ⟨by decide⟩
        have N3 : Aside0 ((3 : Nat) ≠ 31) := ⟨by decide⟩
        have F2 : Aside0 (pre.length + 1 ≤ maxLen) := ⟨by have := HLE.out; unfold maxLen; omega⟩
        have F3 : Aside0 ((pre.length + 1) * 32 ≤ 140737488355328) := ⟨by have := HLE.out; omega⟩
        have F4 : Aside0 (w.heap.size ≤ (W.alloc (.cells #[.int .i64 x.kind, .string ⟨x.text.toArray⟩, .int .i64 x.pos] 31)).heap.size) := ⟨by have := HBL.out.size; simp; omega⟩
        have F5 : Aside0 (w.heap.size ≤ ro) := ⟨by have := HR.out; omega⟩
        have F6 : Aside0 (r2 ≠ ro ∧ r3 ≠ ro ∧ r4 ≠ ro) := ⟨by have := HR.out; omega⟩
        obtain ⟨i0, hi, hzz⟩ := Option.map_eq_some_iff.1 info31
        simp only [Prod.mk.injEq] at hzz
        obtain ⟨hz0, hz1, hz2⟩ := hzz
        clear hl5 hgood
        clear hG ho hown h2 h3 h4 hBl hx hblk
        gi_wp2_with (gi_at_builtin; refine wpListIn_append_own _ rfl (.tmp 29) (.tmp 32) 23 rfl w.heap.size 31 i0 (.agg #[.int .i64 0, .string ⟨#[]⟩, .int .i64 0]) 3 32 Try.underlying23 hi hz0 hz1 hz2 rfl (by decide) (.slice A pre.length c) pre.length (pre.flatMap cellsF) rfl ?h1 ⟨W.heap.size, 0, none⟩ 1 1 (cellsF x) rfl rfl ?h2 ?h3 ?h4 ?h5 ?h6 ?h7; (case h1 => exact HW.out.alloc _); (case h2 => exact news_tok W x); (case h3 => exact cells_one x); (case h4 => exact F2.out); (case h5 => exact F3.out); (case h6 => exact F4.out); intro v1 w1 hown1 hgrow1 _; obtain ⟨g1, cap1, rfl⟩ := ownsRow_succ hown1; obtain ⟨hv1, hv2, hr2, hk2, hb2⟩ := Boxed.appended (show Boxed W ro 23 (.slice A pre.length c) from HO.out) (show (23 : Nat) ≠ 31 from N23.out) HW.out HBL.out.size F5.out hown1 hgrow1; have hkt : KeepT ro W (w1.setCell ⟨ro, 0, none⟩ (.slice (some ⟨g1, 0, none⟩) (pre.length + 1) cap1)) := keepT_append HW.out hgrow1 _; have HV2 := Aside0.mk hv2; have HR2 := Aside0.mk hr2; have HK2 := Aside0.mk hk2; have HB2 := Aside0.mk hb2; have HKT := Aside0.mk hkt; have HN2 := Aside0.mk (hkt r2 _ _ F6.out.1 N23.out H2.out); have HN3 := Aside0.mk (hkt r3 _ _ F6.out.2.1 N24.out H3.out); have HN4 := Aside0.mk (hkt r4 _ _ F6.out.2.2 N3.out H4.out); have hc1 := hv1.cell; have hf1 := hv1.frozen; clear hv1 hv2 hr2 hk2 hb2 hkt hown1 hgrow1)
        refine ⟨HK2.out.from _, HKT.out, HGD.out, ⟨_, HV2.out, ?_⟩, HN2.out, HN3.out, HN4.out, HBL.out.trans HB2.out⟩
        rw [List.flatMap_append, List.length_append]
        simpa using HR2.out
    · have e0 : (((x.err : Nat) : Int) != 0) = true := by rw [bne_iff_ne]; omega
      have zr2 : W.cell? ⟨r2, 0, none⟩ = some (.slice none 0 0) := (blk_cell h2 0).trans rfl
      have zr3 : W.cell? ⟨r3, 0, none⟩ = some (.int .i64 0) := (blk_cell h3 0).trans rfl
      have zr4 : W.cell? ⟨r4, 0, none⟩ = some (.int .i64 0) := (blk_cell h4 0).trans rfl
      have fr2 := blk_frozen h2 0
      have fr3 := blk_frozen h3 0
      have fr4 := blk_frozen h4 0
      have HG := Aside0.mk hG
      have HO := Aside0.mk ho
      have HW := Aside0.mk hown
      have H2 := Aside0.mk h2
      have H3 := Aside0.mk h3
      have H4 := Aside0.mk h4
      have HBL := Aside0.mk hBl
      have HX := Aside0.mk hx
      have HBK := Aside0.mk hblk
      clear hG ho hown h2 h3 h4 hBl hx hblk
      gi_wp2
      refine wpIn_mono (Q := fun e_ a_ w_ => e_ = .normal ∧ a_ = { tmps := #[.string s, undef, .pointer (some ⟨r2, 0, none⟩), .pointer (some ⟨r3, 0, none⟩), .pointer (some ⟨r4, 0, none⟩), .pointer (some ⟨ro, 0, none⟩), .pointer (some ⟨B, 0, none⟩), .string s, .int .i64 s.size, .bool false, .string s, iterV gt ga, .agg #[.int .i64 x.kind, .string ⟨x.text.toArray⟩, .int .i64 x.pos, .int .i64 x.err], .bool true, .pointer (some ⟨B, 3, none⟩), .int .i64 x.err, .bool true, .pointer (some ⟨B, 3, none⟩), .int .i64 x.err, .pointer (some ⟨B, 0, none⟩), .pointer (some ⟨B, 2, none⟩), .int .i64 x.pos, undef, undef, undef, undef, undef, undef, undef, undef, undef, undef, undef, undef, undef], defers := [] } ∧ w_ = (((W.setCell ⟨r2, 0, none⟩ (.slice none 0 0)).setCell ⟨r3, 0, none⟩ (.int .i64 x.err)).setCell ⟨r4, 0, none⟩ (.int .i64 x.pos)).drew) ?_ ?_
      · as_aux_lemma =>
          gi_region
          all_goals exact ⟨rfl, rfl, rfl⟩
      rintro _ _ _ ⟨rfl, rfl, rfl⟩
      dsimp only
      have hlx : LexX w r2 r3 r4 (Lx.founds 0 s.data.toList) .ret (pre ++ [x]) ((((W.setCell ⟨r2, 0, none⟩ (.slice none 0 0)).setCell ⟨r3, 0, none⟩ (.int .i64 x.err)).setCell ⟨r4, 0, none⟩ (.int .i64 x.pos)).drew) :=
        ⟨rfl, x.err, x.pos, fun xs => Lx.res_stop_err HG.out HX.out,
          blk_drew (blk_far (blk_far (blk_put H2.out 0 _ rfl) n23 _) n24 _), blk_drew (blk_far (blk_put (blk_far H3.out n32 _) 0 _ rfl) n34 _), blk_drew (blk_put (blk_far (blk_far H4.out n42 _) n43 _) 0 _ rfl),
          below_drew1 (below_set (below_set (below_set HBL.out (by have := HR.out; show w.heap.size ≤ r2; omega)) (by have := HR.out; show w.heap.size ≤ r3; omega)) (by have := HR.out; show w.heap.size ≤ r4; omega))⟩
      have hko : KeepsOthers W ((((W.setCell ⟨r2, 0, none⟩ (.slice none 0 0)).setCell ⟨r3, 0, none⟩ (.int .i64 x.err)).setCell ⟨r4, 0, none⟩ (.int .i64 x.pos)).drew) := (((KeepsOthers.setCell _ _ _).trans (KeepsOthers.setCell _ _ _)).trans (KeepsOthers.setCell _ _ _)).trans (KeepsOthers.drew _)
      gi_wp2
      exact ⟨hko.from _, hlx⟩
  case done =>
    rintro D xs W hD rfl hI hK
    obtain ⟨hG, ⟨v, ho, hown⟩, h2, h3, h4, hBl⟩ := hI
    have hres := Lx.res_good (Lx.founds 0 s.data.toList) [] hG.1 (by simpa using hG.2)
    have hlx : Lx.lexS s.data.toList = (Lx.founds 0 s.data.toList, 0, 0) := by
      unfold Lx.lexS
      rw [if_neg (by rw [len_list]; have := HS.out; omega), hres]; rfl
    have n23 : r2 ≠ r3 := by have := HR.out; omega
    have n24 : r2 ≠ r4 := by have := HR.out; omega
    have n34 : r3 ≠ r4 := by have := HR.out; omega
    have n2o : r2 ≠ ro := by have := HR.out; omega
    have zo : W.cell? ⟨ro, 0, none⟩ = some v := (blk_cell ho 0).trans rfl
    have zr2 : W.cell? ⟨r2, 0, none⟩ = some (.slice none 0 0) := (blk_cell h2 0).trans rfl
    have zr3 : W.cell? ⟨r3, 0, none⟩ = some (.int .i64 0) := (blk_cell h3 0).trans rfl
    have zr4 : W.cell? ⟨r4, 0, none⟩ = some (.int .i64 0) := (blk_cell h4 0).trans rfl
    have fr2 := blk_frozen h2 0
    have fr3 := blk_frozen h3 0
    have fr4 := blk_frozen h4 0
    have n32 := n23.symm
    have n42 := n24.symm
    have n43 := n34.symm
    obtain ⟨A, c, rfl⟩ : ∃ A c, v = .slice A (Lx.founds 0 s.data.toList).length c := by
      rcases hown.2 with ⟨rfl, h0⟩ | ⟨g, cap, cur, rfl, _⟩
      · exact ⟨none, 0, by rw [h0]⟩
      · exact ⟨_, cap, rfl⟩
    have HLX := Aside0.mk hlx
    have HO := Aside0.mk ho
    have HW := Aside0.mk hown
    have H2 := Aside0.mk h2
    have H3 := Aside0.mk h3
    have H4 := Aside0.mk h4
    have HBL := Aside0.mk hBl
    have HK := Aside0.mk hK
    have HD := Aside0.mk hD
    clear hG ho hown h2 h3 h4 hBl hK hres hlx hD
    gi_wp2
    have hK2 := (KeepsOthers.setCell W ⟨r2, 0, none⟩ (.slice A (Lx.founds 0 s.data.toList).length c)).trans ((KeepsOthers.setCell _ ⟨r3, 0, none⟩ (.int .i64 0)).trans (KeepsOthers.setCell _ ⟨r4, 0, none⟩ (.int .i64 0)))
    have hK3 := hK2.same D _ HK.out rfl
    have k2 : (((W.setCell ⟨r2, 0, none⟩ (.slice A (Lx.founds 0 s.data.toList).length c)).setCell ⟨r3, 0, none⟩ (.int .i64 0)).setCell ⟨r4, 0, none⟩ (.int .i64 0)).heap[r2]? = some (.cells #[.slice A (Lx.founds 0 s.data.toList).length c] 23 (0, 0)) := blk_far (blk_far (blk_put H2.out 0 _ rfl) n23 _) n24 _
    have k3 : (((W.setCell ⟨r2, 0, none⟩ (.slice A (Lx.founds 0 s.data.toList).length c)).setCell ⟨r3, 0, none⟩ (.int .i64 0)).setCell ⟨r4, 0, none⟩ (.int .i64 0)).heap[r3]? = some (.cells #[.int .i64 0] 24 (0, 0)) := blk_far (blk_put (blk_far H3.out n32 _) 0 _ rfl) n34 _
    have k4 : (((W.setCell ⟨r2, 0, none⟩ (.slice A (Lx.founds 0 s.data.toList).length c)).setCell ⟨r3, 0, none⟩ (.int .i64 0)).setCell ⟨r4, 0, none⟩ (.int .i64 0)).heap[r4]? = some (.cells #[.int .i64 0] 3 (0, 0)) := blk_put (blk_far (blk_far H4.out n42 _) n43 _) 0 _ rfl
    have kB : Below w.heap.size w (((W.setCell ⟨r2, 0, none⟩ (.slice A (Lx.founds 0 s.data.toList).length c)).setCell ⟨r3, 0, none⟩ (.int .i64 0)).setCell ⟨r4, 0, none⟩ (.int .i64 0)) := below_set (below_set (below_set HBL.out (by have := HR.out; show w.heap.size ≤ r2; omega)) (by have := HR.out; show w.heap.size ≤ r3; omega)) (by have := HR.out; show w.heap.size ≤ r4; omega)
    have m2 := own_ne HW.out H2.out (by decide)
    have m3 := own_ne HW.out H3.out (by decide)
    have m4 := own_ne HW.out H4.out (by decide)
    have kW := own_setCell (own_setCell (own_setCell HW.out (p := ⟨r2, 0, none⟩) m2 (.slice A (Lx.founds 0 s.data.toList).length c)) (p := ⟨r3, 0, none⟩) m3 (.int .i64 0)) (p := ⟨r4, 0, none⟩) m4 (.int .i64 0)
    generalize (((W.setCell ⟨r2, 0, none⟩ (.slice A (Lx.founds 0 s.data.toList).length c)).setCell ⟨r3, 0, none⟩ (.int .i64 0)).setCell ⟨r4, 0, none⟩ (.int .i64 0)) = W9 at k2 k3 k4 kB kW hK3 ⊢
    refine ⟨by simp, .inl ⟨_, _, rfl, run_takeDeferred hK3, ?_⟩⟩
    have hturn : ∀ r, some D = some r → ∃ o : Obj, W9.heap[r]? = some o ∧ o.isCells = false := fun r e => by cases e; exact ⟨_, hK3, rfl⟩
    have hgb := grownBy_putObj' W9 D (.deferred none)
    refine ⟨.tuple #[.slice A (Lx.founds 0 s.data.toList).length c, .int .i64 0, .int .i64 0], ?_, ?_⟩
    · exact results_cells3 (cells_kept k2 hgb hturn) (cells_kept k3 hgb hturn) (cells_kept k4 hgb hturn)
    · refine ⟨_, by rw [HLX.out]; rfl, ?_, kB.grown hgb kB.size (fun k e => by cases e; exact Nat.le_trans hlo HD.out)⟩
      rw [HLX.out]
      exact ownsRow_kept kW hgb hturn
  case stop =>
    rintro D c pre W hD hpre hX hK
    obtain ⟨rfl, e, a, h1, h2, h3, h4, hBl⟩ := hX
    obtain ⟨rest, hrest⟩ := hpre
    have hlx : Lx.lexS s.data.toList = ([], e, a) := by
      unfold Lx.lexS
      rw [if_neg (by rw [len_list]; have := HS.out; omega), ← hrest, h1]
    have HLX := Aside0.mk hlx
    have H2 := Aside0.mk h2
    have H3 := Aside0.mk h3
    have H4 := Aside0.mk h4
    have HBL := Aside0.mk hBl
    have HK := Aside0.mk hK
    have HD := Aside0.mk hD
    clear h1 h2 h3 h4 hBl hK hD hrest hlx
    gi_wp2
    refine ⟨by simp, .inl ⟨_, _, rfl, run_takeDeferred HK.out, ?_⟩⟩
    have hturn : ∀ r, some D = some r → ∃ o : Obj, W.heap[r]? = some o ∧ o.isCells = false := fun r e => by cases e; exact ⟨_, HK.out, rfl⟩
    have hgb := grownBy_putObj' W D (.deferred none)
    refine ⟨.tuple #[.slice none 0 0, .int .i64 e, .int .i64 a], ?_, ?_⟩
    · exact results_cells3 (cells_kept H2.out hgb hturn) (cells_kept H3.out hgb hturn) (cells_kept H4.out hgb hturn)
    · refine ⟨_, by rw [HLX.out], ?_, HBL.out.grown hgb HBL.out.size (fun k e => by cases e; exact Nat.le_trans hlo HD.out)⟩
      rw [HLX.out]
      exact ⟨rfl, .inl ⟨rfl, rfl⟩⟩
set_option maxHeartbeats 1000000 in
theorem lex_long (s : ByteArray) (w : World) (hs : 20000 < s.size) :
    Calls Try.prog 12 #[.string s] w fun e w' => ∃ v, e = .returned (.tuple #[v, .int .i64 (Lx.lexS s.data.toList).2.1, .int .i64 (Lx.lexS s.data.toList).2.2]) ∧
      w'.ownsRow w.heap.size 31 3 v (Lx.lexS s.data.toList).1.length ((Lx.lexS s.data.toList).1.flatMap cellsF) ∧ Below w.heap.size w w' := by
  have hlx : Lx.lexS s.data.toList = ([], 2, -1) := by
    unfold Lx.lexS
    rw [if_pos (by rw [len_list]; exact hs)]
  rw [hlx]
  have hd : decide ((20000 : Int) < s.size) = true := decide_eq_true (by omega)
  have HB := Aside0.mk (Below.refl w.heap.size w)
  clear hs hlx
  go_enter Try.func12, Try.ntmps12
  go_wp2
  refine bodyPost_ret (v := .tuple #[.slice none 0 0, .int .i64 2, .int .i64 (-1)]) (by simp [results, Try.results12, go_sem]) rfl ⟨_, rfl, ⟨rfl, .inl ⟨rfl, rfl⟩⟩, ?_⟩
  repeat (first | exact HB.out | apply below_alloc | (refine below_set ?_ (by simp; try omega)))
/-- a token as the printed functions have it -/
def toS (x : Lx.Fd) : S31 := ⟨x.kind, ⟨x.text.toArray⟩, x.pos⟩
/-- what Lex answers -/
def lexR (s : ByteArray) : List S31 × Int × Int := ((Lx.lexS s.data.toList).1.map toS, (Lx.lexS s.data.toList).2.1, (Lx.lexS s.data.toList).2.2)
theorem reps_toS (w : World) (base : Nat) (ok : Nat → Prop) (xs : List Lx.Fd) : Reps (k31.M w base ok) 3 (xs.map toS) (xs.flatMap cellsF) := by
  refine ⟨by rw [cellsF_length, List.length_map], fun j p hp => ?_⟩
  rw [List.getElem?_map] at hp
  obtain ⟨x, hx, rfl⟩ := Option.map_eq_some_iff.1 hp
  clear hp
  have : ((xs.flatMap cellsF).drop (j * 3)).take 3 = cellsF x := by
    induction xs generalizing j with
    | nil => simp at hx
    | cons y ys ih =>
      cases j with
      | zero => simp at hx; subst hx; simp [cellsF]
      | succ j =>
        rw [List.flatMap_cons, show (j + 1) * 3 = (cellsF y).length + j * 3 by simp [cellsF]; omega, List.drop_append]
        simp only [Nat.add_sub_cancel_left, List.drop_of_length_le (show (cellsF y).length ≤ (cellsF y).length + j * 3 by omega), List.nil_append]
        exact ih j (by simpa using hx)
  rw [this]
  exact k31_mkM w base ok (toS x)
theorem lex_any (s : ByteArray) (w : World) :
    Calls Try.prog 12 #[.string s] w fun e w' => ∃ v, e = .returned (.tuple #[v, .int .i64 (lexR s).2.1, .int .i64 (lexR s).2.2]) ∧ Kd.R k31 31 w' w.heap.size (fun _ => True) v (lexR s).1 ∧ Below w.heap.size w w' := by
  have h : Calls Try.prog 12 #[.string s] w fun e w' => ∃ v, e = .returned (.tuple #[v, .int .i64 (Lx.lexS s.data.toList).2.1, .int .i64 (Lx.lexS s.data.toList).2.2]) ∧
      w'.ownsRow w.heap.size 31 3 v (Lx.lexS s.data.toList).1.length ((Lx.lexS s.data.toList).1.flatMap cellsF) ∧ Below w.heap.size w w' := by
    by_cases hs : s.size ≤ 20000
    · exact lex_short s w hs
    · exact lex_long s w (by omega)
  refine h.mono fun e w' he => ?_
  obtain ⟨v, e1, e2, e3⟩ := he
  refine ⟨v, e1, ⟨fun _ _ => trivial, _, ?_, reps_toS _ _ _ _⟩, e3⟩
  show w'.ownsRow _ _ _ _ (((Lx.lexS s.data.toList).1.map toS).length) _
  rw [List.length_map]
  exact e2
end Go.Proofs.Ytflocikkhpjicaa.P
