-- printed for this claim by xprint.py (the seat's own program)
import Derived.Test.YtflocikkhpjicaaPx0
import Derived.Test.YtflocikkhpjicaaPx1
import Derived.Test.YtflocikkhpjicaaPx4
namespace Go.Proofs.Ytflocikkhpjicaa.P
open Go.RowKit Go.Proofs.YtflocikkhpjicaaW.PrintWords Go.Proofs.YtflocikkhpjicaaW.PrintLast Go.Proofs.YtflocikkhpjicaaW.PrintMore
attribute [local go_sem] max2_int min2_int max_two min_two max_three min_three max_four min_four   -- for this text's walks alone
set_option linter.unusedVariables false
set_option linter.unusedSimpArgs false

/-! ### planisphereref08_Same: function 14, by hand -/
-- EXT planisphere/planisphereref08.Same making rounds
attribute [local go_sem high] eqA31
def planisphereref08_Same.l0 : Nat → List (S31) → Int → List (S31) → Int → Option (Bool)
  | 0, _, _, _, _ => none
  | k + 1, x0, x1, x2, x7 => if x7 < (x0.length : Int) then (if 0 ≤ x7 then (if x7 < (x2.length : Int) then (if (!(((rd_T31 x0 x7).f0) == ((rd_T31 x2 x7).f0)) || (!((((rd_T31 x0 x7).f1).toList) == (((rd_T31 x2 x7).f1).toList)) || (!((wrap64 (((rd_T31 x0 x7).f2) + x1)) == ((rd_T31 x2 x7).f2))))) = true then (some false) else (planisphereref08_Same.l0 k x0 x1 x2 (wrap64 (x7 + 1)))) else (none)) else (none)) else (some true)
def planisphereref08_Same.f (k : Nat) (l0 : List (S31)) (a1 : Int) (l2 : List (S31)) : Option (Bool) := if (l0.length : Int) = (l2.length : Int) then (planisphereref08_Same.l0 k l0 a1 l2 0) else (some false)
theorem planisphereref08_Same.mono_l : ∀ k, (∀ y0 y1 y2 y3, LeO (planisphereref08_Same.l0 k y0 y1 y2 y3) (planisphereref08_Same.l0 (k + 1) y0 y1 y2 y3))
  | 0 => fun _ _ _ _ r h => by simp [planisphereref08_Same.l0] at h
  | k + 1 => by
    have ih0 := planisphereref08_Same.mono_l k
    · intro y0 y1 y2 y3
      unfold planisphereref08_Same.l0
      repeat' first
      | (with_reducible exact ih0 _ _ _ _)
      | (with_reducible exact LeO.refl _)
      | (with_reducible exact LeO.none _)
      | (with_reducible refine LeO.ite ?_ ?_)
      | (with_reducible refine LeO.bind ?_ (fun _ => ?_))
      | exact ih0 _ _ _ _
      | exact LeO.none _
      | refine LeO.ite ?_ ?_
      | refine LeO.bind ?_ (fun _ => ?_)
theorem planisphereref08_Same.mono : ∀ a0 a1 a2 k, LeO (planisphereref08_Same.f k a0 a1 a2) (planisphereref08_Same.f (k + 1) a0 a1 a2) := by
  intro a0 a1 a2 k
  have ih0 := planisphereref08_Same.mono_l k
  unfold planisphereref08_Same.f
  repeat' first
      | (with_reducible exact ih0 _ _ _ _)
      | (with_reducible exact LeO.refl _)
      | (with_reducible exact LeO.none _)
      | (with_reducible refine LeO.ite ?_ ?_)
      | (with_reducible refine LeO.bind ?_ (fun _ => ?_))
      | exact ih0 _ _ _ _
      | exact LeO.none _
      | refine LeO.ite ?_ ?_
      | refine LeO.bind ?_ (fun _ => ?_)
set_option maxHeartbeats 8000000 in
set_option maxRecDepth 100000 in
theorem planisphereref08_Same.calls (k : Nat) (A0 : Option Addr) (c0 : Nat) (l0 : List (S31)) (a1 : Int) (A2 : Option Addr) (c2 : Nat) (l2 : List (S31)) (r : Bool) (w : World) (hr0 : Kd.C k31 w A0 l0.length l0) (hc0 : l0.length ≤ c0) (hr2 : Kd.C k31 w A2 l2.length l2) (hc2 : l2.length ≤ c2) (h : planisphereref08_Same.f k l0 a1 l2 = some r) :
    Calls Try.prog 14 #[.slice A0 l0.length c0, .int .i64 a1, .slice A2 l2.length c2] w fun e w' => e = .returned (.bool r) ∧ Below w.heap.size w w' := by
 have hu31 := Try.underlying31
 have HR0 := Aside0.mk hr0
 have HC0 := Aside0.mk hc0
 clear hr0 hc0
 have HR2 := Aside0.mk hr2
 have HC2 := Aside0.mk hc2
 clear hr2 hc2
 have HB := Aside0.mk (Below.refl w.heap.size w)
 have H : (if (l0.length : Int) = (l2.length : Int) then (planisphereref08_Same.l0 k l0 a1 l2 0) else (some false)) = some r := h
 clear h
 by_cases c4 : (l0.length : Int) = (l2.length : Int)
 ·rw [if_pos c4] at H
  have c4b0 : ((l0.length : Int) == (l2.length : Int)) = true := beq_iff_eq.mpr c4
  have c4b1 : ((l0.length : Int) != (l2.length : Int)) = false := bne_eq_false_iff_eq.mpr c4
  have c4b2 : (l0.length == l2.length) = true := by first | simpa using c4 | (simp at c4 ⊢; omega)
  clear c4
  have H' := Aside0.mk H
  clear H
  go_enter Try.func14, Try.ntmps14
  go_wp2
  repeat (go_quiet (fail); try go_wp2)
  try simp only [Act.put, List.setIfInBounds_toArray, List.set_cons_succ, List.set_cons_zero]
  go_loopg [7] k (fun kq v7 w' => ∃ (x7_1 : Int), v7 = .int .i64 x7_1 ∧ Aside0 (planisphereref08_Same.l0 kq l0 a1 l2 x7_1 = some r) ∧ Aside0 (kq ≤ k) ∧ Aside0 (Below w.heap.size w w'))
  case atStart => exact ⟨(0), (by first | rfl | (simp; done) | (simp [*]; done)), H', ⟨Nat.le_refl _⟩, ⟨by repeat (first | (with_reducible first | exact HB.out | apply below_alloc | apply pw_below_drewN | apply below_drew1) | exact HB.out)⟩⟩
  case round =>
   clear H'
   try clear c1
   try clear c2
   try clear p2
   try clear c4
   try clear c4b0
   try clear c4b1
   try clear c4b2
   obtain ⟨x7_1, rfl, HA, HK1, HB⟩ := hrel
   cases gk with
   | zero => exact absurd HA.out (by simp [planisphereref08_Same.l0])
   | succ k1 =>
    have H := HA.out
    clear HA
    simp only [planisphereref08_Same.l0] at H
    by_cases c5 : x7_1 < (l0.length : Int)
    ·rw [if_pos c5] at H
     have c5b0 : decide (x7_1 < (l0.length : Int)) = true := decide_eq_true c5
     clear c5
     by_cases c6 : 0 ≤ x7_1
     ·rw [if_pos c6] at H
      have c6b0 : decide (0 ≤ x7_1) = true := decide_eq_true c6
      clear c6
      by_cases c7 : x7_1 < (l2.length : Int)
      ·rw [if_pos c7] at H
       have c7b0 : decide (x7_1 < (l2.length : Int)) = true := decide_eq_true c7
       clear c7
       by_cases c8 : (!(((rd_T31 l0 x7_1).f0) == ((rd_T31 l2 x7_1).f0)) || (!((((rd_T31 l0 x7_1).f1).toList) == (((rd_T31 l2 x7_1).f1).toList)) || (!((wrap64 (((rd_T31 l0 x7_1).f2) + a1)) == ((rd_T31 l2 x7_1).f2))))) = true
       ·rw [if_pos c8] at H
        have c8b0 : (!(((rd_T31 l0 x7_1).f0) == ((rd_T31 l2 x7_1).f0)) || (!((((rd_T31 l0 x7_1).f1).toList) == (((rd_T31 l2 x7_1).f1).toList)) || (!((wrap64 (((rd_T31 l0 x7_1).f2) + a1)) == ((rd_T31 l2 x7_1).f2))))) = true := c8
        clear c8
        obtain rfl := Option.some.inj H
        have p159 : 0 ≤ (x7_1 : Int) := of_decide_eq_true (by first | (with_reducible assumption) | assumption)
        have q159 : x7_1 < (l0.length : Int) := of_decide_eq_true (by first | (with_reducible assumption) | assumption)
        obtain ⟨ad159, e159, hx159_0, hx159_1, hx159_2⟩ := at_T31 HR0.out x7_1 p159 q159
        cases e159
        replace hx159_0 := (HB.out.cell (World.block_lt_of_cell? w _ hx159_0)).trans hx159_0
        replace hx159_1 := (HB.out.cell (World.block_lt_of_cell? w _ hx159_1)).trans hx159_1
        replace hx159_2 := (HB.out.cell (World.block_lt_of_cell? w _ hx159_2)).trans hx159_2
        replace p159 := eq_true p159
        replace q159 := eq_true q159
        go_wp2_with (first | ((with_reducible refine gate_dst (N := 8) rfl ?_); refine box_event ?hg (N := 8) ?hd (cs := #[.int .i64 0, .string (⟨#[]⟩ : ByteArray), .int .i64 0]) (t := 31) ?hr ?_; (case hd => rfl); (case hg => rfl); (case hr => first | (go_simp; done) | (go_simp; rfl)); intro gb160 hg w9 hbox hb; have n0_ := Aside0.mk (below_step HB.out hb); have n1_ := Aside0.mk (hbox); have n2_ := Aside0.mk ((by rw [hg]; exact (below_size HB.out) : w.heap.size ≤ gb160)); have n3_ := Aside0.mk ((by rw [hg]; exact (below_size HB.out) : w.heap.size ≤ gb160)); clear HB; have HB := n0_; have BK160 := n1_; have GW160 := n2_; have GE160 := n3_; clear n0_ n1_ n2_ n3_; clear hb hbox hg; have hcz10_0 : w9.cell? ⟨gb160, 0, none⟩ = some (.int .i64 0) := (blk_cell BK160.out 0).trans rfl; have hcz10_1 : w9.cell? ⟨gb160, 1, none⟩ = some (.string (⟨#[]⟩ : ByteArray)) := (blk_cell BK160.out 1).trans rfl; have hcz10_2 : w9.cell? ⟨gb160, 2, none⟩ = some (.int .i64 0) := (blk_cell BK160.out 2).trans rfl; have hfz10_0 := blk_frozen BK160.out 0; have hfz10_1 := blk_frozen BK160.out 1; have hfz10_2 := blk_frozen BK160.out 2; have p161 : 0 ≤ (x7_1 : Int) := of_decide_eq_true (by first | (with_reducible assumption) | assumption); have q161 : x7_1 < (l2.length : Int) := of_decide_eq_true (by first | (with_reducible assumption) | assumption); obtain ⟨ad161, e161, hx161_0, hx161_1, hx161_2⟩ := at_T31 HR2.out x7_1 p161 q161; cases e161; have hn161_0 : ad161.block ≠ gb160 := Nat.ne_of_lt (Nat.lt_of_lt_of_le (by have := World.block_lt_of_cell? _ _ hx161_0; first | rwa [add_block] at this | exact this) GW160.out); have hn161_1 : ad161.block ≠ gb160 := Nat.ne_of_lt (Nat.lt_of_lt_of_le (by have := World.block_lt_of_cell? _ _ hx161_0; first | rwa [add_block] at this | exact this) GW160.out); have hn161_2 : ad161.block ≠ gb160 := Nat.ne_of_lt (Nat.lt_of_lt_of_le (by have := World.block_lt_of_cell? _ _ hx161_0; first | rwa [add_block] at this | exact this) GW160.out); have hn161_3 : ad161.block ≠ gb160 := Nat.ne_of_lt (Nat.lt_of_lt_of_le (by have := World.block_lt_of_cell? _ _ hx161_0; first | rwa [add_block] at this | exact this) GW160.out); replace hx161_0 := (HB.out.cell (World.block_lt_of_cell? w _ hx161_0)).trans hx161_0; replace hx161_1 := (HB.out.cell (World.block_lt_of_cell? w _ hx161_1)).trans hx161_1; replace hx161_2 := (HB.out.cell (World.block_lt_of_cell? w _ hx161_2)).trans hx161_2; replace hx161_0 := (cell_far (p := ⟨gb160, 0, none⟩) (by first | (rw [add_block]; exact hn161_0) | (show (Addr.add _ _).block ≠ _; rw [add_block]; exact hn161_0) | exact hn161_0) (.int .i64 ((rd_T31 l0 x7_1).f0))).trans hx161_0; replace hx161_1 := (cell_far (p := ⟨gb160, 0, none⟩) (by first | (rw [add_block]; exact hn161_0) | (show (Addr.add _ _).block ≠ _; rw [add_block]; exact hn161_0) | exact hn161_0) (.int .i64 ((rd_T31 l0 x7_1).f0))).trans hx161_1; replace hx161_2 := (cell_far (p := ⟨gb160, 0, none⟩) (by first | (rw [add_block]; exact hn161_0) | (show (Addr.add _ _).block ≠ _; rw [add_block]; exact hn161_0) | exact hn161_0) (.int .i64 ((rd_T31 l0 x7_1).f0))).trans hx161_2; replace hx161_0 := (cell_far (p := ⟨gb160, 1, none⟩) (by first | (rw [add_block]; exact hn161_1) | (show (Addr.add _ _).block ≠ _; rw [add_block]; exact hn161_1) | exact hn161_1) (.string ((rd_T31 l0 x7_1).f1))).trans hx161_0; replace hx161_1 := (cell_far (p := ⟨gb160, 1, none⟩) (by first | (rw [add_block]; exact hn161_1) | (show (Addr.add _ _).block ≠ _; rw [add_block]; exact hn161_1) | exact hn161_1) (.string ((rd_T31 l0 x7_1).f1))).trans hx161_1; replace hx161_2 := (cell_far (p := ⟨gb160, 1, none⟩) (by first | (rw [add_block]; exact hn161_1) | (show (Addr.add _ _).block ≠ _; rw [add_block]; exact hn161_1) | exact hn161_1) (.string ((rd_T31 l0 x7_1).f1))).trans hx161_2; replace hx161_0 := (cell_far (p := ⟨gb160, 2, none⟩) (by first | (rw [add_block]; exact hn161_2) | (show (Addr.add _ _).block ≠ _; rw [add_block]; exact hn161_2) | exact hn161_2) (.int .i64 ((rd_T31 l0 x7_1).f2))).trans hx161_0; replace hx161_1 := (cell_far (p := ⟨gb160, 2, none⟩) (by first | (rw [add_block]; exact hn161_2) | (show (Addr.add _ _).block ≠ _; rw [add_block]; exact hn161_2) | exact hn161_2) (.int .i64 ((rd_T31 l0 x7_1).f2))).trans hx161_1; replace hx161_2 := (cell_far (p := ⟨gb160, 2, none⟩) (by first | (rw [add_block]; exact hn161_2) | (show (Addr.add _ _).block ≠ _; rw [add_block]; exact hn161_2) | exact hn161_2) (.int .i64 ((rd_T31 l0 x7_1).f2))).trans hx161_2; replace hx161_0 := (cell_far (p := ⟨gb160, 2, none⟩) (by first | (rw [add_block]; exact hn161_3) | (show (Addr.add _ _).block ≠ _; rw [add_block]; exact hn161_3) | exact hn161_3) (.int .i64 (wrap64 (((rd_T31 l0 x7_1).f2) + a1)))).trans hx161_0; replace hx161_1 := (cell_far (p := ⟨gb160, 2, none⟩) (by first | (rw [add_block]; exact hn161_3) | (show (Addr.add _ _).block ≠ _; rw [add_block]; exact hn161_3) | exact hn161_3) (.int .i64 (wrap64 (((rd_T31 l0 x7_1).f2) + a1)))).trans hx161_1; replace hx161_2 := (cell_far (p := ⟨gb160, 2, none⟩) (by first | (rw [add_block]; exact hn161_3) | (show (Addr.add _ _).block ≠ _; rw [add_block]; exact hn161_3) | exact hn161_3) (.int .i64 (wrap64 (((rd_T31 l0 x7_1).f2) + a1)))).trans hx161_2; (try have hy161_0 := fun (n_ : Nat) => (show ((((((w9.drewN n_).setCell ⟨gb160, 0, none⟩ (.int .i64 ((rd_T31 l0 x7_1).f0))).setCell ⟨gb160, 1, none⟩ (.string ((rd_T31 l0 x7_1).f1))).setCell ⟨gb160, 2, none⟩ (.int .i64 ((rd_T31 l0 x7_1).f2))).setCell ⟨gb160, 2, none⟩ (.int .i64 (wrap64 (((rd_T31 l0 x7_1).f2) + a1))))).cell? _ = some _ from hx161_0)); (try have hy161_1 := fun (n_ : Nat) => (show ((((((w9.drewN n_).setCell ⟨gb160, 0, none⟩ (.int .i64 ((rd_T31 l0 x7_1).f0))).setCell ⟨gb160, 1, none⟩ (.string ((rd_T31 l0 x7_1).f1))).setCell ⟨gb160, 2, none⟩ (.int .i64 ((rd_T31 l0 x7_1).f2))).setCell ⟨gb160, 2, none⟩ (.int .i64 (wrap64 (((rd_T31 l0 x7_1).f2) + a1))))).cell? _ = some _ from hx161_1)); (try have hy161_2 := fun (n_ : Nat) => (show ((((((w9.drewN n_).setCell ⟨gb160, 0, none⟩ (.int .i64 ((rd_T31 l0 x7_1).f0))).setCell ⟨gb160, 1, none⟩ (.string ((rd_T31 l0 x7_1).f1))).setCell ⟨gb160, 2, none⟩ (.int .i64 ((rd_T31 l0 x7_1).f2))).setCell ⟨gb160, 2, none⟩ (.int .i64 (wrap64 (((rd_T31 l0 x7_1).f2) + a1))))).cell? _ = some _ from hx161_2)); clear hn161_0; clear hn161_1; clear hn161_2; clear hn161_3; replace p161 := eq_true p161; replace q161 := eq_true q161))
        obtain ⟨w10, hw10⟩ : ∃ w' : World, w' = ((((w9.setCell ⟨gb160, 0, none⟩ (.int .i64 (rd_T31 l0 x7_1).f0)).setCell ⟨gb160, 1, none⟩ (.string (rd_T31 l0 x7_1).f1)).setCell ⟨gb160, 2, none⟩ (.int .i64 (rd_T31 l0 x7_1).f2)).setCell ⟨gb160, 2, none⟩ (.int .i64 (wrap64 ((rd_T31 l0 x7_1).f2 + a1)))) := ⟨_, rfl⟩
        have BK10 : w10.heap[gb160]? = some (.cells #[.int .i64 (rd_T31 l0 x7_1).f0, .string (rd_T31 l0 x7_1).f1, .int .i64 (wrap64 ((rd_T31 l0 x7_1).f2 + a1))] 31 (0, 0)) := by
         rw [hw10]
         refine blk_put (cs := #[.int .i64 (rd_T31 l0 x7_1).f0, .string (rd_T31 l0 x7_1).f1, .int .i64 (rd_T31 l0 x7_1).f2]) ?_ 2 _ rfl
         refine blk_put (cs := #[.int .i64 (rd_T31 l0 x7_1).f0, .string (rd_T31 l0 x7_1).f1, .int .i64 0]) ?_ 2 _ rfl
         refine blk_put (cs := #[.int .i64 (rd_T31 l0 x7_1).f0, .string (⟨#[]⟩ : ByteArray), .int .i64 0]) ?_ 1 _ rfl
         refine blk_put (cs := #[.int .i64 0, .string (⟨#[]⟩ : ByteArray), .int .i64 0]) ?_ 0 _ rfl
         exact BK160.out
        have hq0 : w10.cell? ⟨gb160, 0, none⟩ = some (.int .i64 (rd_T31 l0 x7_1).f0) := (blk_cell BK10 0).trans rfl
        have hq1 : w10.cell? ⟨gb160, 1, none⟩ = some (.string (rd_T31 l0 x7_1).f1) := (blk_cell BK10 1).trans rfl
        have hq2 : w10.cell? ⟨gb160, 2, none⟩ = some (.int .i64 (wrap64 ((rd_T31 l0 x7_1).f2 + a1))) := (blk_cell BK10 2).trans rfl
        have hB10 : Below w.heap.size w w10 := by rw [hw10]; exact below_set (below_set (below_set (below_set HB.out GE160.out) GE160.out) GE160.out) GE160.out
        obtain ⟨ad161x, e161x, hy0, hy1, hy2⟩ := at_T31 HR2.out x7_1 (of_eq_true p161) (of_eq_true q161)
        cases e161x
        replace hy0 := (hB10.cell (World.block_lt_of_cell? w _ hy0)).trans hy0
        replace hy1 := (hB10.cell (World.block_lt_of_cell? w _ hy1)).trans hy1
        replace hy2 := (hB10.cell (World.block_lt_of_cell? w _ hy2)).trans hy2
        rw [← hw10]
        clear hw10 BK10 hx161_0 hx161_1 hx161_2
        have HB10 := Aside0.mk hB10
        clear HB hB10
        have HB := HB10
        clear HB10
        go_quiet (fail)
        go_wp2
        go_ret
        exact ⟨by first | rfl | (simp [errW_none, errW_some] <;> rfl) | (simp [*, errW_none, errW_some] <;> rfl), by repeat (first | (with_reducible first | exact HB.out | apply below_alloc | apply pw_below_drewN | apply below_drew1 | refine below_set ?_ GE160.out) | exact HB.out)⟩
       ·rw [if_neg c8] at H
        have c8b0 : (!(((rd_T31 l0 x7_1).f0) == ((rd_T31 l2 x7_1).f0)) || (!((((rd_T31 l0 x7_1).f1).toList) == (((rd_T31 l2 x7_1).f1).toList)) || (!((wrap64 (((rd_T31 l0 x7_1).f2) + a1)) == ((rd_T31 l2 x7_1).f2))))) = false := by simpa using c8
        clear c8
        have H' := Aside0.mk H
        clear H
        have p159 : 0 ≤ (x7_1 : Int) := of_decide_eq_true (by first | (with_reducible assumption) | assumption)
        have q159 : x7_1 < (l0.length : Int) := of_decide_eq_true (by first | (with_reducible assumption) | assumption)
        obtain ⟨ad159, e159, hx159_0, hx159_1, hx159_2⟩ := at_T31 HR0.out x7_1 p159 q159
        cases e159
        replace hx159_0 := (HB.out.cell (World.block_lt_of_cell? w _ hx159_0)).trans hx159_0
        replace hx159_1 := (HB.out.cell (World.block_lt_of_cell? w _ hx159_1)).trans hx159_1
        replace hx159_2 := (HB.out.cell (World.block_lt_of_cell? w _ hx159_2)).trans hx159_2
        replace p159 := eq_true p159
        replace q159 := eq_true q159
        go_wp2_with (first | ((with_reducible refine gate_dst (N := 8) rfl ?_); refine box_event ?hg (N := 8) ?hd (cs := #[.int .i64 0, .string (⟨#[]⟩ : ByteArray), .int .i64 0]) (t := 31) ?hr ?_; (case hd => rfl); (case hg => rfl); (case hr => first | (go_simp; done) | (go_simp; rfl)); intro gb160 hg w11 hbox hb; have n0_ := Aside0.mk (below_step HB.out hb); have n1_ := Aside0.mk (hbox); have n2_ := Aside0.mk ((by rw [hg]; exact (below_size HB.out) : w.heap.size ≤ gb160)); have n3_ := Aside0.mk ((by rw [hg]; exact (below_size HB.out) : w.heap.size ≤ gb160)); clear HB; have HB := n0_; have BK160 := n1_; have GW160 := n2_; have GE160 := n3_; clear n0_ n1_ n2_ n3_; clear hb hbox hg; have hcz12_0 : w11.cell? ⟨gb160, 0, none⟩ = some (.int .i64 0) := (blk_cell BK160.out 0).trans rfl; have hcz12_1 : w11.cell? ⟨gb160, 1, none⟩ = some (.string (⟨#[]⟩ : ByteArray)) := (blk_cell BK160.out 1).trans rfl; have hcz12_2 : w11.cell? ⟨gb160, 2, none⟩ = some (.int .i64 0) := (blk_cell BK160.out 2).trans rfl; have hfz12_0 := blk_frozen BK160.out 0; have hfz12_1 := blk_frozen BK160.out 1; have hfz12_2 := blk_frozen BK160.out 2; have p161 : 0 ≤ (x7_1 : Int) := of_decide_eq_true (by first | (with_reducible assumption) | assumption); have q161 : x7_1 < (l2.length : Int) := of_decide_eq_true (by first | (with_reducible assumption) | assumption); obtain ⟨ad161, e161, hx161_0, hx161_1, hx161_2⟩ := at_T31 HR2.out x7_1 p161 q161; cases e161; have hn161_0 : ad161.block ≠ gb160 := Nat.ne_of_lt (Nat.lt_of_lt_of_le (by have := World.block_lt_of_cell? _ _ hx161_0; first | rwa [add_block] at this | exact this) GW160.out); have hn161_1 : ad161.block ≠ gb160 := Nat.ne_of_lt (Nat.lt_of_lt_of_le (by have := World.block_lt_of_cell? _ _ hx161_0; first | rwa [add_block] at this | exact this) GW160.out); have hn161_2 : ad161.block ≠ gb160 := Nat.ne_of_lt (Nat.lt_of_lt_of_le (by have := World.block_lt_of_cell? _ _ hx161_0; first | rwa [add_block] at this | exact this) GW160.out); have hn161_3 : ad161.block ≠ gb160 := Nat.ne_of_lt (Nat.lt_of_lt_of_le (by have := World.block_lt_of_cell? _ _ hx161_0; first | rwa [add_block] at this | exact this) GW160.out); replace hx161_0 := (HB.out.cell (World.block_lt_of_cell? w _ hx161_0)).trans hx161_0; replace hx161_1 := (HB.out.cell (World.block_lt_of_cell? w _ hx161_1)).trans hx161_1; replace hx161_2 := (HB.out.cell (World.block_lt_of_cell? w _ hx161_2)).trans hx161_2; replace hx161_0 := (cell_far (p := ⟨gb160, 0, none⟩) (by first | (rw [add_block]; exact hn161_0) | (show (Addr.add _ _).block ≠ _; rw [add_block]; exact hn161_0) | exact hn161_0) (.int .i64 ((rd_T31 l0 x7_1).f0))).trans hx161_0; replace hx161_1 := (cell_far (p := ⟨gb160, 0, none⟩) (by first | (rw [add_block]; exact hn161_0) | (show (Addr.add _ _).block ≠ _; rw [add_block]; exact hn161_0) | exact hn161_0) (.int .i64 ((rd_T31 l0 x7_1).f0))).trans hx161_1; replace hx161_2 := (cell_far (p := ⟨gb160, 0, none⟩) (by first | (rw [add_block]; exact hn161_0) | (show (Addr.add _ _).block ≠ _; rw [add_block]; exact hn161_0) | exact hn161_0) (.int .i64 ((rd_T31 l0 x7_1).f0))).trans hx161_2; replace hx161_0 := (cell_far (p := ⟨gb160, 1, none⟩) (by first | (rw [add_block]; exact hn161_1) | (show (Addr.add _ _).block ≠ _; rw [add_block]; exact hn161_1) | exact hn161_1) (.string ((rd_T31 l0 x7_1).f1))).trans hx161_0; replace hx161_1 := (cell_far (p := ⟨gb160, 1, none⟩) (by first | (rw [add_block]; exact hn161_1) | (show (Addr.add _ _).block ≠ _; rw [add_block]; exact hn161_1) | exact hn161_1) (.string ((rd_T31 l0 x7_1).f1))).trans hx161_1; replace hx161_2 := (cell_far (p := ⟨gb160, 1, none⟩) (by first | (rw [add_block]; exact hn161_1) | (show (Addr.add _ _).block ≠ _; rw [add_block]; exact hn161_1) | exact hn161_1) (.string ((rd_T31 l0 x7_1).f1))).trans hx161_2; replace hx161_0 := (cell_far (p := ⟨gb160, 2, none⟩) (by first | (rw [add_block]; exact hn161_2) | (show (Addr.add _ _).block ≠ _; rw [add_block]; exact hn161_2) | exact hn161_2) (.int .i64 ((rd_T31 l0 x7_1).f2))).trans hx161_0; replace hx161_1 := (cell_far (p := ⟨gb160, 2, none⟩) (by first | (rw [add_block]; exact hn161_2) | (show (Addr.add _ _).block ≠ _; rw [add_block]; exact hn161_2) | exact hn161_2) (.int .i64 ((rd_T31 l0 x7_1).f2))).trans hx161_1; replace hx161_2 := (cell_far (p := ⟨gb160, 2, none⟩) (by first | (rw [add_block]; exact hn161_2) | (show (Addr.add _ _).block ≠ _; rw [add_block]; exact hn161_2) | exact hn161_2) (.int .i64 ((rd_T31 l0 x7_1).f2))).trans hx161_2; replace hx161_0 := (cell_far (p := ⟨gb160, 2, none⟩) (by first | (rw [add_block]; exact hn161_3) | (show (Addr.add _ _).block ≠ _; rw [add_block]; exact hn161_3) | exact hn161_3) (.int .i64 (wrap64 (((rd_T31 l0 x7_1).f2) + a1)))).trans hx161_0; replace hx161_1 := (cell_far (p := ⟨gb160, 2, none⟩) (by first | (rw [add_block]; exact hn161_3) | (show (Addr.add _ _).block ≠ _; rw [add_block]; exact hn161_3) | exact hn161_3) (.int .i64 (wrap64 (((rd_T31 l0 x7_1).f2) + a1)))).trans hx161_1; replace hx161_2 := (cell_far (p := ⟨gb160, 2, none⟩) (by first | (rw [add_block]; exact hn161_3) | (show (Addr.add _ _).block ≠ _; rw [add_block]; exact hn161_3) | exact hn161_3) (.int .i64 (wrap64 (((rd_T31 l0 x7_1).f2) + a1)))).trans hx161_2; (try have hy161_0 := fun (n_ : Nat) => (show ((((((w11.drewN n_).setCell ⟨gb160, 0, none⟩ (.int .i64 ((rd_T31 l0 x7_1).f0))).setCell ⟨gb160, 1, none⟩ (.string ((rd_T31 l0 x7_1).f1))).setCell ⟨gb160, 2, none⟩ (.int .i64 ((rd_T31 l0 x7_1).f2))).setCell ⟨gb160, 2, none⟩ (.int .i64 (wrap64 (((rd_T31 l0 x7_1).f2) + a1))))).cell? _ = some _ from hx161_0)); (try have hy161_1 := fun (n_ : Nat) => (show ((((((w11.drewN n_).setCell ⟨gb160, 0, none⟩ (.int .i64 ((rd_T31 l0 x7_1).f0))).setCell ⟨gb160, 1, none⟩ (.string ((rd_T31 l0 x7_1).f1))).setCell ⟨gb160, 2, none⟩ (.int .i64 ((rd_T31 l0 x7_1).f2))).setCell ⟨gb160, 2, none⟩ (.int .i64 (wrap64 (((rd_T31 l0 x7_1).f2) + a1))))).cell? _ = some _ from hx161_1)); (try have hy161_2 := fun (n_ : Nat) => (show ((((((w11.drewN n_).setCell ⟨gb160, 0, none⟩ (.int .i64 ((rd_T31 l0 x7_1).f0))).setCell ⟨gb160, 1, none⟩ (.string ((rd_T31 l0 x7_1).f1))).setCell ⟨gb160, 2, none⟩ (.int .i64 ((rd_T31 l0 x7_1).f2))).setCell ⟨gb160, 2, none⟩ (.int .i64 (wrap64 (((rd_T31 l0 x7_1).f2) + a1))))).cell? _ = some _ from hx161_2)); clear hn161_0; clear hn161_1; clear hn161_2; clear hn161_3; replace p161 := eq_true p161; replace q161 := eq_true q161))
        obtain ⟨w10, hw10⟩ : ∃ w' : World, w' = ((((w11.setCell ⟨gb160, 0, none⟩ (.int .i64 (rd_T31 l0 x7_1).f0)).setCell ⟨gb160, 1, none⟩ (.string (rd_T31 l0 x7_1).f1)).setCell ⟨gb160, 2, none⟩ (.int .i64 (rd_T31 l0 x7_1).f2)).setCell ⟨gb160, 2, none⟩ (.int .i64 (wrap64 ((rd_T31 l0 x7_1).f2 + a1)))) := ⟨_, rfl⟩
        have BK10 : w10.heap[gb160]? = some (.cells #[.int .i64 (rd_T31 l0 x7_1).f0, .string (rd_T31 l0 x7_1).f1, .int .i64 (wrap64 ((rd_T31 l0 x7_1).f2 + a1))] 31 (0, 0)) := by
         rw [hw10]
         refine blk_put (cs := #[.int .i64 (rd_T31 l0 x7_1).f0, .string (rd_T31 l0 x7_1).f1, .int .i64 (rd_T31 l0 x7_1).f2]) ?_ 2 _ rfl
         refine blk_put (cs := #[.int .i64 (rd_T31 l0 x7_1).f0, .string (rd_T31 l0 x7_1).f1, .int .i64 0]) ?_ 2 _ rfl
         refine blk_put (cs := #[.int .i64 (rd_T31 l0 x7_1).f0, .string (⟨#[]⟩ : ByteArray), .int .i64 0]) ?_ 1 _ rfl
         refine blk_put (cs := #[.int .i64 0, .string (⟨#[]⟩ : ByteArray), .int .i64 0]) ?_ 0 _ rfl
         exact BK160.out
        have hq0 : w10.cell? ⟨gb160, 0, none⟩ = some (.int .i64 (rd_T31 l0 x7_1).f0) := (blk_cell BK10 0).trans rfl
        have hq1 : w10.cell? ⟨gb160, 1, none⟩ = some (.string (rd_T31 l0 x7_1).f1) := (blk_cell BK10 1).trans rfl
        have hq2 : w10.cell? ⟨gb160, 2, none⟩ = some (.int .i64 (wrap64 ((rd_T31 l0 x7_1).f2 + a1))) := (blk_cell BK10 2).trans rfl
        have hB10 : Below w.heap.size w w10 := by rw [hw10]; exact below_set (below_set (below_set (below_set HB.out GE160.out) GE160.out) GE160.out) GE160.out
        obtain ⟨ad161x, e161x, hy0, hy1, hy2⟩ := at_T31 HR2.out x7_1 (of_eq_true p161) (of_eq_true q161)
        cases e161x
        replace hy0 := (hB10.cell (World.block_lt_of_cell? w _ hy0)).trans hy0
        replace hy1 := (hB10.cell (World.block_lt_of_cell? w _ hy1)).trans hy1
        replace hy2 := (hB10.cell (World.block_lt_of_cell? w _ hy2)).trans hy2
        rw [← hw10]
        clear hw10 BK10 hx161_0 hx161_1 hx161_2
        have HB10 := Aside0.mk hB10
        clear HB hB10
        have HB := HB10
        clear HB10
        go_quiet (fail)
        go_wp2
        go_roundg k1
        case measure => have := HK1.out; omega
        case rel => exact ⟨(wrap64 (x7_1 + 1)), (by first | rfl | (simp; done) | (simp [*]; done)), H', ⟨by have := HK1.out; omega⟩, ⟨by repeat (first | (with_reducible first | exact HB.out | apply below_alloc | apply pw_below_drewN | apply below_drew1 | refine below_set ?_ GE160.out) | exact HB.out)⟩⟩
      ·rw [if_neg c7] at H
       exact absurd H (by simp)
     ·rw [if_neg c6] at H
      exact absurd H (by simp)
    ·rw [if_neg c5] at H
     have c5b0 : decide (x7_1 < (l0.length : Int)) = false := decide_eq_false c5
     clear c5
     obtain rfl := Option.some.inj H
     go_wp2
     repeat (go_quiet (fail); try go_wp2)
     go_ret
     exact ⟨by first | rfl | (simp [errW_none, errW_some] <;> rfl) | (simp [*, errW_none, errW_some] <;> rfl), by repeat (first | (with_reducible first | exact HB.out | apply below_alloc | apply pw_below_drewN | apply below_drew1) | exact HB.out)⟩
 ·rw [if_neg c4] at H
  have c4b0 : ((l0.length : Int) == (l2.length : Int)) = false := beq_eq_false_iff_ne.mpr c4
  have c4b1 : ((l0.length : Int) != (l2.length : Int)) = true := bne_iff_ne.mpr c4
  have c4b2 : (l0.length == l2.length) = false := by first | simpa using c4 | (simp at c4 ⊢; omega)
  obtain rfl := Option.some.inj H
  go_enter Try.func14, Try.ntmps14
  go_wp2
  repeat (go_quiet (fail); try go_wp2)
  go_ret
  exact ⟨by first | rfl | (simp [errW_none, errW_some] <;> rfl) | (simp [*, errW_none, errW_some] <;> rfl), by repeat (first | (with_reducible first | exact HB.out | apply below_alloc | apply pw_below_drewN | apply below_drew1) | exact HB.out)⟩


/-! ### planisphereref08_Name: function 16 -/
def planisphereref08_Name.l0 : Nat → ByteArray → Int → Option (Bool)
  | 0, _, _ => none
  | k + 1, x0, x3 => if x3 < (x0.size : Int) then (if 0 ≤ x3 then ((planisphereref08_word.f (bt x0 x3)).bind fun t159 => (if t159 = true then (planisphereref08_Name.l0 k x0 (wrap64 (x3 + 1))) else (some false))) else (none)) else (if (x0.size : Int) > 0 then (if (x0.size : Int) ≤ 24 then (if 0 < (x0.size : Int) then ((planisphereref08_letter.f (bt x0 0)).bind fun t160 => (some t160)) else (none)) else (some false)) else (some false))
def planisphereref08_Name.f (k : Nat) (a0 : ByteArray) : Option (Bool) := planisphereref08_Name.l0 k a0 0
theorem planisphereref08_Name.mono_l : ∀ k, (∀ y0 y1, LeO (planisphereref08_Name.l0 k y0 y1) (planisphereref08_Name.l0 (k + 1) y0 y1))
  | 0 => fun _ _ r h => by simp [planisphereref08_Name.l0] at h
  | k + 1 => by
    have ih0 := planisphereref08_Name.mono_l k
    · intro y0 y1
      unfold planisphereref08_Name.l0
      repeat' first
      | (with_reducible exact ih0 _ _)
      | (with_reducible exact LeO.refl _)
      | (with_reducible exact LeO.none _)
      | (with_reducible refine LeO.ite ?_ ?_)
      | (with_reducible refine LeO.bind ?_ (fun _ => ?_))
      | exact ih0 _ _
      | exact LeO.none _
      | refine LeO.ite ?_ ?_
      | refine LeO.bind ?_ (fun _ => ?_)
theorem planisphereref08_Name.mono : ∀ a0 k, LeO (planisphereref08_Name.f k a0) (planisphereref08_Name.f (k + 1) a0) := by
  intro a0 k
  have ih0 := planisphereref08_Name.mono_l k
  unfold planisphereref08_Name.f
  repeat' first
      | (with_reducible exact ih0 _ _)
      | (with_reducible exact LeO.refl _)
      | (with_reducible exact LeO.none _)
      | (with_reducible refine LeO.ite ?_ ?_)
      | (with_reducible refine LeO.bind ?_ (fun _ => ?_))
      | exact ih0 _ _
      | exact LeO.none _
      | refine LeO.ite ?_ ?_
      | refine LeO.bind ?_ (fun _ => ?_)
set_option maxHeartbeats 8000000 in
set_option maxRecDepth 100000 in
theorem planisphereref08_Name.calls (k : Nat) (a0 : ByteArray) (r : Bool) (w : World) (h : planisphereref08_Name.f k a0 = some r) :
    Calls Try.prog 16 #[.string a0] w fun e w' => e = .returned (.bool r) ∧ Drawn0 w w' := by
 have H : (planisphereref08_Name.l0 k a0 0) = some r := h
 clear h
 have H' := Aside0.mk H
 clear H
 go_enter Try.func16, Try.ntmps16
 go_wp2
 try simp only [Act.put, List.setIfInBounds_toArray, List.set_cons_succ, List.set_cons_zero]
 go_loopg [3] k (fun kq v3 w' => ∃ (x3_1 : Int), v3 = .int .i64 x3_1 ∧ Aside0 (planisphereref08_Name.l0 kq a0 x3_1 = some r) ∧ Aside0 (kq ≤ k) ∧ Drawn0 w w')
 case atStart => exact ⟨(0), (by first | rfl | (simp; done) | (simp [*]; done)), H', ⟨Nat.le_refl _⟩, by repeat (first | exact Drawn0.refl _ | apply Drawn0.step)⟩
 case round =>
  clear H'
  try clear c1
  obtain ⟨x3_1, rfl, HA, HK1, ⟨m1, rfl⟩⟩ := hrel
  cases gk with
  | zero => exact absurd HA.out (by simp [planisphereref08_Name.l0])
  | succ k1 =>
   have H := HA.out
   clear HA
   simp only [planisphereref08_Name.l0] at H
   by_cases c2 : x3_1 < (a0.size : Int)
   ·rw [if_pos c2] at H
    have c2b0 : decide (x3_1 < (a0.size : Int)) = true := decide_eq_true c2
    clear c2
    by_cases c3 : 0 ≤ x3_1
    ·rw [if_pos c3] at H
     have c3b0 : decide (0 ≤ x3_1) = true := decide_eq_true c3
     clear c3
     replace H := Option.bind_eq_some_iff.mp H
     obtain ⟨t159, A50, H⟩ := H
     replace H : (if t159 = true then (planisphereref08_Name.l0 k1 a0 (wrap64 (x3_1 + 1))) else (some false)) = some r := H
     have A5 := Aside0.mk A50
     clear A50
     by_cases c6 : t159 = true
     ·subst c6
      have H1 : (planisphereref08_Name.l0 k1 a0 (wrap64 (x3_1 + 1))) = some r := by rw [if_pos rfl] at H; exact H
      clear H
      have H := H1
      clear H1
      have H' := Aside0.mk H
      clear H
      have p4 : 0 ≤ (x3_1 : Int) := of_decide_eq_true (by first | (with_reducible assumption) | assumption)
      have q4 : x3_1 < (a0.size : Int) := of_decide_eq_true (by first | (with_reducible assumption) | assumption)
      have hx4 := bt_at a0 x3_1
      replace p4 := eq_true p4
      replace q4 := eq_true q4
      go_wp2_with (first | ((with_reducible refine gate_callee (f := 28) rfl ?_); refine goesL_ (some 13) rfl rfl Try.func28 (by kernel_rfl) rfl #[.int .u8 (bt a0 x3_1)] rfl (by (try simp only [List.map_toArray, List.map_cons, List.map_nil]); first | done | rfl | (simp only [List.length_drop, List.length_take]; rfl)) ?_; (with_reducible refine (planisphereref08_word.calls (bt a0 x3_1) true _ A5.out).mono ?_); rintro e w' ⟨rfl, ⟨nd, rfl⟩⟩; refine ⟨_, rfl, ?_⟩))
      go_roundg k1
      case measure => have := HK1.out; omega
      case rel => exact ⟨(wrap64 (x3_1 + 1)), (by first | rfl | (simp; done) | (simp [*]; done)), H', ⟨by have := HK1.out; omega⟩, by repeat (first | exact Drawn0.refl _ | apply Drawn0.step)⟩
     ·replace c6 := Bool.eq_false_iff.mpr c6
      subst c6
      have H1 : (some false) = some r := by rw [if_neg (show ¬ (false = true) by decide)] at H; exact H
      clear H
      have H := H1
      clear H1
      obtain rfl := Option.some.inj H
      have p4 : 0 ≤ (x3_1 : Int) := of_decide_eq_true (by first | (with_reducible assumption) | assumption)
      have q4 : x3_1 < (a0.size : Int) := of_decide_eq_true (by first | (with_reducible assumption) | assumption)
      have hx4 := bt_at a0 x3_1
      replace p4 := eq_true p4
      replace q4 := eq_true q4
      go_wp2_with (first | ((with_reducible refine gate_callee (f := 28) rfl ?_); refine goesL_ (some 13) rfl rfl Try.func28 (by kernel_rfl) rfl #[.int .u8 (bt a0 x3_1)] rfl (by (try simp only [List.map_toArray, List.map_cons, List.map_nil]); first | done | rfl | (simp only [List.length_drop, List.length_take]; rfl)) ?_; (with_reducible refine (planisphereref08_word.calls (bt a0 x3_1) false _ A5.out).mono ?_); rintro e w' ⟨rfl, ⟨nd, rfl⟩⟩; refine ⟨_, rfl, ?_⟩))
      go_ret
      exact ⟨by first | rfl | (simp; done) | (simp [*]; done), by repeat (first | exact Drawn0.refl _ | apply Drawn0.step)⟩
    ·rw [if_neg c3] at H
     exact absurd H (by simp)
   ·rw [if_neg c2] at H
    have c2b0 : decide (x3_1 < (a0.size : Int)) = false := decide_eq_false c2
    clear c2
    by_cases c7 : (a0.size : Int) > 0
    ·rw [if_pos c7] at H
     have c7b0 : decide (0 < (a0.size : Int)) = true := decide_eq_true c7
     have c7b1 : decide (0 < a0.size) = true := decide_eq_true (by omega)
     clear c7
     by_cases c8 : (a0.size : Int) ≤ 24
     ·rw [if_pos c8] at H
      have c8b0 : decide ((a0.size : Int) ≤ 24) = true := decide_eq_true c8
      have c8b1 : decide (a0.size ≤ 24) = true := decide_eq_true (by omega)
      clear c8
      by_cases c9 : 0 < (a0.size : Int)
      ·rw [if_pos c9] at H
       have c9b0 : decide (0 < (a0.size : Int)) = true := decide_eq_true c9
       have c9b1 : decide (0 < a0.size) = true := decide_eq_true (by omega)
       clear c9
       replace H := Option.bind_eq_some_iff.mp H
       obtain ⟨t160, A110, H⟩ := H
       replace H : (some t160) = some r := H
       have A11 := Aside0.mk A110
       clear A110
       obtain rfl := Option.some.inj H
       have p10 : 0 ≤ (0 : Int) := (by omega)
       have q10 : 0 < a0.size := (by have : (0 : Int) < (a0.size : Int) := of_decide_eq_true (by first | (with_reducible assumption) | assumption); omega)
       have hx10 : ∀ h : 0 < a0.size, ((a0[0]'h).toNat : Int) = bt a0 0 := bt_at a0 0
       clear p10
       have qi10 : (0 < (a0.size : Int)) = True := eq_true (of_decide_eq_true (by first | (with_reducible assumption) | assumption))
       replace q10 := eq_true q10
       go_wp2_with (first | (go_at_call 29; (with_reducible refine (planisphereref08_letter.calls (bt a0 0) t160 _ A11.out).mono ?_); rintro e w' ⟨rfl, ⟨nd, rfl⟩⟩))
       go_ret
       exact ⟨by first | rfl | (simp; done) | (simp [*]; done), by repeat (first | exact Drawn0.refl _ | apply Drawn0.step)⟩
      ·rw [if_neg c9] at H
       exact absurd H (by simp)
     ·rw [if_neg c8] at H
      have c8b0 : decide ((a0.size : Int) ≤ 24) = false := decide_eq_false c8
      have c8b1 : decide (a0.size ≤ 24) = false := decide_eq_false (by omega)
      clear c8
      obtain rfl := Option.some.inj H
      go_wp2
      go_ret
      exact ⟨by first | rfl | (simp; done) | (simp [*]; done), by repeat (first | exact Drawn0.refl _ | apply Drawn0.step)⟩
    ·rw [if_neg c7] at H
     have c7b0 : decide (0 < (a0.size : Int)) = false := decide_eq_false c7
     have c7b1 : decide (0 < a0.size) = false := decide_eq_false (by omega)
     clear c7
     obtain rfl := Option.some.inj H
     go_wp2
     go_ret
     exact ⟨by first | rfl | (simp; done) | (simp [*]; done), by repeat (first | exact Drawn0.refl _ | apply Drawn0.step)⟩

/-! ### planisphereref08_Quote: function 18 -/
def planisphereref08_Quote.l0 : Nat → ByteArray → ByteArray → Int → Int → Option (ByteArray)
  | 0, _, _, _, _ => none
  | k + 1, x0, x3, x4, x5 => if x5 < (x0.size : Int) then (if 0 ≤ x5 then (if (bt x0 x5) = 10 then (if 0 ≤ x4 then (if x4 ≤ x5 then (if x5 ≤ (x0.size : Int) then (if x3.size + (x0.extract (x4 : Int).toNat (x5 : Int).toNat).size ≤ 9223372036854775807 then (if (x3 ++ (x0.extract (x4 : Int).toNat (x5 : Int).toNat)).size + 2 ≤ 9223372036854775807 then (planisphereref08_Quote.l0 k x0 ((x3 ++ (x0.extract (x4 : Int).toNat (x5 : Int).toNat)) ++ (⟨#[92, 110]⟩ : ByteArray)) (wrap64 (x5 + 1)) (wrap64 (x5 + 1))) else (none)) else (none)) else (none)) else (none)) else (none)) else (if (bt x0 x5) = 34 then (if 0 ≤ x4 then (if x4 ≤ x5 then (if x5 ≤ (x0.size : Int) then (if x3.size + (x0.extract (x4 : Int).toNat (x5 : Int).toNat).size ≤ 9223372036854775807 then (if (x3 ++ (x0.extract (x4 : Int).toNat (x5 : Int).toNat)).size + 1 ≤ 9223372036854775807 then (planisphereref08_Quote.l0 k x0 ((x3 ++ (x0.extract (x4 : Int).toNat (x5 : Int).toNat)) ++ (⟨#[92]⟩ : ByteArray)) x5 (wrap64 (x5 + 1))) else (none)) else (none)) else (none)) else (none)) else (none)) else (if (bt x0 x5) = 92 then (if 0 ≤ x4 then (if x4 ≤ x5 then (if x5 ≤ (x0.size : Int) then (if x3.size + (x0.extract (x4 : Int).toNat (x5 : Int).toNat).size ≤ 9223372036854775807 then (if (x3 ++ (x0.extract (x4 : Int).toNat (x5 : Int).toNat)).size + 1 ≤ 9223372036854775807 then (planisphereref08_Quote.l0 k x0 ((x3 ++ (x0.extract (x4 : Int).toNat (x5 : Int).toNat)) ++ (⟨#[92]⟩ : ByteArray)) x5 (wrap64 (x5 + 1))) else (none)) else (none)) else (none)) else (none)) else (none)) else (planisphereref08_Quote.l0 k x0 x3 x4 (wrap64 (x5 + 1)))))) else (none)) else (if 0 ≤ x4 then (if x4 ≤ (x0.size : Int) then (if x3.size + (x0.extract (x4 : Int).toNat x0.size).size ≤ 9223372036854775807 then (if (x3 ++ (x0.extract (x4 : Int).toNat x0.size)).size + 1 ≤ 9223372036854775807 then (some ((x3 ++ (x0.extract (x4 : Int).toNat x0.size)) ++ (⟨#[34]⟩ : ByteArray))) else (none)) else (none)) else (none)) else (none))
def planisphereref08_Quote.f (k : Nat) (a0 : ByteArray) : Option (ByteArray) := planisphereref08_Quote.l0 k a0 (⟨#[34]⟩ : ByteArray) 0 0
theorem planisphereref08_Quote.mono_l : ∀ k, (∀ y0 y1 y2 y3, LeO (planisphereref08_Quote.l0 k y0 y1 y2 y3) (planisphereref08_Quote.l0 (k + 1) y0 y1 y2 y3))
  | 0 => fun _ _ _ _ r h => by simp [planisphereref08_Quote.l0] at h
  | k + 1 => by
    have ih0 := planisphereref08_Quote.mono_l k
    · intro y0 y1 y2 y3
      unfold planisphereref08_Quote.l0
      repeat' first
      | (with_reducible exact ih0 _ _ _ _)
      | (with_reducible exact LeO.refl _)
      | (with_reducible exact LeO.none _)
      | (with_reducible refine LeO.ite ?_ ?_)
      | (with_reducible refine LeO.bind ?_ (fun _ => ?_))
      | exact ih0 _ _ _ _
      | exact LeO.none _
      | refine LeO.ite ?_ ?_
      | refine LeO.bind ?_ (fun _ => ?_)
theorem planisphereref08_Quote.mono : ∀ a0 k, LeO (planisphereref08_Quote.f k a0) (planisphereref08_Quote.f (k + 1) a0) := by
  intro a0 k
  have ih0 := planisphereref08_Quote.mono_l k
  unfold planisphereref08_Quote.f
  repeat' first
      | (with_reducible exact ih0 _ _ _ _)
      | (with_reducible exact LeO.refl _)
      | (with_reducible exact LeO.none _)
      | (with_reducible refine LeO.ite ?_ ?_)
      | (with_reducible refine LeO.bind ?_ (fun _ => ?_))
      | exact ih0 _ _ _ _
      | exact LeO.none _
      | refine LeO.ite ?_ ?_
      | refine LeO.bind ?_ (fun _ => ?_)
set_option maxHeartbeats 8000000 in
set_option maxRecDepth 100000 in
theorem planisphereref08_Quote.calls (k : Nat) (a0 : ByteArray) (r : ByteArray) (w : World) (h : planisphereref08_Quote.f k a0 = some r) :
    Calls Try.prog 18 #[.string a0] w fun e w' => e = .returned (.string r) ∧ Drawn0 w w' := by
 have H : (planisphereref08_Quote.l0 k a0 (⟨#[34]⟩ : ByteArray) 0 0) = some r := h
 clear h
 have H' := Aside0.mk H
 clear H
 go_enter Try.func18, Try.ntmps18
 go_wp2
 try simp only [Act.put, List.setIfInBounds_toArray, List.set_cons_succ, List.set_cons_zero]
 go_loopg [3, 4, 5] k (fun kq v3 v4 v5 w' => ∃ (x3_1 : ByteArray) (x4_1 : Int) (x5_1 : Int), v3 = .string x3_1 ∧ v4 = .int .i64 x4_1 ∧ v5 = .int .i64 x5_1 ∧ Aside0 (planisphereref08_Quote.l0 kq a0 x3_1 x4_1 x5_1 = some r) ∧ Aside0 (kq ≤ k) ∧ Drawn0 w w')
 case atStart => exact ⟨((⟨#[34]⟩ : ByteArray)), (0), (0), (by first | rfl | (simp; done) | (simp [*]; done)), (by first | rfl | (simp; done) | (simp [*]; done)), (by first | rfl | (simp; done) | (simp [*]; done)), H', ⟨Nat.le_refl _⟩, by repeat (first | exact Drawn0.refl _ | apply Drawn0.step)⟩
 case round =>
  clear H'
  try clear c1
  obtain ⟨x3_1, x4_1, x5_1, rfl, rfl, rfl, HA, HK1, ⟨m1, rfl⟩⟩ := hrel
  cases gk with
  | zero => exact absurd HA.out (by simp [planisphereref08_Quote.l0])
  | succ k1 =>
   have H := HA.out
   clear HA
   simp only [planisphereref08_Quote.l0] at H
   by_cases c2 : x5_1 < (a0.size : Int)
   ·rw [if_pos c2] at H
    have c2b0 : decide (x5_1 < (a0.size : Int)) = true := decide_eq_true c2
    clear c2
    by_cases c3 : 0 ≤ x5_1
    ·rw [if_pos c3] at H
     have c3b0 : decide (0 ≤ x5_1) = true := decide_eq_true c3
     clear c3
     by_cases c5 : (bt a0 x5_1) = 10
     ·rw [if_pos c5] at H
      have c5b0 : ((bt a0 x5_1) == 10) = true := beq_iff_eq.mpr c5
      have c5b1 : ((bt a0 x5_1) != 10) = false := bne_eq_false_iff_eq.mpr c5
      clear c5
      by_cases c6 : 0 ≤ x4_1
      ·rw [if_pos c6] at H
       have c6b0 := eq_true c6
       have c6b1 : decide (0 ≤ x4_1) = true := decide_eq_true c6
       clear c6
       by_cases c7 : x4_1 ≤ x5_1
       ·rw [if_pos c7] at H
        have c7b0 := eq_true c7
        have c7b1 : decide (x4_1 ≤ x5_1) = true := decide_eq_true c7
        clear c7
        by_cases c8 : x5_1 ≤ (a0.size : Int)
        ·rw [if_pos c8] at H
         have c8b0 := eq_true c8
         have c8b1 : decide (x5_1 ≤ (a0.size : Int)) = true := decide_eq_true c8
         clear c8
         by_cases c9 : x3_1.size + (a0.extract (x4_1 : Int).toNat (x5_1 : Int).toNat).size ≤ 9223372036854775807
         ·rw [if_pos c9] at H
          have c9b0 := eq_true c9
          have c9b1 : decide (x3_1.size + (a0.extract (x4_1 : Int).toNat (x5_1 : Int).toNat).size ≤ 9223372036854775807) = true := decide_eq_true c9
          try have c9b2 : (9223372036854775807 < x3_1.size + (a0.extract (x4_1 : Int).toNat (x5_1 : Int).toNat).size) = False := eq_false (Nat.not_lt.2 c9)
          by_cases c10 : (x3_1 ++ (a0.extract (x4_1 : Int).toNat (x5_1 : Int).toNat)).size + 2 ≤ 9223372036854775807
          ·rw [if_pos c10] at H
           have c10b0 := eq_true c10
           have c10b1 : decide ((x3_1 ++ (a0.extract (x4_1 : Int).toNat (x5_1 : Int).toNat)).size + 2 ≤ 9223372036854775807) = true := decide_eq_true c10
           try have c10b2 : (9223372036854775807 < (x3_1 ++ (a0.extract (x4_1 : Int).toNat (x5_1 : Int).toNat)).size + 2) = False := eq_false (Nat.not_lt.2 c10)
           have c10b3 : (9223372036854775807 < x3_1.size + (x5_1.toNat - x4_1.toNat) + 2) = False := eq_false (by simp only [ByteArray.size_append, ByteArray.size_extract, decide_eq_true_eq, eq_iff_iff, iff_true] at *; omega)
           have H' := Aside0.mk H
           clear H
           have p4 : 0 ≤ (x5_1 : Int) := of_decide_eq_true (by first | (with_reducible assumption) | assumption)
           have q4 : x5_1 < (a0.size : Int) := of_decide_eq_true (by first | (with_reducible assumption) | assumption)
           have hx4 := bt_at a0 x5_1
           replace p4 := eq_true p4
           replace q4 := eq_true q4
           go_wp2
           go_roundg k1
           case measure => have := HK1.out; omega
           case rel => exact ⟨((x3_1 ++ (a0.extract (x4_1 : Int).toNat (x5_1 : Int).toNat)) ++ (⟨#[92, 110]⟩ : ByteArray)), (wrap64 (x5_1 + 1)), (wrap64 (x5_1 + 1)), (by first | rfl | (simp; done) | (simp [*]; done)), (by first | rfl | (simp; done) | (simp [*]; done)), (by first | rfl | (simp; done) | (simp [*]; done)), H', ⟨by have := HK1.out; omega⟩, by repeat (first | exact Drawn0.refl _ | apply Drawn0.step)⟩
          ·rw [if_neg c10] at H
           exact absurd H (by simp)
         ·rw [if_neg c9] at H
          exact absurd H (by simp)
        ·rw [if_neg c8] at H
         exact absurd H (by simp)
       ·rw [if_neg c7] at H
        exact absurd H (by simp)
      ·rw [if_neg c6] at H
       exact absurd H (by simp)
     ·rw [if_neg c5] at H
      have c5b0 : ((bt a0 x5_1) == 10) = false := beq_eq_false_iff_ne.mpr c5
      have c5b1 : ((bt a0 x5_1) != 10) = true := bne_iff_ne.mpr c5
      by_cases c12 : (bt a0 x5_1) = 34
      ·rw [if_pos c12] at H
       have c12b0 : ((bt a0 x5_1) == 34) = true := beq_iff_eq.mpr c12
       have c12b1 : ((bt a0 x5_1) != 34) = false := bne_eq_false_iff_eq.mpr c12
       clear c12
       by_cases c13 : 0 ≤ x4_1
       ·rw [if_pos c13] at H
        have c13b0 := eq_true c13
        have c13b1 : decide (0 ≤ x4_1) = true := decide_eq_true c13
        clear c13
        by_cases c14 : x4_1 ≤ x5_1
        ·rw [if_pos c14] at H
         have c14b0 := eq_true c14
         have c14b1 : decide (x4_1 ≤ x5_1) = true := decide_eq_true c14
         clear c14
         by_cases c15 : x5_1 ≤ (a0.size : Int)
         ·rw [if_pos c15] at H
          have c15b0 := eq_true c15
          have c15b1 : decide (x5_1 ≤ (a0.size : Int)) = true := decide_eq_true c15
          clear c15
          by_cases c16 : x3_1.size + (a0.extract (x4_1 : Int).toNat (x5_1 : Int).toNat).size ≤ 9223372036854775807
          ·rw [if_pos c16] at H
           have c16b0 := eq_true c16
           have c16b1 : decide (x3_1.size + (a0.extract (x4_1 : Int).toNat (x5_1 : Int).toNat).size ≤ 9223372036854775807) = true := decide_eq_true c16
           try have c16b2 : (9223372036854775807 < x3_1.size + (a0.extract (x4_1 : Int).toNat (x5_1 : Int).toNat).size) = False := eq_false (Nat.not_lt.2 c16)
           by_cases c17 : (x3_1 ++ (a0.extract (x4_1 : Int).toNat (x5_1 : Int).toNat)).size + 1 ≤ 9223372036854775807
           ·rw [if_pos c17] at H
            have c17b0 := eq_true c17
            have c17b1 : decide ((x3_1 ++ (a0.extract (x4_1 : Int).toNat (x5_1 : Int).toNat)).size + 1 ≤ 9223372036854775807) = true := decide_eq_true c17
            try have c17b2 : (9223372036854775807 < (x3_1 ++ (a0.extract (x4_1 : Int).toNat (x5_1 : Int).toNat)).size + 1) = False := eq_false (Nat.not_lt.2 c17)
            have c17b3 : (9223372036854775807 < x3_1.size + (x5_1.toNat - x4_1.toNat) + 1) = False := eq_false (by simp only [ByteArray.size_append, ByteArray.size_extract, decide_eq_true_eq, eq_iff_iff, iff_true] at *; omega)
            have H' := Aside0.mk H
            clear H
            have p4 : 0 ≤ (x5_1 : Int) := of_decide_eq_true (by first | (with_reducible assumption) | assumption)
            have q4 : x5_1 < (a0.size : Int) := of_decide_eq_true (by first | (with_reducible assumption) | assumption)
            have hx4 := bt_at a0 x5_1
            replace p4 := eq_true p4
            replace q4 := eq_true q4
            have p11 : 0 ≤ (x5_1 : Int) := of_decide_eq_true (by first | (with_reducible assumption) | assumption)
            have q11 : x5_1 < (a0.size : Int) := of_decide_eq_true (by first | (with_reducible assumption) | assumption)
            have hx11 := bt_at a0 x5_1
            replace p11 := eq_true p11
            replace q11 := eq_true q11
            go_wp2
            go_roundg k1
            case measure => have := HK1.out; omega
            case rel => exact ⟨((x3_1 ++ (a0.extract (x4_1 : Int).toNat (x5_1 : Int).toNat)) ++ (⟨#[92]⟩ : ByteArray)), (x5_1), (wrap64 (x5_1 + 1)), (by first | rfl | (simp; done) | (simp [*]; done)), (by first | rfl | (simp; done) | (simp [*]; done)), (by first | rfl | (simp; done) | (simp [*]; done)), H', ⟨by have := HK1.out; omega⟩, by repeat (first | exact Drawn0.refl _ | apply Drawn0.step)⟩
           ·rw [if_neg c17] at H
            exact absurd H (by simp)
          ·rw [if_neg c16] at H
           exact absurd H (by simp)
         ·rw [if_neg c15] at H
          exact absurd H (by simp)
        ·rw [if_neg c14] at H
         exact absurd H (by simp)
       ·rw [if_neg c13] at H
        exact absurd H (by simp)
      ·rw [if_neg c12] at H
       have c12b0 : ((bt a0 x5_1) == 34) = false := beq_eq_false_iff_ne.mpr c12
       have c12b1 : ((bt a0 x5_1) != 34) = true := bne_iff_ne.mpr c12
       by_cases c19 : (bt a0 x5_1) = 92
       ·rw [if_pos c19] at H
        have c19b0 : ((bt a0 x5_1) == 92) = true := beq_iff_eq.mpr c19
        have c19b1 : ((bt a0 x5_1) != 92) = false := bne_eq_false_iff_eq.mpr c19
        clear c19
        by_cases c20 : 0 ≤ x4_1
        ·rw [if_pos c20] at H
         have c20b0 := eq_true c20
         have c20b1 : decide (0 ≤ x4_1) = true := decide_eq_true c20
         clear c20
         by_cases c21 : x4_1 ≤ x5_1
         ·rw [if_pos c21] at H
          have c21b0 := eq_true c21
          have c21b1 : decide (x4_1 ≤ x5_1) = true := decide_eq_true c21
          clear c21
          by_cases c22 : x5_1 ≤ (a0.size : Int)
          ·rw [if_pos c22] at H
           have c22b0 := eq_true c22
           have c22b1 : decide (x5_1 ≤ (a0.size : Int)) = true := decide_eq_true c22
           clear c22
           by_cases c23 : x3_1.size + (a0.extract (x4_1 : Int).toNat (x5_1 : Int).toNat).size ≤ 9223372036854775807
           ·rw [if_pos c23] at H
            have c23b0 := eq_true c23
            have c23b1 : decide (x3_1.size + (a0.extract (x4_1 : Int).toNat (x5_1 : Int).toNat).size ≤ 9223372036854775807) = true := decide_eq_true c23
            try have c23b2 : (9223372036854775807 < x3_1.size + (a0.extract (x4_1 : Int).toNat (x5_1 : Int).toNat).size) = False := eq_false (Nat.not_lt.2 c23)
            by_cases c24 : (x3_1 ++ (a0.extract (x4_1 : Int).toNat (x5_1 : Int).toNat)).size + 1 ≤ 9223372036854775807
            ·rw [if_pos c24] at H
             have c24b0 := eq_true c24
             have c24b1 : decide ((x3_1 ++ (a0.extract (x4_1 : Int).toNat (x5_1 : Int).toNat)).size + 1 ≤ 9223372036854775807) = true := decide_eq_true c24
             try have c24b2 : (9223372036854775807 < (x3_1 ++ (a0.extract (x4_1 : Int).toNat (x5_1 : Int).toNat)).size + 1) = False := eq_false (Nat.not_lt.2 c24)
             have c24b3 : (9223372036854775807 < x3_1.size + (x5_1.toNat - x4_1.toNat) + 1) = False := eq_false (by simp only [ByteArray.size_append, ByteArray.size_extract, decide_eq_true_eq, eq_iff_iff, iff_true] at *; omega)
             have H' := Aside0.mk H
             clear H
             have p4 : 0 ≤ (x5_1 : Int) := of_decide_eq_true (by first | (with_reducible assumption) | assumption)
             have q4 : x5_1 < (a0.size : Int) := of_decide_eq_true (by first | (with_reducible assumption) | assumption)
             have hx4 := bt_at a0 x5_1
             replace p4 := eq_true p4
             replace q4 := eq_true q4
             have p11 : 0 ≤ (x5_1 : Int) := of_decide_eq_true (by first | (with_reducible assumption) | assumption)
             have q11 : x5_1 < (a0.size : Int) := of_decide_eq_true (by first | (with_reducible assumption) | assumption)
             have hx11 := bt_at a0 x5_1
             replace p11 := eq_true p11
             replace q11 := eq_true q11
             have p18 : 0 ≤ (x5_1 : Int) := of_decide_eq_true (by first | (with_reducible assumption) | assumption)
             have q18 : x5_1 < (a0.size : Int) := of_decide_eq_true (by first | (with_reducible assumption) | assumption)
             have hx18 := bt_at a0 x5_1
             replace p18 := eq_true p18
             replace q18 := eq_true q18
             go_wp2
             go_roundg k1
             case measure => have := HK1.out; omega
             case rel => exact ⟨((x3_1 ++ (a0.extract (x4_1 : Int).toNat (x5_1 : Int).toNat)) ++ (⟨#[92]⟩ : ByteArray)), (x5_1), (wrap64 (x5_1 + 1)), (by first | rfl | (simp; done) | (simp [*]; done)), (by first | rfl | (simp; done) | (simp [*]; done)), (by first | rfl | (simp; done) | (simp [*]; done)), H', ⟨by have := HK1.out; omega⟩, by repeat (first | exact Drawn0.refl _ | apply Drawn0.step)⟩
            ·rw [if_neg c24] at H
             exact absurd H (by simp)
           ·rw [if_neg c23] at H
            exact absurd H (by simp)
          ·rw [if_neg c22] at H
           exact absurd H (by simp)
         ·rw [if_neg c21] at H
          exact absurd H (by simp)
        ·rw [if_neg c20] at H
         exact absurd H (by simp)
       ·rw [if_neg c19] at H
        have c19b0 : ((bt a0 x5_1) == 92) = false := beq_eq_false_iff_ne.mpr c19
        have c19b1 : ((bt a0 x5_1) != 92) = true := bne_iff_ne.mpr c19
        have H' := Aside0.mk H
        clear H
        have p4 : 0 ≤ (x5_1 : Int) := of_decide_eq_true (by first | (with_reducible assumption) | assumption)
        have q4 : x5_1 < (a0.size : Int) := of_decide_eq_true (by first | (with_reducible assumption) | assumption)
        have hx4 := bt_at a0 x5_1
        replace p4 := eq_true p4
        replace q4 := eq_true q4
        have p11 : 0 ≤ (x5_1 : Int) := of_decide_eq_true (by first | (with_reducible assumption) | assumption)
        have q11 : x5_1 < (a0.size : Int) := of_decide_eq_true (by first | (with_reducible assumption) | assumption)
        have hx11 := bt_at a0 x5_1
        replace p11 := eq_true p11
        replace q11 := eq_true q11
        have p18 : 0 ≤ (x5_1 : Int) := of_decide_eq_true (by first | (with_reducible assumption) | assumption)
        have q18 : x5_1 < (a0.size : Int) := of_decide_eq_true (by first | (with_reducible assumption) | assumption)
        have hx18 := bt_at a0 x5_1
        replace p18 := eq_true p18
        replace q18 := eq_true q18
        go_wp2
        go_roundg k1
        case measure => have := HK1.out; omega
        case rel => exact ⟨(x3_1), (x4_1), (wrap64 (x5_1 + 1)), (by first | rfl | (simp; done) | (simp [*]; done)), (by first | rfl | (simp; done) | (simp [*]; done)), (by first | rfl | (simp; done) | (simp [*]; done)), H', ⟨by have := HK1.out; omega⟩, by repeat (first | exact Drawn0.refl _ | apply Drawn0.step)⟩
    ·rw [if_neg c3] at H
     exact absurd H (by simp)
   ·rw [if_neg c2] at H
    have c2b0 : decide (x5_1 < (a0.size : Int)) = false := decide_eq_false c2
    clear c2
    by_cases c25 : 0 ≤ x4_1
    ·rw [if_pos c25] at H
     have c25b0 := eq_true c25
     have c25b1 : decide (0 ≤ x4_1) = true := decide_eq_true c25
     clear c25
     by_cases c26 : x4_1 ≤ (a0.size : Int)
     ·rw [if_pos c26] at H
      have c26b0 := eq_true c26
      have c26b1 : decide (x4_1 ≤ (a0.size : Int)) = true := decide_eq_true c26
      clear c26
      by_cases c27 : x3_1.size + (a0.extract (x4_1 : Int).toNat a0.size).size ≤ 9223372036854775807
      ·rw [if_pos c27] at H
       have c27b0 := eq_true c27
       have c27b1 : decide (x3_1.size + (a0.extract (x4_1 : Int).toNat a0.size).size ≤ 9223372036854775807) = true := decide_eq_true c27
       try have c27b2 : (9223372036854775807 < x3_1.size + (a0.extract (x4_1 : Int).toNat a0.size).size) = False := eq_false (Nat.not_lt.2 c27)
       by_cases c28 : (x3_1 ++ (a0.extract (x4_1 : Int).toNat a0.size)).size + 1 ≤ 9223372036854775807
       ·rw [if_pos c28] at H
        have c28b0 := eq_true c28
        have c28b1 : decide ((x3_1 ++ (a0.extract (x4_1 : Int).toNat a0.size)).size + 1 ≤ 9223372036854775807) = true := decide_eq_true c28
        try have c28b2 : (9223372036854775807 < (x3_1 ++ (a0.extract (x4_1 : Int).toNat a0.size)).size + 1) = False := eq_false (Nat.not_lt.2 c28)
        have c28b3 : (9223372036854775807 < x3_1.size + (a0.size - x4_1.toNat) + 1) = False := eq_false (by simp only [ByteArray.size_append, ByteArray.size_extract, decide_eq_true_eq, eq_iff_iff, iff_true] at *; omega)
        obtain rfl := Option.some.inj H
        go_wp2
        go_ret
        exact ⟨by first | rfl | (simp; done) | (simp [*]; done), by repeat (first | exact Drawn0.refl _ | apply Drawn0.step)⟩
       ·rw [if_neg c28] at H
        exact absurd H (by simp)
      ·rw [if_neg c27] at H
       exact absurd H (by simp)
     ·rw [if_neg c26] at H
      exact absurd H (by simp)
    ·rw [if_neg c25] at H
     exact absurd H (by simp)

end Go.Proofs.Ytflocikkhpjicaa.P
