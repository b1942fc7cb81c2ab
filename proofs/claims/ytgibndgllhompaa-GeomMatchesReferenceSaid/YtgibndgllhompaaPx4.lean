-- printed for this claim by xprint.py (the seat's own program)
import Derived.Test.YtgibndgllhompaaPx0
import Derived.Test.YtgibndgllhompaaPx1
import Derived.Test.YtgibndgllhompaaPx3
namespace Go.Proofs.Ytgibndgllhompaa.P
open Go.RowKit Go.Proofs.YtgibndgllhompaaW.PrintWords Go.Proofs.YtgibndgllhompaaW.PrintLast
set_option linter.unusedVariables false
set_option linter.unusedSimpArgs false

attribute [local go_sem high] eqA23
/-! ### geom_online: function 39 -/
mutual
def geom_online.j0 : Nat → Int → Int → Int → Int → Int → Int → Int → Int → Option (Int)
  | 0, _, _, _, _, _, _, _, _ => none
  | k + 1, x127000, x127001, x127002, x127003, x128000, x128001, x128002, x128003 => if (x127000 == x127002 && (x127001 == x127003)) = true then ((geom_On.f k x128000 x128001 x128002 x128003 x127000 x127001).bind fun t128 => (if t128 = true then (if (x127000 == x128000 && (x127001 == x128001)) = true then (some 1) else (if (x127000 == x128002 && (x127001 == x128003)) = true then (some 1) else (some 2))) else (some 0))) else ((geom_Compare.f x128000 x128001 x127000 x127001).bind fun t131 => (if t131 > 0 then (geom_online.j1 k x128000 x128001 x128002 x128003 x128000 x128001 x127002 x127003) else (geom_online.j1 k x128000 x128001 x128002 x128003 x127000 x127001 x127002 x127003)))
def geom_online.j1 : Nat → Int → Int → Int → Int → Int → Int → Int → Int → Option (Int)
  | 0, _, _, _, _, _, _, _, _ => none
  | k + 1, x128000, x128001, x128002, x128003, x130000, x130001, x131000, x131001 => (geom_Compare.f x128002 x128003 x131000 x131001).bind fun t132 => (if t132 < 0 then (geom_online.j2 k x130000 x130001 x128002 x128003) else (geom_online.j2 k x130000 x130001 x131000 x131001))
def geom_online.j2 : Nat → Int → Int → Int → Int → Option (Int)
  | 0, _, _, _, _ => none
  | k + 1, x130000, x130001, x131000, x131001 => (geom_Compare.f x130000 x130001 x131000 x131001).bind fun t133 => (if t133 = (-1) then (some 5) else (if t133 = 0 then (some 1) else (some 0)))
end
def geom_online.f (k : Nat) (a0_0 : Int) (a0_1 : Int) (a0_2 : Int) (a0_3 : Int) (a1_0 : Int) (a1_1 : Int) (a1_2 : Int) (a1_3 : Int) : Option (Int) := if (a1_0 == a1_2 && (a1_1 == a1_3)) = true then (geom_online.j0 k a1_0 a1_1 a1_2 a1_3 a0_0 a0_1 a0_2 a0_3) else (geom_online.j0 k a0_0 a0_1 a0_2 a0_3 a1_0 a1_1 a1_2 a1_3)
theorem geom_online.mono_l : ∀ k, (∀ y0 y1 y2 y3 y4 y5 y6 y7, LeO (geom_online.j0 k y0 y1 y2 y3 y4 y5 y6 y7) (geom_online.j0 (k + 1) y0 y1 y2 y3 y4 y5 y6 y7)) ∧ (∀ y0 y1 y2 y3 y4 y5 y6 y7, LeO (geom_online.j1 k y0 y1 y2 y3 y4 y5 y6 y7) (geom_online.j1 (k + 1) y0 y1 y2 y3 y4 y5 y6 y7)) ∧ (∀ y0 y1 y2 y3, LeO (geom_online.j2 k y0 y1 y2 y3) (geom_online.j2 (k + 1) y0 y1 y2 y3))
  | 0 => ⟨fun _ _ _ _ _ _ _ _ r h => by simp [geom_online.j0] at h, fun _ _ _ _ _ _ _ _ r h => by simp [geom_online.j1] at h, fun _ _ _ _ r h => by simp [geom_online.j2] at h⟩
  | k + 1 => by
    obtain ⟨ih0, ih1, ih2⟩ := geom_online.mono_l k
    refine ⟨?_, ?_, ?_⟩
    · intro y0 y1 y2 y3 y4 y5 y6 y7
      unfold geom_online.j0
      repeat' first
      | (with_reducible exact ih0 _ _ _ _ _ _ _ _)
      | (with_reducible exact ih1 _ _ _ _ _ _ _ _)
      | (with_reducible exact ih2 _ _ _ _)
      | (with_reducible exact geom_On.mono _ _ _ _ _ _ _)
      | (with_reducible exact LeO.refl _)
      | (with_reducible exact LeO.none _)
      | (with_reducible refine LeO.ite ?_ ?_)
      | (with_reducible refine LeO.bind ?_ (fun _ => ?_))
      | exact ih0 _ _ _ _ _ _ _ _
      | exact ih1 _ _ _ _ _ _ _ _
      | exact ih2 _ _ _ _
      | exact geom_On.mono _ _ _ _ _ _ _
      | exact LeO.none _
      | refine LeO.ite ?_ ?_
      | refine LeO.bind ?_ (fun _ => ?_)
    · intro y0 y1 y2 y3 y4 y5 y6 y7
      unfold geom_online.j1
      repeat' first
      | (with_reducible exact ih0 _ _ _ _ _ _ _ _)
      | (with_reducible exact ih1 _ _ _ _ _ _ _ _)
      | (with_reducible exact ih2 _ _ _ _)
      | (with_reducible exact geom_On.mono _ _ _ _ _ _ _)
      | (with_reducible exact LeO.refl _)
      | (with_reducible exact LeO.none _)
      | (with_reducible refine LeO.ite ?_ ?_)
      | (with_reducible refine LeO.bind ?_ (fun _ => ?_))
      | exact ih0 _ _ _ _ _ _ _ _
      | exact ih1 _ _ _ _ _ _ _ _
      | exact ih2 _ _ _ _
      | exact geom_On.mono _ _ _ _ _ _ _
      | exact LeO.none _
      | refine LeO.ite ?_ ?_
      | refine LeO.bind ?_ (fun _ => ?_)
    · intro y0 y1 y2 y3
      unfold geom_online.j2
      repeat' first
      | (with_reducible exact ih0 _ _ _ _ _ _ _ _)
      | (with_reducible exact ih1 _ _ _ _ _ _ _ _)
      | (with_reducible exact ih2 _ _ _ _)
      | (with_reducible exact geom_On.mono _ _ _ _ _ _ _)
      | (with_reducible exact LeO.refl _)
      | (with_reducible exact LeO.none _)
      | (with_reducible refine LeO.ite ?_ ?_)
      | (with_reducible refine LeO.bind ?_ (fun _ => ?_))
      | exact ih0 _ _ _ _ _ _ _ _
      | exact ih1 _ _ _ _ _ _ _ _
      | exact ih2 _ _ _ _
      | exact geom_On.mono _ _ _ _ _ _ _
      | exact LeO.none _
      | refine LeO.ite ?_ ?_
      | refine LeO.bind ?_ (fun _ => ?_)
theorem geom_online.mono : ∀ a0 a1 a2 a3 a4 a5 a6 a7 k, LeO (geom_online.f k a0 a1 a2 a3 a4 a5 a6 a7) (geom_online.f (k + 1) a0 a1 a2 a3 a4 a5 a6 a7) := by
  intro a0 a1 a2 a3 a4 a5 a6 a7 k
  obtain ⟨ih0, ih1, ih2⟩ := geom_online.mono_l k
  unfold geom_online.f
  repeat' first
      | (with_reducible exact ih0 _ _ _ _ _ _ _ _)
      | (with_reducible exact ih1 _ _ _ _ _ _ _ _)
      | (with_reducible exact ih2 _ _ _ _)
      | (with_reducible exact geom_On.mono _ _ _ _ _ _ _)
      | (with_reducible exact LeO.refl _)
      | (with_reducible exact LeO.none _)
      | (with_reducible refine LeO.ite ?_ ?_)
      | (with_reducible refine LeO.bind ?_ (fun _ => ?_))
      | exact ih0 _ _ _ _ _ _ _ _
      | exact ih1 _ _ _ _ _ _ _ _
      | exact ih2 _ _ _ _
      | exact geom_On.mono _ _ _ _ _ _ _
      | exact LeO.none _
      | refine LeO.ite ?_ ?_
      | refine LeO.bind ?_ (fun _ => ?_)
def geom_online.T9 : Bool × List (List Nat × List Nat) := (true, [([], []), ([0], [0]), ([], []), ([2], [2]), ([], []), ([], []), ([4, 1, 0, 1, 4, 5], [1, 4]), ([5, 3, 6, 0, 1, 2, 3, 4, 5, 6], [3, 5])])
def geom_online.B9 : List Nat := [0, 1, 0, 4, 0, 0, 51, 127]
theorem geom_online.tab9 : rtab .any (opsOf Try.f39 9) = geom_online.T9 := by kernel_rfl
theorem geom_online.bits9 : waitsOk geom_online.T9.2 geom_online.B9 = true := by kernel_rfl
set_option maxHeartbeats 8000000 in
set_option maxRecDepth 100000 in
theorem geom_online.calls (k : Nat) (a0_0 : Int) (a0_1 : Int) (a0_2 : Int) (a0_3 : Int) (a1_0 : Int) (a1_1 : Int) (a1_2 : Int) (a1_3 : Int) (r : Int) (w : World) (h : geom_online.f k a0_0 a0_1 a0_2 a0_3 a1_0 a1_1 a1_2 a1_3 = some r) :
    Calls Try.prog 39 #[.agg #[.int .i64 a0_0, .int .i64 a0_1, .int .i64 a0_2, .int .i64 a0_3], .agg #[.int .i64 a1_0, .int .i64 a1_1, .int .i64 a1_2, .int .i64 a1_3]] w fun e w' => e = .returned (.int .i64 r) ∧ Below w.heap.size w w' := by
 have hu25 := Try.underlying25
 have hu23 := Try.underlying23
 have HB := Aside0.mk (Below.refl w.heap.size w)
 have H : (if (a1_0 == a1_2 && (a1_1 == a1_3)) = true then (geom_online.j0 k a1_0 a1_1 a1_2 a1_3 a0_0 a0_1 a0_2 a0_3) else (geom_online.j0 k a0_0 a0_1 a0_2 a0_3 a1_0 a1_1 a1_2 a1_3)) = some r := h
 clear h
 have HC3 := Aside0.mk H
 clear H
 go_enter Try.func39, Try.ntmps39
 go_upto_if 11 with (first | ((with_reducible refine gate_dst (N := 2) rfl ?_); refine box_event ?hg (N := 2) ?hd (cs := #[.int .i64 a0_0, .int .i64 a0_1, .int .i64 a0_2, .int .i64 a0_3]) (t := 25) ?hr ?_; (case hd => rfl); (case hg => rfl); (case hr => first | (go_simp; done) | (go_simp; rfl)); intro gb126 hg w4 hbox hb; have n0_ := Aside0.mk (below_step HB.out hb); have n1_ := Aside0.mk (hbox); have n2_ := Aside0.mk ((by rw [hg]; exact (below_size HB.out) : w.heap.size ≤ gb126)); have n3_ := Aside0.mk ((by rw [hg]; exact (below_size HB.out) : w.heap.size ≤ gb126)); clear HB; have HB := n0_; have BK126 := n1_; have GW126 := n2_; have GE126 := n3_; clear n0_ n1_ n2_ n3_; clear hb hbox hg) | ((with_reducible refine gate_dst (N := 3) rfl ?_); refine box_event ?hg (N := 3) ?hd (cs := #[.int .i64 a1_0, .int .i64 a1_1, .int .i64 a1_2, .int .i64 a1_3]) (t := 25) ?hr ?_; (case hd => rfl); (case hg => rfl); (case hr => first | (go_simp; done) | (go_simp; rfl)); intro gb127 hg w5 hbox hb; have n0_ := Aside0.mk (blk_below BK126.out hb); have n1_ := Aside0.mk (below_step HB.out hb); have n2_ := Aside0.mk (hbox); have n3_ := Aside0.mk ((by rw [hg]; exact (below_size HB.out) : w.heap.size ≤ gb127)); have n4_ := Aside0.mk ((by rw [hg]; exact (below_size HB.out) : w.heap.size ≤ gb127)); have n5_ := Aside0.mk ((by rw [hg]; exact Nat.ne_of_lt (blk_lt BK126.out) : gb126 ≠ gb127)); have n6_ := Aside0.mk ((by rw [hg]; exact Nat.ne_of_gt (blk_lt BK126.out) : gb127 ≠ gb126)); clear BK126; clear HB; have BK126 := n0_; have HB := n1_; have BK127 := n2_; have GW127 := n3_; have GE127 := n4_; have NB126_127 := n5_; have NB127_126 := n6_; clear n0_ n1_ n2_ n3_ n4_ n5_ n6_; clear hb hbox hg; have hnb6 := NB127_126.out; have hnc6 := NB126_127.out; have hcz7_0 : w5.cell? ⟨gb127, 0, none⟩ = some (.int .i64 a1_0) := (blk_cell BK127.out 0).trans rfl; have hcz7_1 : w5.cell? ⟨gb127, 1, none⟩ = some (.int .i64 a1_1) := (blk_cell BK127.out 1).trans rfl; have hcz7_2 : w5.cell? ⟨gb127, 2, none⟩ = some (.int .i64 a1_2) := (blk_cell BK127.out 2).trans rfl; have hcz7_3 : w5.cell? ⟨gb127, 3, none⟩ = some (.int .i64 a1_3) := (blk_cell BK127.out 3).trans rfl; have hfz7_0 := blk_frozen BK127.out 0; have hfz7_1 := blk_frozen BK127.out 1; have hfz7_2 := blk_frozen BK127.out 2; have hfz7_3 := blk_frozen BK127.out 3))
 (try simp only [Act.put, List.setIfInBounds_toArray, List.set_cons_zero, List.set_cons_succ])
 go_cut [] (fun wc => ∃ (kq : Nat) (x127000_2 : Int) (x127001_2 : Int) (x127002_2 : Int) (x127003_2 : Int) (x128000_2 : Int) (x128001_2 : Int) (x128002_2 : Int) (x128003_2 : Int), Aside0 (geom_online.j0 kq x127000_2 x127001_2 x127002_2 x127003_2 x128000_2 x128001_2 x128002_2 x128003_2 = some r) ∧ Aside0 (kq ≤ k) ∧ Aside0 (wc.heap[gb126]? = some (.cells #[.int .i64 x127000_2, .int .i64 x127001_2, .int .i64 x127002_2, .int .i64 x127003_2] 25 (0, 0))) ∧ Aside0 (wc.heap[gb127]? = some (.cells #[.int .i64 x128000_2, .int .i64 x128001_2, .int .i64 x128002_2, .int .i64 x128003_2] 25 (0, 0))) ∧ Aside0 (Below w.heap.size w wc))
 case first =>
  have H := HC3.out
  clear HC3
  by_cases c8 : (a1_0 == a1_2 && (a1_1 == a1_3)) = true
  ·rw [if_pos c8] at H
   have c8b0 : (a1_0 == a1_2 && (a1_1 == a1_3)) = true := c8
   (try (have c8b1 : decide (a1_0 = a1_2 && (a1_1 == a1_3)) = true := by simpa using c8))
   (try (have c8b2 : (a1_0 == a1_2 && (a1_1 == a1_3)) = true := by simpa using c8))
   clear c8
   (first | rw [c8b0] | (simp only [i64_w, i32_w]; rw [c8b0]) | skip)
   have H' := Aside0.mk H
   clear H
   have hnb9 := NB127_126.out
   have hnc9 := NB126_127.out
   have hcz10_0 : w5.cell? ⟨gb127, 0, none⟩ = some (.int .i64 a1_0) := (blk_cell BK127.out 0).trans rfl
   have hcz10_1 : w5.cell? ⟨gb127, 1, none⟩ = some (.int .i64 a1_1) := (blk_cell BK127.out 1).trans rfl
   have hcz10_2 : w5.cell? ⟨gb127, 2, none⟩ = some (.int .i64 a1_2) := (blk_cell BK127.out 2).trans rfl
   have hcz10_3 : w5.cell? ⟨gb127, 3, none⟩ = some (.int .i64 a1_3) := (blk_cell BK127.out 3).trans rfl
   have hfz10_0 := blk_frozen BK127.out 0
   have hfz10_1 := blk_frozen BK127.out 1
   have hfz10_2 := blk_frozen BK127.out 2
   have hfz10_3 := blk_frozen BK127.out 3
   have hcz11_0 : w5.cell? ⟨gb126, 0, none⟩ = some (.int .i64 a0_0) := (blk_cell BK126.out 0).trans rfl
   have hcz11_1 : w5.cell? ⟨gb126, 1, none⟩ = some (.int .i64 a0_1) := (blk_cell BK126.out 1).trans rfl
   have hcz11_2 : w5.cell? ⟨gb126, 2, none⟩ = some (.int .i64 a0_2) := (blk_cell BK126.out 2).trans rfl
   have hcz11_3 : w5.cell? ⟨gb126, 3, none⟩ = some (.int .i64 a0_3) := (blk_cell BK126.out 3).trans rfl
   have hfz11_0 := blk_frozen BK126.out 0
   have hfz11_1 := blk_frozen BK126.out 1
   have hfz11_2 := blk_frozen BK126.out 2
   have hfz11_3 := blk_frozen BK126.out 3
   go_wp2
   go_meet
   case rel => exact ⟨_, (a1_0), (a1_1), (a1_2), (a1_3), (a0_0), (a0_1), (a0_2), (a0_3), H', ⟨by first | omega | exact Nat.le_refl _⟩, ⟨by (with_reducible repeat (first | refine blk_drewN ?_ _ | refine blk_drew ?_ | refine blk_alloc ?_ _)); refine blk_far ?_ NB126_127.out _; (with_reducible repeat (first | refine blk_drewN ?_ _ | refine blk_drew ?_ | refine blk_alloc ?_ _)); refine blk_far ?_ NB126_127.out _; (with_reducible repeat (first | refine blk_drewN ?_ _ | refine blk_drew ?_ | refine blk_alloc ?_ _)); refine blk_far ?_ NB126_127.out _; (with_reducible repeat (first | refine blk_drewN ?_ _ | refine blk_drew ?_ | refine blk_alloc ?_ _)); refine blk_far ?_ NB126_127.out _; (with_reducible repeat (first | refine blk_drewN ?_ _ | refine blk_drew ?_ | refine blk_alloc ?_ _)); refine blk_put (cs := #[.int .i64 a1_0, .int .i64 a1_1, .int .i64 a1_2, .int .i64 a0_3]) ?_ 3 _ rfl; (with_reducible repeat (first | refine blk_drewN ?_ _ | refine blk_drew ?_ | refine blk_alloc ?_ _)); refine blk_put (cs := #[.int .i64 a1_0, .int .i64 a1_1, .int .i64 a0_2, .int .i64 a0_3]) ?_ 2 _ rfl; (with_reducible repeat (first | refine blk_drewN ?_ _ | refine blk_drew ?_ | refine blk_alloc ?_ _)); refine blk_put (cs := #[.int .i64 a1_0, .int .i64 a0_1, .int .i64 a0_2, .int .i64 a0_3]) ?_ 1 _ rfl; (with_reducible repeat (first | refine blk_drewN ?_ _ | refine blk_drew ?_ | refine blk_alloc ?_ _)); refine blk_put (cs := #[.int .i64 a0_0, .int .i64 a0_1, .int .i64 a0_2, .int .i64 a0_3]) ?_ 0 _ rfl; (with_reducible repeat (first | refine blk_drewN ?_ _ | refine blk_drew ?_ | refine blk_alloc ?_ _)); exact BK126.out⟩, ⟨by (with_reducible repeat (first | refine blk_drewN ?_ _ | refine blk_drew ?_ | refine blk_alloc ?_ _)); refine blk_put (cs := #[.int .i64 a0_0, .int .i64 a0_1, .int .i64 a0_2, .int .i64 a1_3]) ?_ 3 _ rfl; (with_reducible repeat (first | refine blk_drewN ?_ _ | refine blk_drew ?_ | refine blk_alloc ?_ _)); refine blk_put (cs := #[.int .i64 a0_0, .int .i64 a0_1, .int .i64 a1_2, .int .i64 a1_3]) ?_ 2 _ rfl; (with_reducible repeat (first | refine blk_drewN ?_ _ | refine blk_drew ?_ | refine blk_alloc ?_ _)); refine blk_put (cs := #[.int .i64 a0_0, .int .i64 a1_1, .int .i64 a1_2, .int .i64 a1_3]) ?_ 1 _ rfl; (with_reducible repeat (first | refine blk_drewN ?_ _ | refine blk_drew ?_ | refine blk_alloc ?_ _)); refine blk_put (cs := #[.int .i64 a1_0, .int .i64 a1_1, .int .i64 a1_2, .int .i64 a1_3]) ?_ 0 _ rfl; (with_reducible repeat (first | refine blk_drewN ?_ _ | refine blk_drew ?_ | refine blk_alloc ?_ _)); refine blk_far ?_ NB127_126.out _; (with_reducible repeat (first | refine blk_drewN ?_ _ | refine blk_drew ?_ | refine blk_alloc ?_ _)); refine blk_far ?_ NB127_126.out _; (with_reducible repeat (first | refine blk_drewN ?_ _ | refine blk_drew ?_ | refine blk_alloc ?_ _)); refine blk_far ?_ NB127_126.out _; (with_reducible repeat (first | refine blk_drewN ?_ _ | refine blk_drew ?_ | refine blk_alloc ?_ _)); refine blk_far ?_ NB127_126.out _; (with_reducible repeat (first | refine blk_drewN ?_ _ | refine blk_drew ?_ | refine blk_alloc ?_ _)); exact BK127.out⟩, ⟨by repeat (first | (with_reducible first | exact HB.out | apply below_alloc | apply pw_below_drewN | apply below_drew1 | refine below_set ?_ GE126.out | refine below_set ?_ GE127.out) | exact HB.out)⟩⟩
  ·rw [if_neg c8] at H
   have c8b0 : (a1_0 == a1_2 && (a1_1 == a1_3)) = false := by simpa using c8
   (try (have c8b1 : decide (a1_0 = a1_2 && (a1_1 == a1_3)) = false := by simpa using c8))
   (try (have c8b2 : (a1_0 == a1_2 && (a1_1 == a1_3)) = false := by simpa using c8))
   (try (have c8b3 : ¬ (a1_0 = a1_2 && (a1_1 == a1_3)) := by simpa using c8))
   clear c8
   (first | rw [c8b0] | (simp only [i64_w, i32_w]; rw [c8b0]) | skip)
   have H' := Aside0.mk H
   clear H
   go_wp2
   go_meet
   case rel => exact ⟨_, (a0_0), (a0_1), (a0_2), (a0_3), (a1_0), (a1_1), (a1_2), (a1_3), H', ⟨by first | omega | exact Nat.le_refl _⟩, ⟨by (with_reducible repeat (first | refine blk_drewN ?_ _ | refine blk_drew ?_ | refine blk_alloc ?_ _)); exact BK126.out⟩, ⟨by (with_reducible repeat (first | refine blk_drewN ?_ _ | refine blk_drew ?_ | refine blk_alloc ?_ _)); exact BK127.out⟩, ⟨by repeat (first | (with_reducible first | exact HB.out | apply below_alloc | apply pw_below_drewN | apply below_drew1 | refine below_set ?_ GE126.out | refine below_set ?_ GE127.out) | exact HB.out)⟩⟩
 case rest =>
  clear HC3
  try clear p2
  try clear c3
  try clear c6
  try clear c8
  try clear c8b0
  try clear c8b1
  try clear c8b2
  try clear c9
  try clear hcz10_0
  try clear hcz10_1
  try clear hcz10_2
  try clear hcz10_3
  try clear hcz11_0
  try clear hcz11_1
  try clear hcz11_2
  try clear hcz11_3
  try clear hcz7_0
  try clear hcz7_1
  try clear hcz7_2
  try clear hcz7_3
  try clear hfz10_0
  try clear hfz10_1
  try clear hfz10_2
  try clear hfz10_3
  try clear hfz11_0
  try clear hfz11_1
  try clear hfz11_2
  try clear hfz11_3
  try clear hfz7_0
  try clear hfz7_1
  try clear hfz7_2
  try clear hfz7_3
  obtain ⟨kq, x127000_2, x127001_2, x127002_2, x127003_2, x128000_2, x128001_2, x128002_2, x128003_2, HA, HJ2, BK126, BK127, HB⟩ := hcut
  cases kq with
  | zero => exact absurd HA.out (by simp [geom_online.j0])
  | succ kj2 =>
   have H := HA.out
   clear HA
   simp only [geom_online.j0] at H
   by_cases c12 : (x127000_2 == x127002_2 && (x127001_2 == x127003_2)) = true
   ·rw [if_pos c12] at H
    have c12b0 : (x127000_2 == x127002_2 && (x127001_2 == x127003_2)) = true := c12
    (try (have c12b1 : decide (x127000_2 = x127002_2 && (x127001_2 == x127003_2)) = true := by simpa using c12))
    (try (have c12b2 : (x127000_2 == x127002_2 && (x127001_2 == x127003_2)) = true := by simpa using c12))
    clear c12
    replace H := Option.bind_eq_some_iff.mp H
    obtain ⟨t128, A130, H⟩ := H
    replace H : (if t128 = true then (if (x127000_2 == x128000_2 && (x127001_2 == x128001_2)) = true then (some 1) else (if (x127000_2 == x128002_2 && (x127001_2 == x128003_2)) = true then (some 1) else (some 2))) else (some 0)) = some r := H
    have A13 := Aside0.mk A130
    clear A130
    by_cases c14 : t128 = true
    ·subst c14
     have H1 : (if (x127000_2 == x128000_2 && (x127001_2 == x128001_2)) = true then (some 1) else (if (x127000_2 == x128002_2 && (x127001_2 == x128003_2)) = true then (some 1) else (some 2))) = some r := by rw [if_pos rfl] at H; exact H
     clear H
     have H := H1
     clear H1
     by_cases c15 : (x127000_2 == x128000_2 && (x127001_2 == x128001_2)) = true
     ·rw [if_pos c15] at H
      have c15b0 : (x127000_2 == x128000_2 && (x127001_2 == x128001_2)) = true := c15
      (try (have c15b1 : decide (x127000_2 = x128000_2 && (x127001_2 == x128001_2)) = true := by simpa using c15))
      (try (have c15b2 : (x127000_2 == x128000_2 && (x127001_2 == x128001_2)) = true := by simpa using c15))
      clear c15
      obtain rfl := Option.some.inj H
      have hnb16 := NB126_127.out
      have hnc16 := NB127_126.out
      have hcz17_0 : wc.cell? ⟨gb126, 0, none⟩ = some (.int .i64 x127000_2) := (blk_cell BK126.out 0).trans rfl
      have hcz17_1 : wc.cell? ⟨gb126, 1, none⟩ = some (.int .i64 x127001_2) := (blk_cell BK126.out 1).trans rfl
      have hcz17_2 : wc.cell? ⟨gb126, 2, none⟩ = some (.int .i64 x127002_2) := (blk_cell BK126.out 2).trans rfl
      have hcz17_3 : wc.cell? ⟨gb126, 3, none⟩ = some (.int .i64 x127003_2) := (blk_cell BK126.out 3).trans rfl
      have hfz17_0 := blk_frozen BK126.out 0
      have hfz17_1 := blk_frozen BK126.out 1
      have hfz17_2 := blk_frozen BK126.out 2
      have hfz17_3 := blk_frozen BK126.out 3
      have hcz18_0 : wc.cell? ⟨gb127, 0, none⟩ = some (.int .i64 x128000_2) := (blk_cell BK127.out 0).trans rfl
      have hcz18_1 : wc.cell? ⟨gb127, 1, none⟩ = some (.int .i64 x128001_2) := (blk_cell BK127.out 1).trans rfl
      have hcz18_2 : wc.cell? ⟨gb127, 2, none⟩ = some (.int .i64 x128002_2) := (blk_cell BK127.out 2).trans rfl
      have hcz18_3 : wc.cell? ⟨gb127, 3, none⟩ = some (.int .i64 x128003_2) := (blk_cell BK127.out 3).trans rfl
      have hfz18_0 := blk_frozen BK127.out 0
      have hfz18_1 := blk_frozen BK127.out 1
      have hfz18_2 := blk_frozen BK127.out 2
      have hfz18_3 := blk_frozen BK127.out 3
      go_wp2_with (first | ((with_reducible refine gate_callee (f := 15) rfl ?_); refine goesL_ (some 23) rfl rfl Try.func15 (by kernel_rfl) rfl #[.agg #[.int .i64 x128000_2, .int .i64 x128001_2, .int .i64 x128002_2, .int .i64 x128003_2], .agg #[.int .i64 x127000_2, .int .i64 x127001_2]] rfl (by (try simp only [List.map_toArray, List.map_cons, List.map_nil]); first | done | rfl | (simp only [List.length_drop, List.length_take]; rfl)) ?_; (with_reducible refine (geom_On.calls kj2 x128000_2 x128001_2 x128002_2 x128003_2 x127000_2 x127001_2 true _ A13.out).mono ?_); rintro e w19 ⟨rfl, hb⟩; refine ⟨_, rfl, ?_⟩; have n0_ := Aside0.mk (blk_below BK126.out hb); have n1_ := Aside0.mk (blk_below BK127.out hb); have n2_ := Aside0.mk (below_step HB.out hb); clear BK126; clear BK127; clear HB; have BK126 := n0_; have BK127 := n1_; have HB := n2_; clear n0_ n1_ n2_; (try clear hb); (try clear hb2); (try clear hk); (try clear hi); have hcz20_0 : w19.cell? ⟨gb126, 0, none⟩ = some (.int .i64 x127000_2) := (blk_cell BK126.out 0).trans rfl; have hcz20_1 : w19.cell? ⟨gb126, 1, none⟩ = some (.int .i64 x127001_2) := (blk_cell BK126.out 1).trans rfl; have hcz20_2 : w19.cell? ⟨gb126, 2, none⟩ = some (.int .i64 x127002_2) := (blk_cell BK126.out 2).trans rfl; have hcz20_3 : w19.cell? ⟨gb126, 3, none⟩ = some (.int .i64 x127003_2) := (blk_cell BK126.out 3).trans rfl; have hfz20_0 := blk_frozen BK126.out 0; have hfz20_1 := blk_frozen BK126.out 1; have hfz20_2 := blk_frozen BK126.out 2; have hfz20_3 := blk_frozen BK126.out 3; have hcz21_0 : w19.cell? ⟨gb127, 0, none⟩ = some (.int .i64 x128000_2) := (blk_cell BK127.out 0).trans rfl; have hcz21_1 : w19.cell? ⟨gb127, 1, none⟩ = some (.int .i64 x128001_2) := (blk_cell BK127.out 1).trans rfl; have hcz21_2 : w19.cell? ⟨gb127, 2, none⟩ = some (.int .i64 x128002_2) := (blk_cell BK127.out 2).trans rfl; have hcz21_3 : w19.cell? ⟨gb127, 3, none⟩ = some (.int .i64 x128003_2) := (blk_cell BK127.out 3).trans rfl; have hfz21_0 := blk_frozen BK127.out 0; have hfz21_1 := blk_frozen BK127.out 1; have hfz21_2 := blk_frozen BK127.out 2; have hfz21_3 := blk_frozen BK127.out 3))
      go_ret
      exact ⟨by first | rfl | (simp [errW_none, errW_some] <;> rfl) | (simp [*, errW_none, errW_some] <;> rfl), by repeat (first | (with_reducible first | exact HB.out | apply below_alloc | apply pw_below_drewN | apply below_drew1 | refine below_set ?_ GE126.out | refine below_set ?_ GE127.out) | exact HB.out)⟩
     ·rw [if_neg c15] at H
      have c15b0 : (x127000_2 == x128000_2 && (x127001_2 == x128001_2)) = false := by simpa using c15
      (try (have c15b1 : decide (x127000_2 = x128000_2 && (x127001_2 == x128001_2)) = false := by simpa using c15))
      (try (have c15b2 : (x127000_2 == x128000_2 && (x127001_2 == x128001_2)) = false := by simpa using c15))
      (try (have c15b3 : ¬ (x127000_2 = x128000_2 && (x127001_2 == x128001_2)) := by simpa using c15))
      clear c15
      by_cases c22 : (x127000_2 == x128002_2 && (x127001_2 == x128003_2)) = true
      ·rw [if_pos c22] at H
       have c22b0 : (x127000_2 == x128002_2 && (x127001_2 == x128003_2)) = true := c22
       (try (have c22b1 : decide (x127000_2 = x128002_2 && (x127001_2 == x128003_2)) = true := by simpa using c22))
       (try (have c22b2 : (x127000_2 == x128002_2 && (x127001_2 == x128003_2)) = true := by simpa using c22))
       clear c22
       obtain rfl := Option.some.inj H
       have hnb23 := NB126_127.out
       have hnc23 := NB127_126.out
       have hcz24_0 : wc.cell? ⟨gb126, 0, none⟩ = some (.int .i64 x127000_2) := (blk_cell BK126.out 0).trans rfl
       have hcz24_1 : wc.cell? ⟨gb126, 1, none⟩ = some (.int .i64 x127001_2) := (blk_cell BK126.out 1).trans rfl
       have hcz24_2 : wc.cell? ⟨gb126, 2, none⟩ = some (.int .i64 x127002_2) := (blk_cell BK126.out 2).trans rfl
       have hcz24_3 : wc.cell? ⟨gb126, 3, none⟩ = some (.int .i64 x127003_2) := (blk_cell BK126.out 3).trans rfl
       have hfz24_0 := blk_frozen BK126.out 0
       have hfz24_1 := blk_frozen BK126.out 1
       have hfz24_2 := blk_frozen BK126.out 2
       have hfz24_3 := blk_frozen BK126.out 3
       have hcz25_0 : wc.cell? ⟨gb127, 0, none⟩ = some (.int .i64 x128000_2) := (blk_cell BK127.out 0).trans rfl
       have hcz25_1 : wc.cell? ⟨gb127, 1, none⟩ = some (.int .i64 x128001_2) := (blk_cell BK127.out 1).trans rfl
       have hcz25_2 : wc.cell? ⟨gb127, 2, none⟩ = some (.int .i64 x128002_2) := (blk_cell BK127.out 2).trans rfl
       have hcz25_3 : wc.cell? ⟨gb127, 3, none⟩ = some (.int .i64 x128003_2) := (blk_cell BK127.out 3).trans rfl
       have hfz25_0 := blk_frozen BK127.out 0
       have hfz25_1 := blk_frozen BK127.out 1
       have hfz25_2 := blk_frozen BK127.out 2
       have hfz25_3 := blk_frozen BK127.out 3
       go_wp2_with (first | ((with_reducible refine gate_callee (f := 15) rfl ?_); refine goesL_ (some 23) rfl rfl Try.func15 (by kernel_rfl) rfl #[.agg #[.int .i64 x128000_2, .int .i64 x128001_2, .int .i64 x128002_2, .int .i64 x128003_2], .agg #[.int .i64 x127000_2, .int .i64 x127001_2]] rfl (by (try simp only [List.map_toArray, List.map_cons, List.map_nil]); first | done | rfl | (simp only [List.length_drop, List.length_take]; rfl)) ?_; (with_reducible refine (geom_On.calls kj2 x128000_2 x128001_2 x128002_2 x128003_2 x127000_2 x127001_2 true _ A13.out).mono ?_); rintro e w26 ⟨rfl, hb⟩; refine ⟨_, rfl, ?_⟩; have n0_ := Aside0.mk (blk_below BK126.out hb); have n1_ := Aside0.mk (blk_below BK127.out hb); have n2_ := Aside0.mk (below_step HB.out hb); clear BK126; clear BK127; clear HB; have BK126 := n0_; have BK127 := n1_; have HB := n2_; clear n0_ n1_ n2_; (try clear hb); (try clear hb2); (try clear hk); (try clear hi); have hcz27_0 : w26.cell? ⟨gb126, 0, none⟩ = some (.int .i64 x127000_2) := (blk_cell BK126.out 0).trans rfl; have hcz27_1 : w26.cell? ⟨gb126, 1, none⟩ = some (.int .i64 x127001_2) := (blk_cell BK126.out 1).trans rfl; have hcz27_2 : w26.cell? ⟨gb126, 2, none⟩ = some (.int .i64 x127002_2) := (blk_cell BK126.out 2).trans rfl; have hcz27_3 : w26.cell? ⟨gb126, 3, none⟩ = some (.int .i64 x127003_2) := (blk_cell BK126.out 3).trans rfl; have hfz27_0 := blk_frozen BK126.out 0; have hfz27_1 := blk_frozen BK126.out 1; have hfz27_2 := blk_frozen BK126.out 2; have hfz27_3 := blk_frozen BK126.out 3; have hcz28_0 : w26.cell? ⟨gb127, 0, none⟩ = some (.int .i64 x128000_2) := (blk_cell BK127.out 0).trans rfl; have hcz28_1 : w26.cell? ⟨gb127, 1, none⟩ = some (.int .i64 x128001_2) := (blk_cell BK127.out 1).trans rfl; have hcz28_2 : w26.cell? ⟨gb127, 2, none⟩ = some (.int .i64 x128002_2) := (blk_cell BK127.out 2).trans rfl; have hcz28_3 : w26.cell? ⟨gb127, 3, none⟩ = some (.int .i64 x128003_2) := (blk_cell BK127.out 3).trans rfl; have hfz28_0 := blk_frozen BK127.out 0; have hfz28_1 := blk_frozen BK127.out 1; have hfz28_2 := blk_frozen BK127.out 2; have hfz28_3 := blk_frozen BK127.out 3))
       go_ret
       exact ⟨by first | rfl | (simp [errW_none, errW_some] <;> rfl) | (simp [*, errW_none, errW_some] <;> rfl), by repeat (first | (with_reducible first | exact HB.out | apply below_alloc | apply pw_below_drewN | apply below_drew1 | refine below_set ?_ GE126.out | refine below_set ?_ GE127.out) | exact HB.out)⟩
      ·rw [if_neg c22] at H
       have c22b0 : (x127000_2 == x128002_2 && (x127001_2 == x128003_2)) = false := by simpa using c22
       (try (have c22b1 : decide (x127000_2 = x128002_2 && (x127001_2 == x128003_2)) = false := by simpa using c22))
       (try (have c22b2 : (x127000_2 == x128002_2 && (x127001_2 == x128003_2)) = false := by simpa using c22))
       (try (have c22b3 : ¬ (x127000_2 = x128002_2 && (x127001_2 == x128003_2)) := by simpa using c22))
       clear c22
       obtain rfl := Option.some.inj H
       have hnb29 := NB126_127.out
       have hnc29 := NB127_126.out
       have hcz30_0 : wc.cell? ⟨gb126, 0, none⟩ = some (.int .i64 x127000_2) := (blk_cell BK126.out 0).trans rfl
       have hcz30_1 : wc.cell? ⟨gb126, 1, none⟩ = some (.int .i64 x127001_2) := (blk_cell BK126.out 1).trans rfl
       have hcz30_2 : wc.cell? ⟨gb126, 2, none⟩ = some (.int .i64 x127002_2) := (blk_cell BK126.out 2).trans rfl
       have hcz30_3 : wc.cell? ⟨gb126, 3, none⟩ = some (.int .i64 x127003_2) := (blk_cell BK126.out 3).trans rfl
       have hfz30_0 := blk_frozen BK126.out 0
       have hfz30_1 := blk_frozen BK126.out 1
       have hfz30_2 := blk_frozen BK126.out 2
       have hfz30_3 := blk_frozen BK126.out 3
       have hcz31_0 : wc.cell? ⟨gb127, 0, none⟩ = some (.int .i64 x128000_2) := (blk_cell BK127.out 0).trans rfl
       have hcz31_1 : wc.cell? ⟨gb127, 1, none⟩ = some (.int .i64 x128001_2) := (blk_cell BK127.out 1).trans rfl
       have hcz31_2 : wc.cell? ⟨gb127, 2, none⟩ = some (.int .i64 x128002_2) := (blk_cell BK127.out 2).trans rfl
       have hcz31_3 : wc.cell? ⟨gb127, 3, none⟩ = some (.int .i64 x128003_2) := (blk_cell BK127.out 3).trans rfl
       have hfz31_0 := blk_frozen BK127.out 0
       have hfz31_1 := blk_frozen BK127.out 1
       have hfz31_2 := blk_frozen BK127.out 2
       have hfz31_3 := blk_frozen BK127.out 3
       go_wp2_with (first | ((with_reducible refine gate_callee (f := 15) rfl ?_); refine goesL_ (some 23) rfl rfl Try.func15 (by kernel_rfl) rfl #[.agg #[.int .i64 x128000_2, .int .i64 x128001_2, .int .i64 x128002_2, .int .i64 x128003_2], .agg #[.int .i64 x127000_2, .int .i64 x127001_2]] rfl (by (try simp only [List.map_toArray, List.map_cons, List.map_nil]); first | done | rfl | (simp only [List.length_drop, List.length_take]; rfl)) ?_; (with_reducible refine (geom_On.calls kj2 x128000_2 x128001_2 x128002_2 x128003_2 x127000_2 x127001_2 true _ A13.out).mono ?_); rintro e w32 ⟨rfl, hb⟩; refine ⟨_, rfl, ?_⟩; have n0_ := Aside0.mk (blk_below BK126.out hb); have n1_ := Aside0.mk (blk_below BK127.out hb); have n2_ := Aside0.mk (below_step HB.out hb); clear BK126; clear BK127; clear HB; have BK126 := n0_; have BK127 := n1_; have HB := n2_; clear n0_ n1_ n2_; (try clear hb); (try clear hb2); (try clear hk); (try clear hi); have hcz33_0 : w32.cell? ⟨gb126, 0, none⟩ = some (.int .i64 x127000_2) := (blk_cell BK126.out 0).trans rfl; have hcz33_1 : w32.cell? ⟨gb126, 1, none⟩ = some (.int .i64 x127001_2) := (blk_cell BK126.out 1).trans rfl; have hcz33_2 : w32.cell? ⟨gb126, 2, none⟩ = some (.int .i64 x127002_2) := (blk_cell BK126.out 2).trans rfl; have hcz33_3 : w32.cell? ⟨gb126, 3, none⟩ = some (.int .i64 x127003_2) := (blk_cell BK126.out 3).trans rfl; have hfz33_0 := blk_frozen BK126.out 0; have hfz33_1 := blk_frozen BK126.out 1; have hfz33_2 := blk_frozen BK126.out 2; have hfz33_3 := blk_frozen BK126.out 3; have hcz34_0 : w32.cell? ⟨gb127, 0, none⟩ = some (.int .i64 x128000_2) := (blk_cell BK127.out 0).trans rfl; have hcz34_1 : w32.cell? ⟨gb127, 1, none⟩ = some (.int .i64 x128001_2) := (blk_cell BK127.out 1).trans rfl; have hcz34_2 : w32.cell? ⟨gb127, 2, none⟩ = some (.int .i64 x128002_2) := (blk_cell BK127.out 2).trans rfl; have hcz34_3 : w32.cell? ⟨gb127, 3, none⟩ = some (.int .i64 x128003_2) := (blk_cell BK127.out 3).trans rfl; have hfz34_0 := blk_frozen BK127.out 0; have hfz34_1 := blk_frozen BK127.out 1; have hfz34_2 := blk_frozen BK127.out 2; have hfz34_3 := blk_frozen BK127.out 3))
       go_ret
       exact ⟨by first | rfl | (simp [errW_none, errW_some] <;> rfl) | (simp [*, errW_none, errW_some] <;> rfl), by repeat (first | (with_reducible first | exact HB.out | apply below_alloc | apply pw_below_drewN | apply below_drew1 | refine below_set ?_ GE126.out | refine below_set ?_ GE127.out) | exact HB.out)⟩
    ·replace c14 := Bool.eq_false_iff.mpr c14
     subst c14
     have H1 : (some 0) = some r := by rw [if_neg (show ¬ (false = true) by decide)] at H; exact H
     clear H
     have H := H1
     clear H1
     obtain rfl := Option.some.inj H
     have hnb35 := NB126_127.out
     have hnc35 := NB127_126.out
     have hcz36_0 : wc.cell? ⟨gb126, 0, none⟩ = some (.int .i64 x127000_2) := (blk_cell BK126.out 0).trans rfl
     have hcz36_1 : wc.cell? ⟨gb126, 1, none⟩ = some (.int .i64 x127001_2) := (blk_cell BK126.out 1).trans rfl
     have hcz36_2 : wc.cell? ⟨gb126, 2, none⟩ = some (.int .i64 x127002_2) := (blk_cell BK126.out 2).trans rfl
     have hcz36_3 : wc.cell? ⟨gb126, 3, none⟩ = some (.int .i64 x127003_2) := (blk_cell BK126.out 3).trans rfl
     have hfz36_0 := blk_frozen BK126.out 0
     have hfz36_1 := blk_frozen BK126.out 1
     have hfz36_2 := blk_frozen BK126.out 2
     have hfz36_3 := blk_frozen BK126.out 3
     have hcz37_0 : wc.cell? ⟨gb127, 0, none⟩ = some (.int .i64 x128000_2) := (blk_cell BK127.out 0).trans rfl
     have hcz37_1 : wc.cell? ⟨gb127, 1, none⟩ = some (.int .i64 x128001_2) := (blk_cell BK127.out 1).trans rfl
     have hcz37_2 : wc.cell? ⟨gb127, 2, none⟩ = some (.int .i64 x128002_2) := (blk_cell BK127.out 2).trans rfl
     have hcz37_3 : wc.cell? ⟨gb127, 3, none⟩ = some (.int .i64 x128003_2) := (blk_cell BK127.out 3).trans rfl
     have hfz37_0 := blk_frozen BK127.out 0
     have hfz37_1 := blk_frozen BK127.out 1
     have hfz37_2 := blk_frozen BK127.out 2
     have hfz37_3 := blk_frozen BK127.out 3
     go_wp2_with (first | ((with_reducible refine gate_callee (f := 15) rfl ?_); refine goesL_ (some 23) rfl rfl Try.func15 (by kernel_rfl) rfl #[.agg #[.int .i64 x128000_2, .int .i64 x128001_2, .int .i64 x128002_2, .int .i64 x128003_2], .agg #[.int .i64 x127000_2, .int .i64 x127001_2]] rfl (by (try simp only [List.map_toArray, List.map_cons, List.map_nil]); first | done | rfl | (simp only [List.length_drop, List.length_take]; rfl)) ?_; (with_reducible refine (geom_On.calls kj2 x128000_2 x128001_2 x128002_2 x128003_2 x127000_2 x127001_2 false _ A13.out).mono ?_); rintro e w38 ⟨rfl, hb⟩; refine ⟨_, rfl, ?_⟩; have n0_ := Aside0.mk (blk_below BK126.out hb); have n1_ := Aside0.mk (blk_below BK127.out hb); have n2_ := Aside0.mk (below_step HB.out hb); clear BK126; clear BK127; clear HB; have BK126 := n0_; have BK127 := n1_; have HB := n2_; clear n0_ n1_ n2_; (try clear hb); (try clear hb2); (try clear hk); (try clear hi)))
     go_ret
     exact ⟨by first | rfl | (simp [errW_none, errW_some] <;> rfl) | (simp [*, errW_none, errW_some] <;> rfl), by repeat (first | (with_reducible first | exact HB.out | apply below_alloc | apply pw_below_drewN | apply below_drew1 | refine below_set ?_ GE126.out | refine below_set ?_ GE127.out) | exact HB.out)⟩
   ·rw [if_neg c12] at H
    have c12b0 : (x127000_2 == x127002_2 && (x127001_2 == x127003_2)) = false := by simpa using c12
    (try (have c12b1 : decide (x127000_2 = x127002_2 && (x127001_2 == x127003_2)) = false := by simpa using c12))
    (try (have c12b2 : (x127000_2 == x127002_2 && (x127001_2 == x127003_2)) = false := by simpa using c12))
    (try (have c12b3 : ¬ (x127000_2 = x127002_2 && (x127001_2 == x127003_2)) := by simpa using c12))
    clear c12
    replace H := Option.bind_eq_some_iff.mp H
    obtain ⟨t131, A390, H⟩ := H
    replace H : (if t131 > 0 then (geom_online.j1 kj2 x128000_2 x128001_2 x128002_2 x128003_2 x128000_2 x128001_2 x127002_2 x127003_2) else (geom_online.j1 kj2 x128000_2 x128001_2 x128002_2 x128003_2 x127000_2 x127001_2 x127002_2 x127003_2)) = some r := H
    have A39 := Aside0.mk A390
    clear A390
    have HC40 := Aside0.mk H
    clear H
    have hnb41 := NB126_127.out
    have hnc41 := NB127_126.out
    have hcz42_0 : wc.cell? ⟨gb126, 0, none⟩ = some (.int .i64 x127000_2) := (blk_cell BK126.out 0).trans rfl
    have hcz42_1 : wc.cell? ⟨gb126, 1, none⟩ = some (.int .i64 x127001_2) := (blk_cell BK126.out 1).trans rfl
    have hcz42_2 : wc.cell? ⟨gb126, 2, none⟩ = some (.int .i64 x127002_2) := (blk_cell BK126.out 2).trans rfl
    have hcz42_3 : wc.cell? ⟨gb126, 3, none⟩ = some (.int .i64 x127003_2) := (blk_cell BK126.out 3).trans rfl
    have hfz42_0 := blk_frozen BK126.out 0
    have hfz42_1 := blk_frozen BK126.out 1
    have hfz42_2 := blk_frozen BK126.out 2
    have hfz42_3 := blk_frozen BK126.out 3
    try go_wp2
    have n0_ := Aside0.mk (blk_drew BK126.out)
    have n1_ := Aside0.mk (blk_drew BK127.out)
    have n2_ := Aside0.mk (below_drew1 HB.out)
    clear BK126
    clear BK127
    clear HB
    have BK126 := n0_
    have BK127 := n1_
    have HB := n2_
    clear n0_ n1_ n2_
    refine start_ (n := 8) (S := fun w' => w'.cell? ⟨gb126, 0, none⟩ = some (.int .i64 x127000_2) ∧ w'.cell? ⟨gb126, 1, none⟩ = some (.int .i64 x127001_2) ∧ w'.cell? ⟨gb126, 2, none⟩ = some (.int .i64 x127002_2) ∧ w'.cell? ⟨gb126, 3, none⟩ = some (.int .i64 x127003_2)) (ds := []) #[false, false, false, false, false, false, false, false] (by kernel_rfl) rfl rfl ⟨(blk_cell BK126.out 0).trans rfl, (blk_cell BK126.out 1).trans rfl, (blk_cell BK126.out 2).trans rfl, (blk_cell BK126.out 3).trans rfl⟩ (fun hHeld => ?_); refine with_tabW geom_online.tab9 geom_online.bits9 (fun HT_ HW_ => ?_)
    generalize wc.drew = w43 at BK126 BK127 HB hHeld ⊢
    refine pure_ (i := 0) (N := some 38) (v := ?_) (a' := ?_) #[true, false, false, false, false, false, false, false] rfl rfl (any_of HT_.out (by kernel_rfl)) (fun _ _ _ h => h) (Or.inl ⟨by rfl, ?_⟩) ?_ ?_
    rotate_left
    ·intro w'
     go_simp
     with_reducible rfl
    rotate_left
    ·simp only [Act.put, List.setIfInBounds_toArray, List.set_cons_zero, List.set_cons_succ, i64_w, i32_w]
     rfl
    refine pure_ (i := 2) (N := some 40) (v := ?_) (a' := ?_) #[true, false, true, false, false, false, false, false] rfl rfl (any_of HT_.out (by kernel_rfl)) (fun _ _ _ h => h) (Or.inl ⟨by rfl, ?_⟩) ?_ ?_
    rotate_left
    ·intro w'
     go_simp
     with_reducible rfl
    rotate_left
    ·simp only [Act.put, List.setIfInBounds_toArray, List.set_cons_zero, List.set_cons_succ, i64_w, i32_w]
     rfl
    refine take_ (i := 1) (N := some 39) (v := ?_) (a' := ?_) #[true, true, true, false, false, false, false, false] rfl rfl (take_ofW HT_.out HW_.out (by kernel_rfl)) (fun _ _ _ h => h) (Or.inl ⟨by rfl, ?_⟩) hHeld ?_ ?_
    rotate_left
    ·rintro w' ⟨s0, s1, s2, s3⟩
     go_simp
     with_reducible rfl
    rotate_left
    ·simp only [Act.put, List.setIfInBounds_toArray, List.set_cons_zero, List.set_cons_succ, i64_w, i32_w]
     rfl
    refine take_ (i := 3) (N := some 41) (v := ?_) (a' := ?_) #[true, true, true, true, false, false, false, false] rfl rfl (take_ofW HT_.out HW_.out (by kernel_rfl)) (fun _ _ _ h => h) (Or.inl ⟨by rfl, ?_⟩) hHeld ?_ ?_
    rotate_left
    ·rintro w' ⟨s0, s1, s2, s3⟩
     go_simp
     with_reducible rfl
    rotate_left
    ·simp only [Act.put, List.setIfInBounds_toArray, List.set_cons_zero, List.set_cons_succ, i64_w, i32_w]
     rfl
    refine join_ (σ := Nat × Nat) 2 #[true, true, true, true, true, true, false, false] (fun s_ => [(5, .pointer (some ⟨s_.1, 0, none⟩)), (6, .pointer (some ⟨s_.2, 0, none⟩))]) (fun s_ w' => (w'.cell? ⟨gb126, 0, none⟩ = some (.int .i64 x127000_2) ∧ w'.cell? ⟨gb126, 1, none⟩ = some (.int .i64 x127001_2) ∧ w'.cell? ⟨gb126, 2, none⟩ = some (.int .i64 x127002_2) ∧ w'.cell? ⟨gb126, 3, none⟩ = some (.int .i64 x127003_2)) ∧ (w'.heap[gb126]? = some (.cells #[.int .i64 x127000_2, .int .i64 x127001_2, .int .i64 x127002_2, .int .i64 x127003_2] 25 (0, 0))) ∧ (w'.heap[gb127]? = some (.cells #[.int .i64 x128000_2, .int .i64 x128001_2, .int .i64 x128002_2, .int .i64 x128003_2] 25 (0, 0))) ∧ (w'.heap[s_.1]? = some (.cells #[.int .i64 0, .int .i64 0] 23 (0, 0))) ∧ (w'.heap[s_.2]? = some (.cells #[.int .i64 0, .int .i64 0] 23 (0, 0))) ∧ (w.heap.size ≤ s_.1) ∧ (w.heap.size ≤ s_.1) ∧ (gb126 ≠ s_.1) ∧ (s_.1 ≠ gb126) ∧ (gb127 ≠ s_.1) ∧ (s_.1 ≠ gb127) ∧ (s_.2 ≠ s_.1) ∧ (s_.1 ≠ s_.2) ∧ (w.heap.size ≤ s_.2) ∧ (w.heap.size ≤ s_.2) ∧ (gb126 ≠ s_.2) ∧ (s_.2 ≠ gb126) ∧ (gb127 ≠ s_.2) ∧ (s_.2 ≠ gb127) ∧ (Below w.heap.size w w')) ?_ ?_
    rotate_left
    ·intro hCont
     refine two_ (i := 4) (j := 5) (Ni := some 5) (Nj := some 6) #[true, true, true, true, true, false, false, false] #[true, true, true, true, false, true, false, false] rfl rfl rfl rfl (two_of HT_.out (by kernel_rfl)) (by decide) (by decide) (fun K hK => ?_) (fun K hK => ?_)
     ·skip
      refine box_step ?hg (N := 5) ?hd (cs := #[.int .i64 0, .int .i64 0]) (t := 23) ?hr ?_; (case hd => rfl); (case hg => rfl); (case hr => first | (go_simp; done) | (go_simp; rfl))
      intro gb129 hg w44 hbox hb
      have n0_ := Aside0.mk (blk_below (g := gb126) (o := .cells #[.int .i64 x127000_2, .int .i64 x127001_2, .int .i64 x127002_2, .int .i64 x127003_2] 25 (0, 0)) (by (with_reducible repeat (first | refine blk_drewN ?_ _ | refine blk_drew ?_ | refine blk_alloc ?_ _)); exact BK126.out) hb)
      have n1_ := Aside0.mk (blk_below (g := gb127) (o := .cells #[.int .i64 x128000_2, .int .i64 x128001_2, .int .i64 x128002_2, .int .i64 x128003_2] 25 (0, 0)) (by (with_reducible repeat (first | refine blk_drewN ?_ _ | refine blk_drew ?_ | refine blk_alloc ?_ _)); exact BK127.out) hb)
      have n2_ := Aside0.mk (below_step (by repeat (first | (with_reducible first | exact HB.out | apply below_alloc | apply pw_below_drewN | apply below_drew1 | refine below_set ?_ GE126.out | refine below_set ?_ GE127.out) | exact HB.out)) hb)
      have n3_ := Aside0.mk (hbox)
      have n4_ := Aside0.mk ((by rw [hg]; exact (below_size (by repeat (first | (with_reducible first | exact HB.out | apply below_alloc | apply pw_below_drewN | apply below_drew1 | refine below_set ?_ GE126.out | refine below_set ?_ GE127.out) | exact HB.out))) : w.heap.size ≤ gb129))
      have n5_ := Aside0.mk ((by rw [hg]; exact (below_size (by repeat (first | (with_reducible first | exact HB.out | apply below_alloc | apply pw_below_drewN | apply below_drew1 | refine below_set ?_ GE126.out | refine below_set ?_ GE127.out) | exact HB.out))) : w.heap.size ≤ gb129))
      have n6_ := Aside0.mk ((by rw [hg]; exact Nat.ne_of_lt (blk_lt (g := gb126) (o := .cells #[.int .i64 x127000_2, .int .i64 x127001_2, .int .i64 x127002_2, .int .i64 x127003_2] 25 (0, 0)) (by (with_reducible repeat (first | refine blk_drewN ?_ _ | refine blk_drew ?_ | refine blk_alloc ?_ _)); exact BK126.out)) : gb126 ≠ gb129))
      have n7_ := Aside0.mk ((by rw [hg]; exact Nat.ne_of_gt (blk_lt (g := gb126) (o := .cells #[.int .i64 x127000_2, .int .i64 x127001_2, .int .i64 x127002_2, .int .i64 x127003_2] 25 (0, 0)) (by (with_reducible repeat (first | refine blk_drewN ?_ _ | refine blk_drew ?_ | refine blk_alloc ?_ _)); exact BK126.out)) : gb129 ≠ gb126))
      have n8_ := Aside0.mk ((by rw [hg]; exact Nat.ne_of_lt (blk_lt (g := gb127) (o := .cells #[.int .i64 x128000_2, .int .i64 x128001_2, .int .i64 x128002_2, .int .i64 x128003_2] 25 (0, 0)) (by (with_reducible repeat (first | refine blk_drewN ?_ _ | refine blk_drew ?_ | refine blk_alloc ?_ _)); exact BK127.out)) : gb127 ≠ gb129))
      have n9_ := Aside0.mk ((by rw [hg]; exact Nat.ne_of_gt (blk_lt (g := gb127) (o := .cells #[.int .i64 x128000_2, .int .i64 x128001_2, .int .i64 x128002_2, .int .i64 x128003_2] 25 (0, 0)) (by (with_reducible repeat (first | refine blk_drewN ?_ _ | refine blk_drew ?_ | refine blk_alloc ?_ _)); exact BK127.out)) : gb129 ≠ gb127))
      clear BK126
      clear BK127
      clear HB
      have BK126 := n0_
      have BK127 := n1_
      have HB := n2_
      have BK129 := n3_
      have GW129 := n4_
      have GE129 := n5_
      have NB126_129 := n6_
      have NB129_126 := n7_
      have NB127_129 := n8_
      have NB129_127 := n9_
      clear n0_ n1_ n2_ n3_ n4_ n5_ n6_ n7_ n8_ n9_
      clear hb hbox hg
      refine hK.out _ _ ⟨(blk_cell BK126.out 0).trans rfl, (blk_cell BK126.out 1).trans rfl, (blk_cell BK126.out 2).trans rfl, (blk_cell BK126.out 3).trans rfl⟩ (fun hHeld => ?_)
      clear hK K
      refine norm_ (a' := ?_) ?_ ?_
      rotate_left
      ·show Act.put _ (some 5) _ = _
       simp only [Act.put, List.setIfInBounds_toArray, List.set_cons_zero, List.set_cons_succ, i64_w, i32_w]
       rfl
      refine one_ (i := 5) (N := some 6) #[true, true, true, true, true, true, false, false] rfl rfl (one_of HT_.out (by kernel_rfl)) (by decide) (fun K hK => ?_)
      refine box_step ?hg (N := 6) ?hd (cs := #[.int .i64 0, .int .i64 0]) (t := 23) ?hr ?_; (case hd => rfl); (case hg => rfl); (case hr => first | (go_simp; done) | (go_simp; rfl))
      intro gb130 hg w45 hbox hb
      have n0_ := Aside0.mk (blk_below (g := gb126) (o := .cells #[.int .i64 x127000_2, .int .i64 x127001_2, .int .i64 x127002_2, .int .i64 x127003_2] 25 (0, 0)) (by (with_reducible repeat (first | refine blk_drewN ?_ _ | refine blk_drew ?_ | refine blk_alloc ?_ _)); exact BK126.out) hb)
      have n1_ := Aside0.mk (blk_below (g := gb127) (o := .cells #[.int .i64 x128000_2, .int .i64 x128001_2, .int .i64 x128002_2, .int .i64 x128003_2] 25 (0, 0)) (by (with_reducible repeat (first | refine blk_drewN ?_ _ | refine blk_drew ?_ | refine blk_alloc ?_ _)); exact BK127.out) hb)
      have n2_ := Aside0.mk (blk_below (g := gb129) (o := .cells #[.int .i64 0, .int .i64 0] 23 (0, 0)) (by (with_reducible repeat (first | refine blk_drewN ?_ _ | refine blk_drew ?_ | refine blk_alloc ?_ _)); exact BK129.out) hb)
      have n3_ := Aside0.mk (below_step (by repeat (first | (with_reducible first | exact HB.out | apply below_alloc | apply pw_below_drewN | apply below_drew1 | refine below_set ?_ GE126.out | refine below_set ?_ GE127.out | refine below_set ?_ GE129.out) | exact HB.out)) hb)
      have n4_ := Aside0.mk (hbox)
      have n5_ := Aside0.mk ((by rw [hg]; exact (below_size (by repeat (first | (with_reducible first | exact HB.out | apply below_alloc | apply pw_below_drewN | apply below_drew1 | refine below_set ?_ GE126.out | refine below_set ?_ GE127.out | refine below_set ?_ GE129.out) | exact HB.out))) : w.heap.size ≤ gb130))
      have n6_ := Aside0.mk ((by rw [hg]; exact (below_size (by repeat (first | (with_reducible first | exact HB.out | apply below_alloc | apply pw_below_drewN | apply below_drew1 | refine below_set ?_ GE126.out | refine below_set ?_ GE127.out | refine below_set ?_ GE129.out) | exact HB.out))) : w.heap.size ≤ gb130))
      have n7_ := Aside0.mk ((by rw [hg]; exact Nat.ne_of_lt (blk_lt (g := gb126) (o := .cells #[.int .i64 x127000_2, .int .i64 x127001_2, .int .i64 x127002_2, .int .i64 x127003_2] 25 (0, 0)) (by (with_reducible repeat (first | refine blk_drewN ?_ _ | refine blk_drew ?_ | refine blk_alloc ?_ _)); exact BK126.out)) : gb126 ≠ gb130))
      have n8_ := Aside0.mk ((by rw [hg]; exact Nat.ne_of_gt (blk_lt (g := gb126) (o := .cells #[.int .i64 x127000_2, .int .i64 x127001_2, .int .i64 x127002_2, .int .i64 x127003_2] 25 (0, 0)) (by (with_reducible repeat (first | refine blk_drewN ?_ _ | refine blk_drew ?_ | refine blk_alloc ?_ _)); exact BK126.out)) : gb130 ≠ gb126))
      have n9_ := Aside0.mk ((by rw [hg]; exact Nat.ne_of_lt (blk_lt (g := gb127) (o := .cells #[.int .i64 x128000_2, .int .i64 x128001_2, .int .i64 x128002_2, .int .i64 x128003_2] 25 (0, 0)) (by (with_reducible repeat (first | refine blk_drewN ?_ _ | refine blk_drew ?_ | refine blk_alloc ?_ _)); exact BK127.out)) : gb127 ≠ gb130))
      have n10_ := Aside0.mk ((by rw [hg]; exact Nat.ne_of_gt (blk_lt (g := gb127) (o := .cells #[.int .i64 x128000_2, .int .i64 x128001_2, .int .i64 x128002_2, .int .i64 x128003_2] 25 (0, 0)) (by (with_reducible repeat (first | refine blk_drewN ?_ _ | refine blk_drew ?_ | refine blk_alloc ?_ _)); exact BK127.out)) : gb130 ≠ gb127))
      have n11_ := Aside0.mk ((by rw [hg]; exact Nat.ne_of_lt (blk_lt (g := gb129) (o := .cells #[.int .i64 0, .int .i64 0] 23 (0, 0)) (by (with_reducible repeat (first | refine blk_drewN ?_ _ | refine blk_drew ?_ | refine blk_alloc ?_ _)); exact BK129.out)) : gb129 ≠ gb130))
      have n12_ := Aside0.mk ((by rw [hg]; exact Nat.ne_of_gt (blk_lt (g := gb129) (o := .cells #[.int .i64 0, .int .i64 0] 23 (0, 0)) (by (with_reducible repeat (first | refine blk_drewN ?_ _ | refine blk_drew ?_ | refine blk_alloc ?_ _)); exact BK129.out)) : gb130 ≠ gb129))
      clear BK126
      clear BK127
      clear BK129
      clear HB
      have BK126 := n0_
      have BK127 := n1_
      have BK129 := n2_
      have HB := n3_
      have BK130 := n4_
      have GW130 := n5_
      have GE130 := n6_
      have NB126_130 := n7_
      have NB130_126 := n8_
      have NB127_130 := n9_
      have NB130_127 := n10_
      have NB129_130 := n11_
      have NB130_129 := n12_
      clear n0_ n1_ n2_ n3_ n4_ n5_ n6_ n7_ n8_ n9_ n10_ n11_ n12_
      clear hb hbox hg
      refine hK.out _ _ ⟨(blk_cell BK126.out 0).trans rfl, (blk_cell BK126.out 1).trans rfl, (blk_cell BK126.out 2).trans rfl, (blk_cell BK126.out 3).trans rfl⟩ (fun hHeld => ?_)
      clear hK K
      refine norm_ (a' := ?_) ?_ ?_
      rotate_left
      ·show Act.put _ (some 6) _ = _
       simp only [Act.put, List.setIfInBounds_toArray, List.set_cons_zero, List.set_cons_succ, i64_w, i32_w]
       rfl
      exact norm_ (by simp only [putAll, Act.put, List.setIfInBounds_toArray, List.set_cons_zero, List.set_cons_succ]) (hCont (gb129, gb130) _ ⟨hHeld, (by (with_reducible repeat (first | refine blk_drewN ?_ _ | refine blk_drew ?_ | refine blk_alloc ?_ _)); exact BK126.out), (by (with_reducible repeat (first | refine blk_drewN ?_ _ | refine blk_drew ?_ | refine blk_alloc ?_ _)); exact BK127.out), (by (with_reducible repeat (first | refine blk_drewN ?_ _ | refine blk_drew ?_ | refine blk_alloc ?_ _)); exact BK129.out), (by (with_reducible repeat (first | refine blk_drewN ?_ _ | refine blk_drew ?_ | refine blk_alloc ?_ _)); exact BK130.out), GW129.out, GE129.out, NB126_129.out, NB129_126.out, NB127_129.out, NB129_127.out, NB130_129.out, NB129_130.out, GW130.out, GE130.out, NB126_130.out, NB130_126.out, NB127_130.out, NB130_127.out, (by repeat (first | (with_reducible first | exact HB.out | apply below_alloc | apply pw_below_drewN | apply below_drew1 | refine below_set ?_ GE126.out | refine below_set ?_ GE127.out | refine below_set ?_ GE129.out | refine below_set ?_ GE130.out) | exact HB.out))⟩)
     ·skip
      refine box_step ?hg (N := 6) ?hd (cs := #[.int .i64 0, .int .i64 0]) (t := 23) ?hr ?_; (case hd => rfl); (case hg => rfl); (case hr => first | (go_simp; done) | (go_simp; rfl))
      intro gb130 hg w44 hbox hb
      have n0_ := Aside0.mk (blk_below (g := gb126) (o := .cells #[.int .i64 x127000_2, .int .i64 x127001_2, .int .i64 x127002_2, .int .i64 x127003_2] 25 (0, 0)) (by (with_reducible repeat (first | refine blk_drewN ?_ _ | refine blk_drew ?_ | refine blk_alloc ?_ _)); exact BK126.out) hb)
      have n1_ := Aside0.mk (blk_below (g := gb127) (o := .cells #[.int .i64 x128000_2, .int .i64 x128001_2, .int .i64 x128002_2, .int .i64 x128003_2] 25 (0, 0)) (by (with_reducible repeat (first | refine blk_drewN ?_ _ | refine blk_drew ?_ | refine blk_alloc ?_ _)); exact BK127.out) hb)
      have n2_ := Aside0.mk (below_step (by repeat (first | (with_reducible first | exact HB.out | apply below_alloc | apply pw_below_drewN | apply below_drew1 | refine below_set ?_ GE126.out | refine below_set ?_ GE127.out) | exact HB.out)) hb)
      have n3_ := Aside0.mk (hbox)
      have n4_ := Aside0.mk ((by rw [hg]; exact (below_size (by repeat (first | (with_reducible first | exact HB.out | apply below_alloc | apply pw_below_drewN | apply below_drew1 | refine below_set ?_ GE126.out | refine below_set ?_ GE127.out) | exact HB.out))) : w.heap.size ≤ gb130))
      have n5_ := Aside0.mk ((by rw [hg]; exact (below_size (by repeat (first | (with_reducible first | exact HB.out | apply below_alloc | apply pw_below_drewN | apply below_drew1 | refine below_set ?_ GE126.out | refine below_set ?_ GE127.out) | exact HB.out))) : w.heap.size ≤ gb130))
      have n6_ := Aside0.mk ((by rw [hg]; exact Nat.ne_of_lt (blk_lt (g := gb126) (o := .cells #[.int .i64 x127000_2, .int .i64 x127001_2, .int .i64 x127002_2, .int .i64 x127003_2] 25 (0, 0)) (by (with_reducible repeat (first | refine blk_drewN ?_ _ | refine blk_drew ?_ | refine blk_alloc ?_ _)); exact BK126.out)) : gb126 ≠ gb130))
      have n7_ := Aside0.mk ((by rw [hg]; exact Nat.ne_of_gt (blk_lt (g := gb126) (o := .cells #[.int .i64 x127000_2, .int .i64 x127001_2, .int .i64 x127002_2, .int .i64 x127003_2] 25 (0, 0)) (by (with_reducible repeat (first | refine blk_drewN ?_ _ | refine blk_drew ?_ | refine blk_alloc ?_ _)); exact BK126.out)) : gb130 ≠ gb126))
      have n8_ := Aside0.mk ((by rw [hg]; exact Nat.ne_of_lt (blk_lt (g := gb127) (o := .cells #[.int .i64 x128000_2, .int .i64 x128001_2, .int .i64 x128002_2, .int .i64 x128003_2] 25 (0, 0)) (by (with_reducible repeat (first | refine blk_drewN ?_ _ | refine blk_drew ?_ | refine blk_alloc ?_ _)); exact BK127.out)) : gb127 ≠ gb130))
      have n9_ := Aside0.mk ((by rw [hg]; exact Nat.ne_of_gt (blk_lt (g := gb127) (o := .cells #[.int .i64 x128000_2, .int .i64 x128001_2, .int .i64 x128002_2, .int .i64 x128003_2] 25 (0, 0)) (by (with_reducible repeat (first | refine blk_drewN ?_ _ | refine blk_drew ?_ | refine blk_alloc ?_ _)); exact BK127.out)) : gb130 ≠ gb127))
      clear BK126
      clear BK127
      clear HB
      have BK126 := n0_
      have BK127 := n1_
      have HB := n2_
      have BK130 := n3_
      have GW130 := n4_
      have GE130 := n5_
      have NB126_130 := n6_
      have NB130_126 := n7_
      have NB127_130 := n8_
      have NB130_127 := n9_
      clear n0_ n1_ n2_ n3_ n4_ n5_ n6_ n7_ n8_ n9_
      clear hb hbox hg
      refine hK.out _ _ ⟨(blk_cell BK126.out 0).trans rfl, (blk_cell BK126.out 1).trans rfl, (blk_cell BK126.out 2).trans rfl, (blk_cell BK126.out 3).trans rfl⟩ (fun hHeld => ?_)
      clear hK K
      refine norm_ (a' := ?_) ?_ ?_
      rotate_left
      ·show Act.put _ (some 6) _ = _
       simp only [Act.put, List.setIfInBounds_toArray, List.set_cons_zero, List.set_cons_succ, i64_w, i32_w]
       rfl
      refine one_ (i := 4) (N := some 5) #[true, true, true, true, true, true, false, false] rfl rfl (one_of HT_.out (by kernel_rfl)) (by decide) (fun K hK => ?_)
      refine box_step ?hg (N := 5) ?hd (cs := #[.int .i64 0, .int .i64 0]) (t := 23) ?hr ?_; (case hd => rfl); (case hg => rfl); (case hr => first | (go_simp; done) | (go_simp; rfl))
      intro gb129 hg w45 hbox hb
      have n0_ := Aside0.mk (blk_below (g := gb126) (o := .cells #[.int .i64 x127000_2, .int .i64 x127001_2, .int .i64 x127002_2, .int .i64 x127003_2] 25 (0, 0)) (by (with_reducible repeat (first | refine blk_drewN ?_ _ | refine blk_drew ?_ | refine blk_alloc ?_ _)); exact BK126.out) hb)
      have n1_ := Aside0.mk (blk_below (g := gb127) (o := .cells #[.int .i64 x128000_2, .int .i64 x128001_2, .int .i64 x128002_2, .int .i64 x128003_2] 25 (0, 0)) (by (with_reducible repeat (first | refine blk_drewN ?_ _ | refine blk_drew ?_ | refine blk_alloc ?_ _)); exact BK127.out) hb)
      have n2_ := Aside0.mk (blk_below (g := gb130) (o := .cells #[.int .i64 0, .int .i64 0] 23 (0, 0)) (by (with_reducible repeat (first | refine blk_drewN ?_ _ | refine blk_drew ?_ | refine blk_alloc ?_ _)); exact BK130.out) hb)
      have n3_ := Aside0.mk (below_step (by repeat (first | (with_reducible first | exact HB.out | apply below_alloc | apply pw_below_drewN | apply below_drew1 | refine below_set ?_ GE126.out | refine below_set ?_ GE127.out | refine below_set ?_ GE130.out) | exact HB.out)) hb)
      have n4_ := Aside0.mk (hbox)
      have n5_ := Aside0.mk ((by rw [hg]; exact (below_size (by repeat (first | (with_reducible first | exact HB.out | apply below_alloc | apply pw_below_drewN | apply below_drew1 | refine below_set ?_ GE126.out | refine below_set ?_ GE127.out | refine below_set ?_ GE130.out) | exact HB.out))) : w.heap.size ≤ gb129))
      have n6_ := Aside0.mk ((by rw [hg]; exact (below_size (by repeat (first | (with_reducible first | exact HB.out | apply below_alloc | apply pw_below_drewN | apply below_drew1 | refine below_set ?_ GE126.out | refine below_set ?_ GE127.out | refine below_set ?_ GE130.out) | exact HB.out))) : w.heap.size ≤ gb129))
      have n7_ := Aside0.mk ((by rw [hg]; exact Nat.ne_of_lt (blk_lt (g := gb126) (o := .cells #[.int .i64 x127000_2, .int .i64 x127001_2, .int .i64 x127002_2, .int .i64 x127003_2] 25 (0, 0)) (by (with_reducible repeat (first | refine blk_drewN ?_ _ | refine blk_drew ?_ | refine blk_alloc ?_ _)); exact BK126.out)) : gb126 ≠ gb129))
      have n8_ := Aside0.mk ((by rw [hg]; exact Nat.ne_of_gt (blk_lt (g := gb126) (o := .cells #[.int .i64 x127000_2, .int .i64 x127001_2, .int .i64 x127002_2, .int .i64 x127003_2] 25 (0, 0)) (by (with_reducible repeat (first | refine blk_drewN ?_ _ | refine blk_drew ?_ | refine blk_alloc ?_ _)); exact BK126.out)) : gb129 ≠ gb126))
      have n9_ := Aside0.mk ((by rw [hg]; exact Nat.ne_of_lt (blk_lt (g := gb127) (o := .cells #[.int .i64 x128000_2, .int .i64 x128001_2, .int .i64 x128002_2, .int .i64 x128003_2] 25 (0, 0)) (by (with_reducible repeat (first | refine blk_drewN ?_ _ | refine blk_drew ?_ | refine blk_alloc ?_ _)); exact BK127.out)) : gb127 ≠ gb129))
      have n10_ := Aside0.mk ((by rw [hg]; exact Nat.ne_of_gt (blk_lt (g := gb127) (o := .cells #[.int .i64 x128000_2, .int .i64 x128001_2, .int .i64 x128002_2, .int .i64 x128003_2] 25 (0, 0)) (by (with_reducible repeat (first | refine blk_drewN ?_ _ | refine blk_drew ?_ | refine blk_alloc ?_ _)); exact BK127.out)) : gb129 ≠ gb127))
      have n11_ := Aside0.mk ((by rw [hg]; exact Nat.ne_of_lt (blk_lt (g := gb130) (o := .cells #[.int .i64 0, .int .i64 0] 23 (0, 0)) (by (with_reducible repeat (first | refine blk_drewN ?_ _ | refine blk_drew ?_ | refine blk_alloc ?_ _)); exact BK130.out)) : gb130 ≠ gb129))
      have n12_ := Aside0.mk ((by rw [hg]; exact Nat.ne_of_gt (blk_lt (g := gb130) (o := .cells #[.int .i64 0, .int .i64 0] 23 (0, 0)) (by (with_reducible repeat (first | refine blk_drewN ?_ _ | refine blk_drew ?_ | refine blk_alloc ?_ _)); exact BK130.out)) : gb129 ≠ gb130))
      clear BK126
      clear BK127
      clear BK130
      clear HB
      have BK126 := n0_
      have BK127 := n1_
      have BK130 := n2_
      have HB := n3_
      have BK129 := n4_
      have GW129 := n5_
      have GE129 := n6_
      have NB126_129 := n7_
      have NB129_126 := n8_
      have NB127_129 := n9_
      have NB129_127 := n10_
      have NB130_129 := n11_
      have NB129_130 := n12_
      clear n0_ n1_ n2_ n3_ n4_ n5_ n6_ n7_ n8_ n9_ n10_ n11_ n12_
      clear hb hbox hg
      refine hK.out _ _ ⟨(blk_cell BK126.out 0).trans rfl, (blk_cell BK126.out 1).trans rfl, (blk_cell BK126.out 2).trans rfl, (blk_cell BK126.out 3).trans rfl⟩ (fun hHeld => ?_)
      clear hK K
      refine norm_ (a' := ?_) ?_ ?_
      rotate_left
      ·show Act.put _ (some 5) _ = _
       simp only [Act.put, List.setIfInBounds_toArray, List.set_cons_zero, List.set_cons_succ, i64_w, i32_w]
       rfl
      exact norm_ (by simp only [putAll, Act.put, List.setIfInBounds_toArray, List.set_cons_zero, List.set_cons_succ]) (hCont (gb129, gb130) _ ⟨hHeld, (by (with_reducible repeat (first | refine blk_drewN ?_ _ | refine blk_drew ?_ | refine blk_alloc ?_ _)); exact BK126.out), (by (with_reducible repeat (first | refine blk_drewN ?_ _ | refine blk_drew ?_ | refine blk_alloc ?_ _)); exact BK127.out), (by (with_reducible repeat (first | refine blk_drewN ?_ _ | refine blk_drew ?_ | refine blk_alloc ?_ _)); exact BK129.out), (by (with_reducible repeat (first | refine blk_drewN ?_ _ | refine blk_drew ?_ | refine blk_alloc ?_ _)); exact BK130.out), GW129.out, GE129.out, NB126_129.out, NB129_126.out, NB127_129.out, NB129_127.out, NB130_129.out, NB129_130.out, GW130.out, GE130.out, NB126_130.out, NB130_126.out, NB127_130.out, NB130_127.out, (by repeat (first | (with_reducible first | exact HB.out | apply below_alloc | apply pw_below_drewN | apply below_drew1 | refine below_set ?_ GE126.out | refine below_set ?_ GE127.out | refine below_set ?_ GE130.out | refine below_set ?_ GE129.out) | exact HB.out))⟩)
    rintro ⟨gb129, gb130⟩ w46 ⟨hS_, h0_, h1_, h2_, h3_, h4_, h5_, h6_, h7_, h8_, h9_, h10_, h11_, h12_, h13_, h14_, h15_, h16_, h17_, h18_⟩
    have n0_ : Aside0 (w46.heap[gb126]? = some (.cells #[.int .i64 x127000_2, .int .i64 x127001_2, .int .i64 x127002_2, .int .i64 x127003_2] 25 (0, 0))) := ⟨h0_⟩
    have n1_ : Aside0 (w46.heap[gb127]? = some (.cells #[.int .i64 x128000_2, .int .i64 x128001_2, .int .i64 x128002_2, .int .i64 x128003_2] 25 (0, 0))) := ⟨h1_⟩
    have n2_ : Aside0 (w46.heap[gb129]? = some (.cells #[.int .i64 0, .int .i64 0] 23 (0, 0))) := ⟨h2_⟩
    have n3_ : Aside0 (w46.heap[gb130]? = some (.cells #[.int .i64 0, .int .i64 0] 23 (0, 0))) := ⟨h3_⟩
    have n4_ : Aside0 (w.heap.size ≤ gb129) := ⟨h4_⟩
    have n5_ : Aside0 (w.heap.size ≤ gb129) := ⟨h5_⟩
    have n6_ : Aside0 (gb126 ≠ gb129) := ⟨h6_⟩
    have n7_ : Aside0 (gb129 ≠ gb126) := ⟨h7_⟩
    have n8_ : Aside0 (gb127 ≠ gb129) := ⟨h8_⟩
    have n9_ : Aside0 (gb129 ≠ gb127) := ⟨h9_⟩
    have n10_ : Aside0 (gb130 ≠ gb129) := ⟨h10_⟩
    have n11_ : Aside0 (gb129 ≠ gb130) := ⟨h11_⟩
    have n12_ : Aside0 (w.heap.size ≤ gb130) := ⟨h12_⟩
    have n13_ : Aside0 (w.heap.size ≤ gb130) := ⟨h13_⟩
    have n14_ : Aside0 (gb126 ≠ gb130) := ⟨h14_⟩
    have n15_ : Aside0 (gb130 ≠ gb126) := ⟨h15_⟩
    have n16_ : Aside0 (gb127 ≠ gb130) := ⟨h16_⟩
    have n17_ : Aside0 (gb130 ≠ gb127) := ⟨h17_⟩
    have n18_ : Aside0 (Below w.heap.size w w46) := ⟨h18_⟩
    clear BK126
    clear BK127
    clear HB
    clear h0_ h1_ h2_ h3_ h4_ h5_ h6_ h7_ h8_ h9_ h10_ h11_ h12_ h13_ h14_ h15_ h16_ h17_ h18_
    have BK126 := n0_
    have BK127 := n1_
    have BK129 := n2_
    have BK130 := n3_
    have GW129 := n4_
    have GE129 := n5_
    have NB126_129 := n6_
    have NB129_126 := n7_
    have NB127_129 := n8_
    have NB129_127 := n9_
    have NB130_129 := n10_
    have NB129_130 := n11_
    have GW130 := n12_
    have GE130 := n13_
    have NB126_130 := n14_
    have NB130_126 := n15_
    have NB127_130 := n16_
    have NB130_127 := n17_
    have HB := n18_
    clear n0_ n1_ n2_ n3_ n4_ n5_ n6_ n7_ n8_ n9_ n10_ n11_ n12_ n13_ n14_ n15_ n16_ n17_ n18_
    have hHeld : w46.cell? ⟨gb126, 0, none⟩ = some (.int .i64 x127000_2) ∧ w46.cell? ⟨gb126, 1, none⟩ = some (.int .i64 x127001_2) ∧ w46.cell? ⟨gb126, 2, none⟩ = some (.int .i64 x127002_2) ∧ w46.cell? ⟨gb126, 3, none⟩ = some (.int .i64 x127003_2) := hS_
    refine norm_ (a' := ?_) ?_ ?_
    rotate_left
    ·simp only [putAll, Act.put, List.setIfInBounds_toArray, List.set_cons_zero, List.set_cons_succ]
     rfl
    refine one_ (i := 6) (N := none) #[true, true, true, true, true, true, true, false] rfl rfl (one_of HT_.out (by kernel_rfl)) (by decide) (fun K hK => ?_)
    have hs47 : w46.cell? ⟨gb129, 0, none⟩ = some (.int .i64 0) := (blk_cell BK129.out 0).trans rfl
    have hfs47 := blk_frozen BK129.out 0
    have hns47_0 := NB126_129.out
    have hns47_1 := NB127_129.out
    have hns47_3 := NB130_129.out
    have hms47_0 := NB129_126.out
    have hms47_1 := NB129_127.out
    have hms47_3 := NB129_130.out
    have hs48 : w46.cell? ⟨gb129, 1, none⟩ = some (.int .i64 0) := (blk_cell BK129.out 1).trans rfl
    have hfs48 := blk_frozen BK129.out 1
    have hns48_0 := NB126_129.out
    have hns48_1 := NB127_129.out
    have hns48_3 := NB130_129.out
    have hms48_0 := NB129_126.out
    have hms48_1 := NB129_127.out
    have hms48_3 := NB129_130.out
    refine skip_ (w1 := ?_) (by rfl) rfl ?_ ?_
    rotate_left
    ·go_simp
     rfl
    refine hK.out _ _ ⟨((cell_far (p := ⟨gb129, _, none⟩) NB126_129.out _).trans (((cell_far (p := ⟨gb129, _, none⟩) NB126_129.out _).trans (hHeld.1)))), ((cell_far (p := ⟨gb129, _, none⟩) NB126_129.out _).trans (((cell_far (p := ⟨gb129, _, none⟩) NB126_129.out _).trans (hHeld.2.1)))), ((cell_far (p := ⟨gb129, _, none⟩) NB126_129.out _).trans (((cell_far (p := ⟨gb129, _, none⟩) NB126_129.out _).trans (hHeld.2.2.1)))), ((cell_far (p := ⟨gb129, _, none⟩) NB126_129.out _).trans (((cell_far (p := ⟨gb129, _, none⟩) NB126_129.out _).trans (hHeld.2.2.2))))⟩ (fun hHeld => ?_)
    clear hK K
    refine one_ (i := 7) (N := none) #[true, true, true, true, true, true, true, true] rfl rfl (one_of HT_.out (by kernel_rfl)) (by decide) (fun K hK => ?_)
    have hs49 : w46.cell? ⟨gb130, 0, none⟩ = some (.int .i64 0) := (blk_cell BK130.out 0).trans rfl
    have hfs49 := blk_frozen BK130.out 0
    have hns49_0 := NB126_130.out
    have hns49_1 := NB127_130.out
    have hns49_2 := NB129_130.out
    have hms49_0 := NB130_126.out
    have hms49_1 := NB130_127.out
    have hms49_2 := NB130_129.out
    have hs50 : w46.cell? ⟨gb130, 1, none⟩ = some (.int .i64 0) := (blk_cell BK130.out 1).trans rfl
    have hfs50 := blk_frozen BK130.out 1
    have hns50_0 := NB126_130.out
    have hns50_1 := NB127_130.out
    have hns50_2 := NB129_130.out
    have hms50_0 := NB130_126.out
    have hms50_1 := NB130_127.out
    have hms50_2 := NB130_129.out
    refine skip_ (w1 := ?_) (by rfl) rfl ?_ ?_
    rotate_left
    ·go_simp
     rfl
    refine hK.out _ _ ⟨((cell_far (p := ⟨gb130, _, none⟩) NB126_130.out _).trans (((cell_far (p := ⟨gb130, _, none⟩) NB126_130.out _).trans (hHeld.1)))), ((cell_far (p := ⟨gb130, _, none⟩) NB126_130.out _).trans (((cell_far (p := ⟨gb130, _, none⟩) NB126_130.out _).trans (hHeld.2.1)))), ((cell_far (p := ⟨gb130, _, none⟩) NB126_130.out _).trans (((cell_far (p := ⟨gb130, _, none⟩) NB126_130.out _).trans (hHeld.2.2.1)))), ((cell_far (p := ⟨gb130, _, none⟩) NB126_130.out _).trans (((cell_far (p := ⟨gb130, _, none⟩) NB126_130.out _).trans (hHeld.2.2.2))))⟩ (fun hHeld => ?_)
    clear hK K
    refine done_ (done_of HT_.out (by kernel_rfl)) ?_
    have hnb51 := NB127_129.out
    have hnc51 := NB129_127.out
    have hnb52 := NB127_130.out
    have hnc52 := NB130_127.out
    have hcz53_0 : w46.cell? ⟨gb127, 0, none⟩ = some (.int .i64 x128000_2) := (blk_cell BK127.out 0).trans rfl
    have hcz53_1 : w46.cell? ⟨gb127, 1, none⟩ = some (.int .i64 x128001_2) := (blk_cell BK127.out 1).trans rfl
    have hcz53_2 : w46.cell? ⟨gb127, 2, none⟩ = some (.int .i64 x128002_2) := (blk_cell BK127.out 2).trans rfl
    have hcz53_3 : w46.cell? ⟨gb127, 3, none⟩ = some (.int .i64 x128003_2) := (blk_cell BK127.out 3).trans rfl
    have hfz53_0 := blk_frozen BK127.out 0
    have hfz53_1 := blk_frozen BK127.out 1
    have hfz53_2 := blk_frozen BK127.out 2
    have hfz53_3 := blk_frozen BK127.out 3
    have hnb54 := NB129_126.out
    have hnc54 := NB126_129.out
    have hnb55 := NB129_130.out
    have hnc55 := NB130_129.out
    have hcz56_0 : w46.cell? ⟨gb129, 0, none⟩ = some (.int .i64 0) := (blk_cell BK129.out 0).trans rfl
    have hcz56_1 : w46.cell? ⟨gb129, 1, none⟩ = some (.int .i64 0) := (blk_cell BK129.out 1).trans rfl
    have hfz56_0 := blk_frozen BK129.out 0
    have hfz56_1 := blk_frozen BK129.out 1
    go_upto_if 46 with (first | ((with_reducible refine gate_callee (f := 13) rfl ?_); refine goesL_ (some 45) rfl rfl Try.func13 (by kernel_rfl) rfl #[.agg #[.int .i64 x128000_2, .int .i64 x128001_2], .agg #[.int .i64 x127000_2, .int .i64 x127001_2]] rfl (by (try simp only [List.map_toArray, List.map_cons, List.map_nil]); first | done | rfl | (simp only [List.length_drop, List.length_take]; rfl)) ?_; (with_reducible refine (geom_Compare.calls x128000_2 x128001_2 x127000_2 x127001_2 t131 _ A39.out).mono ?_); rintro e w57 ⟨rfl, hb⟩; refine ⟨_, rfl, ?_⟩; have n0_ := Aside0.mk (blk_below (g := gb126) (o := .cells #[.int .i64 x127000_2, .int .i64 x127001_2, .int .i64 x127002_2, .int .i64 x127003_2] 25 (0, 0)) (by (with_reducible repeat (first | refine blk_drewN ?_ _ | refine blk_drew ?_ | refine blk_alloc ?_ _)); refine blk_far ?_ NB126_130.out _; (with_reducible repeat (first | refine blk_drewN ?_ _ | refine blk_drew ?_ | refine blk_alloc ?_ _)); refine blk_far ?_ NB126_130.out _; (with_reducible repeat (first | refine blk_drewN ?_ _ | refine blk_drew ?_ | refine blk_alloc ?_ _)); refine blk_far ?_ NB126_129.out _; (with_reducible repeat (first | refine blk_drewN ?_ _ | refine blk_drew ?_ | refine blk_alloc ?_ _)); refine blk_far ?_ NB126_129.out _; (with_reducible repeat (first | refine blk_drewN ?_ _ | refine blk_drew ?_ | refine blk_alloc ?_ _)); exact BK126.out) hb); have n1_ := Aside0.mk (blk_below (g := gb127) (o := .cells #[.int .i64 x128000_2, .int .i64 x128001_2, .int .i64 x128002_2, .int .i64 x128003_2] 25 (0, 0)) (by (with_reducible repeat (first | refine blk_drewN ?_ _ | refine blk_drew ?_ | refine blk_alloc ?_ _)); refine blk_far ?_ NB127_130.out _; (with_reducible repeat (first | refine blk_drewN ?_ _ | refine blk_drew ?_ | refine blk_alloc ?_ _)); refine blk_far ?_ NB127_130.out _; (with_reducible repeat (first | refine blk_drewN ?_ _ | refine blk_drew ?_ | refine blk_alloc ?_ _)); refine blk_far ?_ NB127_129.out _; (with_reducible repeat (first | refine blk_drewN ?_ _ | refine blk_drew ?_ | refine blk_alloc ?_ _)); refine blk_far ?_ NB127_129.out _; (with_reducible repeat (first | refine blk_drewN ?_ _ | refine blk_drew ?_ | refine blk_alloc ?_ _)); exact BK127.out) hb); have n2_ := Aside0.mk (blk_below (g := gb129) (o := .cells #[.int .i64 x127000_2, .int .i64 x127001_2] 23 (0, 0)) (by (with_reducible repeat (first | refine blk_drewN ?_ _ | refine blk_drew ?_ | refine blk_alloc ?_ _)); refine blk_far ?_ NB129_130.out _; (with_reducible repeat (first | refine blk_drewN ?_ _ | refine blk_drew ?_ | refine blk_alloc ?_ _)); refine blk_far ?_ NB129_130.out _; (with_reducible repeat (first | refine blk_drewN ?_ _ | refine blk_drew ?_ | refine blk_alloc ?_ _)); refine blk_put (cs := #[.int .i64 x127000_2, .int .i64 0]) ?_ 1 _ rfl; (with_reducible repeat (first | refine blk_drewN ?_ _ | refine blk_drew ?_ | refine blk_alloc ?_ _)); refine blk_put (cs := #[.int .i64 0, .int .i64 0]) ?_ 0 _ rfl; (with_reducible repeat (first | refine blk_drewN ?_ _ | refine blk_drew ?_ | refine blk_alloc ?_ _)); exact BK129.out) hb); have n3_ := Aside0.mk (blk_below (g := gb130) (o := .cells #[.int .i64 x127002_2, .int .i64 x127003_2] 23 (0, 0)) (by (with_reducible repeat (first | refine blk_drewN ?_ _ | refine blk_drew ?_ | refine blk_alloc ?_ _)); refine blk_put (cs := #[.int .i64 x127002_2, .int .i64 0]) ?_ 1 _ rfl; (with_reducible repeat (first | refine blk_drewN ?_ _ | refine blk_drew ?_ | refine blk_alloc ?_ _)); refine blk_put (cs := #[.int .i64 0, .int .i64 0]) ?_ 0 _ rfl; (with_reducible repeat (first | refine blk_drewN ?_ _ | refine blk_drew ?_ | refine blk_alloc ?_ _)); refine blk_far ?_ NB130_129.out _; (with_reducible repeat (first | refine blk_drewN ?_ _ | refine blk_drew ?_ | refine blk_alloc ?_ _)); refine blk_far ?_ NB130_129.out _; (with_reducible repeat (first | refine blk_drewN ?_ _ | refine blk_drew ?_ | refine blk_alloc ?_ _)); exact BK130.out) hb); have n4_ := Aside0.mk (below_step (by repeat (first | (with_reducible first | exact HB.out | apply below_alloc | apply pw_below_drewN | apply below_drew1 | refine below_set ?_ GE126.out | refine below_set ?_ GE127.out | refine below_set ?_ GE129.out | refine below_set ?_ GE130.out) | exact HB.out)) hb); clear BK126; clear BK127; clear BK129; clear BK130; clear HB; have BK126 := n0_; have BK127 := n1_; have BK129 := n2_; have BK130 := n3_; have HB := n4_; clear n0_ n1_ n2_ n3_ n4_; (try clear hb); (try clear hb2); (try clear hk); (try clear hi)))
    (try simp only [Act.put, List.setIfInBounds_toArray, List.set_cons_zero, List.set_cons_succ])
    go_cut [] (fun wc => ∃ (kq : Nat) (x130000_39 : Int) (x130001_39 : Int), Aside0 (geom_online.j1 kq x128000_2 x128001_2 x128002_2 x128003_2 x130000_39 x130001_39 x127002_2 x127003_2 = some r) ∧ Aside0 (kq ≤ kj2) ∧ Aside0 (wc.heap[gb126]? = some (.cells #[.int .i64 x127000_2, .int .i64 x127001_2, .int .i64 x127002_2, .int .i64 x127003_2] 25 (0, 0))) ∧ Aside0 (wc.heap[gb127]? = some (.cells #[.int .i64 x128000_2, .int .i64 x128001_2, .int .i64 x128002_2, .int .i64 x128003_2] 25 (0, 0))) ∧ Aside0 (wc.heap[gb129]? = some (.cells #[.int .i64 x130000_39, .int .i64 x130001_39] 23 (0, 0))) ∧ Aside0 (wc.heap[gb130]? = some (.cells #[.int .i64 x127002_2, .int .i64 x127003_2] 23 (0, 0))) ∧ Aside0 (Below w.heap.size w wc))
    case first =>
     have H := HC40.out
     clear HC40
     by_cases c58 : t131 > 0
     ·rw [if_pos c58] at H
      have c58b0 : decide (0 < t131) = true := decide_eq_true c58
      clear c58
      (first | rw [c58b0] | (simp only [i64_w, i32_w]; rw [c58b0]) | skip)
      have H' := Aside0.mk H
      clear H
      have hnb59 := NB127_126.out
      have hnc59 := NB126_127.out
      have hnb60 := NB127_129.out
      have hnc60 := NB129_127.out
      have hnb61 := NB127_130.out
      have hnc61 := NB130_127.out
      have hcz62_0 : w57.cell? ⟨gb127, 0, none⟩ = some (.int .i64 x128000_2) := (blk_cell BK127.out 0).trans rfl
      have hcz62_1 : w57.cell? ⟨gb127, 1, none⟩ = some (.int .i64 x128001_2) := (blk_cell BK127.out 1).trans rfl
      have hcz62_2 : w57.cell? ⟨gb127, 2, none⟩ = some (.int .i64 x128002_2) := (blk_cell BK127.out 2).trans rfl
      have hcz62_3 : w57.cell? ⟨gb127, 3, none⟩ = some (.int .i64 x128003_2) := (blk_cell BK127.out 3).trans rfl
      have hfz62_0 := blk_frozen BK127.out 0
      have hfz62_1 := blk_frozen BK127.out 1
      have hfz62_2 := blk_frozen BK127.out 2
      have hfz62_3 := blk_frozen BK127.out 3
      have hnb63 := NB129_126.out
      have hnc63 := NB126_129.out
      have hnb64 := NB129_130.out
      have hnc64 := NB130_129.out
      have hcz65_0 : w57.cell? ⟨gb129, 0, none⟩ = some (.int .i64 x127000_2) := (blk_cell BK129.out 0).trans rfl
      have hcz65_1 : w57.cell? ⟨gb129, 1, none⟩ = some (.int .i64 x127001_2) := (blk_cell BK129.out 1).trans rfl
      have hfz65_0 := blk_frozen BK129.out 0
      have hfz65_1 := blk_frozen BK129.out 1
      go_wp2
      go_meet
      case rel => exact ⟨_, (x128000_2), (x128001_2), H', ⟨by have := HJ2.out; first | omega | exact Nat.le_refl _⟩, ⟨by (with_reducible repeat (first | refine blk_drewN ?_ _ | refine blk_drew ?_ | refine blk_alloc ?_ _)); refine blk_far ?_ NB126_129.out _; (with_reducible repeat (first | refine blk_drewN ?_ _ | refine blk_drew ?_ | refine blk_alloc ?_ _)); refine blk_far ?_ NB126_129.out _; (with_reducible repeat (first | refine blk_drewN ?_ _ | refine blk_drew ?_ | refine blk_alloc ?_ _)); exact BK126.out⟩, ⟨by (with_reducible repeat (first | refine blk_drewN ?_ _ | refine blk_drew ?_ | refine blk_alloc ?_ _)); refine blk_far ?_ NB127_129.out _; (with_reducible repeat (first | refine blk_drewN ?_ _ | refine blk_drew ?_ | refine blk_alloc ?_ _)); refine blk_far ?_ NB127_129.out _; (with_reducible repeat (first | refine blk_drewN ?_ _ | refine blk_drew ?_ | refine blk_alloc ?_ _)); exact BK127.out⟩, ⟨by (with_reducible repeat (first | refine blk_drewN ?_ _ | refine blk_drew ?_ | refine blk_alloc ?_ _)); refine blk_put (cs := #[.int .i64 x128000_2, .int .i64 x127001_2]) ?_ 1 _ rfl; (with_reducible repeat (first | refine blk_drewN ?_ _ | refine blk_drew ?_ | refine blk_alloc ?_ _)); refine blk_put (cs := #[.int .i64 x127000_2, .int .i64 x127001_2]) ?_ 0 _ rfl; (with_reducible repeat (first | refine blk_drewN ?_ _ | refine blk_drew ?_ | refine blk_alloc ?_ _)); exact BK129.out⟩, ⟨by (with_reducible repeat (first | refine blk_drewN ?_ _ | refine blk_drew ?_ | refine blk_alloc ?_ _)); refine blk_far ?_ NB130_129.out _; (with_reducible repeat (first | refine blk_drewN ?_ _ | refine blk_drew ?_ | refine blk_alloc ?_ _)); refine blk_far ?_ NB130_129.out _; (with_reducible repeat (first | refine blk_drewN ?_ _ | refine blk_drew ?_ | refine blk_alloc ?_ _)); exact BK130.out⟩, ⟨by repeat (first | (with_reducible first | exact HB.out | apply below_alloc | apply pw_below_drewN | apply below_drew1 | refine below_set ?_ GE126.out | refine below_set ?_ GE127.out | refine below_set ?_ GE129.out | refine below_set ?_ GE130.out) | exact HB.out)⟩⟩
     ·rw [if_neg c58] at H
      have c58b0 : decide (0 < t131) = false := decide_eq_false c58
      clear c58
      (first | rw [c58b0] | (simp only [i64_w, i32_w]; rw [c58b0]) | skip)
      have H' := Aside0.mk H
      clear H
      go_wp2
      go_meet
      case rel => exact ⟨_, (x127000_2), (x127001_2), H', ⟨by have := HJ2.out; first | omega | exact Nat.le_refl _⟩, ⟨by (with_reducible repeat (first | refine blk_drewN ?_ _ | refine blk_drew ?_ | refine blk_alloc ?_ _)); exact BK126.out⟩, ⟨by (with_reducible repeat (first | refine blk_drewN ?_ _ | refine blk_drew ?_ | refine blk_alloc ?_ _)); exact BK127.out⟩, ⟨by (with_reducible repeat (first | refine blk_drewN ?_ _ | refine blk_drew ?_ | refine blk_alloc ?_ _)); exact BK129.out⟩, ⟨by (with_reducible repeat (first | refine blk_drewN ?_ _ | refine blk_drew ?_ | refine blk_alloc ?_ _)); exact BK130.out⟩, ⟨by repeat (first | (with_reducible first | exact HB.out | apply below_alloc | apply pw_below_drewN | apply below_drew1 | refine below_set ?_ GE126.out | refine below_set ?_ GE127.out | refine below_set ?_ GE129.out | refine below_set ?_ GE130.out) | exact HB.out)⟩⟩
    case rest =>
     clear HC40
     try clear c1
     try clear c2
     try clear p2
     try clear c3
     try clear c4
     try clear c5
     try clear c6
     try clear c8
     try clear c8b0
     try clear c8b1
     try clear c8b2
     try clear c9
     try clear c12
     try clear c12b0
     try clear c12b1
     try clear c12b2
     try clear c13
     try clear c14
     try clear c15
     try clear c15b0
     try clear c15b1
     try clear c15b2
     try clear c16
     try clear c22
     try clear c22b0
     try clear c22b1
     try clear c22b2
     try clear c23
     try clear c29
     try clear c35
     try clear c41
     try clear c51
     try clear c52
     try clear c54
     try clear c55
     try clear c58
     try clear c58b0
     try clear c59
     try clear c60
     try clear c61
     try clear c63
     try clear c64
     try clear hcz10_0
     try clear hcz10_1
     try clear hcz10_2
     try clear hcz10_3
     try clear hcz11_0
     try clear hcz11_1
     try clear hcz11_2
     try clear hcz11_3
     try clear hcz17_0
     try clear hcz17_1
     try clear hcz17_2
     try clear hcz17_3
     try clear hcz18_0
     try clear hcz18_1
     try clear hcz18_2
     try clear hcz18_3
     try clear hcz20_0
     try clear hcz20_1
     try clear hcz20_2
     try clear hcz20_3
     try clear hcz21_0
     try clear hcz21_1
     try clear hcz21_2
     try clear hcz21_3
     try clear hcz24_0
     try clear hcz24_1
     try clear hcz24_2
     try clear hcz24_3
     try clear hcz25_0
     try clear hcz25_1
     try clear hcz25_2
     try clear hcz25_3
     try clear hcz27_0
     try clear hcz27_1
     try clear hcz27_2
     try clear hcz27_3
     try clear hcz28_0
     try clear hcz28_1
     try clear hcz28_2
     try clear hcz28_3
     try clear hcz30_0
     try clear hcz30_1
     try clear hcz30_2
     try clear hcz30_3
     try clear hcz31_0
     try clear hcz31_1
     try clear hcz31_2
     try clear hcz31_3
     try clear hcz33_0
     try clear hcz33_1
     try clear hcz33_2
     try clear hcz33_3
     try clear hcz34_0
     try clear hcz34_1
     try clear hcz34_2
     try clear hcz34_3
     try clear hcz36_0
     try clear hcz36_1
     try clear hcz36_2
     try clear hcz36_3
     try clear hcz37_0
     try clear hcz37_1
     try clear hcz37_2
     try clear hcz37_3
     try clear hcz42_0
     try clear hcz42_1
     try clear hcz42_2
     try clear hcz42_3
     try clear hcz53_0
     try clear hcz53_1
     try clear hcz53_2
     try clear hcz53_3
     try clear hcz56_0
     try clear hcz56_1
     try clear hcz62_0
     try clear hcz62_1
     try clear hcz62_2
     try clear hcz62_3
     try clear hcz65_0
     try clear hcz65_1
     try clear hcz7_0
     try clear hcz7_1
     try clear hcz7_2
     try clear hcz7_3
     try clear hfz10_0
     try clear hfz10_1
     try clear hfz10_2
     try clear hfz10_3
     try clear hfz11_0
     try clear hfz11_1
     try clear hfz11_2
     try clear hfz11_3
     try clear hfz17_0
     try clear hfz17_1
     try clear hfz17_2
     try clear hfz17_3
     try clear hfz18_0
     try clear hfz18_1
     try clear hfz18_2
     try clear hfz18_3
     try clear hfz20_0
     try clear hfz20_1
     try clear hfz20_2
     try clear hfz20_3
     try clear hfz21_0
     try clear hfz21_1
     try clear hfz21_2
     try clear hfz21_3
     try clear hfz24_0
     try clear hfz24_1
     try clear hfz24_2
     try clear hfz24_3
     try clear hfz25_0
     try clear hfz25_1
     try clear hfz25_2
     try clear hfz25_3
     try clear hfz27_0
     try clear hfz27_1
     try clear hfz27_2
     try clear hfz27_3
     try clear hfz28_0
     try clear hfz28_1
     try clear hfz28_2
     try clear hfz28_3
     try clear hfz30_0
     try clear hfz30_1
     try clear hfz30_2
     try clear hfz30_3
     try clear hfz31_0
     try clear hfz31_1
     try clear hfz31_2
     try clear hfz31_3
     try clear hfz33_0
     try clear hfz33_1
     try clear hfz33_2
     try clear hfz33_3
     try clear hfz34_0
     try clear hfz34_1
     try clear hfz34_2
     try clear hfz34_3
     try clear hfz36_0
     try clear hfz36_1
     try clear hfz36_2
     try clear hfz36_3
     try clear hfz37_0
     try clear hfz37_1
     try clear hfz37_2
     try clear hfz37_3
     try clear hfz42_0
     try clear hfz42_1
     try clear hfz42_2
     try clear hfz42_3
     try clear hfz53_0
     try clear hfz53_1
     try clear hfz53_2
     try clear hfz53_3
     try clear hfz56_0
     try clear hfz56_1
     try clear hfz62_0
     try clear hfz62_1
     try clear hfz62_2
     try clear hfz62_3
     try clear hfz65_0
     try clear hfz65_1
     try clear hfz7_0
     try clear hfz7_1
     try clear hfz7_2
     try clear hfz7_3
     try clear p2
     obtain ⟨kq, x130000_39, x130001_39, HA, HJ39, BK126, BK127, BK129, BK130, HB⟩ := hcut
     cases kq with
     | zero => exact absurd HA.out (by simp [geom_online.j1])
     | succ kj39 =>
      have H := HA.out
      clear HA
      simp only [geom_online.j1] at H
      replace H := Option.bind_eq_some_iff.mp H
      obtain ⟨t132, A660, H⟩ := H
      replace H : (if t132 < 0 then (geom_online.j2 kj39 x130000_39 x130001_39 x128002_2 x128003_2) else (geom_online.j2 kj39 x130000_39 x130001_39 x127002_2 x127003_2)) = some r := H
      have A66 := Aside0.mk A660
      clear A660
      have HC67 := Aside0.mk H
      clear H
      have hnb68 := NB127_126.out
      have hnc68 := NB126_127.out
      have hnb69 := NB127_129.out
      have hnc69 := NB129_127.out
      have hnb70 := NB127_130.out
      have hnc70 := NB130_127.out
      have hcz71_0 : wc.cell? ⟨gb127, 0, none⟩ = some (.int .i64 x128000_2) := (blk_cell BK127.out 0).trans rfl
      have hcz71_1 : wc.cell? ⟨gb127, 1, none⟩ = some (.int .i64 x128001_2) := (blk_cell BK127.out 1).trans rfl
      have hcz71_2 : wc.cell? ⟨gb127, 2, none⟩ = some (.int .i64 x128002_2) := (blk_cell BK127.out 2).trans rfl
      have hcz71_3 : wc.cell? ⟨gb127, 3, none⟩ = some (.int .i64 x128003_2) := (blk_cell BK127.out 3).trans rfl
      have hfz71_0 := blk_frozen BK127.out 0
      have hfz71_1 := blk_frozen BK127.out 1
      have hfz71_2 := blk_frozen BK127.out 2
      have hfz71_3 := blk_frozen BK127.out 3
      have hnb72 := NB130_126.out
      have hnc72 := NB126_130.out
      have hnb73 := NB130_129.out
      have hnc73 := NB129_130.out
      have hcz74_0 : wc.cell? ⟨gb130, 0, none⟩ = some (.int .i64 x127002_2) := (blk_cell BK130.out 0).trans rfl
      have hcz74_1 : wc.cell? ⟨gb130, 1, none⟩ = some (.int .i64 x127003_2) := (blk_cell BK130.out 1).trans rfl
      have hfz74_0 := blk_frozen BK130.out 0
      have hfz74_1 := blk_frozen BK130.out 1
      go_upto_if 53 with (first | ((with_reducible refine gate_callee (f := 13) rfl ?_); refine goesL_ (some 52) rfl rfl Try.func13 (by kernel_rfl) rfl #[.agg #[.int .i64 x128002_2, .int .i64 x128003_2], .agg #[.int .i64 x127002_2, .int .i64 x127003_2]] rfl (by (try simp only [List.map_toArray, List.map_cons, List.map_nil]); first | done | rfl | (simp only [List.length_drop, List.length_take]; rfl)) ?_; (with_reducible refine (geom_Compare.calls x128002_2 x128003_2 x127002_2 x127003_2 t132 _ A66.out).mono ?_); rintro e w75 ⟨rfl, hb⟩; refine ⟨_, rfl, ?_⟩; have n0_ := Aside0.mk (blk_below BK126.out hb); have n1_ := Aside0.mk (blk_below BK127.out hb); have n2_ := Aside0.mk (blk_below BK129.out hb); have n3_ := Aside0.mk (blk_below BK130.out hb); have n4_ := Aside0.mk (below_step HB.out hb); clear BK126; clear BK127; clear BK129; clear BK130; clear HB; have BK126 := n0_; have BK127 := n1_; have BK129 := n2_; have BK130 := n3_; have HB := n4_; clear n0_ n1_ n2_ n3_ n4_; (try clear hb); (try clear hb2); (try clear hk); (try clear hi)))
      (try simp only [Act.put, List.setIfInBounds_toArray, List.set_cons_zero, List.set_cons_succ])
      go_cut [] (fun wc => ∃ (kq : Nat) (x131000_66 : Int) (x131001_66 : Int), Aside0 (geom_online.j2 kq x130000_39 x130001_39 x131000_66 x131001_66 = some r) ∧ Aside0 (kq ≤ kj39) ∧ Aside0 (wc.heap[gb126]? = some (.cells #[.int .i64 x127000_2, .int .i64 x127001_2, .int .i64 x127002_2, .int .i64 x127003_2] 25 (0, 0))) ∧ Aside0 (wc.heap[gb127]? = some (.cells #[.int .i64 x128000_2, .int .i64 x128001_2, .int .i64 x128002_2, .int .i64 x128003_2] 25 (0, 0))) ∧ Aside0 (wc.heap[gb129]? = some (.cells #[.int .i64 x130000_39, .int .i64 x130001_39] 23 (0, 0))) ∧ Aside0 (wc.heap[gb130]? = some (.cells #[.int .i64 x131000_66, .int .i64 x131001_66] 23 (0, 0))) ∧ Aside0 (Below w.heap.size w wc))
      case first =>
       have H := HC67.out
       clear HC67
       by_cases c76 : t132 < 0
       ·rw [if_pos c76] at H
        have c76b0 : decide (t132 < 0) = true := decide_eq_true c76
        clear c76
        (first | rw [c76b0] | (simp only [i64_w, i32_w]; rw [c76b0]) | skip)
        have H' := Aside0.mk H
        clear H
        have hnb77 := NB127_126.out
        have hnc77 := NB126_127.out
        have hnb78 := NB127_129.out
        have hnc78 := NB129_127.out
        have hnb79 := NB127_130.out
        have hnc79 := NB130_127.out
        have hcz80_0 : w75.cell? ⟨gb127, 0, none⟩ = some (.int .i64 x128000_2) := (blk_cell BK127.out 0).trans rfl
        have hcz80_1 : w75.cell? ⟨gb127, 1, none⟩ = some (.int .i64 x128001_2) := (blk_cell BK127.out 1).trans rfl
        have hcz80_2 : w75.cell? ⟨gb127, 2, none⟩ = some (.int .i64 x128002_2) := (blk_cell BK127.out 2).trans rfl
        have hcz80_3 : w75.cell? ⟨gb127, 3, none⟩ = some (.int .i64 x128003_2) := (blk_cell BK127.out 3).trans rfl
        have hfz80_0 := blk_frozen BK127.out 0
        have hfz80_1 := blk_frozen BK127.out 1
        have hfz80_2 := blk_frozen BK127.out 2
        have hfz80_3 := blk_frozen BK127.out 3
        have hnb81 := NB130_126.out
        have hnc81 := NB126_130.out
        have hnb82 := NB130_129.out
        have hnc82 := NB129_130.out
        have hcz83_0 : w75.cell? ⟨gb130, 0, none⟩ = some (.int .i64 x127002_2) := (blk_cell BK130.out 0).trans rfl
        have hcz83_1 : w75.cell? ⟨gb130, 1, none⟩ = some (.int .i64 x127003_2) := (blk_cell BK130.out 1).trans rfl
        have hfz83_0 := blk_frozen BK130.out 0
        have hfz83_1 := blk_frozen BK130.out 1
        go_wp2
        go_meet
        case rel => exact ⟨_, (x128002_2), (x128003_2), H', ⟨by have := HJ2.out; have := HJ39.out; first | omega | exact Nat.le_refl _⟩, ⟨by (with_reducible repeat (first | refine blk_drewN ?_ _ | refine blk_drew ?_ | refine blk_alloc ?_ _)); refine blk_far ?_ NB126_130.out _; (with_reducible repeat (first | refine blk_drewN ?_ _ | refine blk_drew ?_ | refine blk_alloc ?_ _)); refine blk_far ?_ NB126_130.out _; (with_reducible repeat (first | refine blk_drewN ?_ _ | refine blk_drew ?_ | refine blk_alloc ?_ _)); exact BK126.out⟩, ⟨by (with_reducible repeat (first | refine blk_drewN ?_ _ | refine blk_drew ?_ | refine blk_alloc ?_ _)); refine blk_far ?_ NB127_130.out _; (with_reducible repeat (first | refine blk_drewN ?_ _ | refine blk_drew ?_ | refine blk_alloc ?_ _)); refine blk_far ?_ NB127_130.out _; (with_reducible repeat (first | refine blk_drewN ?_ _ | refine blk_drew ?_ | refine blk_alloc ?_ _)); exact BK127.out⟩, ⟨by (with_reducible repeat (first | refine blk_drewN ?_ _ | refine blk_drew ?_ | refine blk_alloc ?_ _)); refine blk_far ?_ NB129_130.out _; (with_reducible repeat (first | refine blk_drewN ?_ _ | refine blk_drew ?_ | refine blk_alloc ?_ _)); refine blk_far ?_ NB129_130.out _; (with_reducible repeat (first | refine blk_drewN ?_ _ | refine blk_drew ?_ | refine blk_alloc ?_ _)); exact BK129.out⟩, ⟨by (with_reducible repeat (first | refine blk_drewN ?_ _ | refine blk_drew ?_ | refine blk_alloc ?_ _)); refine blk_put (cs := #[.int .i64 x128002_2, .int .i64 x127003_2]) ?_ 1 _ rfl; (with_reducible repeat (first | refine blk_drewN ?_ _ | refine blk_drew ?_ | refine blk_alloc ?_ _)); refine blk_put (cs := #[.int .i64 x127002_2, .int .i64 x127003_2]) ?_ 0 _ rfl; (with_reducible repeat (first | refine blk_drewN ?_ _ | refine blk_drew ?_ | refine blk_alloc ?_ _)); exact BK130.out⟩, ⟨by repeat (first | (with_reducible first | exact HB.out | apply below_alloc | apply pw_below_drewN | apply below_drew1 | refine below_set ?_ GE126.out | refine below_set ?_ GE127.out | refine below_set ?_ GE129.out | refine below_set ?_ GE130.out) | exact HB.out)⟩⟩
       ·rw [if_neg c76] at H
        have c76b0 : decide (t132 < 0) = false := decide_eq_false c76
        clear c76
        (first | rw [c76b0] | (simp only [i64_w, i32_w]; rw [c76b0]) | skip)
        have H' := Aside0.mk H
        clear H
        go_wp2
        go_meet
        case rel => exact ⟨_, (x127002_2), (x127003_2), H', ⟨by have := HJ2.out; have := HJ39.out; first | omega | exact Nat.le_refl _⟩, ⟨by (with_reducible repeat (first | refine blk_drewN ?_ _ | refine blk_drew ?_ | refine blk_alloc ?_ _)); exact BK126.out⟩, ⟨by (with_reducible repeat (first | refine blk_drewN ?_ _ | refine blk_drew ?_ | refine blk_alloc ?_ _)); exact BK127.out⟩, ⟨by (with_reducible repeat (first | refine blk_drewN ?_ _ | refine blk_drew ?_ | refine blk_alloc ?_ _)); exact BK129.out⟩, ⟨by (with_reducible repeat (first | refine blk_drewN ?_ _ | refine blk_drew ?_ | refine blk_alloc ?_ _)); exact BK130.out⟩, ⟨by repeat (first | (with_reducible first | exact HB.out | apply below_alloc | apply pw_below_drewN | apply below_drew1 | refine below_set ?_ GE126.out | refine below_set ?_ GE127.out | refine below_set ?_ GE129.out | refine below_set ?_ GE130.out) | exact HB.out)⟩⟩
      case rest =>
       clear HC67
       try clear c1
       try clear c2
       try clear p2
       try clear c3
       try clear c4
       try clear c5
       try clear c6
       try clear c7
       try clear c8
       try clear c8b0
       try clear c8b1
       try clear c8b2
       try clear c9
       try clear c12
       try clear c12b0
       try clear c12b1
       try clear c12b2
       try clear c13
       try clear c14
       try clear c15
       try clear c15b0
       try clear c15b1
       try clear c15b2
       try clear c16
       try clear c22
       try clear c22b0
       try clear c22b1
       try clear c22b2
       try clear c23
       try clear c29
       try clear c35
       try clear c41
       try clear c51
       try clear c52
       try clear c54
       try clear c55
       try clear c58
       try clear c58b0
       try clear c59
       try clear c60
       try clear c61
       try clear c63
       try clear c64
       try clear c68
       try clear c69
       try clear c70
       try clear c72
       try clear c73
       try clear c76
       try clear c76b0
       try clear c77
       try clear c78
       try clear c79
       try clear c81
       try clear c82
       try clear hcz10_0
       try clear hcz10_1
       try clear hcz10_2
       try clear hcz10_3
       try clear hcz11_0
       try clear hcz11_1
       try clear hcz11_2
       try clear hcz11_3
       try clear hcz17_0
       try clear hcz17_1
       try clear hcz17_2
       try clear hcz17_3
       try clear hcz18_0
       try clear hcz18_1
       try clear hcz18_2
       try clear hcz18_3
       try clear hcz20_0
       try clear hcz20_1
       try clear hcz20_2
       try clear hcz20_3
       try clear hcz21_0
       try clear hcz21_1
       try clear hcz21_2
       try clear hcz21_3
       try clear hcz24_0
       try clear hcz24_1
       try clear hcz24_2
       try clear hcz24_3
       try clear hcz25_0
       try clear hcz25_1
       try clear hcz25_2
       try clear hcz25_3
       try clear hcz27_0
       try clear hcz27_1
       try clear hcz27_2
       try clear hcz27_3
       try clear hcz28_0
       try clear hcz28_1
       try clear hcz28_2
       try clear hcz28_3
       try clear hcz30_0
       try clear hcz30_1
       try clear hcz30_2
       try clear hcz30_3
       try clear hcz31_0
       try clear hcz31_1
       try clear hcz31_2
       try clear hcz31_3
       try clear hcz33_0
       try clear hcz33_1
       try clear hcz33_2
       try clear hcz33_3
       try clear hcz34_0
       try clear hcz34_1
       try clear hcz34_2
       try clear hcz34_3
       try clear hcz36_0
       try clear hcz36_1
       try clear hcz36_2
       try clear hcz36_3
       try clear hcz37_0
       try clear hcz37_1
       try clear hcz37_2
       try clear hcz37_3
       try clear hcz42_0
       try clear hcz42_1
       try clear hcz42_2
       try clear hcz42_3
       try clear hcz53_0
       try clear hcz53_1
       try clear hcz53_2
       try clear hcz53_3
       try clear hcz56_0
       try clear hcz56_1
       try clear hcz62_0
       try clear hcz62_1
       try clear hcz62_2
       try clear hcz62_3
       try clear hcz65_0
       try clear hcz65_1
       try clear hcz71_0
       try clear hcz71_1
       try clear hcz71_2
       try clear hcz71_3
       try clear hcz74_0
       try clear hcz74_1
       try clear hcz7_0
       try clear hcz7_1
       try clear hcz7_2
       try clear hcz7_3
       try clear hcz80_0
       try clear hcz80_1
       try clear hcz80_2
       try clear hcz80_3
       try clear hcz83_0
       try clear hcz83_1
       try clear hfz10_0
       try clear hfz10_1
       try clear hfz10_2
       try clear hfz10_3
       try clear hfz11_0
       try clear hfz11_1
       try clear hfz11_2
       try clear hfz11_3
       try clear hfz17_0
       try clear hfz17_1
       try clear hfz17_2
       try clear hfz17_3
       try clear hfz18_0
       try clear hfz18_1
       try clear hfz18_2
       try clear hfz18_3
       try clear hfz20_0
       try clear hfz20_1
       try clear hfz20_2
       try clear hfz20_3
       try clear hfz21_0
       try clear hfz21_1
       try clear hfz21_2
       try clear hfz21_3
       try clear hfz24_0
       try clear hfz24_1
       try clear hfz24_2
       try clear hfz24_3
       try clear hfz25_0
       try clear hfz25_1
       try clear hfz25_2
       try clear hfz25_3
       try clear hfz27_0
       try clear hfz27_1
       try clear hfz27_2
       try clear hfz27_3
       try clear hfz28_0
       try clear hfz28_1
       try clear hfz28_2
       try clear hfz28_3
       try clear hfz30_0
       try clear hfz30_1
       try clear hfz30_2
       try clear hfz30_3
       try clear hfz31_0
       try clear hfz31_1
       try clear hfz31_2
       try clear hfz31_3
       try clear hfz33_0
       try clear hfz33_1
       try clear hfz33_2
       try clear hfz33_3
       try clear hfz34_0
       try clear hfz34_1
       try clear hfz34_2
       try clear hfz34_3
       try clear hfz36_0
       try clear hfz36_1
       try clear hfz36_2
       try clear hfz36_3
       try clear hfz37_0
       try clear hfz37_1
       try clear hfz37_2
       try clear hfz37_3
       try clear hfz42_0
       try clear hfz42_1
       try clear hfz42_2
       try clear hfz42_3
       try clear hfz53_0
       try clear hfz53_1
       try clear hfz53_2
       try clear hfz53_3
       try clear hfz56_0
       try clear hfz56_1
       try clear hfz62_0
       try clear hfz62_1
       try clear hfz62_2
       try clear hfz62_3
       try clear hfz65_0
       try clear hfz65_1
       try clear hfz71_0
       try clear hfz71_1
       try clear hfz71_2
       try clear hfz71_3
       try clear hfz74_0
       try clear hfz74_1
       try clear hfz7_0
       try clear hfz7_1
       try clear hfz7_2
       try clear hfz7_3
       try clear hfz80_0
       try clear hfz80_1
       try clear hfz80_2
       try clear hfz80_3
       try clear hfz83_0
       try clear hfz83_1
       try clear p2
       obtain ⟨kq, x131000_66, x131001_66, HA, HJ66, BK126, BK127, BK129, BK130, HB⟩ := hcut
       cases kq with
       | zero => exact absurd HA.out (by simp [geom_online.j2])
       | succ kj66 =>
        have H := HA.out
        clear HA
        simp only [geom_online.j2] at H
        replace H := Option.bind_eq_some_iff.mp H
        obtain ⟨t133, A840, H⟩ := H
        replace H : (if t133 = (-1) then (some 5) else (if t133 = 0 then (some 1) else (some 0))) = some r := H
        have A84 := Aside0.mk A840
        clear A840
        by_cases c85 : t133 = (-1)
        ·rw [if_pos c85] at H
         have c85b0 : (t133 == (-1)) = true := beq_iff_eq.mpr c85
         have c85b1 : (t133 != (-1)) = false := bne_eq_false_iff_eq.mpr c85
         clear c85
         obtain rfl := Option.some.inj H
         have hnb86 := NB129_126.out
         have hnc86 := NB126_129.out
         have hnb87 := NB129_127.out
         have hnc87 := NB127_129.out
         have hnb88 := NB129_130.out
         have hnc88 := NB130_129.out
         have hcz89_0 : wc.cell? ⟨gb129, 0, none⟩ = some (.int .i64 x130000_39) := (blk_cell BK129.out 0).trans rfl
         have hcz89_1 : wc.cell? ⟨gb129, 1, none⟩ = some (.int .i64 x130001_39) := (blk_cell BK129.out 1).trans rfl
         have hfz89_0 := blk_frozen BK129.out 0
         have hfz89_1 := blk_frozen BK129.out 1
         have hnb90 := NB130_126.out
         have hnc90 := NB126_130.out
         have hnb91 := NB130_127.out
         have hnc91 := NB127_130.out
         have hcz92_0 : wc.cell? ⟨gb130, 0, none⟩ = some (.int .i64 x131000_66) := (blk_cell BK130.out 0).trans rfl
         have hcz92_1 : wc.cell? ⟨gb130, 1, none⟩ = some (.int .i64 x131001_66) := (blk_cell BK130.out 1).trans rfl
         have hfz92_0 := blk_frozen BK130.out 0
         have hfz92_1 := blk_frozen BK130.out 1
         go_wp2_with (first | ((with_reducible refine gate_callee (f := 13) rfl ?_); refine goesL_ (some 58) rfl rfl Try.func13 (by kernel_rfl) rfl #[.agg #[.int .i64 x130000_39, .int .i64 x130001_39], .agg #[.int .i64 x131000_66, .int .i64 x131001_66]] rfl (by (try simp only [List.map_toArray, List.map_cons, List.map_nil]); first | done | rfl | (simp only [List.length_drop, List.length_take]; rfl)) ?_; (with_reducible refine (geom_Compare.calls x130000_39 x130001_39 x131000_66 x131001_66 t133 _ A84.out).mono ?_); rintro e w93 ⟨rfl, hb⟩; refine ⟨_, rfl, ?_⟩; have n0_ := Aside0.mk (blk_below BK126.out hb); have n1_ := Aside0.mk (blk_below BK127.out hb); have n2_ := Aside0.mk (blk_below BK129.out hb); have n3_ := Aside0.mk (blk_below BK130.out hb); have n4_ := Aside0.mk (below_step HB.out hb); clear BK126; clear BK127; clear BK129; clear BK130; clear HB; have BK126 := n0_; have BK127 := n1_; have BK129 := n2_; have BK130 := n3_; have HB := n4_; clear n0_ n1_ n2_ n3_ n4_; (try clear hb); (try clear hb2); (try clear hk); (try clear hi)))
         go_ret
         exact ⟨by first | rfl | (simp [errW_none, errW_some] <;> rfl) | (simp [*, errW_none, errW_some] <;> rfl), by repeat (first | (with_reducible first | exact HB.out | apply below_alloc | apply pw_below_drewN | apply below_drew1 | refine below_set ?_ GE126.out | refine below_set ?_ GE127.out | refine below_set ?_ GE129.out | refine below_set ?_ GE130.out) | exact HB.out)⟩
        ·rw [if_neg c85] at H
         have c85b0 : (t133 == (-1)) = false := beq_eq_false_iff_ne.mpr c85
         have c85b1 : (t133 != (-1)) = true := bne_iff_ne.mpr c85
         by_cases c94 : t133 = 0
         ·rw [if_pos c94] at H
          have c94b0 : (t133 == 0) = true := beq_iff_eq.mpr c94
          have c94b1 : (t133 != 0) = false := bne_eq_false_iff_eq.mpr c94
          clear c94
          obtain rfl := Option.some.inj H
          have hnb95 := NB129_126.out
          have hnc95 := NB126_129.out
          have hnb96 := NB129_127.out
          have hnc96 := NB127_129.out
          have hnb97 := NB129_130.out
          have hnc97 := NB130_129.out
          have hcz98_0 : wc.cell? ⟨gb129, 0, none⟩ = some (.int .i64 x130000_39) := (blk_cell BK129.out 0).trans rfl
          have hcz98_1 : wc.cell? ⟨gb129, 1, none⟩ = some (.int .i64 x130001_39) := (blk_cell BK129.out 1).trans rfl
          have hfz98_0 := blk_frozen BK129.out 0
          have hfz98_1 := blk_frozen BK129.out 1
          have hnb99 := NB130_126.out
          have hnc99 := NB126_130.out
          have hnb100 := NB130_127.out
          have hnc100 := NB127_130.out
          have hcz101_0 : wc.cell? ⟨gb130, 0, none⟩ = some (.int .i64 x131000_66) := (blk_cell BK130.out 0).trans rfl
          have hcz101_1 : wc.cell? ⟨gb130, 1, none⟩ = some (.int .i64 x131001_66) := (blk_cell BK130.out 1).trans rfl
          have hfz101_0 := blk_frozen BK130.out 0
          have hfz101_1 := blk_frozen BK130.out 1
          go_wp2_with (first | ((with_reducible refine gate_callee (f := 13) rfl ?_); refine goesL_ (some 58) rfl rfl Try.func13 (by kernel_rfl) rfl #[.agg #[.int .i64 x130000_39, .int .i64 x130001_39], .agg #[.int .i64 x131000_66, .int .i64 x131001_66]] rfl (by (try simp only [List.map_toArray, List.map_cons, List.map_nil]); first | done | rfl | (simp only [List.length_drop, List.length_take]; rfl)) ?_; (with_reducible refine (geom_Compare.calls x130000_39 x130001_39 x131000_66 x131001_66 t133 _ A84.out).mono ?_); rintro e w102 ⟨rfl, hb⟩; refine ⟨_, rfl, ?_⟩; have n0_ := Aside0.mk (blk_below BK126.out hb); have n1_ := Aside0.mk (blk_below BK127.out hb); have n2_ := Aside0.mk (blk_below BK129.out hb); have n3_ := Aside0.mk (blk_below BK130.out hb); have n4_ := Aside0.mk (below_step HB.out hb); clear BK126; clear BK127; clear BK129; clear BK130; clear HB; have BK126 := n0_; have BK127 := n1_; have BK129 := n2_; have BK130 := n3_; have HB := n4_; clear n0_ n1_ n2_ n3_ n4_; (try clear hb); (try clear hb2); (try clear hk); (try clear hi)))
          go_ret
          exact ⟨by first | rfl | (simp [errW_none, errW_some] <;> rfl) | (simp [*, errW_none, errW_some] <;> rfl), by repeat (first | (with_reducible first | exact HB.out | apply below_alloc | apply pw_below_drewN | apply below_drew1 | refine below_set ?_ GE126.out | refine below_set ?_ GE127.out | refine below_set ?_ GE129.out | refine below_set ?_ GE130.out) | exact HB.out)⟩
         ·rw [if_neg c94] at H
          have c94b0 : (t133 == 0) = false := beq_eq_false_iff_ne.mpr c94
          have c94b1 : (t133 != 0) = true := bne_iff_ne.mpr c94
          obtain rfl := Option.some.inj H
          have hnb103 := NB129_126.out
          have hnc103 := NB126_129.out
          have hnb104 := NB129_127.out
          have hnc104 := NB127_129.out
          have hnb105 := NB129_130.out
          have hnc105 := NB130_129.out
          have hcz106_0 : wc.cell? ⟨gb129, 0, none⟩ = some (.int .i64 x130000_39) := (blk_cell BK129.out 0).trans rfl
          have hcz106_1 : wc.cell? ⟨gb129, 1, none⟩ = some (.int .i64 x130001_39) := (blk_cell BK129.out 1).trans rfl
          have hfz106_0 := blk_frozen BK129.out 0
          have hfz106_1 := blk_frozen BK129.out 1
          have hnb107 := NB130_126.out
          have hnc107 := NB126_130.out
          have hnb108 := NB130_127.out
          have hnc108 := NB127_130.out
          have hcz109_0 : wc.cell? ⟨gb130, 0, none⟩ = some (.int .i64 x131000_66) := (blk_cell BK130.out 0).trans rfl
          have hcz109_1 : wc.cell? ⟨gb130, 1, none⟩ = some (.int .i64 x131001_66) := (blk_cell BK130.out 1).trans rfl
          have hfz109_0 := blk_frozen BK130.out 0
          have hfz109_1 := blk_frozen BK130.out 1
          go_wp2_with (first | ((with_reducible refine gate_callee (f := 13) rfl ?_); refine goesL_ (some 58) rfl rfl Try.func13 (by kernel_rfl) rfl #[.agg #[.int .i64 x130000_39, .int .i64 x130001_39], .agg #[.int .i64 x131000_66, .int .i64 x131001_66]] rfl (by (try simp only [List.map_toArray, List.map_cons, List.map_nil]); first | done | rfl | (simp only [List.length_drop, List.length_take]; rfl)) ?_; (with_reducible refine (geom_Compare.calls x130000_39 x130001_39 x131000_66 x131001_66 t133 _ A84.out).mono ?_); rintro e w110 ⟨rfl, hb⟩; refine ⟨_, rfl, ?_⟩; have n0_ := Aside0.mk (blk_below BK126.out hb); have n1_ := Aside0.mk (blk_below BK127.out hb); have n2_ := Aside0.mk (blk_below BK129.out hb); have n3_ := Aside0.mk (blk_below BK130.out hb); have n4_ := Aside0.mk (below_step HB.out hb); clear BK126; clear BK127; clear BK129; clear BK130; clear HB; have BK126 := n0_; have BK127 := n1_; have BK129 := n2_; have BK130 := n3_; have HB := n4_; clear n0_ n1_ n2_ n3_ n4_; (try clear hb); (try clear hb2); (try clear hk); (try clear hi)))
          go_ret
          exact ⟨by first | rfl | (simp [errW_none, errW_some] <;> rfl) | (simp [*, errW_none, errW_some] <;> rfl), by repeat (first | (with_reducible first | exact HB.out | apply below_alloc | apply pw_below_drewN | apply below_drew1 | refine below_set ?_ GE126.out | refine below_set ?_ GE127.out | refine below_set ?_ GE129.out | refine below_set ?_ GE130.out) | exact HB.out)⟩

end Go.Proofs.Ytgibndgllhompaa.P
