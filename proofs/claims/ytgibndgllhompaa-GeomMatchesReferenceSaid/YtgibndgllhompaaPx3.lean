-- printed for this claim by xprint.py (the seat's own program)
import Derived.Test.YtgibndgllhompaaPx0
namespace Go.Proofs.Ytgibndgllhompaa.P
open Go.RowKit Go.Proofs.YtgibndgllhompaaW.PrintWords Go.Proofs.YtgibndgllhompaaW.PrintLast
set_option linter.unusedVariables false
set_option linter.unusedSimpArgs false

/-! ### geom_near: function 29 -/
def geom_near.l0 : Nat → List (S23) → Int → Int → Option (Bool)
  | 0, _, _, _ => none
  | k + 1, x5, x6, x7 => if x7 < x6 then (if 0 ≤ x7 then (if x7 < (x5.length : Int) then (if (mx ((rd_T23 x5 x7).f0) ((rd_T23 x5 x7).f1)) > 2097152 then (some false) else (if (mn ((rd_T23 x5 x7).f0) ((rd_T23 x5 x7).f1)) < (-2097152) then (some false) else (geom_near.l0 k x5 x6 (wrap64 (x7 + 1))))) else (none)) else (none)) else (some true)
def geom_near.f (k : Nat) (l0 : List (S23)) : Option (Bool) := geom_near.l0 k l0 (l0.length : Int) 0
theorem geom_near.mono_l : ∀ k, (∀ y0 y1 y2, LeO (geom_near.l0 k y0 y1 y2) (geom_near.l0 (k + 1) y0 y1 y2))
  | 0 => fun _ _ _ r h => by simp [geom_near.l0] at h
  | k + 1 => by
    have ih0 := geom_near.mono_l k
    · intro y0 y1 y2
      unfold geom_near.l0
      repeat' first
      | (with_reducible exact ih0 _ _ _)
      | (with_reducible exact LeO.refl _)
      | (with_reducible exact LeO.none _)
      | (with_reducible refine LeO.ite ?_ ?_)
      | (with_reducible refine LeO.bind ?_ (fun _ => ?_))
      | exact ih0 _ _ _
      | exact LeO.none _
      | refine LeO.ite ?_ ?_
      | refine LeO.bind ?_ (fun _ => ?_)
theorem geom_near.mono : ∀ a0 k, LeO (geom_near.f k a0) (geom_near.f (k + 1) a0) := by
  intro a0 k
  have ih0 := geom_near.mono_l k
  unfold geom_near.f
  repeat' first
      | (with_reducible exact ih0 _ _ _)
      | (with_reducible exact LeO.refl _)
      | (with_reducible exact LeO.none _)
      | (with_reducible refine LeO.ite ?_ ?_)
      | (with_reducible refine LeO.bind ?_ (fun _ => ?_))
      | exact ih0 _ _ _
      | exact LeO.none _
      | refine LeO.ite ?_ ?_
      | refine LeO.bind ?_ (fun _ => ?_)
set_option maxHeartbeats 8000000 in
set_option maxRecDepth 100000 in
theorem geom_near.calls (k : Nat) (A0 : Option Addr) (c0 : Nat) (l0 : List (S23)) (r : Bool) (w : World) (hr0 : Kd.C k23 w A0 l0.length l0) (hc0 : l0.length ≤ c0) (h : geom_near.f k l0 = some r) :
    Calls Try.prog 29 #[.slice A0 l0.length c0] w fun e w' => e = .returned (.bool r) ∧ Below w.heap.size w w' := by
 have hu23 := Try.underlying23
 have HR0 := Aside0.mk hr0
 have HC0 := Aside0.mk hc0
 clear hr0 hc0
 have HB := Aside0.mk (Below.refl w.heap.size w)
 have H : (geom_near.l0 k l0 (l0.length : Int) 0) = some r := h
 clear h
 have H' := Aside0.mk H
 clear H
 go_enter Try.func29, Try.ntmps29
 go_wp2
 try simp only [Act.put, List.setIfInBounds_toArray, List.set_cons_succ, List.set_cons_zero]
 go_loopg [7] k (fun kq v7 w' => ∃ (x7_1 : Int), v7 = .int .i64 x7_1 ∧ Aside0 (geom_near.l0 kq l0 (l0.length : Int) x7_1 = some r) ∧ Aside0 (kq ≤ k) ∧ Aside0 (Below w.heap.size w w'))
 case atStart => exact ⟨(0), (by first | rfl | (simp; done) | (simp [*]; done)), H', ⟨Nat.le_refl _⟩, ⟨by repeat (first | (with_reducible first | exact HB.out | apply below_alloc | apply pw_below_drewN | apply below_drew1) | exact HB.out)⟩⟩
 case round =>
  clear H'
  obtain ⟨x7_1, rfl, HA, HK1, HB⟩ := hrel
  cases gk with
  | zero => exact absurd HA.out (by simp [geom_near.l0])
  | succ k1 =>
   have H := HA.out
   clear HA
   simp only [geom_near.l0] at H
   by_cases c2 : x7_1 < (l0.length : Int)
   ·rw [if_pos c2] at H
    have c2b0 : decide (x7_1 < (l0.length : Int)) = true := decide_eq_true c2
    clear c2
    by_cases c3 : 0 ≤ x7_1
    ·rw [if_pos c3] at H
     have c3b0 : decide (0 ≤ x7_1) = true := decide_eq_true c3
     clear c3
     by_cases c4 : x7_1 < (l0.length : Int)
     ·rw [if_pos c4] at H
      have c4b0 : decide (x7_1 < (l0.length : Int)) = true := decide_eq_true c4
      clear c4
      obtain ⟨ji5, hji5⟩ : ∃ j_ : Int, (mx ((rd_T23 l0 x7_1).f0) ((rd_T23 l0 x7_1).f1)) = j_ := ⟨_, rfl⟩
      replace H : (if (ji5) > 2097152 then (some false) else (if (mn ((rd_T23 l0 x7_1).f0) ((rd_T23 l0 x7_1).f1)) < (-2097152) then (some false) else (geom_near.l0 k1 l0 (l0.length : Int) (wrap64 (x7_1 + 1))))) = some r := by first | (rw [hji5] at H; exact H) | (simp only [hji5] at H ⊢; exact H)
      have hji5_ : (if ((rd_T23 l0 x7_1).f0) < ((rd_T23 l0 x7_1).f1) then ((rd_T23 l0 x7_1).f1) else ((rd_T23 l0 x7_1).f0)) = ji5 := hji5
      by_cases c6 : (ji5) > 2097152
      ·rw [if_pos c6] at H
       have c6b0 : decide (2097152 < (ji5)) = true := decide_eq_true c6
       clear c6
       obtain rfl := Option.some.inj H
       have p101 : 0 ≤ (x7_1 : Int) := of_decide_eq_true (by first | (with_reducible assumption) | assumption)
       have q101 : x7_1 < (l0.length : Int) := of_decide_eq_true (by first | (with_reducible assumption) | assumption)
       obtain ⟨ad101, e101, hx101_0, hx101_1⟩ := at_T23 HR0.out x7_1 p101 q101
       cases e101
       replace hx101_0 := (HB.out.cell (World.block_lt_of_cell? w _ hx101_0)).trans hx101_0
       replace hx101_1 := (HB.out.cell (World.block_lt_of_cell? w _ hx101_1)).trans hx101_1
       replace p101 := eq_true p101
       replace q101 := eq_true q101
       go_wp2_with (first | ((with_reducible refine gate_dst (N := 4) rfl ?_); refine box_event ?hg (N := 4) ?hd (cs := #[.int .i64 0, .int .i64 0]) (t := 23) ?hr ?_; (case hd => rfl); (case hg => rfl); (case hr => first | (go_simp; done) | (go_simp; rfl)); intro gb102 hg w7 hbox hb; have n0_ := Aside0.mk (below_step HB.out hb); have n1_ := Aside0.mk (hbox); have n2_ := Aside0.mk ((by rw [hg]; exact (below_size HB.out) : w.heap.size ≤ gb102)); have n3_ := Aside0.mk ((by rw [hg]; exact (below_size HB.out) : w.heap.size ≤ gb102)); clear HB; have HB := n0_; have BK102 := n1_; have GW102 := n2_; have GE102 := n3_; clear n0_ n1_ n2_ n3_; clear hb hbox hg; have hcz8_0 : w7.cell? ⟨gb102, 0, none⟩ = some (.int .i64 0) := (blk_cell BK102.out 0).trans rfl; have hcz8_1 : w7.cell? ⟨gb102, 1, none⟩ = some (.int .i64 0) := (blk_cell BK102.out 1).trans rfl; have hfz8_0 := blk_frozen BK102.out 0; have hfz8_1 := blk_frozen BK102.out 1))
       go_ret
       exact ⟨by first | rfl | (simp [errW_none, errW_some] <;> rfl) | (simp only [← hji5]; first | rfl | (simp [errW_none, errW_some] <;> rfl)) | (simp [*, errW_none, errW_some] <;> rfl), by repeat (first | (with_reducible first | exact HB.out | apply below_alloc | apply pw_below_drewN | apply below_drew1 | refine below_set ?_ GE102.out) | exact HB.out)⟩
      ·rw [if_neg c6] at H
       have c6b0 : decide (2097152 < (ji5)) = false := decide_eq_false c6
       clear c6
       obtain ⟨ji9, hji9⟩ : ∃ j_ : Int, (mn ((rd_T23 l0 x7_1).f0) ((rd_T23 l0 x7_1).f1)) = j_ := ⟨_, rfl⟩
       replace H : (if (ji9) < (-2097152) then (some false) else (geom_near.l0 k1 l0 (l0.length : Int) (wrap64 (x7_1 + 1)))) = some r := by first | (rw [hji9] at H; exact H) | (simp only [hji9] at H ⊢; exact H)
       have hji9_ : (if ((rd_T23 l0 x7_1).f1) < ((rd_T23 l0 x7_1).f0) then ((rd_T23 l0 x7_1).f1) else ((rd_T23 l0 x7_1).f0)) = ji9 := hji9
       by_cases c10 : (ji9) < (-2097152)
       ·rw [if_pos c10] at H
        have c10b0 : decide ((ji9) < (-2097152)) = true := decide_eq_true c10
        clear c10
        obtain rfl := Option.some.inj H
        have p101 : 0 ≤ (x7_1 : Int) := of_decide_eq_true (by first | (with_reducible assumption) | assumption)
        have q101 : x7_1 < (l0.length : Int) := of_decide_eq_true (by first | (with_reducible assumption) | assumption)
        obtain ⟨ad101, e101, hx101_0, hx101_1⟩ := at_T23 HR0.out x7_1 p101 q101
        cases e101
        replace hx101_0 := (HB.out.cell (World.block_lt_of_cell? w _ hx101_0)).trans hx101_0
        replace hx101_1 := (HB.out.cell (World.block_lt_of_cell? w _ hx101_1)).trans hx101_1
        replace p101 := eq_true p101
        replace q101 := eq_true q101
        go_wp2_with (first | ((with_reducible refine gate_dst (N := 4) rfl ?_); refine box_event ?hg (N := 4) ?hd (cs := #[.int .i64 0, .int .i64 0]) (t := 23) ?hr ?_; (case hd => rfl); (case hg => rfl); (case hr => first | (go_simp; done) | (go_simp; rfl)); intro gb102 hg w11 hbox hb; have n0_ := Aside0.mk (below_step HB.out hb); have n1_ := Aside0.mk (hbox); have n2_ := Aside0.mk ((by rw [hg]; exact (below_size HB.out) : w.heap.size ≤ gb102)); have n3_ := Aside0.mk ((by rw [hg]; exact (below_size HB.out) : w.heap.size ≤ gb102)); clear HB; have HB := n0_; have BK102 := n1_; have GW102 := n2_; have GE102 := n3_; clear n0_ n1_ n2_ n3_; clear hb hbox hg; have hcz12_0 : w11.cell? ⟨gb102, 0, none⟩ = some (.int .i64 0) := (blk_cell BK102.out 0).trans rfl; have hcz12_1 : w11.cell? ⟨gb102, 1, none⟩ = some (.int .i64 0) := (blk_cell BK102.out 1).trans rfl; have hfz12_0 := blk_frozen BK102.out 0; have hfz12_1 := blk_frozen BK102.out 1))
        go_ret
        exact ⟨by first | rfl | (simp [errW_none, errW_some] <;> rfl) | (simp only [← hji5, ← hji9]; first | rfl | (simp [errW_none, errW_some] <;> rfl)) | (simp [*, errW_none, errW_some] <;> rfl), by repeat (first | (with_reducible first | exact HB.out | apply below_alloc | apply pw_below_drewN | apply below_drew1 | refine below_set ?_ GE102.out) | exact HB.out)⟩
       ·rw [if_neg c10] at H
        have c10b0 : decide ((ji9) < (-2097152)) = false := decide_eq_false c10
        clear c10
        have H' := Aside0.mk H
        clear H
        have p101 : 0 ≤ (x7_1 : Int) := of_decide_eq_true (by first | (with_reducible assumption) | assumption)
        have q101 : x7_1 < (l0.length : Int) := of_decide_eq_true (by first | (with_reducible assumption) | assumption)
        obtain ⟨ad101, e101, hx101_0, hx101_1⟩ := at_T23 HR0.out x7_1 p101 q101
        cases e101
        replace hx101_0 := (HB.out.cell (World.block_lt_of_cell? w _ hx101_0)).trans hx101_0
        replace hx101_1 := (HB.out.cell (World.block_lt_of_cell? w _ hx101_1)).trans hx101_1
        replace p101 := eq_true p101
        replace q101 := eq_true q101
        go_wp2_with (first | ((with_reducible refine gate_dst (N := 4) rfl ?_); refine box_event ?hg (N := 4) ?hd (cs := #[.int .i64 0, .int .i64 0]) (t := 23) ?hr ?_; (case hd => rfl); (case hg => rfl); (case hr => first | (go_simp; done) | (go_simp; rfl)); intro gb102 hg w13 hbox hb; have n0_ := Aside0.mk (below_step HB.out hb); have n1_ := Aside0.mk (hbox); have n2_ := Aside0.mk ((by rw [hg]; exact (below_size HB.out) : w.heap.size ≤ gb102)); have n3_ := Aside0.mk ((by rw [hg]; exact (below_size HB.out) : w.heap.size ≤ gb102)); clear HB; have HB := n0_; have BK102 := n1_; have GW102 := n2_; have GE102 := n3_; clear n0_ n1_ n2_ n3_; clear hb hbox hg; have hcz14_0 : w13.cell? ⟨gb102, 0, none⟩ = some (.int .i64 0) := (blk_cell BK102.out 0).trans rfl; have hcz14_1 : w13.cell? ⟨gb102, 1, none⟩ = some (.int .i64 0) := (blk_cell BK102.out 1).trans rfl; have hfz14_0 := blk_frozen BK102.out 0; have hfz14_1 := blk_frozen BK102.out 1))
        go_roundg k1
        case measure => have := HK1.out; omega
        case rel => exact ⟨(wrap64 (x7_1 + 1)), (by first | rfl | (simp; done) | (simp [*]; done)), H', ⟨by have := HK1.out; omega⟩, ⟨by repeat (first | (with_reducible first | exact HB.out | apply below_alloc | apply pw_below_drewN | apply below_drew1 | refine below_set ?_ GE102.out) | exact HB.out)⟩⟩
     ·rw [if_neg c4] at H
      exact absurd H (by simp)
    ·rw [if_neg c3] at H
     exact absurd H (by simp)
   ·rw [if_neg c2] at H
    have c2b0 : decide (x7_1 < (l0.length : Int)) = false := decide_eq_false c2
    clear c2
    obtain rfl := Option.some.inj H
    go_wp2
    go_ret
    exact ⟨by first | rfl | (simp [errW_none, errW_some] <;> rfl) | (simp [*, errW_none, errW_some] <;> rfl), by repeat (first | (with_reducible first | exact HB.out | apply below_alloc | apply pw_below_drewN | apply below_drew1) | exact HB.out)⟩

/-! ### geom_to: function 30 -/
def geom_to.f (a0_0 : Int) (a0_1 : Int) (a1_0 : Int) (a1_1 : Int) : Option (Int × Int) := some (wrap64 (a1_0 - a0_0), wrap64 (a1_1 - a0_1))
set_option maxHeartbeats 8000000 in
set_option maxRecDepth 100000 in
theorem geom_to.calls (a0_0 : Int) (a0_1 : Int) (a1_0 : Int) (a1_1 : Int) (r1 : Int) (r2 : Int) (w : World) (h : geom_to.f a0_0 a0_1 a1_0 a1_1 = some (r1, r2)) :
    Calls Try.prog 30 #[.agg #[.int .i64 a0_0, .int .i64 a0_1], .agg #[.int .i64 a1_0, .int .i64 a1_1]] w fun e w' => e = .returned (.agg #[.int .i64 r1, .int .i64 r2]) ∧ Below w.heap.size w w' := by
 have hu23 := Try.underlying23
 have hu46 := Try.underlying46
 have HB := Aside0.mk (Below.refl w.heap.size w)
 have H : (some (wrap64 (a1_0 - a0_0), wrap64 (a1_1 - a0_1))) = some (r1, r2) := h
 clear h
 simp only [Option.some.injEq, Prod.mk.injEq] at H
 obtain ⟨rfl, rfl⟩ := H
 go_enter Try.func30, Try.ntmps30
 go_wp2_with (first | ((with_reducible refine gate_dst (N := 2) rfl ?_); refine box_event ?hg (N := 2) ?hd (cs := #[.int .i64 a0_0, .int .i64 a0_1]) (t := 23) ?hr ?_; (case hd => rfl); (case hg => rfl); (case hr => first | (go_simp; done) | (go_simp; rfl)); intro gb103 hg w3 hbox hb; have n0_ := Aside0.mk (below_step HB.out hb); have n1_ := Aside0.mk (hbox); have n2_ := Aside0.mk ((by rw [hg]; exact (below_size HB.out) : w.heap.size ≤ gb103)); have n3_ := Aside0.mk ((by rw [hg]; exact (below_size HB.out) : w.heap.size ≤ gb103)); clear HB; have HB := n0_; have BK103 := n1_; have GW103 := n2_; have GE103 := n3_; clear n0_ n1_ n2_ n3_; clear hb hbox hg) | ((with_reducible refine gate_dst (N := 3) rfl ?_); refine box_event ?hg (N := 3) ?hd (cs := #[.int .i64 a1_0, .int .i64 a1_1]) (t := 23) ?hr ?_; (case hd => rfl); (case hg => rfl); (case hr => first | (go_simp; done) | (go_simp; rfl)); intro gb104 hg w4 hbox hb; have n0_ := Aside0.mk (blk_below BK103.out hb); have n1_ := Aside0.mk (below_step HB.out hb); have n2_ := Aside0.mk (hbox); have n3_ := Aside0.mk ((by rw [hg]; exact (below_size HB.out) : w.heap.size ≤ gb104)); have n4_ := Aside0.mk ((by rw [hg]; exact (below_size HB.out) : w.heap.size ≤ gb104)); have n5_ := Aside0.mk ((by rw [hg]; exact Nat.ne_of_lt (blk_lt BK103.out) : gb103 ≠ gb104)); have n6_ := Aside0.mk ((by rw [hg]; exact Nat.ne_of_gt (blk_lt BK103.out) : gb104 ≠ gb103)); clear BK103; clear HB; have BK103 := n0_; have HB := n1_; have BK104 := n2_; have GW104 := n3_; have GE104 := n4_; have NB103_104 := n5_; have NB104_103 := n6_; clear n0_ n1_ n2_ n3_ n4_ n5_ n6_; clear hb hbox hg) | ((with_reducible refine gate_dst (N := 4) rfl ?_); refine box_event ?hg (N := 4) ?hd (cs := #[.int .i64 0, .int .i64 0]) (t := 46) ?hr ?_; (case hd => rfl); (case hg => rfl); (case hr => first | (go_simp; done) | (go_simp; rfl)); intro gb105 hg w5 hbox hb; have n0_ := Aside0.mk (blk_below BK103.out hb); have n1_ := Aside0.mk (blk_below BK104.out hb); have n2_ := Aside0.mk (below_step HB.out hb); have n3_ := Aside0.mk (hbox); have n4_ := Aside0.mk ((by rw [hg]; exact (below_size HB.out) : w.heap.size ≤ gb105)); have n5_ := Aside0.mk ((by rw [hg]; exact (below_size HB.out) : w.heap.size ≤ gb105)); have n6_ := Aside0.mk ((by rw [hg]; exact Nat.ne_of_lt (blk_lt BK103.out) : gb103 ≠ gb105)); have n7_ := Aside0.mk ((by rw [hg]; exact Nat.ne_of_gt (blk_lt BK103.out) : gb105 ≠ gb103)); have n8_ := Aside0.mk ((by rw [hg]; exact Nat.ne_of_lt (blk_lt BK104.out) : gb104 ≠ gb105)); have n9_ := Aside0.mk ((by rw [hg]; exact Nat.ne_of_gt (blk_lt BK104.out) : gb105 ≠ gb104)); clear BK103; clear BK104; clear HB; have BK103 := n0_; have BK104 := n1_; have HB := n2_; have BK105 := n3_; have GW105 := n4_; have GE105 := n5_; have NB103_105 := n6_; have NB105_103 := n7_; have NB104_105 := n8_; have NB105_104 := n9_; clear n0_ n1_ n2_ n3_ n4_ n5_ n6_ n7_ n8_ n9_; clear hb hbox hg; have hnb6 := NB104_103.out; have hnc6 := NB103_104.out; have hnb7 := NB104_105.out; have hnc7 := NB105_104.out; have hcz8_0 : w5.cell? ⟨gb104, 0, none⟩ = some (.int .i64 a1_0) := (blk_cell BK104.out 0).trans rfl; have hcz8_1 : w5.cell? ⟨gb104, 1, none⟩ = some (.int .i64 a1_1) := (blk_cell BK104.out 1).trans rfl; have hfz8_0 := blk_frozen BK104.out 0; have hfz8_1 := blk_frozen BK104.out 1; have hnb9 := NB103_105.out; have hnc9 := NB105_103.out; have hcz10_0 : w5.cell? ⟨gb103, 0, none⟩ = some (.int .i64 a0_0) := (blk_cell BK103.out 0).trans rfl; have hcz10_1 : w5.cell? ⟨gb103, 1, none⟩ = some (.int .i64 a0_1) := (blk_cell BK103.out 1).trans rfl; have hfz10_0 := blk_frozen BK103.out 0; have hfz10_1 := blk_frozen BK103.out 1; have hcz11_0 : w5.cell? ⟨gb105, 0, none⟩ = some (.int .i64 0) := (blk_cell BK105.out 0).trans rfl; have hcz11_1 : w5.cell? ⟨gb105, 1, none⟩ = some (.int .i64 0) := (blk_cell BK105.out 1).trans rfl; have hfz11_0 := blk_frozen BK105.out 0; have hfz11_1 := blk_frozen BK105.out 1))
 refine bodyPost_ret (results_cell_row rfl _ _ gb105 46 #[.int .i64 (wrap64 (a1_0 - a0_0)), .int .i64 (wrap64 (a1_1 - a0_1))] (0, 0) _ rfl (by (with_reducible repeat (first | refine blk_drewN ?_ _ | refine blk_drew ?_ | refine blk_alloc ?_ _)); refine blk_put (cs := #[.int .i64 (wrap64 (a1_0 - a0_0)), .int .i64 0]) ?_ 1 _ rfl; (with_reducible repeat (first | refine blk_drewN ?_ _ | refine blk_drew ?_ | refine blk_alloc ?_ _)); refine blk_put (cs := #[.int .i64 0, .int .i64 0]) ?_ 0 _ rfl; (with_reducible repeat (first | refine blk_drewN ?_ _ | refine blk_drew ?_ | refine blk_alloc ?_ _)); exact BK105.out) Try.underlying46 rfl (by kernel_rfl)) rfl ?_
 exact ⟨by first | rfl | (simp [errW_none, errW_some] <;> rfl) | (simp [*, errW_none, errW_some] <;> rfl), by repeat (first | (with_reducible first | exact HB.out | apply below_alloc | apply pw_below_drewN | apply below_drew1 | refine below_set ?_ GE103.out | refine below_set ?_ GE104.out | refine below_set ?_ GE105.out) | exact HB.out)⟩

/-! ### geom_vector_cross: function 31 -/
def geom_vector_cross.f (a0_0 : Int) (a0_1 : Int) (a1_0 : Int) (a1_1 : Int) : Option (Int) := some (wrap64 ((wrap64 (a0_0 * a1_1)) - (wrap64 (a0_1 * a1_0))))
set_option maxHeartbeats 8000000 in
set_option maxRecDepth 100000 in
theorem geom_vector_cross.calls (a0_0 : Int) (a0_1 : Int) (a1_0 : Int) (a1_1 : Int) (r : Int) (w : World) (h : geom_vector_cross.f a0_0 a0_1 a1_0 a1_1 = some r) :
    Calls Try.prog 31 #[.agg #[.int .i64 a0_0, .int .i64 a0_1], .agg #[.int .i64 a1_0, .int .i64 a1_1]] w fun e w' => e = .returned (.int .i64 r) ∧ Below w.heap.size w w' := by
 have hu46 := Try.underlying46
 have HB := Aside0.mk (Below.refl w.heap.size w)
 have H : (some (wrap64 ((wrap64 (a0_0 * a1_1)) - (wrap64 (a0_1 * a1_0))))) = some r := h
 clear h
 obtain rfl := Option.some.inj H
 go_enter Try.func31, Try.ntmps31
 go_wp2_with (first | ((with_reducible refine gate_dst (N := 2) rfl ?_); refine box_event ?hg (N := 2) ?hd (cs := #[.int .i64 a0_0, .int .i64 a0_1]) (t := 46) ?hr ?_; (case hd => rfl); (case hg => rfl); (case hr => first | (go_simp; done) | (go_simp; rfl)); intro gb106 hg w3 hbox hb; have n0_ := Aside0.mk (below_step HB.out hb); have n1_ := Aside0.mk (hbox); have n2_ := Aside0.mk ((by rw [hg]; exact (below_size HB.out) : w.heap.size ≤ gb106)); have n3_ := Aside0.mk ((by rw [hg]; exact (below_size HB.out) : w.heap.size ≤ gb106)); clear HB; have HB := n0_; have BK106 := n1_; have GW106 := n2_; have GE106 := n3_; clear n0_ n1_ n2_ n3_; clear hb hbox hg) | ((with_reducible refine gate_dst (N := 3) rfl ?_); refine box_event ?hg (N := 3) ?hd (cs := #[.int .i64 a1_0, .int .i64 a1_1]) (t := 46) ?hr ?_; (case hd => rfl); (case hg => rfl); (case hr => first | (go_simp; done) | (go_simp; rfl)); intro gb107 hg w4 hbox hb; have n0_ := Aside0.mk (blk_below BK106.out hb); have n1_ := Aside0.mk (below_step HB.out hb); have n2_ := Aside0.mk (hbox); have n3_ := Aside0.mk ((by rw [hg]; exact (below_size HB.out) : w.heap.size ≤ gb107)); have n4_ := Aside0.mk ((by rw [hg]; exact (below_size HB.out) : w.heap.size ≤ gb107)); have n5_ := Aside0.mk ((by rw [hg]; exact Nat.ne_of_lt (blk_lt BK106.out) : gb106 ≠ gb107)); have n6_ := Aside0.mk ((by rw [hg]; exact Nat.ne_of_gt (blk_lt BK106.out) : gb107 ≠ gb106)); clear BK106; clear HB; have BK106 := n0_; have HB := n1_; have BK107 := n2_; have GW107 := n3_; have GE107 := n4_; have NB106_107 := n5_; have NB107_106 := n6_; clear n0_ n1_ n2_ n3_ n4_ n5_ n6_; clear hb hbox hg; have hnb5 := NB106_107.out; have hnc5 := NB107_106.out; have hcz6_0 : w4.cell? ⟨gb106, 0, none⟩ = some (.int .i64 a0_0) := (blk_cell BK106.out 0).trans rfl; have hcz6_1 : w4.cell? ⟨gb106, 1, none⟩ = some (.int .i64 a0_1) := (blk_cell BK106.out 1).trans rfl; have hfz6_0 := blk_frozen BK106.out 0; have hfz6_1 := blk_frozen BK106.out 1; have hcz7_0 : w4.cell? ⟨gb107, 0, none⟩ = some (.int .i64 a1_0) := (blk_cell BK107.out 0).trans rfl; have hcz7_1 : w4.cell? ⟨gb107, 1, none⟩ = some (.int .i64 a1_1) := (blk_cell BK107.out 1).trans rfl; have hfz7_0 := blk_frozen BK107.out 0; have hfz7_1 := blk_frozen BK107.out 1))
 go_ret
 exact ⟨by first | rfl | (simp [errW_none, errW_some] <;> rfl) | (simp [*, errW_none, errW_some] <;> rfl), by repeat (first | (with_reducible first | exact HB.out | apply below_alloc | apply pw_below_drewN | apply below_drew1 | refine below_set ?_ GE106.out | refine below_set ?_ GE107.out) | exact HB.out)⟩

/-! ### cmp_isNaN_int: function 45 -/
def cmp_isNaN_int.f (a0 : Int) : Option (Bool) := some (a0 != a0)
set_option maxHeartbeats 8000000 in
set_option maxRecDepth 100000 in
theorem cmp_isNaN_int.calls (a0 : Int) (r : Bool) (w : World) (h : cmp_isNaN_int.f a0 = some r) :
    Calls Try.prog 45 #[.int .i64 a0] w fun e w' => e = .returned (.bool r) ∧ Drawn0 w w' := by
 have H : (some (a0 != a0)) = some r := h
 clear h
 obtain rfl := Option.some.inj H
 go_enter Try.func45, Try.ntmps45
 go_wp2
 go_ret
 exact ⟨by first | rfl | (simp; done) | (simp [*]; done), by repeat (first | exact Drawn0.refl _ | apply Drawn0.step)⟩

/-! ### cmp_Compare_int: function 32 -/
def cmp_Compare_int.f (a0 : Int) (a1 : Int) : Option (Int) := (cmp_isNaN_int.f a0).bind fun t108 => ((cmp_isNaN_int.f a1).bind fun t109 => (if t108 = true then (if t109 = true then (some 0) else (some (-1))) else (if t109 = true then (some 1) else (if a0 < a1 then (some (-1)) else (if a0 > a1 then (some 1) else (some 0))))))
set_option maxHeartbeats 8000000 in
set_option maxRecDepth 100000 in
theorem cmp_Compare_int.calls (a0 : Int) (a1 : Int) (r : Int) (w : World) (h : cmp_Compare_int.f a0 a1 = some r) :
    Calls Try.prog 32 #[.int .i64 a0, .int .i64 a1] w fun e w' => e = .returned (.int .i64 r) ∧ Drawn0 w w' := by
 have H : ((cmp_isNaN_int.f a0).bind fun t108 => ((cmp_isNaN_int.f a1).bind fun t109 => (if t108 = true then (if t109 = true then (some 0) else (some (-1))) else (if t109 = true then (some 1) else (if a0 < a1 then (some (-1)) else (if a0 > a1 then (some 1) else (some 0))))))) = some r := h
 clear h
 replace H := Option.bind_eq_some_iff.mp H
 obtain ⟨t108, A30, H⟩ := H
 replace H : ((cmp_isNaN_int.f a1).bind fun t109 => (if t108 = true then (if t109 = true then (some 0) else (some (-1))) else (if t109 = true then (some 1) else (if a0 < a1 then (some (-1)) else (if a0 > a1 then (some 1) else (some 0)))))) = some r := H
 have A3 := Aside0.mk A30
 clear A30
 replace H := Option.bind_eq_some_iff.mp H
 obtain ⟨t109, A40, H⟩ := H
 replace H : (if t108 = true then (if t109 = true then (some 0) else (some (-1))) else (if t109 = true then (some 1) else (if a0 < a1 then (some (-1)) else (if a0 > a1 then (some 1) else (some 0))))) = some r := H
 have A4 := Aside0.mk A40
 clear A40
 by_cases c5 : t108 = true
 ·subst c5
  have H1 : (if t109 = true then (some 0) else (some (-1))) = some r := by rw [if_pos rfl] at H; exact H
  clear H
  have H := H1
  clear H1
  by_cases c6 : t109 = true
  ·subst c6
   have H1 : (some 0) = some r := by rw [if_pos rfl] at H; exact H
   clear H
   have H := H1
   clear H1
   obtain rfl := Option.some.inj H
   go_enter Try.func32, Try.ntmps32
   go_wp2_with (first | ((with_reducible refine gate_callee (f := 45) rfl ?_); refine goesL_ (some 8) rfl rfl Try.func45 (by kernel_rfl) rfl #[.int .i64 a0] rfl (by (try simp only [List.map_toArray, List.map_cons, List.map_nil]); first | done | rfl | (simp only [List.length_drop, List.length_take]; rfl)) ?_; (with_reducible refine (cmp_isNaN_int.calls a0 true _ A3.out).mono ?_); rintro e w' ⟨rfl, ⟨nd, rfl⟩⟩; refine ⟨_, rfl, ?_⟩) | ((with_reducible refine gate_callee (f := 45) rfl ?_); refine goesL_ (some 10) rfl rfl Try.func45 (by kernel_rfl) rfl #[.int .i64 a1] rfl (by (try simp only [List.map_toArray, List.map_cons, List.map_nil]); first | done | rfl | (simp only [List.length_drop, List.length_take]; rfl)) ?_; (with_reducible refine (cmp_isNaN_int.calls a1 true _ A4.out).mono ?_); rintro e w' ⟨rfl, ⟨nd, rfl⟩⟩; refine ⟨_, rfl, ?_⟩))
   go_ret
   exact ⟨by first | rfl | (simp; done) | (simp [*]; done), by repeat (first | exact Drawn0.refl _ | apply Drawn0.step)⟩
  ·replace c6 := Bool.eq_false_iff.mpr c6
   subst c6
   have H1 : (some (-1)) = some r := by rw [if_neg (show ¬ (false = true) by decide)] at H; exact H
   clear H
   have H := H1
   clear H1
   obtain rfl := Option.some.inj H
   go_enter Try.func32, Try.ntmps32
   go_wp2_with (first | ((with_reducible refine gate_callee (f := 45) rfl ?_); refine goesL_ (some 8) rfl rfl Try.func45 (by kernel_rfl) rfl #[.int .i64 a0] rfl (by (try simp only [List.map_toArray, List.map_cons, List.map_nil]); first | done | rfl | (simp only [List.length_drop, List.length_take]; rfl)) ?_; (with_reducible refine (cmp_isNaN_int.calls a0 true _ A3.out).mono ?_); rintro e w' ⟨rfl, ⟨nd, rfl⟩⟩; refine ⟨_, rfl, ?_⟩) | ((with_reducible refine gate_callee (f := 45) rfl ?_); refine goesL_ (some 10) rfl rfl Try.func45 (by kernel_rfl) rfl #[.int .i64 a1] rfl (by (try simp only [List.map_toArray, List.map_cons, List.map_nil]); first | done | rfl | (simp only [List.length_drop, List.length_take]; rfl)) ?_; (with_reducible refine (cmp_isNaN_int.calls a1 false _ A4.out).mono ?_); rintro e w' ⟨rfl, ⟨nd, rfl⟩⟩; refine ⟨_, rfl, ?_⟩))
   go_ret
   exact ⟨by first | rfl | (simp; done) | (simp [*]; done), by repeat (first | exact Drawn0.refl _ | apply Drawn0.step)⟩
 ·replace c5 := Bool.eq_false_iff.mpr c5
  subst c5
  have H1 : (if t109 = true then (some 1) else (if a0 < a1 then (some (-1)) else (if a0 > a1 then (some 1) else (some 0)))) = some r := by rw [if_neg (show ¬ (false = true) by decide)] at H; exact H
  clear H
  have H := H1
  clear H1
  by_cases c7 : t109 = true
  ·subst c7
   have H1 : (some 1) = some r := by rw [if_pos rfl] at H; exact H
   clear H
   have H := H1
   clear H1
   obtain rfl := Option.some.inj H
   go_enter Try.func32, Try.ntmps32
   go_wp2_with (first | ((with_reducible refine gate_callee (f := 45) rfl ?_); refine goesL_ (some 8) rfl rfl Try.func45 (by kernel_rfl) rfl #[.int .i64 a0] rfl (by (try simp only [List.map_toArray, List.map_cons, List.map_nil]); first | done | rfl | (simp only [List.length_drop, List.length_take]; rfl)) ?_; (with_reducible refine (cmp_isNaN_int.calls a0 false _ A3.out).mono ?_); rintro e w' ⟨rfl, ⟨nd, rfl⟩⟩; refine ⟨_, rfl, ?_⟩) | ((with_reducible refine gate_callee (f := 45) rfl ?_); refine goesL_ (some 10) rfl rfl Try.func45 (by kernel_rfl) rfl #[.int .i64 a1] rfl (by (try simp only [List.map_toArray, List.map_cons, List.map_nil]); first | done | rfl | (simp only [List.length_drop, List.length_take]; rfl)) ?_; (with_reducible refine (cmp_isNaN_int.calls a1 true _ A4.out).mono ?_); rintro e w' ⟨rfl, ⟨nd, rfl⟩⟩; refine ⟨_, rfl, ?_⟩))
   go_ret
   exact ⟨by first | rfl | (simp; done) | (simp [*]; done), by repeat (first | exact Drawn0.refl _ | apply Drawn0.step)⟩
  ·replace c7 := Bool.eq_false_iff.mpr c7
   subst c7
   have H1 : (if a0 < a1 then (some (-1)) else (if a0 > a1 then (some 1) else (some 0))) = some r := by rw [if_neg (show ¬ (false = true) by decide)] at H; exact H
   clear H
   have H := H1
   clear H1
   by_cases c8 : a0 < a1
   ·rw [if_pos c8] at H
    have c8b0 : decide (a0 < a1) = true := decide_eq_true c8
    clear c8
    obtain rfl := Option.some.inj H
    go_enter Try.func32, Try.ntmps32
    go_wp2_with (first | ((with_reducible refine gate_callee (f := 45) rfl ?_); refine goesL_ (some 8) rfl rfl Try.func45 (by kernel_rfl) rfl #[.int .i64 a0] rfl (by (try simp only [List.map_toArray, List.map_cons, List.map_nil]); first | done | rfl | (simp only [List.length_drop, List.length_take]; rfl)) ?_; (with_reducible refine (cmp_isNaN_int.calls a0 false _ A3.out).mono ?_); rintro e w' ⟨rfl, ⟨nd, rfl⟩⟩; refine ⟨_, rfl, ?_⟩) | ((with_reducible refine gate_callee (f := 45) rfl ?_); refine goesL_ (some 10) rfl rfl Try.func45 (by kernel_rfl) rfl #[.int .i64 a1] rfl (by (try simp only [List.map_toArray, List.map_cons, List.map_nil]); first | done | rfl | (simp only [List.length_drop, List.length_take]; rfl)) ?_; (with_reducible refine (cmp_isNaN_int.calls a1 false _ A4.out).mono ?_); rintro e w' ⟨rfl, ⟨nd, rfl⟩⟩; refine ⟨_, rfl, ?_⟩))
    go_ret
    exact ⟨by first | rfl | (simp; done) | (simp [*]; done), by repeat (first | exact Drawn0.refl _ | apply Drawn0.step)⟩
   ·rw [if_neg c8] at H
    have c8b0 : decide (a0 < a1) = false := decide_eq_false c8
    clear c8
    by_cases c9 : a0 > a1
    ·rw [if_pos c9] at H
     have c9b0 : decide (a1 < a0) = true := decide_eq_true c9
     clear c9
     obtain rfl := Option.some.inj H
     go_enter Try.func32, Try.ntmps32
     go_wp2_with (first | ((with_reducible refine gate_callee (f := 45) rfl ?_); refine goesL_ (some 8) rfl rfl Try.func45 (by kernel_rfl) rfl #[.int .i64 a0] rfl (by (try simp only [List.map_toArray, List.map_cons, List.map_nil]); first | done | rfl | (simp only [List.length_drop, List.length_take]; rfl)) ?_; (with_reducible refine (cmp_isNaN_int.calls a0 false _ A3.out).mono ?_); rintro e w' ⟨rfl, ⟨nd, rfl⟩⟩; refine ⟨_, rfl, ?_⟩) | ((with_reducible refine gate_callee (f := 45) rfl ?_); refine goesL_ (some 10) rfl rfl Try.func45 (by kernel_rfl) rfl #[.int .i64 a1] rfl (by (try simp only [List.map_toArray, List.map_cons, List.map_nil]); first | done | rfl | (simp only [List.length_drop, List.length_take]; rfl)) ?_; (with_reducible refine (cmp_isNaN_int.calls a1 false _ A4.out).mono ?_); rintro e w' ⟨rfl, ⟨nd, rfl⟩⟩; refine ⟨_, rfl, ?_⟩))
     go_ret
     exact ⟨by first | rfl | (simp; done) | (simp [*]; done), by repeat (first | exact Drawn0.refl _ | apply Drawn0.step)⟩
    ·rw [if_neg c9] at H
     have c9b0 : decide (a1 < a0) = false := decide_eq_false c9
     clear c9
     obtain rfl := Option.some.inj H
     go_enter Try.func32, Try.ntmps32
     go_wp2_with (first | ((with_reducible refine gate_callee (f := 45) rfl ?_); refine goesL_ (some 8) rfl rfl Try.func45 (by kernel_rfl) rfl #[.int .i64 a0] rfl (by (try simp only [List.map_toArray, List.map_cons, List.map_nil]); first | done | rfl | (simp only [List.length_drop, List.length_take]; rfl)) ?_; (with_reducible refine (cmp_isNaN_int.calls a0 false _ A3.out).mono ?_); rintro e w' ⟨rfl, ⟨nd, rfl⟩⟩; refine ⟨_, rfl, ?_⟩) | ((with_reducible refine gate_callee (f := 45) rfl ?_); refine goesL_ (some 10) rfl rfl Try.func45 (by kernel_rfl) rfl #[.int .i64 a1] rfl (by (try simp only [List.map_toArray, List.map_cons, List.map_nil]); first | done | rfl | (simp only [List.length_drop, List.length_take]; rfl)) ?_; (with_reducible refine (cmp_isNaN_int.calls a1 false _ A4.out).mono ?_); rintro e w' ⟨rfl, ⟨nd, rfl⟩⟩; refine ⟨_, rfl, ?_⟩))
     go_ret
     exact ⟨by first | rfl | (simp; done) | (simp [*]; done), by repeat (first | exact Drawn0.refl _ | apply Drawn0.step)⟩

/-! ### geom_Orient: function 11 -/
def geom_Orient.f (k : Nat) (a0_0 : Int) (a0_1 : Int) (a1_0 : Int) (a1_1 : Int) (a2_0 : Int) (a2_1 : Int) : Option (Int) := (geom_near.f k (([(⟨a0_0, a0_1⟩ : S23), (⟨a1_0, a1_1⟩ : S23), (⟨a2_0, a2_1⟩ : S23)] : List (S23)))).bind fun t116 => (if t116 = true then ((geom_to.f a0_0 a0_1 a1_0 a1_1).bind fun bt117 => ((geom_to.f a0_0 a0_1 a2_0 a2_1).bind fun bt119 => ((geom_vector_cross.f bt117.1 bt117.2 bt119.1 bt119.2).bind fun t121 => ((cmp_Compare_int.f t121 0).bind fun t122 => (some t122))))) else (some 0))
theorem geom_Orient.mono : ∀ a0 a1 a2 a3 a4 a5 k, LeO (geom_Orient.f k a0 a1 a2 a3 a4 a5) (geom_Orient.f (k + 1) a0 a1 a2 a3 a4 a5) := by
  intro a0 a1 a2 a3 a4 a5 k
  unfold geom_Orient.f
  repeat' first
      | (with_reducible exact geom_near.mono _ _)
      | (with_reducible exact LeO.refl _)
      | (with_reducible exact LeO.none _)
      | (with_reducible refine LeO.ite ?_ ?_)
      | (with_reducible refine LeO.bind ?_ (fun _ => ?_))
      | exact geom_near.mono _ _
      | exact LeO.none _
      | refine LeO.ite ?_ ?_
      | refine LeO.bind ?_ (fun _ => ?_)
set_option maxHeartbeats 8000000 in
set_option maxRecDepth 100000 in
theorem geom_Orient.calls (k : Nat) (a0_0 : Int) (a0_1 : Int) (a1_0 : Int) (a1_1 : Int) (a2_0 : Int) (a2_1 : Int) (r : Int) (w : World) (h : geom_Orient.f k a0_0 a0_1 a1_0 a1_1 a2_0 a2_1 = some r) :
    Calls Try.prog 11 #[.agg #[.int .i64 a0_0, .int .i64 a0_1], .agg #[.int .i64 a1_0, .int .i64 a1_1], .agg #[.int .i64 a2_0, .int .i64 a2_1]] w fun e w' => e = .returned (.int .i64 r) ∧ Below w.heap.size w w' := by
 have hu23 := Try.underlying23
 have HB := Aside0.mk (Below.refl w.heap.size w)
 have H : ((geom_near.f k (([(⟨a0_0, a0_1⟩ : S23), (⟨a1_0, a1_1⟩ : S23), (⟨a2_0, a2_1⟩ : S23)] : List (S23)))).bind fun t116 => (if t116 = true then ((geom_to.f a0_0 a0_1 a1_0 a1_1).bind fun bt117 => ((geom_to.f a0_0 a0_1 a2_0 a2_1).bind fun bt119 => ((geom_vector_cross.f bt117.1 bt117.2 bt119.1 bt119.2).bind fun t121 => ((cmp_Compare_int.f t121 0).bind fun t122 => (some t122))))) else (some 0))) = some r := h
 clear h
 obtain ⟨y113, hy113⟩ : ∃ y_ : List (S23), y_ = (([(⟨a0_0, a0_1⟩ : S23), (⟨a1_0, a1_1⟩ : S23), (⟨a2_0, a2_1⟩ : S23)] : List (S23))) := ⟨_, rfl⟩
 replace H : ((geom_near.f k y113).bind fun t116 => (if t116 = true then ((geom_to.f a0_0 a0_1 a1_0 a1_1).bind fun bt117 => ((geom_to.f a0_0 a0_1 a2_0 a2_1).bind fun bt119 => ((geom_vector_cross.f bt117.1 bt117.2 bt119.1 bt119.2).bind fun t121 => ((cmp_Compare_int.f t121 0).bind fun t122 => (some t122))))) else (some 0))) = some r := by first | (rw [hy113]; with_reducible exact H) | (have H2_ := (Option.bind_some _ _).symm.trans H; rw [hy113]; with_reducible exact H2_) | (have H2_ := (Option.bind_some _ _).symm.trans H; with_reducible exact H2_) | with_reducible exact H | (rw [hy113]; exact H) | exact H
 have Ny113 := Aside0.mk hy113
 clear hy113
 replace H := Option.bind_eq_some_iff.mp H
 obtain ⟨t116, A40, H⟩ := H
 replace H : (if t116 = true then ((geom_to.f a0_0 a0_1 a1_0 a1_1).bind fun bt117 => ((geom_to.f a0_0 a0_1 a2_0 a2_1).bind fun bt119 => ((geom_vector_cross.f bt117.1 bt117.2 bt119.1 bt119.2).bind fun t121 => ((cmp_Compare_int.f t121 0).bind fun t122 => (some t122))))) else (some 0)) = some r := H
 have A4 := Aside0.mk A40
 clear A40
 by_cases c5 : t116 = true
 ·subst c5
  have H1 : ((geom_to.f a0_0 a0_1 a1_0 a1_1).bind fun bt117 => ((geom_to.f a0_0 a0_1 a2_0 a2_1).bind fun bt119 => ((geom_vector_cross.f bt117.1 bt117.2 bt119.1 bt119.2).bind fun t121 => ((cmp_Compare_int.f t121 0).bind fun t122 => (some t122))))) = some r := by rw [if_pos rfl] at H; exact H
  clear H
  have H := H1
  clear H1
  replace H := Option.bind_eq_some_iff.mp H
  obtain ⟨⟨t117, t118⟩, A60, H⟩ := H
  replace H : ((geom_to.f a0_0 a0_1 a2_0 a2_1).bind fun bt119 => ((geom_vector_cross.f t117 t118 bt119.1 bt119.2).bind fun t121 => ((cmp_Compare_int.f t121 0).bind fun t122 => (some t122)))) = some r := H
  have A6 := Aside0.mk A60
  clear A60
  replace H := Option.bind_eq_some_iff.mp H
  obtain ⟨⟨t119, t120⟩, A70, H⟩ := H
  replace H : ((geom_vector_cross.f t117 t118 t119 t120).bind fun t121 => ((cmp_Compare_int.f t121 0).bind fun t122 => (some t122))) = some r := H
  have A7 := Aside0.mk A70
  clear A70
  replace H := Option.bind_eq_some_iff.mp H
  obtain ⟨t121, A80, H⟩ := H
  replace H : ((cmp_Compare_int.f t121 0).bind fun t122 => (some t122)) = some r := H
  have A8 := Aside0.mk A80
  clear A80
  replace H := Option.bind_eq_some_iff.mp H
  obtain ⟨t122, A90, H⟩ := H
  replace H : (some t122) = some r := H
  have A9 := Aside0.mk A90
  clear A90
  obtain rfl := Option.some.inj H
  go_enter Try.func11, Try.ntmps11
  go_wp2_with (first | ((with_reducible refine gate_dst (N := 3) rfl ?_); refine box_event ?hg (N := 3) ?hd (cs := #[.int .i64 a0_0, .int .i64 a0_1]) (t := 23) ?hr ?_; (case hd => rfl); (case hg => rfl); (case hr => first | (go_simp; done) | (go_simp; rfl)); intro gb110 hg w10 hbox hb; have n0_ := Aside0.mk (below_step HB.out hb); have n1_ := Aside0.mk (hbox); have n2_ := Aside0.mk ((by rw [hg]; exact (below_size HB.out) : w.heap.size ≤ gb110)); have n3_ := Aside0.mk ((by rw [hg]; exact (below_size HB.out) : w.heap.size ≤ gb110)); clear HB; have HB := n0_; have BK110 := n1_; have GW110 := n2_; have GE110 := n3_; clear n0_ n1_ n2_ n3_; clear hb hbox hg) | ((with_reducible refine gate_dst (N := 4) rfl ?_); refine box_event ?hg (N := 4) ?hd (cs := #[.int .i64 a1_0, .int .i64 a1_1]) (t := 23) ?hr ?_; (case hd => rfl); (case hg => rfl); (case hr => first | (go_simp; done) | (go_simp; rfl)); intro gb111 hg w11 hbox hb; have n0_ := Aside0.mk (blk_below BK110.out hb); have n1_ := Aside0.mk (below_step HB.out hb); have n2_ := Aside0.mk (hbox); have n3_ := Aside0.mk ((by rw [hg]; exact (below_size HB.out) : w.heap.size ≤ gb111)); have n4_ := Aside0.mk ((by rw [hg]; exact (below_size HB.out) : w.heap.size ≤ gb111)); have n5_ := Aside0.mk ((by rw [hg]; exact Nat.ne_of_lt (blk_lt BK110.out) : gb110 ≠ gb111)); have n6_ := Aside0.mk ((by rw [hg]; exact Nat.ne_of_gt (blk_lt BK110.out) : gb111 ≠ gb110)); clear BK110; clear HB; have BK110 := n0_; have HB := n1_; have BK111 := n2_; have GW111 := n3_; have GE111 := n4_; have NB110_111 := n5_; have NB111_110 := n6_; clear n0_ n1_ n2_ n3_ n4_ n5_ n6_; clear hb hbox hg) | ((with_reducible refine gate_dst (N := 5) rfl ?_); refine box_event ?hg (N := 5) ?hd (cs := #[.int .i64 a2_0, .int .i64 a2_1]) (t := 23) ?hr ?_; (case hd => rfl); (case hg => rfl); (case hr => first | (go_simp; done) | (go_simp; rfl)); intro gb112 hg w12 hbox hb; have n0_ := Aside0.mk (blk_below BK110.out hb); have n1_ := Aside0.mk (blk_below BK111.out hb); have n2_ := Aside0.mk (below_step HB.out hb); have n3_ := Aside0.mk (hbox); have n4_ := Aside0.mk ((by rw [hg]; exact (below_size HB.out) : w.heap.size ≤ gb112)); have n5_ := Aside0.mk ((by rw [hg]; exact (below_size HB.out) : w.heap.size ≤ gb112)); have n6_ := Aside0.mk ((by rw [hg]; exact Nat.ne_of_lt (blk_lt BK110.out) : gb110 ≠ gb112)); have n7_ := Aside0.mk ((by rw [hg]; exact Nat.ne_of_gt (blk_lt BK110.out) : gb112 ≠ gb110)); have n8_ := Aside0.mk ((by rw [hg]; exact Nat.ne_of_lt (blk_lt BK111.out) : gb111 ≠ gb112)); have n9_ := Aside0.mk ((by rw [hg]; exact Nat.ne_of_gt (blk_lt BK111.out) : gb112 ≠ gb111)); clear BK110; clear BK111; clear HB; have BK110 := n0_; have BK111 := n1_; have HB := n2_; have BK112 := n3_; have GW112 := n4_; have GE112 := n5_; have NB110_112 := n6_; have NB112_110 := n7_; have NB111_112 := n8_; have NB112_111 := n9_; clear n0_ n1_ n2_ n3_ n4_ n5_ n6_ n7_ n8_ n9_; clear hb hbox hg; have hnb13 := NB110_111.out; have hnc13 := NB111_110.out; have hnb14 := NB110_112.out; have hnc14 := NB112_110.out; have hcz15_0 : w12.cell? ⟨gb110, 0, none⟩ = some (.int .i64 a0_0) := (blk_cell BK110.out 0).trans rfl; have hcz15_1 : w12.cell? ⟨gb110, 1, none⟩ = some (.int .i64 a0_1) := (blk_cell BK110.out 1).trans rfl; have hfz15_0 := blk_frozen BK110.out 0; have hfz15_1 := blk_frozen BK110.out 1; have hnb16 := NB111_112.out; have hnc16 := NB112_111.out; have hcz17_0 : w12.cell? ⟨gb111, 0, none⟩ = some (.int .i64 a1_0) := (blk_cell BK111.out 0).trans rfl; have hcz17_1 : w12.cell? ⟨gb111, 1, none⟩ = some (.int .i64 a1_1) := (blk_cell BK111.out 1).trans rfl; have hfz17_0 := blk_frozen BK111.out 0; have hfz17_1 := blk_frozen BK111.out 1; have hcz18_0 : w12.cell? ⟨gb112, 0, none⟩ = some (.int .i64 a2_0) := (blk_cell BK112.out 0).trans rfl; have hcz18_1 : w12.cell? ⟨gb112, 1, none⟩ = some (.int .i64 a2_1) := (blk_cell BK112.out 1).trans rfl; have hfz18_0 := blk_frozen BK112.out 0; have hfz18_1 := blk_frozen BK112.out 1) | ((with_reducible refine gate_dst (N := 11) rfl ?_); refine Kd.R_lit k23 _ 23 ?hg (N := 11) ?hd (xs := ([(⟨a0_0, a0_1⟩ : S23), (⟨a1_0, a1_1⟩ : S23), (⟨a2_0, a2_1⟩ : S23)] : List (S23))) (inner := [.int .i64 a0_0, .int .i64 a0_1, .int .i64 a1_0, .int .i64 a1_1, .int .i64 a2_0, .int .i64 a2_1]) (ok := fun _ => True) (okp := fun _ => True) ?hr ?hp (fun _ hk => hk) trivial (Below.refl _ _) (Nat.le_refl _) (by simp) ?_; (case hd => rfl); (case hg => rfl); (case hr => first | (go_simp; done) | (go_simp; rfl)); (case hp => exact (Reps.c2 (show Kd.M k23 _ _ _ (⟨a0_0, a0_1⟩ : S23) [.int .i64 a0_0, .int .i64 a0_1] from (k23_mkM _ _ _ (⟨a0_0, a0_1⟩ : S23) )) (Reps.c2 (show Kd.M k23 _ _ _ (⟨a1_0, a1_1⟩ : S23) [.int .i64 a1_0, .int .i64 a1_1] from (k23_mkM _ _ _ (⟨a1_0, a1_1⟩ : S23) )) (Reps.c2 (show Kd.M k23 _ _ _ (⟨a2_0, a2_1⟩ : S23) [.int .i64 a2_0, .int .i64 a2_1] from (k23_mkM _ _ _ (⟨a2_0, a2_1⟩ : S23) )) (Reps.none _ _))))); intro v114 w19 ho20 hb hg_ hnew_; clear hg_ hnew_; (first | rw [← Ny113.out] at ho20 | (simp only [Int.reduceToNat] at ho20; rw [← Ny113.out] at ho20)); have n0_ := Aside0.mk (Kd.R_lower (Kd.R_newB (Kd.R_newB (Kd.R_newB ho20 BK110.out) BK111.out) BK112.out) (below_size HB.out)); have n1_ := Aside0.mk (blk_below BK110.out hb); have n2_ := Aside0.mk (blk_below BK111.out hb); have n3_ := Aside0.mk (blk_below BK112.out hb); have n4_ := Aside0.mk (below_step HB.out hb); clear BK110; clear BK111; clear BK112; clear HB; have HO115 := n0_; have BK110 := n1_; have BK111 := n2_; have BK112 := n3_; have HB := n4_; clear n0_ n1_ n2_ n3_ n4_; clear hb ho20; obtain ⟨Ao21, co21, eo21⟩ := Kd.R_slice HO115.out; subst eo21) | ((with_reducible refine gate_callee (f := 29) rfl ?_); refine goesL_ (some 12) rfl rfl Try.func29 (by kernel_rfl) rfl #[.slice Ao21 y113.length co21] rfl (by (try simp only [List.map_toArray, List.map_cons, List.map_nil]); first | done | rfl | (simp only [List.length_drop, List.length_take]; rfl)) ?_; (with_reducible refine (geom_near.calls k _ _ y113 true _ ?side1 ?side2 A4.out).mono ?_); (case side1 => repeat (first | exact (Kd.R_reads' HO115.out).2.2 | (with_reducible refine Kd.C_alloc ?_ _) | (with_reducible refine Kd.C_drewN ?_ _) | (with_reducible refine Kd.C_drew ?_))); (case side2 => exact (Kd.R_reads' HO115.out).2.1); rintro e w22 ⟨rfl, hb⟩; refine ⟨_, rfl, ?_⟩; have n0_ := Aside0.mk (Kd.R_below HO115.out hb); have n1_ := Aside0.mk (blk_below BK110.out hb); have n2_ := Aside0.mk (blk_below BK111.out hb); have n3_ := Aside0.mk (blk_below BK112.out hb); have n4_ := Aside0.mk (below_step HB.out hb); clear HO115; clear BK110; clear BK111; clear BK112; clear HB; have HO115 := n0_; have BK110 := n1_; have BK111 := n2_; have BK112 := n3_; have HB := n4_; clear n0_ n1_ n2_ n3_ n4_; (try clear hb); (try clear hb2); (try clear hk); (try clear hi); have hcz23_0 : w22.cell? ⟨gb110, 0, none⟩ = some (.int .i64 a0_0) := (blk_cell BK110.out 0).trans rfl; have hcz23_1 : w22.cell? ⟨gb110, 1, none⟩ = some (.int .i64 a0_1) := (blk_cell BK110.out 1).trans rfl; have hfz23_0 := blk_frozen BK110.out 0; have hfz23_1 := blk_frozen BK110.out 1; have hcz24_0 : w22.cell? ⟨gb111, 0, none⟩ = some (.int .i64 a1_0) := (blk_cell BK111.out 0).trans rfl; have hcz24_1 : w22.cell? ⟨gb111, 1, none⟩ = some (.int .i64 a1_1) := (blk_cell BK111.out 1).trans rfl; have hfz24_0 := blk_frozen BK111.out 0; have hfz24_1 := blk_frozen BK111.out 1) | ((with_reducible refine gate_callee (f := 30) rfl ?_); refine goesL_ (some 16) rfl rfl Try.func30 (by kernel_rfl) rfl #[.agg #[.int .i64 a0_0, .int .i64 a0_1], .agg #[.int .i64 a1_0, .int .i64 a1_1]] rfl (by (try simp only [List.map_toArray, List.map_cons, List.map_nil]); first | done | rfl | (simp only [List.length_drop, List.length_take]; rfl)) ?_; (with_reducible refine (geom_to.calls a0_0 a0_1 a1_0 a1_1 t117 t118 _ A6.out).mono ?_); rintro e w25 ⟨rfl, hb⟩; refine ⟨_, rfl, ?_⟩; have n0_ := Aside0.mk (Kd.R_below HO115.out hb); have n1_ := Aside0.mk (blk_below BK110.out hb); have n2_ := Aside0.mk (blk_below BK111.out hb); have n3_ := Aside0.mk (blk_below BK112.out hb); have n4_ := Aside0.mk (below_step HB.out hb); clear HO115; clear BK110; clear BK111; clear BK112; clear HB; have HO115 := n0_; have BK110 := n1_; have BK111 := n2_; have BK112 := n3_; have HB := n4_; clear n0_ n1_ n2_ n3_ n4_; (try clear hb); (try clear hb2); (try clear hk); (try clear hi); have hcz26_0 : w25.cell? ⟨gb110, 0, none⟩ = some (.int .i64 a0_0) := (blk_cell BK110.out 0).trans rfl; have hcz26_1 : w25.cell? ⟨gb110, 1, none⟩ = some (.int .i64 a0_1) := (blk_cell BK110.out 1).trans rfl; have hfz26_0 := blk_frozen BK110.out 0; have hfz26_1 := blk_frozen BK110.out 1; have hcz27_0 : w25.cell? ⟨gb112, 0, none⟩ = some (.int .i64 a2_0) := (blk_cell BK112.out 0).trans rfl; have hcz27_1 : w25.cell? ⟨gb112, 1, none⟩ = some (.int .i64 a2_1) := (blk_cell BK112.out 1).trans rfl; have hfz27_0 := blk_frozen BK112.out 0; have hfz27_1 := blk_frozen BK112.out 1) | ((with_reducible refine gate_callee (f := 30) rfl ?_); refine goesL_ (some 21) rfl rfl Try.func30 (by kernel_rfl) rfl #[.agg #[.int .i64 a0_0, .int .i64 a0_1], .agg #[.int .i64 a2_0, .int .i64 a2_1]] rfl (by (try simp only [List.map_toArray, List.map_cons, List.map_nil]); first | done | rfl | (simp only [List.length_drop, List.length_take]; rfl)) ?_; (with_reducible refine (geom_to.calls a0_0 a0_1 a2_0 a2_1 t119 t120 _ A7.out).mono ?_); rintro e w28 ⟨rfl, hb⟩; refine ⟨_, rfl, ?_⟩; have n0_ := Aside0.mk (Kd.R_below HO115.out hb); have n1_ := Aside0.mk (blk_below BK110.out hb); have n2_ := Aside0.mk (blk_below BK111.out hb); have n3_ := Aside0.mk (blk_below BK112.out hb); have n4_ := Aside0.mk (below_step HB.out hb); clear HO115; clear BK110; clear BK111; clear BK112; clear HB; have HO115 := n0_; have BK110 := n1_; have BK111 := n2_; have BK112 := n3_; have HB := n4_; clear n0_ n1_ n2_ n3_ n4_; (try clear hb); (try clear hb2); (try clear hk); (try clear hi)) | (go_at_call 31; (with_reducible refine (geom_vector_cross.calls t117 t118 t119 t120 t121 _ A8.out).mono ?_); rintro e w29 ⟨rfl, hb⟩; have n0_ := Aside0.mk (Kd.R_below HO115.out hb); have n1_ := Aside0.mk (blk_below BK110.out hb); have n2_ := Aside0.mk (blk_below BK111.out hb); have n3_ := Aside0.mk (blk_below BK112.out hb); have n4_ := Aside0.mk (below_step HB.out hb); clear HO115; clear BK110; clear BK111; clear BK112; clear HB; have HO115 := n0_; have BK110 := n1_; have BK111 := n2_; have BK112 := n3_; have HB := n4_; clear n0_ n1_ n2_ n3_ n4_; (try clear hb); (try clear hb2); (try clear hk); (try clear hi)) | ((with_reducible refine gate_callee (f := 32) rfl ?_); refine goesL_ (some 23) rfl rfl Try.func32 (by kernel_rfl) rfl #[.int .i64 t121, .int .i64 0] rfl (by (try simp only [List.map_toArray, List.map_cons, List.map_nil]); first | done | rfl | (simp only [List.length_drop, List.length_take]; rfl)) ?_; (with_reducible refine (cmp_Compare_int.calls t121 0 t122 _ A9.out).mono ?_); rintro e w' ⟨rfl, ⟨nd, rfl⟩⟩; refine ⟨_, rfl, ?_⟩))
  go_ret
  exact ⟨by first | rfl | (simp [errW_none, errW_some] <;> rfl) | (simp [*, errW_none, errW_some] <;> rfl), by repeat (first | (with_reducible first | exact HB.out | apply below_alloc | apply pw_below_drewN | apply below_drew1 | refine below_set ?_ GE110.out | refine below_set ?_ GE111.out | refine below_set ?_ GE112.out) | exact HB.out)⟩
 ·replace c5 := Bool.eq_false_iff.mpr c5
  subst c5
  have H1 : (some 0) = some r := by rw [if_neg (show ¬ (false = true) by decide)] at H; exact H
  clear H
  have H := H1
  clear H1
  obtain rfl := Option.some.inj H
  go_enter Try.func11, Try.ntmps11
  go_wp2_with (first | ((with_reducible refine gate_dst (N := 3) rfl ?_); refine box_event ?hg (N := 3) ?hd (cs := #[.int .i64 a0_0, .int .i64 a0_1]) (t := 23) ?hr ?_; (case hd => rfl); (case hg => rfl); (case hr => first | (go_simp; done) | (go_simp; rfl)); intro gb110 hg w30 hbox hb; have n0_ := Aside0.mk (below_step HB.out hb); have n1_ := Aside0.mk (hbox); have n2_ := Aside0.mk ((by rw [hg]; exact (below_size HB.out) : w.heap.size ≤ gb110)); have n3_ := Aside0.mk ((by rw [hg]; exact (below_size HB.out) : w.heap.size ≤ gb110)); clear HB; have HB := n0_; have BK110 := n1_; have GW110 := n2_; have GE110 := n3_; clear n0_ n1_ n2_ n3_; clear hb hbox hg) | ((with_reducible refine gate_dst (N := 4) rfl ?_); refine box_event ?hg (N := 4) ?hd (cs := #[.int .i64 a1_0, .int .i64 a1_1]) (t := 23) ?hr ?_; (case hd => rfl); (case hg => rfl); (case hr => first | (go_simp; done) | (go_simp; rfl)); intro gb111 hg w31 hbox hb; have n0_ := Aside0.mk (blk_below BK110.out hb); have n1_ := Aside0.mk (below_step HB.out hb); have n2_ := Aside0.mk (hbox); have n3_ := Aside0.mk ((by rw [hg]; exact (below_size HB.out) : w.heap.size ≤ gb111)); have n4_ := Aside0.mk ((by rw [hg]; exact (below_size HB.out) : w.heap.size ≤ gb111)); have n5_ := Aside0.mk ((by rw [hg]; exact Nat.ne_of_lt (blk_lt BK110.out) : gb110 ≠ gb111)); have n6_ := Aside0.mk ((by rw [hg]; exact Nat.ne_of_gt (blk_lt BK110.out) : gb111 ≠ gb110)); clear BK110; clear HB; have BK110 := n0_; have HB := n1_; have BK111 := n2_; have GW111 := n3_; have GE111 := n4_; have NB110_111 := n5_; have NB111_110 := n6_; clear n0_ n1_ n2_ n3_ n4_ n5_ n6_; clear hb hbox hg) | ((with_reducible refine gate_dst (N := 5) rfl ?_); refine box_event ?hg (N := 5) ?hd (cs := #[.int .i64 a2_0, .int .i64 a2_1]) (t := 23) ?hr ?_; (case hd => rfl); (case hg => rfl); (case hr => first | (go_simp; done) | (go_simp; rfl)); intro gb112 hg w32 hbox hb; have n0_ := Aside0.mk (blk_below BK110.out hb); have n1_ := Aside0.mk (blk_below BK111.out hb); have n2_ := Aside0.mk (below_step HB.out hb); have n3_ := Aside0.mk (hbox); have n4_ := Aside0.mk ((by rw [hg]; exact (below_size HB.out) : w.heap.size ≤ gb112)); have n5_ := Aside0.mk ((by rw [hg]; exact (below_size HB.out) : w.heap.size ≤ gb112)); have n6_ := Aside0.mk ((by rw [hg]; exact Nat.ne_of_lt (blk_lt BK110.out) : gb110 ≠ gb112)); have n7_ := Aside0.mk ((by rw [hg]; exact Nat.ne_of_gt (blk_lt BK110.out) : gb112 ≠ gb110)); have n8_ := Aside0.mk ((by rw [hg]; exact Nat.ne_of_lt (blk_lt BK111.out) : gb111 ≠ gb112)); have n9_ := Aside0.mk ((by rw [hg]; exact Nat.ne_of_gt (blk_lt BK111.out) : gb112 ≠ gb111)); clear BK110; clear BK111; clear HB; have BK110 := n0_; have BK111 := n1_; have HB := n2_; have BK112 := n3_; have GW112 := n4_; have GE112 := n5_; have NB110_112 := n6_; have NB112_110 := n7_; have NB111_112 := n8_; have NB112_111 := n9_; clear n0_ n1_ n2_ n3_ n4_ n5_ n6_ n7_ n8_ n9_; clear hb hbox hg; have hnb33 := NB110_111.out; have hnc33 := NB111_110.out; have hnb34 := NB110_112.out; have hnc34 := NB112_110.out; have hcz35_0 : w32.cell? ⟨gb110, 0, none⟩ = some (.int .i64 a0_0) := (blk_cell BK110.out 0).trans rfl; have hcz35_1 : w32.cell? ⟨gb110, 1, none⟩ = some (.int .i64 a0_1) := (blk_cell BK110.out 1).trans rfl; have hfz35_0 := blk_frozen BK110.out 0; have hfz35_1 := blk_frozen BK110.out 1; have hnb36 := NB111_112.out; have hnc36 := NB112_111.out; have hcz37_0 : w32.cell? ⟨gb111, 0, none⟩ = some (.int .i64 a1_0) := (blk_cell BK111.out 0).trans rfl; have hcz37_1 : w32.cell? ⟨gb111, 1, none⟩ = some (.int .i64 a1_1) := (blk_cell BK111.out 1).trans rfl; have hfz37_0 := blk_frozen BK111.out 0; have hfz37_1 := blk_frozen BK111.out 1; have hcz38_0 : w32.cell? ⟨gb112, 0, none⟩ = some (.int .i64 a2_0) := (blk_cell BK112.out 0).trans rfl; have hcz38_1 : w32.cell? ⟨gb112, 1, none⟩ = some (.int .i64 a2_1) := (blk_cell BK112.out 1).trans rfl; have hfz38_0 := blk_frozen BK112.out 0; have hfz38_1 := blk_frozen BK112.out 1) | ((with_reducible refine gate_dst (N := 11) rfl ?_); refine Kd.R_lit k23 _ 23 ?hg (N := 11) ?hd (xs := ([(⟨a0_0, a0_1⟩ : S23), (⟨a1_0, a1_1⟩ : S23), (⟨a2_0, a2_1⟩ : S23)] : List (S23))) (inner := [.int .i64 a0_0, .int .i64 a0_1, .int .i64 a1_0, .int .i64 a1_1, .int .i64 a2_0, .int .i64 a2_1]) (ok := fun _ => True) (okp := fun _ => True) ?hr ?hp (fun _ hk => hk) trivial (Below.refl _ _) (Nat.le_refl _) (by simp) ?_; (case hd => rfl); (case hg => rfl); (case hr => first | (go_simp; done) | (go_simp; rfl)); (case hp => exact (Reps.c2 (show Kd.M k23 _ _ _ (⟨a0_0, a0_1⟩ : S23) [.int .i64 a0_0, .int .i64 a0_1] from (k23_mkM _ _ _ (⟨a0_0, a0_1⟩ : S23) )) (Reps.c2 (show Kd.M k23 _ _ _ (⟨a1_0, a1_1⟩ : S23) [.int .i64 a1_0, .int .i64 a1_1] from (k23_mkM _ _ _ (⟨a1_0, a1_1⟩ : S23) )) (Reps.c2 (show Kd.M k23 _ _ _ (⟨a2_0, a2_1⟩ : S23) [.int .i64 a2_0, .int .i64 a2_1] from (k23_mkM _ _ _ (⟨a2_0, a2_1⟩ : S23) )) (Reps.none _ _))))); intro v114 w39 ho40 hb hg_ hnew_; clear hg_ hnew_; (first | rw [← Ny113.out] at ho40 | (simp only [Int.reduceToNat] at ho40; rw [← Ny113.out] at ho40)); have n0_ := Aside0.mk (Kd.R_lower (Kd.R_newB (Kd.R_newB (Kd.R_newB ho40 BK110.out) BK111.out) BK112.out) (below_size HB.out)); have n1_ := Aside0.mk (blk_below BK110.out hb); have n2_ := Aside0.mk (blk_below BK111.out hb); have n3_ := Aside0.mk (blk_below BK112.out hb); have n4_ := Aside0.mk (below_step HB.out hb); clear BK110; clear BK111; clear BK112; clear HB; have HO115 := n0_; have BK110 := n1_; have BK111 := n2_; have BK112 := n3_; have HB := n4_; clear n0_ n1_ n2_ n3_ n4_; clear hb ho40; obtain ⟨Ao41, co41, eo41⟩ := Kd.R_slice HO115.out; subst eo41) | ((with_reducible refine gate_callee (f := 29) rfl ?_); refine goesL_ (some 12) rfl rfl Try.func29 (by kernel_rfl) rfl #[.slice Ao41 y113.length co41] rfl (by (try simp only [List.map_toArray, List.map_cons, List.map_nil]); first | done | rfl | (simp only [List.length_drop, List.length_take]; rfl)) ?_; (with_reducible refine (geom_near.calls k _ _ y113 false _ ?side1 ?side2 A4.out).mono ?_); (case side1 => repeat (first | exact (Kd.R_reads' HO115.out).2.2 | (with_reducible refine Kd.C_alloc ?_ _) | (with_reducible refine Kd.C_drewN ?_ _) | (with_reducible refine Kd.C_drew ?_))); (case side2 => exact (Kd.R_reads' HO115.out).2.1); rintro e w42 ⟨rfl, hb⟩; refine ⟨_, rfl, ?_⟩; have n0_ := Aside0.mk (Kd.R_below HO115.out hb); have n1_ := Aside0.mk (blk_below BK110.out hb); have n2_ := Aside0.mk (blk_below BK111.out hb); have n3_ := Aside0.mk (blk_below BK112.out hb); have n4_ := Aside0.mk (below_step HB.out hb); clear HO115; clear BK110; clear BK111; clear BK112; clear HB; have HO115 := n0_; have BK110 := n1_; have BK111 := n2_; have BK112 := n3_; have HB := n4_; clear n0_ n1_ n2_ n3_ n4_; (try clear hb); (try clear hb2); (try clear hk); (try clear hi)))
  go_ret
  exact ⟨by first | rfl | (simp [errW_none, errW_some] <;> rfl) | (simp [*, errW_none, errW_some] <;> rfl), by repeat (first | (with_reducible first | exact HB.out | apply below_alloc | apply pw_below_drewN | apply below_drew1 | refine below_set ?_ GE110.out | refine below_set ?_ GE111.out | refine below_set ?_ GE112.out) | exact HB.out)⟩

-- NOT PRINTED: function 36 (geom_first_int)

/-! ### geom_Compare: function 13, by hand -/
-- EXT planisphere/geom.Compare making
def geom_Compare.f (a0_0 a0_1 a1_0 a1_1 : Int) : Option Int :=
  if a0_0 < a1_0 then some (-1) else if a0_0 > a1_0 then some 1 else if a0_1 < a1_1 then some (-1) else if a0_1 > a1_1 then some 1 else some 0
set_option maxHeartbeats 1000000 in
set_option maxRecDepth 100000 in
theorem geom_Compare.lt (a0_0 a0_1 a1_0 a1_1 : Int) (w : World) (h1 : a0_0 < a1_0) :
    Calls Try.prog 13 #[.agg #[.int .i64 a0_0, .int .i64 a0_1], .agg #[.int .i64 a1_0, .int .i64 a1_1]] w fun e w' => e = .returned (.int .i64 (-1)) ∧ Below w.heap.size w w' := by
  go_enter Try.func13, Try.ntmps13
  go_wp2
  go_rounds 3
  go_ret
  exact ⟨rfl, by repeat (first | exact Below.refl _ _ | (refine Below.alloc ?_ (by simp; try omega) _))⟩
set_option maxHeartbeats 1000000 in
set_option maxRecDepth 100000 in
theorem geom_Compare.gt (a0_0 a0_1 a1_0 a1_1 : Int) (w : World) (h1 : a1_0 < a0_0) :
    Calls Try.prog 13 #[.agg #[.int .i64 a0_0, .int .i64 a0_1], .agg #[.int .i64 a1_0, .int .i64 a1_1]] w fun e w' => e = .returned (.int .i64 1) ∧ Below w.heap.size w w' := by
  go_enter Try.func13, Try.ntmps13
  go_wp2
  go_rounds 3
  go_ret
  exact ⟨rfl, by repeat (first | exact Below.refl _ _ | (refine Below.alloc ?_ (by simp; try omega) _))⟩
set_option maxHeartbeats 1000000 in
set_option maxRecDepth 100000 in
theorem geom_Compare.elt (a0_0 a0_1 a1_0 a1_1 : Int) (w : World) (h1 : a0_0 = a1_0) (h2 : a0_1 < a1_1) :
    Calls Try.prog 13 #[.agg #[.int .i64 a0_0, .int .i64 a0_1], .agg #[.int .i64 a1_0, .int .i64 a1_1]] w fun e w' => e = .returned (.int .i64 (-1)) ∧ Below w.heap.size w w' := by
  subst h1
  go_enter Try.func13, Try.ntmps13
  go_wp2
  go_rounds 3
  go_ret
  exact ⟨rfl, by repeat (first | exact Below.refl _ _ | (refine Below.alloc ?_ (by simp; try omega) _))⟩
set_option maxHeartbeats 1000000 in
set_option maxRecDepth 100000 in
theorem geom_Compare.egt (a0_0 a0_1 a1_0 a1_1 : Int) (w : World) (h1 : a0_0 = a1_0) (h2 : a1_1 < a0_1) :
    Calls Try.prog 13 #[.agg #[.int .i64 a0_0, .int .i64 a0_1], .agg #[.int .i64 a1_0, .int .i64 a1_1]] w fun e w' => e = .returned (.int .i64 1) ∧ Below w.heap.size w w' := by
  subst h1
  go_enter Try.func13, Try.ntmps13
  go_wp2
  go_rounds 3
  go_ret
  exact ⟨rfl, by repeat (first | exact Below.refl _ _ | (refine Below.alloc ?_ (by simp; try omega) _))⟩
set_option maxHeartbeats 1000000 in
set_option maxRecDepth 100000 in
theorem geom_Compare.eq (a0_0 a0_1 a1_0 a1_1 : Int) (w : World) (h1 : a0_0 = a1_0) (h2 : a0_1 = a1_1) :
    Calls Try.prog 13 #[.agg #[.int .i64 a0_0, .int .i64 a0_1], .agg #[.int .i64 a1_0, .int .i64 a1_1]] w fun e w' => e = .returned (.int .i64 0) ∧ Below w.heap.size w w' := by
  subst h1
  subst h2
  go_enter Try.func13, Try.ntmps13
  go_wp2
  go_rounds 3
  go_ret
  exact ⟨rfl, by repeat (first | exact Below.refl _ _ | (refine Below.alloc ?_ (by simp; try omega) _))⟩
theorem geom_Compare.calls (a0_0 a0_1 a1_0 a1_1 : Int) (r : Int) (w : World) (h : geom_Compare.f a0_0 a0_1 a1_0 a1_1 = some r) :
    Calls Try.prog 13 #[.agg #[.int .i64 a0_0, .int .i64 a0_1], .agg #[.int .i64 a1_0, .int .i64 a1_1]] w fun e w' => e = .returned (.int .i64 r) ∧ Below w.heap.size w w' := by
  unfold geom_Compare.f at h
  by_cases c1 : a0_0 < a1_0
  · rw [if_pos c1] at h; obtain rfl := Option.some.inj h; exact geom_Compare.lt _ _ _ _ w c1
  · rw [if_neg c1] at h
    by_cases c2 : a0_0 > a1_0
    · rw [if_pos c2] at h; obtain rfl := Option.some.inj h; exact geom_Compare.gt _ _ _ _ w c2
    · rw [if_neg c2] at h
      by_cases c3 : a0_1 < a1_1
      · rw [if_pos c3] at h; obtain rfl := Option.some.inj h; exact geom_Compare.elt _ _ _ _ w (by omega) c3
      · rw [if_neg c3] at h
        by_cases c4 : a0_1 > a1_1
        · rw [if_pos c4] at h; obtain rfl := Option.some.inj h; exact geom_Compare.egt _ _ _ _ w (by omega) c4
        · rw [if_neg c4] at h; obtain rfl := Option.some.inj h; exact geom_Compare.eq _ _ _ _ w (by omega) (by omega)

/-! ### geom_sorted: function 37 -/
def geom_sorted.f (a0_0 : Int) (a0_1 : Int) (a0_2 : Int) (a0_3 : Int) : Option (Int × Int × Int × Int) := (geom_Compare.f a0_0 a0_1 a0_2 a0_3).bind fun t125 => (if t125 > 0 then (some (a0_2, a0_3, a0_0, a0_1)) else (some (a0_0, a0_1, a0_2, a0_3)))
set_option maxHeartbeats 8000000 in
set_option maxRecDepth 100000 in
theorem geom_sorted.calls (a0_0 : Int) (a0_1 : Int) (a0_2 : Int) (a0_3 : Int) (r1 : Int) (r2 : Int) (r3 : Int) (r4 : Int) (w : World) (h : geom_sorted.f a0_0 a0_1 a0_2 a0_3 = some (r1, r2, r3, r4)) :
    Calls Try.prog 37 #[.agg #[.int .i64 a0_0, .int .i64 a0_1, .int .i64 a0_2, .int .i64 a0_3]] w fun e w' => e = .returned (.agg #[.int .i64 r1, .int .i64 r2, .int .i64 r3, .int .i64 r4]) ∧ Below w.heap.size w w' := by
 have hu25 := Try.underlying25
 have hu23 := Try.underlying23
 have HB := Aside0.mk (Below.refl w.heap.size w)
 have H : ((geom_Compare.f a0_0 a0_1 a0_2 a0_3).bind fun t125 => (if t125 > 0 then (some (a0_2, a0_3, a0_0, a0_1)) else (some (a0_0, a0_1, a0_2, a0_3)))) = some (r1, r2, r3, r4) := h
 clear h
 replace H := Option.bind_eq_some_iff.mp H
 obtain ⟨t125, A20, H⟩ := H
 replace H : (if t125 > 0 then (some (a0_2, a0_3, a0_0, a0_1)) else (some (a0_0, a0_1, a0_2, a0_3))) = some (r1, r2, r3, r4) := H
 have A2 := Aside0.mk A20
 clear A20
 by_cases c3 : t125 > 0
 ·rw [if_pos c3] at H
  have c3b0 : decide (0 < t125) = true := decide_eq_true c3
  clear c3
  simp only [Option.some.injEq, Prod.mk.injEq] at H
  obtain ⟨rfl, rfl, rfl, rfl⟩ := H
  go_enter Try.func37, Try.ntmps37
  go_wp2_with (first | ((with_reducible refine gate_dst (N := 1) rfl ?_); refine box_event ?hg (N := 1) ?hd (cs := #[.int .i64 a0_0, .int .i64 a0_1, .int .i64 a0_2, .int .i64 a0_3]) (t := 25) ?hr ?_; (case hd => rfl); (case hg => rfl); (case hr => first | (go_simp; done) | (go_simp; rfl)); intro gb123 hg w4 hbox hb; have n0_ := Aside0.mk (below_step HB.out hb); have n1_ := Aside0.mk (hbox); have n2_ := Aside0.mk ((by rw [hg]; exact (below_size HB.out) : w.heap.size ≤ gb123)); have n3_ := Aside0.mk ((by rw [hg]; exact (below_size HB.out) : w.heap.size ≤ gb123)); clear HB; have HB := n0_; have BK123 := n1_; have GW123 := n2_; have GE123 := n3_; clear n0_ n1_ n2_ n3_; clear hb hbox hg) | ((with_reducible refine gate_dst (N := 2) rfl ?_); refine box_event ?hg (N := 2) ?hd (cs := #[.int .i64 0, .int .i64 0, .int .i64 0, .int .i64 0]) (t := 25) ?hr ?_; (case hd => rfl); (case hg => rfl); (case hr => first | (go_simp; done) | (go_simp; rfl)); intro gb124 hg w5 hbox hb; have n0_ := Aside0.mk (blk_below BK123.out hb); have n1_ := Aside0.mk (below_step HB.out hb); have n2_ := Aside0.mk (hbox); have n3_ := Aside0.mk ((by rw [hg]; exact (below_size HB.out) : w.heap.size ≤ gb124)); have n4_ := Aside0.mk ((by rw [hg]; exact (below_size HB.out) : w.heap.size ≤ gb124)); have n5_ := Aside0.mk ((by rw [hg]; exact Nat.ne_of_lt (blk_lt BK123.out) : gb123 ≠ gb124)); have n6_ := Aside0.mk ((by rw [hg]; exact Nat.ne_of_gt (blk_lt BK123.out) : gb124 ≠ gb123)); clear BK123; clear HB; have BK123 := n0_; have HB := n1_; have BK124 := n2_; have GW124 := n3_; have GE124 := n4_; have NB123_124 := n5_; have NB124_123 := n6_; clear n0_ n1_ n2_ n3_ n4_ n5_ n6_; clear hb hbox hg; have hnb6 := NB123_124.out; have hnc6 := NB124_123.out; have hcz7_0 : w5.cell? ⟨gb123, 0, none⟩ = some (.int .i64 a0_0) := (blk_cell BK123.out 0).trans rfl; have hcz7_1 : w5.cell? ⟨gb123, 1, none⟩ = some (.int .i64 a0_1) := (blk_cell BK123.out 1).trans rfl; have hcz7_2 : w5.cell? ⟨gb123, 2, none⟩ = some (.int .i64 a0_2) := (blk_cell BK123.out 2).trans rfl; have hcz7_3 : w5.cell? ⟨gb123, 3, none⟩ = some (.int .i64 a0_3) := (blk_cell BK123.out 3).trans rfl; have hfz7_0 := blk_frozen BK123.out 0; have hfz7_1 := blk_frozen BK123.out 1; have hfz7_2 := blk_frozen BK123.out 2; have hfz7_3 := blk_frozen BK123.out 3) | ((with_reducible refine gate_callee (f := 13) rfl ?_); refine goesL_ (some 7) rfl rfl Try.func13 (by kernel_rfl) rfl #[.agg #[.int .i64 a0_0, .int .i64 a0_1], .agg #[.int .i64 a0_2, .int .i64 a0_3]] rfl (by (try simp only [List.map_toArray, List.map_cons, List.map_nil]); first | done | rfl | (simp only [List.length_drop, List.length_take]; rfl)) ?_; (with_reducible refine (geom_Compare.calls a0_0 a0_1 a0_2 a0_3 t125 _ A2.out).mono ?_); rintro e w8 ⟨rfl, hb⟩; refine ⟨_, rfl, ?_⟩; have n0_ := Aside0.mk (blk_below BK123.out hb); have n1_ := Aside0.mk (blk_below BK124.out hb); have n2_ := Aside0.mk (below_step HB.out hb); clear BK123; clear BK124; clear HB; have BK123 := n0_; have BK124 := n1_; have HB := n2_; clear n0_ n1_ n2_; (try clear hb); (try clear hb2); (try clear hk); (try clear hi); have hcz9_0 : w8.cell? ⟨gb123, 0, none⟩ = some (.int .i64 a0_0) := (blk_cell BK123.out 0).trans rfl; have hcz9_1 : w8.cell? ⟨gb123, 1, none⟩ = some (.int .i64 a0_1) := (blk_cell BK123.out 1).trans rfl; have hcz9_2 : w8.cell? ⟨gb123, 2, none⟩ = some (.int .i64 a0_2) := (blk_cell BK123.out 2).trans rfl; have hcz9_3 : w8.cell? ⟨gb123, 3, none⟩ = some (.int .i64 a0_3) := (blk_cell BK123.out 3).trans rfl; have hfz9_0 := blk_frozen BK123.out 0; have hfz9_1 := blk_frozen BK123.out 1; have hfz9_2 := blk_frozen BK123.out 2; have hfz9_3 := blk_frozen BK123.out 3; have hcz10_0 : w8.cell? ⟨gb124, 0, none⟩ = some (.int .i64 0) := (blk_cell BK124.out 0).trans rfl; have hcz10_1 : w8.cell? ⟨gb124, 1, none⟩ = some (.int .i64 0) := (blk_cell BK124.out 1).trans rfl; have hcz10_2 : w8.cell? ⟨gb124, 2, none⟩ = some (.int .i64 0) := (blk_cell BK124.out 2).trans rfl; have hcz10_3 : w8.cell? ⟨gb124, 3, none⟩ = some (.int .i64 0) := (blk_cell BK124.out 3).trans rfl; have hfz10_0 := blk_frozen BK124.out 0; have hfz10_1 := blk_frozen BK124.out 1; have hfz10_2 := blk_frozen BK124.out 2; have hfz10_3 := blk_frozen BK124.out 3))
  refine bodyPost_ret (results_cell_row rfl _ _ gb124 25 #[.int .i64 a0_2, .int .i64 a0_3, .int .i64 a0_0, .int .i64 a0_1] (0, 0) _ rfl (by (with_reducible repeat (first | refine blk_drewN ?_ _ | refine blk_drew ?_ | refine blk_alloc ?_ _)); refine blk_put (cs := #[.int .i64 a0_2, .int .i64 a0_3, .int .i64 a0_0, .int .i64 0]) ?_ 3 _ rfl; (with_reducible repeat (first | refine blk_drewN ?_ _ | refine blk_drew ?_ | refine blk_alloc ?_ _)); refine blk_put (cs := #[.int .i64 a0_2, .int .i64 a0_3, .int .i64 0, .int .i64 0]) ?_ 2 _ rfl; (with_reducible repeat (first | refine blk_drewN ?_ _ | refine blk_drew ?_ | refine blk_alloc ?_ _)); refine blk_put (cs := #[.int .i64 a0_2, .int .i64 0, .int .i64 0, .int .i64 0]) ?_ 1 _ rfl; (with_reducible repeat (first | refine blk_drewN ?_ _ | refine blk_drew ?_ | refine blk_alloc ?_ _)); refine blk_put (cs := #[.int .i64 0, .int .i64 0, .int .i64 0, .int .i64 0]) ?_ 0 _ rfl; (with_reducible repeat (first | refine blk_drewN ?_ _ | refine blk_drew ?_ | refine blk_alloc ?_ _)); refine blk_far ?_ NB124_123.out _; (with_reducible repeat (first | refine blk_drewN ?_ _ | refine blk_drew ?_ | refine blk_alloc ?_ _)); refine blk_far ?_ NB124_123.out _; (with_reducible repeat (first | refine blk_drewN ?_ _ | refine blk_drew ?_ | refine blk_alloc ?_ _)); refine blk_far ?_ NB124_123.out _; (with_reducible repeat (first | refine blk_drewN ?_ _ | refine blk_drew ?_ | refine blk_alloc ?_ _)); refine blk_far ?_ NB124_123.out _; (with_reducible repeat (first | refine blk_drewN ?_ _ | refine blk_drew ?_ | refine blk_alloc ?_ _)); exact BK124.out) Try.underlying25 rfl (by kernel_rfl)) rfl ?_
  exact ⟨by first | rfl | (simp [errW_none, errW_some] <;> rfl) | (simp [*, errW_none, errW_some] <;> rfl), by repeat (first | (with_reducible first | exact HB.out | apply below_alloc | apply pw_below_drewN | apply below_drew1 | refine below_set ?_ GE123.out | refine below_set ?_ GE124.out) | exact HB.out)⟩
 ·rw [if_neg c3] at H
  have c3b0 : decide (0 < t125) = false := decide_eq_false c3
  clear c3
  simp only [Option.some.injEq, Prod.mk.injEq] at H
  obtain ⟨rfl, rfl, rfl, rfl⟩ := H
  go_enter Try.func37, Try.ntmps37
  go_wp2_with (first | ((with_reducible refine gate_dst (N := 1) rfl ?_); refine box_event ?hg (N := 1) ?hd (cs := #[.int .i64 a0_0, .int .i64 a0_1, .int .i64 a0_2, .int .i64 a0_3]) (t := 25) ?hr ?_; (case hd => rfl); (case hg => rfl); (case hr => first | (go_simp; done) | (go_simp; rfl)); intro gb123 hg w11 hbox hb; have n0_ := Aside0.mk (below_step HB.out hb); have n1_ := Aside0.mk (hbox); have n2_ := Aside0.mk ((by rw [hg]; exact (below_size HB.out) : w.heap.size ≤ gb123)); have n3_ := Aside0.mk ((by rw [hg]; exact (below_size HB.out) : w.heap.size ≤ gb123)); clear HB; have HB := n0_; have BK123 := n1_; have GW123 := n2_; have GE123 := n3_; clear n0_ n1_ n2_ n3_; clear hb hbox hg) | ((with_reducible refine gate_dst (N := 2) rfl ?_); refine box_event ?hg (N := 2) ?hd (cs := #[.int .i64 0, .int .i64 0, .int .i64 0, .int .i64 0]) (t := 25) ?hr ?_; (case hd => rfl); (case hg => rfl); (case hr => first | (go_simp; done) | (go_simp; rfl)); intro gb124 hg w12 hbox hb; have n0_ := Aside0.mk (blk_below BK123.out hb); have n1_ := Aside0.mk (below_step HB.out hb); have n2_ := Aside0.mk (hbox); have n3_ := Aside0.mk ((by rw [hg]; exact (below_size HB.out) : w.heap.size ≤ gb124)); have n4_ := Aside0.mk ((by rw [hg]; exact (below_size HB.out) : w.heap.size ≤ gb124)); have n5_ := Aside0.mk ((by rw [hg]; exact Nat.ne_of_lt (blk_lt BK123.out) : gb123 ≠ gb124)); have n6_ := Aside0.mk ((by rw [hg]; exact Nat.ne_of_gt (blk_lt BK123.out) : gb124 ≠ gb123)); clear BK123; clear HB; have BK123 := n0_; have HB := n1_; have BK124 := n2_; have GW124 := n3_; have GE124 := n4_; have NB123_124 := n5_; have NB124_123 := n6_; clear n0_ n1_ n2_ n3_ n4_ n5_ n6_; clear hb hbox hg; have hnb13 := NB123_124.out; have hnc13 := NB124_123.out; have hcz14_0 : w12.cell? ⟨gb123, 0, none⟩ = some (.int .i64 a0_0) := (blk_cell BK123.out 0).trans rfl; have hcz14_1 : w12.cell? ⟨gb123, 1, none⟩ = some (.int .i64 a0_1) := (blk_cell BK123.out 1).trans rfl; have hcz14_2 : w12.cell? ⟨gb123, 2, none⟩ = some (.int .i64 a0_2) := (blk_cell BK123.out 2).trans rfl; have hcz14_3 : w12.cell? ⟨gb123, 3, none⟩ = some (.int .i64 a0_3) := (blk_cell BK123.out 3).trans rfl; have hfz14_0 := blk_frozen BK123.out 0; have hfz14_1 := blk_frozen BK123.out 1; have hfz14_2 := blk_frozen BK123.out 2; have hfz14_3 := blk_frozen BK123.out 3) | ((with_reducible refine gate_callee (f := 13) rfl ?_); refine goesL_ (some 7) rfl rfl Try.func13 (by kernel_rfl) rfl #[.agg #[.int .i64 a0_0, .int .i64 a0_1], .agg #[.int .i64 a0_2, .int .i64 a0_3]] rfl (by (try simp only [List.map_toArray, List.map_cons, List.map_nil]); first | done | rfl | (simp only [List.length_drop, List.length_take]; rfl)) ?_; (with_reducible refine (geom_Compare.calls a0_0 a0_1 a0_2 a0_3 t125 _ A2.out).mono ?_); rintro e w15 ⟨rfl, hb⟩; refine ⟨_, rfl, ?_⟩; have n0_ := Aside0.mk (blk_below BK123.out hb); have n1_ := Aside0.mk (blk_below BK124.out hb); have n2_ := Aside0.mk (below_step HB.out hb); clear BK123; clear BK124; clear HB; have BK123 := n0_; have BK124 := n1_; have HB := n2_; clear n0_ n1_ n2_; (try clear hb); (try clear hb2); (try clear hk); (try clear hi); have hcz16_0 : w15.cell? ⟨gb123, 0, none⟩ = some (.int .i64 a0_0) := (blk_cell BK123.out 0).trans rfl; have hcz16_1 : w15.cell? ⟨gb123, 1, none⟩ = some (.int .i64 a0_1) := (blk_cell BK123.out 1).trans rfl; have hcz16_2 : w15.cell? ⟨gb123, 2, none⟩ = some (.int .i64 a0_2) := (blk_cell BK123.out 2).trans rfl; have hcz16_3 : w15.cell? ⟨gb123, 3, none⟩ = some (.int .i64 a0_3) := (blk_cell BK123.out 3).trans rfl; have hfz16_0 := blk_frozen BK123.out 0; have hfz16_1 := blk_frozen BK123.out 1; have hfz16_2 := blk_frozen BK123.out 2; have hfz16_3 := blk_frozen BK123.out 3; have hcz17_0 : w15.cell? ⟨gb124, 0, none⟩ = some (.int .i64 0) := (blk_cell BK124.out 0).trans rfl; have hcz17_1 : w15.cell? ⟨gb124, 1, none⟩ = some (.int .i64 0) := (blk_cell BK124.out 1).trans rfl; have hcz17_2 : w15.cell? ⟨gb124, 2, none⟩ = some (.int .i64 0) := (blk_cell BK124.out 2).trans rfl; have hcz17_3 : w15.cell? ⟨gb124, 3, none⟩ = some (.int .i64 0) := (blk_cell BK124.out 3).trans rfl; have hfz17_0 := blk_frozen BK124.out 0; have hfz17_1 := blk_frozen BK124.out 1; have hfz17_2 := blk_frozen BK124.out 2; have hfz17_3 := blk_frozen BK124.out 3))
  refine bodyPost_ret (results_cell_row rfl _ _ gb124 25 #[.int .i64 a0_0, .int .i64 a0_1, .int .i64 a0_2, .int .i64 a0_3] (0, 0) _ rfl (by (with_reducible repeat (first | refine blk_drewN ?_ _ | refine blk_drew ?_ | refine blk_alloc ?_ _)); refine blk_put (cs := #[.int .i64 a0_0, .int .i64 a0_1, .int .i64 a0_2, .int .i64 0]) ?_ 3 _ rfl; (with_reducible repeat (first | refine blk_drewN ?_ _ | refine blk_drew ?_ | refine blk_alloc ?_ _)); refine blk_put (cs := #[.int .i64 a0_0, .int .i64 a0_1, .int .i64 0, .int .i64 0]) ?_ 2 _ rfl; (with_reducible repeat (first | refine blk_drewN ?_ _ | refine blk_drew ?_ | refine blk_alloc ?_ _)); refine blk_put (cs := #[.int .i64 a0_0, .int .i64 0, .int .i64 0, .int .i64 0]) ?_ 1 _ rfl; (with_reducible repeat (first | refine blk_drewN ?_ _ | refine blk_drew ?_ | refine blk_alloc ?_ _)); refine blk_put (cs := #[.int .i64 0, .int .i64 0, .int .i64 0, .int .i64 0]) ?_ 0 _ rfl; (with_reducible repeat (first | refine blk_drewN ?_ _ | refine blk_drew ?_ | refine blk_alloc ?_ _)); exact BK124.out) Try.underlying25 rfl (by kernel_rfl)) rfl ?_
  exact ⟨by first | rfl | (simp [errW_none, errW_some] <;> rfl) | (simp [*, errW_none, errW_some] <;> rfl), by repeat (first | (with_reducible first | exact HB.out | apply below_alloc | apply pw_below_drewN | apply below_drew1 | refine below_set ?_ GE123.out | refine below_set ?_ GE124.out) | exact HB.out)⟩

/-! ### geom_On: function 15, by hand -/
-- EXT planisphere/geom.On making rounds
open Go.Proofs.Ytgibndgllhompaa.Geo
def geom_On.f (k : Nat) (a0_0 : Int) (a0_1 : Int) (a0_2 : Int) (a0_3 : Int) (a1_0 : Int) (a1_1 : Int) : Option (Bool) := (geom_near.f k (([(⟨a0_0, a0_1⟩ : S23), (⟨a0_2, a0_3⟩ : S23), (⟨a1_0, a1_1⟩ : S23)] : List (S23)))).bind fun t131 => (if t131 = true then ((geom_sorted.f a0_0 a0_1 a0_2 a0_3).bind fun bt132 => ((geom_Orient.f k bt132.1 bt132.2.1 bt132.2.2.1 bt132.2.2.2 a1_0 a1_1).bind fun t136 => (if t136 = 0 then ((geom_Compare.f bt132.1 bt132.2.1 a1_0 a1_1).bind fun t137 => (if t137 ≤ 0 then ((geom_Compare.f a1_0 a1_1 bt132.2.2.1 bt132.2.2.2).bind fun t138 => (if t138 ≤ 0 then (if (!(bt132.1 == bt132.2.2.1) || (!(bt132.2.1 == bt132.2.2.2))) = true then (some true) else (some (a1_0 == bt132.1 && (a1_1 == bt132.2.1)))) else (some false))) else (some false))) else (some false)))) else (some false))
theorem geom_On.mono : ∀ a0 a1 a2 a3 a4 a5 k, LeO (geom_On.f k a0 a1 a2 a3 a4 a5) (geom_On.f (k + 1) a0 a1 a2 a3 a4 a5) := by
  intro a0 a1 a2 a3 a4 a5 k
  unfold geom_On.f
  repeat' first
      | (with_reducible exact geom_Orient.mono _ _ _ _ _ _ _)
      | (with_reducible exact geom_near.mono _ _)
      | (with_reducible exact LeO.refl _)
      | (with_reducible exact LeO.none _)
      | (with_reducible refine LeO.ite ?_ ?_)
      | (with_reducible refine LeO.bind ?_ (fun _ => ?_))
      | exact geom_Orient.mono _ _ _ _ _ _ _
      | exact geom_near.mono _ _
      | exact LeO.none _
      | refine LeO.ite ?_ ?_
      | refine LeO.bind ?_ (fun _ => ?_)
theorem w64 {x : Int} (h1 : -9223372036854775808 ≤ x) (h2 : x ≤ 9223372036854775807) : wrap64 x = x := by unfold wrap64; omega
def Nr (p : Pt) : Prop := -2097152 ≤ p.x ∧ p.x ≤ 2097152 ∧ -2097152 ≤ p.y ∧ p.y ≤ 2097152
instance (p : Pt) : Decidable (Nr p) := by unfold Nr; infer_instance
def pt (s : S23) : Pt := ⟨s.f0, s.f1⟩

theorem near_loop (l : List S23) (hl : l.length ≤ 1000000) : ∀ (d k i : Nat), l.length - i = d → d < k → i ≤ l.length →
    ∃ b : Bool, geom_near.l0 k l (l.length : Int) (i : Int) = some b ∧ (b = true ↔ ∀ j, i ≤ j → j < l.length → Nr (pt (rd_T23 l (j : Int)))) := by
  intro d
  induction d with
  | zero =>
    intro k i hd hk hi
    obtain ⟨k, rfl⟩ : ∃ m, k = m + 1 := ⟨k - 1, by omega⟩
    simp only [geom_near.l0]
    rw [if_neg (by omega)]
    exact ⟨true, rfl, fun _ j h1 h2 => absurd h2 (by omega), fun _ => rfl⟩
  | succ d ih =>
    intro k i hd hk hi
    obtain ⟨k, rfl⟩ : ∃ m, k = m + 1 := ⟨k - 1, by omega⟩
    simp only [geom_near.l0]
    rw [if_pos (by omega), if_pos (by omega), if_pos (by omega)]
    obtain ⟨b, hr, hb⟩ := ih k (i + 1) (by omega) (by omega) (by omega)
    have e : wrap64 ((i : Int) + 1) = ((i + 1 : Nat) : Int) := by rw [w64 (by omega) (by omega)]; omega
    rw [e, hr]
    have key : (∀ j, i ≤ j → j < l.length → Nr (pt (rd_T23 l (j : Int)))) ↔ (Nr (pt (rd_T23 l (i : Int))) ∧ ∀ j, i + 1 ≤ j → j < l.length → Nr (pt (rd_T23 l (j : Int)))) := by
      constructor
      · intro h
        exact ⟨h i (Nat.le_refl _) (by omega), fun j h1 h2 => h j (by omega) h2⟩
      · rintro ⟨h0, h⟩ j h1 h2
        by_cases e : j = i
        · subst e; exact h0
        · exact h j (by omega) h2
    rw [key]
    by_cases c1 : mx ((rd_T23 l (i : Int)).f0) ((rd_T23 l (i : Int)).f1) > 2097152
    · rw [if_pos c1]
      refine ⟨false, rfl, fun h => by simp at h, fun h => ?_⟩
      have h := h.1
      unfold Nr pt at h; unfold mx at c1
      simp only at h
      split at c1 <;> omega
    · rw [if_neg c1]
      by_cases c2 : mn ((rd_T23 l (i : Int)).f0) ((rd_T23 l (i : Int)).f1) < -2097152
      · rw [if_pos c2]
        refine ⟨false, rfl, fun h => by simp at h, fun h => ?_⟩
        have h := h.1
        unfold Nr pt at h; unfold mn at c2
        simp only at h
        split at c2 <;> omega
      · rw [if_neg c2]
        refine ⟨b, rfl, fun h => ⟨?_, hb.1 h⟩, fun h => hb.2 h.2⟩
        unfold Nr pt; unfold mx at c1; unfold mn at c2
        simp only
        split at c1 <;> split at c2 <;> omega

theorem near2 (k : Nat) (hk : 3 ≤ k) (a b : Pt) : geom_near.f k [⟨a.x, a.y⟩, ⟨b.x, b.y⟩] = some (decide (Nr a ∧ Nr b)) := by
  obtain ⟨b_, h, hb_⟩ := near_loop [⟨a.x, a.y⟩, ⟨b.x, b.y⟩] (by simp) 2 k 0 rfl (by omega) (by simp)
  refine Eq.trans h ?_
  congr 1
  rw [Bool.eq_iff_iff, decide_eq_true_iff, hb_]
  constructor
  · intro h; exact ⟨h 0 (by omega) (by simp), h 1 (by omega) (by simp)⟩
  · rintro ⟨h0, h1⟩ j _ hj
    match j, hj with
    | 0, _ => exact h0
    | 1, _ => exact h1
theorem near3 (k : Nat) (hk : 4 ≤ k) (a b c : Pt) : geom_near.f k [⟨a.x, a.y⟩, ⟨b.x, b.y⟩, ⟨c.x, c.y⟩] = some (decide (Nr a ∧ Nr b ∧ Nr c)) := by
  obtain ⟨b_, h, hb_⟩ := near_loop [⟨a.x, a.y⟩, ⟨b.x, b.y⟩, ⟨c.x, c.y⟩] (by simp) 3 k 0 rfl (by omega) (by simp)
  refine Eq.trans h ?_
  congr 1
  rw [Bool.eq_iff_iff, decide_eq_true_iff, hb_]
  constructor
  · intro h; exact ⟨h 0 (by omega) (by simp), h 1 (by omega) (by simp), h 2 (by omega) (by simp)⟩
  · rintro ⟨h0, h1, h2⟩ j _ hj
    match j, hj with
    | 0, _ => exact h0
    | 1, _ => exact h1
    | 2, _ => exact h2
theorem near4 (k : Nat) (hk : 5 ≤ k) (a b c d : Pt) : geom_near.f k [⟨a.x, a.y⟩, ⟨b.x, b.y⟩, ⟨c.x, c.y⟩, ⟨d.x, d.y⟩] = some (decide (Nr a ∧ Nr b ∧ Nr c ∧ Nr d)) := by
  obtain ⟨b_, h, hb_⟩ := near_loop [⟨a.x, a.y⟩, ⟨b.x, b.y⟩, ⟨c.x, c.y⟩, ⟨d.x, d.y⟩] (by simp) 4 k 0 rfl (by omega) (by simp)
  refine Eq.trans h ?_
  congr 1
  rw [Bool.eq_iff_iff, decide_eq_true_iff, hb_]
  constructor
  · intro h; exact ⟨h 0 (by omega) (by simp), h 1 (by omega) (by simp), h 2 (by omega) (by simp), h 3 (by omega) (by simp)⟩
  · rintro ⟨h0, h1, h2, h3⟩ j _ hj
    match j, hj with
    | 0, _ => exact h0
    | 1, _ => exact h1
    | 2, _ => exact h2
    | 3, _ => exact h3

/-- products of differences of near points -/
theorem prod_bd {x y : Int} (hx : -4194304 ≤ x ∧ x ≤ 4194304) (hy : -4194304 ≤ y ∧ y ≤ 4194304) : -17592186044416 ≤ x * y ∧ x * y ≤ 17592186044416 := by
  have h1 : (x + 4194304) * (y + 4194304) ≥ 0 := Int.mul_nonneg (by omega) (by omega)
  have h2 : (4194304 - x) * (4194304 - y) ≥ 0 := Int.mul_nonneg (by omega) (by omega)
  have h3 : (x + 4194304) * (4194304 - y) ≥ 0 := Int.mul_nonneg (by omega) (by omega)
  have h4 : (4194304 - x) * (y + 4194304) ≥ 0 := Int.mul_nonneg (by omega) (by omega)
  constructor <;> grind
theorem cr_bd {a b c : Pt} (ha : Nr a) (hb : Nr b) (hc : Nr c) : -35184372088832 ≤ cr a b c ∧ cr a b c ≤ 35184372088832 := by
  unfold Nr at ha hb hc
  have h1 := prod_bd (x := b.x - a.x) (y := c.y - a.y) (by omega) (by omega)
  have h2 := prod_bd (x := b.y - a.y) (y := c.x - a.x) (by omega) (by omega)
  unfold cr; omega
theorem to_sem {a b : Pt} (ha : Nr a) (hb : Nr b) : geom_to.f a.x a.y b.x b.y = some (b.x - a.x, b.y - a.y) := by
  unfold Nr at ha hb
  unfold geom_to.f; rw [w64 (by omega) (by omega), w64 (by omega) (by omega)]
theorem cross_sem {p q r s : Int} (hp : -4194304 ≤ p ∧ p ≤ 4194304) (hq : -4194304 ≤ q ∧ q ≤ 4194304) (hr : -4194304 ≤ r ∧ r ≤ 4194304) (hs : -4194304 ≤ s ∧ s ≤ 4194304) : geom_vector_cross.f p q r s = some (p * s - q * r) := by
  have h1 := prod_bd hp hs
  have h2 := prod_bd hq hr
  unfold geom_vector_cross.f; rw [w64 (x := p * s) (by omega) (by omega), w64 (x := q * r) (by omega) (by omega), w64 (by omega) (by omega)]
theorem cmp0_sem (n : Int) : cmp_Compare_int.f n 0 = some (sg n) := by
  unfold cmp_Compare_int.f cmp_isNaN_int.f sg
  simp only [Option.bind_some, bne_self_eq_false]
  by_cases h : n < 0
  · simp [h]
  · by_cases h' : n > 0 <;> simp [h, h']

def orient (a b c : Pt) : Int := if Nr a ∧ Nr b ∧ Nr c then sg (cr a b c) else 0
theorem orient_sem (k : Nat) (hk : 4 ≤ k) (a b c : Pt) : geom_Orient.f k a.x a.y b.x b.y c.x c.y = some (orient a b c) := by
  unfold geom_Orient.f
  rw [near3 k hk a b c, Option.bind_some]
  unfold orient
  by_cases h : Nr a ∧ Nr b ∧ Nr c
  · rw [if_pos (by simpa using h), if_pos h, to_sem h.1 h.2.1, to_sem h.1 h.2.2]
    simp only [Option.bind_some]
    have h1 := h.1; have h2 := h.2.1; have h3 := h.2.2
    unfold Nr at h1 h2 h3
    rw [cross_sem (by omega) (by omega) (by omega) (by omega)]
    simp only [Option.bind_some, cmp0_sem]
    rfl
  · rw [if_neg (by simpa using h), if_neg h]
def cmpv (a b : Pt) : Int := if a.x < b.x then -1 else if a.x > b.x then 1 else if a.y < b.y then -1 else if a.y > b.y then 1 else 0
theorem cmp_sem (a b : Pt) : geom_Compare.f a.x a.y b.x b.y = some (cmpv a b) := by
  unfold geom_Compare.f cmpv
  repeat' split
  all_goals rfl
theorem cmpv_le (a b : Pt) : cmpv a b ≤ 0 ↔ LexLe a b := by
  unfold cmpv LexLe
  repeat' split
  all_goals omega
theorem cmpv_cases (a b : Pt) : (cmpv a b = -1 ∧ LexLe a b ∧ ¬ LexLe b a) ∨ (cmpv a b = 0 ∧ a = b) ∨ (cmpv a b = 1 ∧ ¬ LexLe a b ∧ LexLe b a) := by
  unfold cmpv LexLe
  by_cases h1 : a.x < b.x
  · rw [if_pos h1]; exact .inl ⟨rfl, by omega, by omega⟩
  · rw [if_neg h1]
    by_cases h2 : a.x > b.x
    · rw [if_pos h2]; exact .inr (.inr ⟨rfl, by omega, by omega⟩)
    · rw [if_neg h2]
      by_cases h3 : a.y < b.y
      · rw [if_pos h3]; exact .inl ⟨rfl, by omega, by omega⟩
      · rw [if_neg h3]
        by_cases h4 : a.y > b.y
        · rw [if_pos h4]; exact .inr (.inr ⟨rfl, by omega, by omega⟩)
        · rw [if_neg h4]; exact .inr (.inl ⟨rfl, Pt.ext' (by omega) (by omega)⟩)
def lo (a b : Pt) : Pt := if LexLe a b then a else b
def hi (a b : Pt) : Pt := if LexLe a b then b else a
theorem lohi (a b : Pt) : (LexLe a b ∧ lo a b = a ∧ hi a b = b) ∨ (¬ LexLe a b ∧ LexLe b a ∧ lo a b = b ∧ hi a b = a) := by
  unfold lo hi
  by_cases h : LexLe a b
  · exact .inl ⟨h, if_pos h, if_pos h⟩
  · exact .inr ⟨h, (lex_total a b).resolve_left h, if_neg h, if_neg h⟩
theorem lo_le (a b : Pt) : LexLe (lo a b) (hi a b) := by
  rcases lohi a b with ⟨h, e, f⟩ | ⟨_, h, e, f⟩ <;> rw [e, f] <;> exact h
theorem sorted_sem (a b : Pt) : geom_sorted.f a.x a.y b.x b.y = some ((lo a b).x, (lo a b).y, (hi a b).x, (hi a b).y) := by
  unfold geom_sorted.f
  rw [cmp_sem, Option.bind_some]
  have h := cmpv_le a b
  rcases lohi a b with ⟨h1, e, f⟩ | ⟨h1, _, e, f⟩
  · rw [e, f, if_neg (by have := h.2 h1; omega)]
  · rw [e, f, if_pos (by have := mt h.1 h1; omega)]
theorem beq_pt (a b : Pt) : (a.x == b.x && (a.y == b.y)) = decide (a = b) := by
  rw [Bool.eq_iff_iff]
  simp only [Bool.and_eq_true, beq_iff_eq, decide_eq_true_eq]
  exact ⟨fun h => Pt.ext' h.1 h.2, fun h => by rw [h]; exact ⟨rfl, rfl⟩⟩
theorem bne_pt (a b : Pt) : (!(a.x == b.x) || (!(a.y == b.y))) = decide (a ≠ b) := by
  have := beq_pt a b
  rw [← Bool.not_and, this, decide_not]
theorem sg_zero_iff (n : Int) : sg n = 0 ↔ n = 0 := by
  unfold sg
  by_cases h : n < 0
  · rw [if_pos h]; omega
  · rw [if_neg h]; split <;> omega
theorem lo_nr {a b : Pt} (ha : Nr a) (hb : Nr b) : Nr (lo a b) ∧ Nr (hi a b) := by
  rcases lohi a b with ⟨_, e, f⟩ | ⟨_, _, e, f⟩ <;> rw [e, f] <;> exact ⟨by assumption, by assumption⟩
theorem on_lohi {a b p : Pt} : On (lo a b) (hi a b) p ↔ On a b p := by
  rcases lohi a b with ⟨_, e, f⟩ | ⟨_, _, e, f⟩ <;> rw [e, f]
  exact on_comm
theorem and_chain (P Q R S T : Prop) [Decidable P] [Decidable Q] [Decidable R] [Decidable S] [Decidable T] :
    (if P then (if Q then (if R then (if decide S = true then some true else some (decide T)) else some false) else some false) else some false) = some (decide (P ∧ Q ∧ R ∧ (S ∨ T))) := by
  by_cases P <;> by_cases Q <;> by_cases R <;> by_cases S <;> simp [*]
theorem on_sem (k : Nat) (hk : 4 ≤ k) (a b p : Pt) : geom_On.f k a.x a.y b.x b.y p.x p.y = some (decide ((Nr a ∧ Nr b ∧ Nr p) ∧ On a b p)) := by
  unfold geom_On.f
  rw [near3 k hk a b p, Option.bind_some]
  by_cases h : Nr a ∧ Nr b ∧ Nr p
  · rw [if_pos (by simpa using h), sorted_sem, Option.bind_some]
    simp only
    rw [orient_sem k hk, Option.bind_some, cmp_sem, cmp_sem]
    simp only [Option.bind_some, beq_pt, bne_pt, cmpv_le]
    have hn := lo_nr h.1 h.2.1
    have ho : orient (lo a b) (hi a b) p = sg (cr (lo a b) (hi a b) p) := by unfold orient; rw [if_pos ⟨hn.1, hn.2, h.2.2⟩]
    rw [ho]
    simp only [sg_zero_iff]
    have hs := on_sorted (p := p) (lo_le a b)
    rw [on_lohi] at hs
    have hx : ((Nr a ∧ Nr b ∧ Nr p) ∧ On a b p) ↔ On a b p := ⟨fun z => z.2, fun z => ⟨h, z⟩⟩
    refine (and_chain _ _ _ _ _).trans ?_
    congr 1
    rw [decide_eq_decide]
    exact hs.trans hx.symm
  · rw [if_neg (by simpa using h)]
    congr 1; symm
    rw [decide_eq_false_iff_not]
    exact fun z => h z.1

theorem pt_cells (x y : Int) (w : World) : k23.K w ⟨x, y⟩ [.int .i64 x, .int .i64 y] := Kd.K_of_M _ (k23_mkM w 0 (fun _ => True) (⟨x, y⟩ : S23))
/-- a row of points that lies in one block -/
theorem pts_read (W : World) (g : Nat) (l : List S23) (cs : List Value) (T : TypeId) (h : W.heap[g]? = some (.cells cs.toArray T (0, 0))) (hl : l.length ≤ 1000000)
    (hc : ∀ j p, l[j]? = some p → cs[2 * j]? = some (.int .i64 p.f0) ∧ cs[2 * j + 1]? = some (.int .i64 p.f1)) : Kd.C k23 W (some ⟨g, 0, none⟩) l.length l := by
  refine ⟨rfl, by omega, fun _ => ⟨⟨g, 0, none⟩, rfl, fun j p hj => ?_⟩⟩
  obtain ⟨h0, h1⟩ := hc j p hj
  refine ⟨[.int .i64 p.f0, .int .i64 p.f1], rfl, pt_cells p.f0 p.f1 W, fun i u hu => ?_⟩
  rw [add_plain, blk_cell h]
  match i, hu with
  | 0, hu => have : u = .int .i64 p.f0 := by simpa using hu.symm
             subst this
             rw [List.getElem?_toArray, ← h0]; congr 1; show j * 2 + 0 = _; omega
  | 1, hu => have : u = .int .i64 p.f1 := by simpa using hu.symm
             subst this
             rw [List.getElem?_toArray, ← h1]; congr 1; show j * 2 + 1 = _; omega
theorem near3_calls (a b c : Pt) (v : Bool) (hv : Hid (decide (Nr a ∧ Nr b ∧ Nr c) = v)) (W : World) (g : Nat) (h : W.heap[g]? = some (.cells #[.int .i64 a.x, .int .i64 a.y, .int .i64 b.x, .int .i64 b.y, .int .i64 c.x, .int .i64 c.y] 23 (0, 0))) :
    Calls Try.prog 29 #[.slice (some ⟨g, 0, none⟩) 3 3] W fun e w' => e = .returned (.bool v) ∧ Below W.heap.size W w' := by
  refine geom_near.calls 4 (some ⟨g, 0, none⟩) 3 [⟨a.x, a.y⟩, ⟨b.x, b.y⟩, ⟨c.x, c.y⟩] v W (pts_read W g _ _ _ h (by simp) ?_) (by simp) (by rw [near3 4 (by omega), hv.out])
  intro j p hj
  match j, hj with
  | 0, hj => cases hj; exact ⟨rfl, rfl⟩
  | 1, hj => cases hj; exact ⟨rfl, rfl⟩
  | 2, hj => cases hj; exact ⟨rfl, rfl⟩
theorem near4_calls (a b c d : Pt) (v : Bool) (hv : Hid (decide (Nr a ∧ Nr b ∧ Nr c ∧ Nr d) = v)) (W : World) (g : Nat) (h : W.heap[g]? = some (.cells #[.int .i64 a.x, .int .i64 a.y, .int .i64 b.x, .int .i64 b.y, .int .i64 c.x, .int .i64 c.y, .int .i64 d.x, .int .i64 d.y] 23 (0, 0))) :
    Calls Try.prog 29 #[.slice (some ⟨g, 0, none⟩) 4 4] W fun e w' => e = .returned (.bool v) ∧ Below W.heap.size W w' := by
  refine geom_near.calls 5 (some ⟨g, 0, none⟩) 4 [⟨a.x, a.y⟩, ⟨b.x, b.y⟩, ⟨c.x, c.y⟩, ⟨d.x, d.y⟩] v W (pts_read W g _ _ _ h (by simp) ?_) (by simp) (by rw [near4 5 (by omega), hv.out])
  intro j p hj
  match j, hj with
  | 0, hj => cases hj; exact ⟨rfl, rfl⟩
  | 1, hj => cases hj; exact ⟨rfl, rfl⟩
  | 2, hj => cases hj; exact ⟨rfl, rfl⟩
  | 3, hj => cases hj; exact ⟨rfl, rfl⟩
theorem sorted_calls (a b m n : Pt) (hv : Hid (lo a b = m ∧ hi a b = n)) (W : World) :
    Calls Try.prog 37 #[.agg #[.int .i64 a.x, .int .i64 a.y, .int .i64 b.x, .int .i64 b.y]] W fun e w' => e = .returned (.agg #[.int .i64 m.x, .int .i64 m.y, .int .i64 n.x, .int .i64 n.y]) ∧ Below W.heap.size W w' :=
  geom_sorted.calls _ _ _ _ _ _ _ _ W (by rw [sorted_sem, hv.out.1, hv.out.2])
theorem set4 {W : World} {g : Nat} {T : TypeId} {a b c d : Value} (h : W.heap[g]? = some (.cells #[a, b, c, d] T (0, 0))) (a' b' c' d' : Value) :
    ((((W.setCell ⟨g, 0, none⟩ a').setCell ⟨g, 1, none⟩ b').setCell ⟨g, 2, none⟩ c').setCell ⟨g, 3, none⟩ d').heap[g]? = some (.cells #[a', b', c', d'] T (0, 0)) := by
  simpa using blk_set (blk_set (blk_set (blk_set h 0 a') 1 b') 2 c') 3 d'
theorem far4 {W : World} {g k : Nat} {T : TypeId} {cs : Array Value} (h : W.heap[k]? = some (.cells cs T (0, 0))) (hne : k ≠ g) (a' b' c' d' : Value) :
    ((((W.setCell ⟨g, 0, none⟩ a').setCell ⟨g, 1, none⟩ b').setCell ⟨g, 2, none⟩ c').setCell ⟨g, 3, none⟩ d').heap[k]? = some (.cells cs T (0, 0)) :=
  blk_far (blk_far (blk_far (blk_far h hne a') hne b') hne c') hne d'
theorem below4 {w W : World} {g : Nat} (h : Below w.heap.size w W) (hg : w.heap.size ≤ g) (a' b' c' d' : Value) :
    Below w.heap.size w ((((W.setCell ⟨g, 0, none⟩ a').setCell ⟨g, 1, none⟩ b').setCell ⟨g, 2, none⟩ c').setCell ⟨g, 3, none⟩ d') :=
  below_set (below_set (below_set (below_set h hg) hg) hg) hg
/-- Orient and Compare, their answers under letters -/
theorem orient_calls (a b c : Pt) (v : Int) (hv : Hid (orient a b c = v)) (W : World) :
    Calls Try.prog 11 #[.agg #[.int .i64 a.x, .int .i64 a.y], .agg #[.int .i64 b.x, .int .i64 b.y], .agg #[.int .i64 c.x, .int .i64 c.y]] W fun e w' => e = .returned (.int .i64 v) ∧ Below W.heap.size W w' :=
  geom_Orient.calls 4 _ _ _ _ _ _ _ W (by rw [orient_sem 4 (by omega), hv.out])
theorem compare_calls (a b : Pt) (v : Int) (hv : Hid (cmpv a b = v)) (W : World) :
    Calls Try.prog 13 #[.agg #[.int .i64 a.x, .int .i64 a.y], .agg #[.int .i64 b.x, .int .i64 b.y]] W fun e w' => e = .returned (.int .i64 v) ∧ Below W.heap.size W w' :=
  geom_Compare.calls _ _ _ _ _ W (by rw [cmp_sem, hv.out])
theorem geom_On.no (a b p : Pt) (w : World) (h : ¬ (Nr a ∧ Nr b ∧ Nr p)) :
    Calls Try.prog 15 #[.agg #[.int .i64 a.x, .int .i64 a.y, .int .i64 b.x, .int .i64 b.y], .agg #[.int .i64 p.x, .int .i64 p.y]] w fun e w' => e = .returned (.bool false) ∧ Below w.heap.size w w' := by
  have HN : Hid (decide (Nr a ∧ Nr b ∧ Nr p) = false) := Lib.hid (decide_eq_false h)
  clear h
  have hu1 := Try.underlying25
  have hu2 := Try.underlying23
  have HB := Aside0.mk (Below.refl w.heap.size w)
  go_enter Try.func15, Try.ntmps15
  go_wp2_with (first | ((with_reducible refine gate_dst (N := 2) rfl ?_); refine box_event ?hg (N := 2) ?hd (cs := #[.int .i64 a.x, .int .i64 a.y, .int .i64 b.x, .int .i64 b.y]) (t := 25) ?hr ?_; (case hd => rfl); (case hg => rfl); (case hr => first | (go_simp; done) | (go_simp; rfl)); intro gs hg W0_ hbox hb; have GEgs := Aside0.mk (show w.heap.size ≤ gs by rw [hg]; exact HB.out.size); have n_ := Aside0.mk (below_step HB.out hb); clear HB; have HB := n_; clear n_; have BKgs := Aside0.mk hbox; clear hg hb hbox; have qgs_0 : W0_.cell? ⟨gs, 0, none⟩ = some (.int .i64 a.x) := (blk_cell BKgs.out 0).trans rfl; have qgs_1 : W0_.cell? ⟨gs, 1, none⟩ = some (.int .i64 a.y) := (blk_cell BKgs.out 1).trans rfl; have qgs_2 : W0_.cell? ⟨gs, 2, none⟩ = some (.int .i64 b.x) := (blk_cell BKgs.out 2).trans rfl; have qgs_3 : W0_.cell? ⟨gs, 3, none⟩ = some (.int .i64 b.y) := (blk_cell BKgs.out 3).trans rfl; have fgs_0 := blk_frozen BKgs.out 0; have fgs_1 := blk_frozen BKgs.out 1; have fgs_2 := blk_frozen BKgs.out 2; have fgs_3 := blk_frozen BKgs.out 3) | ((with_reducible refine gate_dst (N := 3) rfl ?_); refine box_event ?hg (N := 3) ?hd (cs := #[.int .i64 p.x, .int .i64 p.y]) (t := 23) ?hr ?_; (case hd => rfl); (case hg => rfl); (case hr => first | (go_simp; done) | (go_simp; rfl)); intro gp hg W1_ hbox hb; (try clear qgs_0 fgs_0 qgs_1 fgs_1 qgs_2 fgs_2 qgs_3 fgs_3); have negsgp : gs ≠ gp := (by rw [hg]; exact Nat.ne_of_lt (blk_lt BKgs.out)); have negpgs : gp ≠ gs := (by rw [hg]; exact Nat.ne_of_gt (blk_lt BKgs.out)); have n_ := Aside0.mk (blk_below BKgs.out hb); clear BKgs; have BKgs := n_; clear n_; have GEgp := Aside0.mk (show w.heap.size ≤ gp by rw [hg]; exact HB.out.size); have n_ := Aside0.mk (below_step HB.out hb); clear HB; have HB := n_; clear n_; have BKgp := Aside0.mk hbox; clear hg hb hbox; have qgs_0 : W1_.cell? ⟨gs, 0, none⟩ = some (.int .i64 a.x) := (blk_cell BKgs.out 0).trans rfl; have qgs_1 : W1_.cell? ⟨gs, 1, none⟩ = some (.int .i64 a.y) := (blk_cell BKgs.out 1).trans rfl; have qgs_2 : W1_.cell? ⟨gs, 2, none⟩ = some (.int .i64 b.x) := (blk_cell BKgs.out 2).trans rfl; have qgs_3 : W1_.cell? ⟨gs, 3, none⟩ = some (.int .i64 b.y) := (blk_cell BKgs.out 3).trans rfl; have fgs_0 := blk_frozen BKgs.out 0; have fgs_1 := blk_frozen BKgs.out 1; have fgs_2 := blk_frozen BKgs.out 2; have fgs_3 := blk_frozen BKgs.out 3; have qgp_0 : W1_.cell? ⟨gp, 0, none⟩ = some (.int .i64 p.x) := (blk_cell BKgp.out 0).trans rfl; have qgp_1 : W1_.cell? ⟨gp, 1, none⟩ = some (.int .i64 p.y) := (blk_cell BKgp.out 1).trans rfl; have fgp_0 := blk_frozen BKgp.out 0; have fgp_1 := blk_frozen BKgp.out 1) | (go_at_call 29; (with_reducible refine (near3_calls a b p _ HN _ _ (blk_new _ _)).mono ?_); rintro e Wc_ ⟨rfl, hb⟩; (try clear qgs_0 fgs_0 qgs_1 fgs_1 qgs_2 fgs_2 qgs_3 fgs_3); (try clear qgp_0 fgp_0 qgp_1 fgp_1); have n_ := Aside0.mk (blk_below (blk_alloc BKgs.out _) hb); clear BKgs; have BKgs := n_; clear n_; have n_ := Aside0.mk (blk_below (blk_alloc BKgp.out _) hb); clear BKgp; have BKgp := n_; clear n_; have n_ := Aside0.mk (below_step (below_alloc HB.out _) hb); clear HB; have HB := n_; clear n_; clear hb; have qgs_0 : Wc_.cell? ⟨gs, 0, none⟩ = some (.int .i64 a.x) := (blk_cell BKgs.out 0).trans rfl; have qgs_1 : Wc_.cell? ⟨gs, 1, none⟩ = some (.int .i64 a.y) := (blk_cell BKgs.out 1).trans rfl; have qgs_2 : Wc_.cell? ⟨gs, 2, none⟩ = some (.int .i64 b.x) := (blk_cell BKgs.out 2).trans rfl; have qgs_3 : Wc_.cell? ⟨gs, 3, none⟩ = some (.int .i64 b.y) := (blk_cell BKgs.out 3).trans rfl; have fgs_0 := blk_frozen BKgs.out 0; have fgs_1 := blk_frozen BKgs.out 1; have fgs_2 := blk_frozen BKgs.out 2; have fgs_3 := blk_frozen BKgs.out 3; have qgp_0 : Wc_.cell? ⟨gp, 0, none⟩ = some (.int .i64 p.x) := (blk_cell BKgp.out 0).trans rfl; have qgp_1 : Wc_.cell? ⟨gp, 1, none⟩ = some (.int .i64 p.y) := (blk_cell BKgp.out 1).trans rfl; have fgp_0 := blk_frozen BKgp.out 0; have fgp_1 := blk_frozen BKgp.out 1))
  go_ret
  exact ⟨rfl, HB.out⟩
theorem on_ite (o u v mx my nx ny px py : Int) : (if o = 0 then (if u ≤ 0 then (if v ≤ 0 then (if (!(mx == nx) || (!(my == ny))) = true then some true else some (px == mx && (py == my))) else some false) else some false) else some false) = some (if o = 0 then (if u ≤ 0 then (if v ≤ 0 then (if mx = nx ∧ my = ny then (if px = mx ∧ py = my then true else false) else true) else false) else false) else false) := by
  by_cases h1 : o = 0 <;> by_cases h2 : u ≤ 0 <;> by_cases h3 : v ≤ 0 <;> by_cases h4 : mx = nx <;> by_cases h5 : my = ny <;> by_cases h6 : px = mx <;> by_cases h7 : py = my <;> simp [h1, h2, h3, h4, h5, h6, h7] <;> (try rfl)
set_option maxHeartbeats 1000000 in
theorem geom_On.yes (a b p : Pt) (w : World) (h : (Nr a ∧ Nr b ∧ Nr p)) :
    Calls Try.prog 15 #[.agg #[.int .i64 a.x, .int .i64 a.y, .int .i64 b.x, .int .i64 b.y], .agg #[.int .i64 p.x, .int .i64 p.y]] w fun e w' => e = .returned (.bool (decide ((Nr a ∧ Nr b ∧ Nr p) ∧ On a b p))) ∧ Below w.heap.size w w' := by
  have HN : Hid (decide (Nr a ∧ Nr b ∧ Nr p) = true) := Lib.hid (decide_eq_true h)
  obtain ⟨m, n, HS⟩ : ∃ m n, Hid (lo a b = m ∧ hi a b = n) := ⟨_, _, Lib.hid ⟨rfl, rfl⟩⟩
  obtain ⟨o, HO⟩ : ∃ o, Hid (orient m n p = o) := ⟨_, Lib.hid rfl⟩
  obtain ⟨u, HU⟩ : ∃ u, Hid (cmpv m p = u) := ⟨_, Lib.hid rfl⟩
  obtain ⟨v, HV⟩ : ∃ v, Hid (cmpv p n = v) := ⟨_, Lib.hid rfl⟩
  obtain ⟨R, HR⟩ : ∃ R, Hid (decide ((Nr a ∧ Nr b ∧ Nr p) ∧ On a b p) = R) := ⟨_, Lib.hid rfl⟩
  rw [HR.out]
  have HF : Hid ((if o = 0 then (if u ≤ 0 then (if v ≤ 0 then (if m.x = n.x ∧ m.y = n.y then (if p.x = m.x ∧ p.y = m.y then true else false) else true) else false) else false) else false) = R) := by
    have := on_sem 4 (by omega) a b p
    unfold geom_On.f at this
    rw [near3 4 (by omega) a b p, Option.bind_some, if_pos HN.out, sorted_sem, Option.bind_some, HS.out.1, HS.out.2] at this
    simp only at this
    rw [orient_sem 4 (by omega), Option.bind_some, cmp_sem, cmp_sem, HO.out, HU.out, HV.out, HR.out] at this
    simp only [Option.bind_some] at this
    rw [on_ite] at this
    exact Lib.hid (Option.some.inj this)
  clear h HR
  have hu1 := Try.underlying25
  have hu2 := Try.underlying23
  have HB := Aside0.mk (Below.refl w.heap.size w)
  go_enter Try.func15, Try.ntmps15
  go_wp2_with (first | ((with_reducible refine gate_dst (N := 2) rfl ?_); refine box_event ?hg (N := 2) ?hd (cs := #[.int .i64 a.x, .int .i64 a.y, .int .i64 b.x, .int .i64 b.y]) (t := 25) ?hr ?_; (case hd => rfl); (case hg => rfl); (case hr => first | (go_simp; done) | (go_simp; rfl)); intro gs hg W0_ hbox hb; have GEgs := Aside0.mk (show w.heap.size ≤ gs by rw [hg]; exact HB.out.size); have n_ := Aside0.mk (below_step HB.out hb); clear HB; have HB := n_; clear n_; have BKgs := Aside0.mk hbox; clear hg hb hbox; have qgs_0 : W0_.cell? ⟨gs, 0, none⟩ = some (.int .i64 a.x) := (blk_cell BKgs.out 0).trans rfl; have qgs_1 : W0_.cell? ⟨gs, 1, none⟩ = some (.int .i64 a.y) := (blk_cell BKgs.out 1).trans rfl; have qgs_2 : W0_.cell? ⟨gs, 2, none⟩ = some (.int .i64 b.x) := (blk_cell BKgs.out 2).trans rfl; have qgs_3 : W0_.cell? ⟨gs, 3, none⟩ = some (.int .i64 b.y) := (blk_cell BKgs.out 3).trans rfl; have fgs_0 := blk_frozen BKgs.out 0; have fgs_1 := blk_frozen BKgs.out 1; have fgs_2 := blk_frozen BKgs.out 2; have fgs_3 := blk_frozen BKgs.out 3) | ((with_reducible refine gate_dst (N := 3) rfl ?_); refine box_event ?hg (N := 3) ?hd (cs := #[.int .i64 p.x, .int .i64 p.y]) (t := 23) ?hr ?_; (case hd => rfl); (case hg => rfl); (case hr => first | (go_simp; done) | (go_simp; rfl)); intro gp hg W1_ hbox hb; (try clear qgs_0 fgs_0 qgs_1 fgs_1 qgs_2 fgs_2 qgs_3 fgs_3); have negsgp : gs ≠ gp := (by rw [hg]; exact Nat.ne_of_lt (blk_lt BKgs.out)); have negpgs : gp ≠ gs := (by rw [hg]; exact Nat.ne_of_gt (blk_lt BKgs.out)); have n_ := Aside0.mk (blk_below BKgs.out hb); clear BKgs; have BKgs := n_; clear n_; have GEgp := Aside0.mk (show w.heap.size ≤ gp by rw [hg]; exact HB.out.size); have n_ := Aside0.mk (below_step HB.out hb); clear HB; have HB := n_; clear n_; have BKgp := Aside0.mk hbox; clear hg hb hbox; have qgs_0 : W1_.cell? ⟨gs, 0, none⟩ = some (.int .i64 a.x) := (blk_cell BKgs.out 0).trans rfl; have qgs_1 : W1_.cell? ⟨gs, 1, none⟩ = some (.int .i64 a.y) := (blk_cell BKgs.out 1).trans rfl; have qgs_2 : W1_.cell? ⟨gs, 2, none⟩ = some (.int .i64 b.x) := (blk_cell BKgs.out 2).trans rfl; have qgs_3 : W1_.cell? ⟨gs, 3, none⟩ = some (.int .i64 b.y) := (blk_cell BKgs.out 3).trans rfl; have fgs_0 := blk_frozen BKgs.out 0; have fgs_1 := blk_frozen BKgs.out 1; have fgs_2 := blk_frozen BKgs.out 2; have fgs_3 := blk_frozen BKgs.out 3; have qgp_0 : W1_.cell? ⟨gp, 0, none⟩ = some (.int .i64 p.x) := (blk_cell BKgp.out 0).trans rfl; have qgp_1 : W1_.cell? ⟨gp, 1, none⟩ = some (.int .i64 p.y) := (blk_cell BKgp.out 1).trans rfl; have fgp_0 := blk_frozen BKgp.out 0; have fgp_1 := blk_frozen BKgp.out 1) | (go_at_call 29; (with_reducible refine (near3_calls a b p _ HN _ _ (blk_new _ _)).mono ?_); rintro e Wc_ ⟨rfl, hb⟩; (try clear qgs_0 fgs_0 qgs_1 fgs_1 qgs_2 fgs_2 qgs_3 fgs_3); (try clear qgp_0 fgp_0 qgp_1 fgp_1); have n_ := Aside0.mk (blk_below (blk_alloc BKgs.out _) hb); clear BKgs; have BKgs := n_; clear n_; have n_ := Aside0.mk (blk_below (blk_alloc BKgp.out _) hb); clear BKgp; have BKgp := n_; clear n_; have n_ := Aside0.mk (below_step (below_alloc HB.out _) hb); clear HB; have HB := n_; clear n_; clear hb; have qgs_0 : Wc_.cell? ⟨gs, 0, none⟩ = some (.int .i64 a.x) := (blk_cell BKgs.out 0).trans rfl; have qgs_1 : Wc_.cell? ⟨gs, 1, none⟩ = some (.int .i64 a.y) := (blk_cell BKgs.out 1).trans rfl; have qgs_2 : Wc_.cell? ⟨gs, 2, none⟩ = some (.int .i64 b.x) := (blk_cell BKgs.out 2).trans rfl; have qgs_3 : Wc_.cell? ⟨gs, 3, none⟩ = some (.int .i64 b.y) := (blk_cell BKgs.out 3).trans rfl; have fgs_0 := blk_frozen BKgs.out 0; have fgs_1 := blk_frozen BKgs.out 1; have fgs_2 := blk_frozen BKgs.out 2; have fgs_3 := blk_frozen BKgs.out 3; have qgp_0 : Wc_.cell? ⟨gp, 0, none⟩ = some (.int .i64 p.x) := (blk_cell BKgp.out 0).trans rfl; have qgp_1 : Wc_.cell? ⟨gp, 1, none⟩ = some (.int .i64 p.y) := (blk_cell BKgp.out 1).trans rfl; have fgp_0 := blk_frozen BKgp.out 0; have fgp_1 := blk_frozen BKgp.out 1) | ((with_reducible refine gate_callee (f := 37) rfl ?_); refine goesL_ (some 14) rfl rfl Try.func37 (by kernel_rfl) rfl #[.agg #[.int .i64 a.x, .int .i64 a.y, .int .i64 b.x, .int .i64 b.y]] rfl (by (try simp only [List.map_toArray, List.map_cons, List.map_nil]); first | done | rfl) ?_; (with_reducible refine (sorted_calls a b m n HS _).mono ?_); rintro e Wc_ ⟨rfl, hb⟩; refine ⟨_, rfl, ?_⟩; (try clear qgs_0 fgs_0 qgs_1 fgs_1 qgs_2 fgs_2 qgs_3 fgs_3); (try clear qgp_0 fgp_0 qgp_1 fgp_1); have n_ := Aside0.mk (blk_below BKgs.out hb); clear BKgs; have BKgs := n_; clear n_; have n_ := Aside0.mk (blk_below BKgp.out hb); clear BKgp; have BKgp := n_; clear n_; have n_ := Aside0.mk (below_step HB.out hb); clear HB; have HB := n_; clear n_; clear hb; have qgs_0 : Wc_.cell? ⟨gs, 0, none⟩ = some (.int .i64 a.x) := (blk_cell BKgs.out 0).trans rfl; have qgs_1 : Wc_.cell? ⟨gs, 1, none⟩ = some (.int .i64 a.y) := (blk_cell BKgs.out 1).trans rfl; have qgs_2 : Wc_.cell? ⟨gs, 2, none⟩ = some (.int .i64 b.x) := (blk_cell BKgs.out 2).trans rfl; have qgs_3 : Wc_.cell? ⟨gs, 3, none⟩ = some (.int .i64 b.y) := (blk_cell BKgs.out 3).trans rfl; have fgs_0 := blk_frozen BKgs.out 0; have fgs_1 := blk_frozen BKgs.out 1; have fgs_2 := blk_frozen BKgs.out 2; have fgs_3 := blk_frozen BKgs.out 3; have qgp_0 : Wc_.cell? ⟨gp, 0, none⟩ = some (.int .i64 p.x) := (blk_cell BKgp.out 0).trans rfl; have qgp_1 : Wc_.cell? ⟨gp, 1, none⟩ = some (.int .i64 p.y) := (blk_cell BKgp.out 1).trans rfl; have fgp_0 := blk_frozen BKgp.out 0; have fgp_1 := blk_frozen BKgp.out 1) | ((with_reducible refine gate_callee (f := 11) rfl ?_); refine goesL_ (some 20) rfl rfl Try.func11 (by kernel_rfl) rfl #[.agg #[.int .i64 m.x, .int .i64 m.y], .agg #[.int .i64 n.x, .int .i64 n.y], .agg #[.int .i64 p.x, .int .i64 p.y]] rfl (by (try simp only [List.map_toArray, List.map_cons, List.map_nil]); first | done | rfl) ?_; have n_ := Aside0.mk (set4 BKgs.out (.int .i64 m.x) (.int .i64 m.y) (.int .i64 n.x) (.int .i64 n.y)); clear BKgs; have BKgs := n_; clear n_; have n_ := Aside0.mk (far4 BKgp.out negpgs (.int .i64 m.x) (.int .i64 m.y) (.int .i64 n.x) (.int .i64 n.y)); clear BKgp; have BKgp := n_; clear n_; have n_ := Aside0.mk (below4 HB.out GEgs.out (.int .i64 m.x) (.int .i64 m.y) (.int .i64 n.x) (.int .i64 n.y)); clear HB; have HB := n_; clear n_; (with_reducible refine (orient_calls m n p o HO _).mono ?_); rintro e Wc_ ⟨rfl, hb⟩; refine ⟨_, rfl, ?_⟩; (try clear qgs_0 fgs_0 qgs_1 fgs_1 qgs_2 fgs_2 qgs_3 fgs_3); (try clear qgp_0 fgp_0 qgp_1 fgp_1); have n_ := Aside0.mk (blk_below BKgs.out hb); clear BKgs; have BKgs := n_; clear n_; have n_ := Aside0.mk (blk_below BKgp.out hb); clear BKgp; have BKgp := n_; clear n_; have n_ := Aside0.mk (below_step HB.out hb); clear HB; have HB := n_; clear n_; clear hb; have qgs_0 : Wc_.cell? ⟨gs, 0, none⟩ = some (.int .i64 m.x) := (blk_cell BKgs.out 0).trans rfl; have qgs_1 : Wc_.cell? ⟨gs, 1, none⟩ = some (.int .i64 m.y) := (blk_cell BKgs.out 1).trans rfl; have qgs_2 : Wc_.cell? ⟨gs, 2, none⟩ = some (.int .i64 n.x) := (blk_cell BKgs.out 2).trans rfl; have qgs_3 : Wc_.cell? ⟨gs, 3, none⟩ = some (.int .i64 n.y) := (blk_cell BKgs.out 3).trans rfl; have fgs_0 := blk_frozen BKgs.out 0; have fgs_1 := blk_frozen BKgs.out 1; have fgs_2 := blk_frozen BKgs.out 2; have fgs_3 := blk_frozen BKgs.out 3; have qgp_0 : Wc_.cell? ⟨gp, 0, none⟩ = some (.int .i64 p.x) := (blk_cell BKgp.out 0).trans rfl; have qgp_1 : Wc_.cell? ⟨gp, 1, none⟩ = some (.int .i64 p.y) := (blk_cell BKgp.out 1).trans rfl; have fgp_0 := blk_frozen BKgp.out 0; have fgp_1 := blk_frozen BKgp.out 1) | (go_at_call 13; (with_reducible refine (compare_calls m p u HU _).mono ?_); rintro e Wc_ ⟨rfl, hb⟩; (try clear qgs_0 fgs_0 qgs_1 fgs_1 qgs_2 fgs_2 qgs_3 fgs_3); (try clear qgp_0 fgp_0 qgp_1 fgp_1); have n_ := Aside0.mk (blk_below BKgs.out hb); clear BKgs; have BKgs := n_; clear n_; have n_ := Aside0.mk (blk_below BKgp.out hb); clear BKgp; have BKgp := n_; clear n_; have n_ := Aside0.mk (below_step HB.out hb); clear HB; have HB := n_; clear n_; clear hb; have qgs_0 : Wc_.cell? ⟨gs, 0, none⟩ = some (.int .i64 m.x) := (blk_cell BKgs.out 0).trans rfl; have qgs_1 : Wc_.cell? ⟨gs, 1, none⟩ = some (.int .i64 m.y) := (blk_cell BKgs.out 1).trans rfl; have qgs_2 : Wc_.cell? ⟨gs, 2, none⟩ = some (.int .i64 n.x) := (blk_cell BKgs.out 2).trans rfl; have qgs_3 : Wc_.cell? ⟨gs, 3, none⟩ = some (.int .i64 n.y) := (blk_cell BKgs.out 3).trans rfl; have fgs_0 := blk_frozen BKgs.out 0; have fgs_1 := blk_frozen BKgs.out 1; have fgs_2 := blk_frozen BKgs.out 2; have fgs_3 := blk_frozen BKgs.out 3; have qgp_0 : Wc_.cell? ⟨gp, 0, none⟩ = some (.int .i64 p.x) := (blk_cell BKgp.out 0).trans rfl; have qgp_1 : Wc_.cell? ⟨gp, 1, none⟩ = some (.int .i64 p.y) := (blk_cell BKgp.out 1).trans rfl; have fgp_0 := blk_frozen BKgp.out 0; have fgp_1 := blk_frozen BKgp.out 1) | (go_at_call 13; (with_reducible refine (compare_calls p n v HV _).mono ?_); rintro e Wc_ ⟨rfl, hb⟩; (try clear qgs_0 fgs_0 qgs_1 fgs_1 qgs_2 fgs_2 qgs_3 fgs_3); (try clear qgp_0 fgp_0 qgp_1 fgp_1); have n_ := Aside0.mk (blk_below BKgs.out hb); clear BKgs; have BKgs := n_; clear n_; have n_ := Aside0.mk (blk_below BKgp.out hb); clear BKgp; have BKgp := n_; clear n_; have n_ := Aside0.mk (below_step HB.out hb); clear HB; have HB := n_; clear n_; clear hb; have qgs_0 : Wc_.cell? ⟨gs, 0, none⟩ = some (.int .i64 m.x) := (blk_cell BKgs.out 0).trans rfl; have qgs_1 : Wc_.cell? ⟨gs, 1, none⟩ = some (.int .i64 m.y) := (blk_cell BKgs.out 1).trans rfl; have qgs_2 : Wc_.cell? ⟨gs, 2, none⟩ = some (.int .i64 n.x) := (blk_cell BKgs.out 2).trans rfl; have qgs_3 : Wc_.cell? ⟨gs, 3, none⟩ = some (.int .i64 n.y) := (blk_cell BKgs.out 3).trans rfl; have fgs_0 := blk_frozen BKgs.out 0; have fgs_1 := blk_frozen BKgs.out 1; have fgs_2 := blk_frozen BKgs.out 2; have fgs_3 := blk_frozen BKgs.out 3; have qgp_0 : Wc_.cell? ⟨gp, 0, none⟩ = some (.int .i64 p.x) := (blk_cell BKgp.out 0).trans rfl; have qgp_1 : Wc_.cell? ⟨gp, 1, none⟩ = some (.int .i64 p.y) := (blk_cell BKgp.out 1).trans rfl; have fgp_0 := blk_frozen BKgp.out 0; have fgp_1 := blk_frozen BKgp.out 1))
  all_goals go_ret
  all_goals (refine ⟨?_, HB.out⟩; have HF := HF.out)
  all_goals (repeat' split at HF)
  all_goals first | (exfalso; omega) | (subst HF; rfl)
theorem geom_On.calls (k : Nat) (a0_0 : Int) (a0_1 : Int) (a0_2 : Int) (a0_3 : Int) (a1_0 : Int) (a1_1 : Int) (r : Bool) (w : World) (h : geom_On.f k a0_0 a0_1 a0_2 a0_3 a1_0 a1_1 = some r) :
    Calls Try.prog 15 #[.agg #[.int .i64 a0_0, .int .i64 a0_1, .int .i64 a0_2, .int .i64 a0_3], .agg #[.int .i64 a1_0, .int .i64 a1_1]] w fun e w' => e = .returned (.bool r) ∧ Below w.heap.size w w' := by
  have up : ∀ n, geom_On.f (k + n) a0_0 a0_1 a0_2 a0_3 a1_0 a1_1 = some r := by
    intro n
    induction n with
    | zero => exact h
    | succ n ih => exact geom_On.mono _ _ _ _ _ _ _ _ ih
  have e := up 4
  rw [on_sem (k + 4) (by omega) ⟨a0_0, a0_1⟩ ⟨a0_2, a0_3⟩ ⟨a1_0, a1_1⟩] at e
  have e := Option.some.inj e
  by_cases hn : Nr ⟨a0_0, a0_1⟩ ∧ Nr ⟨a0_2, a0_3⟩ ∧ Nr ⟨a1_0, a1_1⟩
  · rw [← e]
    exact geom_On.yes ⟨a0_0, a0_1⟩ ⟨a0_2, a0_3⟩ ⟨a1_0, a1_1⟩ w hn
  · have : r = false := by rw [← e]; exact decide_eq_false (fun z => hn z.1)
    rw [this]
    exact geom_On.no ⟨a0_0, a0_1⟩ ⟨a0_2, a0_3⟩ ⟨a1_0, a1_1⟩ w hn

end Go.Proofs.Ytgibndgllhompaa.P
