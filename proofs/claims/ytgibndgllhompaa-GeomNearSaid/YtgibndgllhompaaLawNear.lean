/- The law GeomNear: Near is symmetric in the ends, 0 on the segment, not greater than the squared distance of an end or of a point of the segment. -/
import Derived.Test.YtgibndgllhompaaSemLaw
import Derived.Test.YtgibndgllhompaaReg
import Derived.Deep.RegionHeld3
namespace Go.Proofs.Ytgibndgllhompaa.P
open Go.RowKit Go.Proofs.YtgibndgllhompaaW.PrintWords Go.Proofs.YtgibndgllhompaaW.PrintLast Go.Proofs.YtgibndgllhompaaW.PrintMore Go.Proofs.Ytgibndgllhompaa.Geo
set_option linter.unusedVariables false
set_option linter.unusedSimpArgs false
theorem keep_near {w W W1 : World} {gs gp gq : Nat} {a b p q : Pt} (h : Aside0 (W.heap[gs]? = some (.cells #[.int .i64 a.x, .int .i64 a.y, .int .i64 b.x, .int .i64 b.y] 25 (0, 0))) ∧ Aside0 (W.heap[gp]? = some (.cells #[.int .i64 p.x, .int .i64 p.y] 23 (0, 0))) ∧ Aside0 (W.heap[gq]? = some (.cells #[.int .i64 q.x, .int .i64 q.y] 23 (0, 0))) ∧ Aside0 (Below w.heap.size w W) ∧ W.cell? ⟨gs, 0, none⟩ = some (.int .i64 a.x) ∧ W.cell? ⟨gs, 1, none⟩ = some (.int .i64 a.y) ∧ W.cell? ⟨gs, 2, none⟩ = some (.int .i64 b.x) ∧ W.cell? ⟨gs, 3, none⟩ = some (.int .i64 b.y) ∧ W.cell? ⟨gp, 0, none⟩ = some (.int .i64 p.x) ∧ W.cell? ⟨gp, 1, none⟩ = some (.int .i64 p.y) ∧ W.cell? ⟨gq, 0, none⟩ = some (.int .i64 q.x) ∧ W.cell? ⟨gq, 1, none⟩ = some (.int .i64 q.y)) (hb : Below W.heap.size W W1) : Aside0 (W1.heap[gs]? = some (.cells #[.int .i64 a.x, .int .i64 a.y, .int .i64 b.x, .int .i64 b.y] 25 (0, 0))) ∧ Aside0 (W1.heap[gp]? = some (.cells #[.int .i64 p.x, .int .i64 p.y] 23 (0, 0))) ∧ Aside0 (W1.heap[gq]? = some (.cells #[.int .i64 q.x, .int .i64 q.y] 23 (0, 0))) ∧ Aside0 (Below w.heap.size w W1) ∧ W1.cell? ⟨gs, 0, none⟩ = some (.int .i64 a.x) ∧ W1.cell? ⟨gs, 1, none⟩ = some (.int .i64 a.y) ∧ W1.cell? ⟨gs, 2, none⟩ = some (.int .i64 b.x) ∧ W1.cell? ⟨gs, 3, none⟩ = some (.int .i64 b.y) ∧ W1.cell? ⟨gp, 0, none⟩ = some (.int .i64 p.x) ∧ W1.cell? ⟨gp, 1, none⟩ = some (.int .i64 p.y) ∧ W1.cell? ⟨gq, 0, none⟩ = some (.int .i64 q.x) ∧ W1.cell? ⟨gq, 1, none⟩ = some (.int .i64 q.y) := by
  obtain ⟨b0, b1, b2, hB, _, _, _, _, _, _, _, _⟩ := h
  exact ⟨⟨blk_below b0.out hb⟩, ⟨blk_below b1.out hb⟩, ⟨blk_below b2.out hb⟩, ⟨below_step hB.out hb⟩, (blk_cell (blk_below b0.out hb) 0).trans rfl, (blk_cell (blk_below b0.out hb) 1).trans rfl, (blk_cell (blk_below b0.out hb) 2).trans rfl, (blk_cell (blk_below b0.out hb) 3).trans rfl, (blk_cell (blk_below b1.out hb) 0).trans rfl, (blk_cell (blk_below b1.out hb) 1).trans rfl, (blk_cell (blk_below b2.out hb) 0).trans rfl, (blk_cell (blk_below b2.out hb) 1).trans rfl⟩
theorem keep_near_drew {w W : World} {gs gp gq : Nat} {a b p q : Pt} (h : Aside0 (W.heap[gs]? = some (.cells #[.int .i64 a.x, .int .i64 a.y, .int .i64 b.x, .int .i64 b.y] 25 (0, 0))) ∧ Aside0 (W.heap[gp]? = some (.cells #[.int .i64 p.x, .int .i64 p.y] 23 (0, 0))) ∧ Aside0 (W.heap[gq]? = some (.cells #[.int .i64 q.x, .int .i64 q.y] 23 (0, 0))) ∧ Aside0 (Below w.heap.size w W) ∧ W.cell? ⟨gs, 0, none⟩ = some (.int .i64 a.x) ∧ W.cell? ⟨gs, 1, none⟩ = some (.int .i64 a.y) ∧ W.cell? ⟨gs, 2, none⟩ = some (.int .i64 b.x) ∧ W.cell? ⟨gs, 3, none⟩ = some (.int .i64 b.y) ∧ W.cell? ⟨gp, 0, none⟩ = some (.int .i64 p.x) ∧ W.cell? ⟨gp, 1, none⟩ = some (.int .i64 p.y) ∧ W.cell? ⟨gq, 0, none⟩ = some (.int .i64 q.x) ∧ W.cell? ⟨gq, 1, none⟩ = some (.int .i64 q.y)) : Aside0 (W.drew.heap[gs]? = some (.cells #[.int .i64 a.x, .int .i64 a.y, .int .i64 b.x, .int .i64 b.y] 25 (0, 0))) ∧ Aside0 (W.drew.heap[gp]? = some (.cells #[.int .i64 p.x, .int .i64 p.y] 23 (0, 0))) ∧ Aside0 (W.drew.heap[gq]? = some (.cells #[.int .i64 q.x, .int .i64 q.y] 23 (0, 0))) ∧ Aside0 (Below w.heap.size w W.drew) ∧ W.drew.cell? ⟨gs, 0, none⟩ = some (.int .i64 a.x) ∧ W.drew.cell? ⟨gs, 1, none⟩ = some (.int .i64 a.y) ∧ W.drew.cell? ⟨gs, 2, none⟩ = some (.int .i64 b.x) ∧ W.drew.cell? ⟨gs, 3, none⟩ = some (.int .i64 b.y) ∧ W.drew.cell? ⟨gp, 0, none⟩ = some (.int .i64 p.x) ∧ W.drew.cell? ⟨gp, 1, none⟩ = some (.int .i64 p.y) ∧ W.drew.cell? ⟨gq, 0, none⟩ = some (.int .i64 q.x) ∧ W.drew.cell? ⟨gq, 1, none⟩ = some (.int .i64 q.y) := by
  obtain ⟨b0, b1, b2, hB, _, _, _, _, _, _, _, _⟩ := h
  exact ⟨⟨blk_drew b0.out⟩, ⟨blk_drew b1.out⟩, ⟨blk_drew b2.out⟩, ⟨below_drew1 hB.out⟩, (blk_cell (blk_drew b0.out) 0).trans rfl, (blk_cell (blk_drew b0.out) 1).trans rfl, (blk_cell (blk_drew b0.out) 2).trans rfl, (blk_cell (blk_drew b0.out) 3).trans rfl, (blk_cell (blk_drew b1.out) 0).trans rfl, (blk_cell (blk_drew b1.out) 1).trans rfl, (blk_cell (blk_drew b2.out) 0).trans rfl, (blk_cell (blk_drew b2.out) 1).trans rfl⟩

theorem dist_nonneg (a b : Pt) : 0 ≤ dist a b := by have h1 := sq_nonneg (b.x - a.x); have h2 := sq_nonneg (b.y - a.y); unfold dist; omega
theorem dist_zero {a b : Pt} (h : dist a b = 0) : a = b := by
  have h1 := sq_nonneg (b.x - a.x); have h2 := sq_nonneg (b.y - a.y)
  have k : (b.x - a.x) * (b.x - a.x) + (b.y - a.y) * (b.y - a.y) = 0 := h
  have k1 : (b.x - a.x) * (b.x - a.x) = 0 := by omega
  have k2 : (b.y - a.y) * (b.y - a.y) = 0 := by omega
  exact Pt.ext' (by rcases Int.mul_eq_zero.1 k1 with h | h <;> omega) (by rcases Int.mul_eq_zero.1 k2 with h | h <;> omega)
theorem dist_self (a : Pt) : dist a a = 0 := by unfold dist; simp
theorem dist_comm (a b : Pt) : dist a b = dist b a := by unfold dist; grind
theorem dist_far (a b p : Pt) : dist b p = dist a p - 2 * along a b p + dist a b := by unfold dist along; grind
theorem along_swap (a b p : Pt) : along b a p = dist a b - along a b p := by unfold dist along; grind
theorem lagrange2 (a b p q : Pt) (h : cr a b q = 0) : dist a b * dist q p = (along a b p - along a b q) * (along a b p - along a b q) + cr a b p * cr a b p := by
  have : cr a b p * cr a b p = (cr a b p - cr a b q) * (cr a b p - cr a b q) := by rw [h]; grind
  rw [this]; unfold dist along cr; grind
theorem quot_le {c V D : Int} (hV : 0 < V) (h : c * c ≤ V * D) : c * c / V ≤ D := by
  rw [Int.ediv_le_iff_le_mul hV]
  have := Int.mul_comm V D
  omega
theorem on_along {a b p : Pt} (h : On a b p) : 0 ≤ along a b p ∧ along a b p ≤ dist a b := by
  obtain ⟨_, h1, h2, h3, h4⟩ := h
  have P : ∀ x y : Int, (0 ≤ x ∧ 0 ≤ y) ∨ (x ≤ 0 ∧ y ≤ 0) → 0 ≤ x * y := by
    rintro x y (⟨h, k⟩ | ⟨h, k⟩)
    · exact Int.mul_nonneg h k
    · exact Int.mul_nonneg_of_nonpos_of_nonpos h k
  have k1 := P (b.x - a.x) (p.x - a.x) (by omega)
  have k2 := P (b.y - a.y) (p.y - a.y) (by omega)
  have k3 := P (b.x - a.x) (b.x - p.x) (by omega)
  have k4 := P (b.y - a.y) (b.y - p.y) (by omega)
  unfold along dist
  refine ⟨by omega, ?_⟩
  have e1 : (b.x - a.x) * (b.x - a.x) = (b.x - a.x) * (p.x - a.x) + (b.x - a.x) * (b.x - p.x) := by grind
  have e2 : (b.y - a.y) * (b.y - a.y) = (b.y - a.y) * (p.y - a.y) + (b.y - a.y) * (b.y - p.y) := by grind
  omega
theorem near0_facts (a b p : Pt) : 0 ≤ near0 a b p ∧ near0 b a p = near0 a b p ∧ near0 a b p ≤ dist a p ∧ near0 a b p ≤ dist b p := by
  have hV := dist_nonneg a b
  have hD := dist_nonneg a p
  have hE := dist_nonneg b p
  have hL := lagrange a b p
  have hf := dist_far a b p
  have hs := along_swap a b p
  have hc : cr b a p * cr b a p = cr a b p * cr a b p := by rw [cr_swap]; grind
  have hcs := sq_nonneg (cr a b p)
  have has := sq_nonneg (along a b p)
  have hVE : dist a b * dist b p = (dist a b - along a b p) * (dist a b - along a b p) + cr a b p * cr a b p := by
    rw [hf]; grind
  have hve := sq_nonneg (dist a b - along a b p)
  unfold near0
  rw [hs, dist_comm b a, hc]
  by_cases c1 : along a b p ≤ 0
  · rw [if_pos c1]
    refine ⟨hD, ?_, Int.le_refl _, by omega⟩
    by_cases c2 : dist a b - along a b p ≤ 0
    · rw [if_pos c2]; omega
    · rw [if_neg c2, if_pos (by omega)]
  · rw [if_neg c1]
    by_cases c2 : along a b p ≥ dist a b
    · rw [if_pos c2]
      exact ⟨hE, by rw [if_pos (by omega)], by omega, Int.le_refl _⟩
    · rw [if_neg c2]
      have hV0 : 0 < dist a b := by omega
      exact ⟨Int.ediv_nonneg hcs hV, by rw [if_neg (by omega), if_neg (by omega)], quot_le hV0 (by omega), quot_le hV0 (by omega)⟩
theorem near0_on {a b p : Pt} (h : On a b p) : near0 a b p = 0 := by
  have hal := on_along h
  have hL := lagrange a b p
  have hf := dist_far a b p
  rw [h.1] at hL
  by_cases hV : dist a b = 0
  · have e := dist_zero hV
    subst e
    rw [on_self h]
    unfold near0 along
    rw [if_pos (by simp), dist_self]
  · have hV0 := dist_nonneg a b
    unfold near0
    by_cases c1 : along a b p ≤ 0
    · rw [if_pos c1]
      have e : along a b p = 0 := by omega
      rw [e] at hL
      rcases Int.mul_eq_zero.1 (show dist a b * dist a p = 0 by omega) with k | k
      · exact absurd k hV
      · exact k
    · rw [if_neg c1]
      by_cases c2 : along a b p ≥ dist a b
      · rw [if_pos c2]
        have e : along a b p = dist a b := by omega
        rw [e] at hL
        have k0 : dist a b * (dist a p - dist a b) = 0 := by rw [Int.mul_sub]; omega
        rcases Int.mul_eq_zero.1 k0 with k | k
        · exact absurd k hV
        · omega
      · rw [if_neg c2, h.1]; simp
theorem near0_q {a b p q : Pt} (h : On a b q) : near0 a b p ≤ dist q p := by
  have hal := on_along h
  have hL := lagrange a b p
  have hf := dist_far a b p
  have h2 := lagrange2 a b p q h.1
  have hV0 := dist_nonneg a b
  by_cases hV : dist a b = 0
  · have e := dist_zero hV
    subst e
    rw [on_self h]
    unfold near0
    rw [if_pos (by unfold along; simp)]
    exact Int.le_refl _
  · have hVp : 0 < dist a b := by omega
    have hcs := sq_nonneg (cr a b p)
    unfold near0
    by_cases c1 : along a b p ≤ 0
    · rw [if_pos c1]
      refine Int.le_of_mul_le_mul_left ?_ hVp
      have : (along a b p - along a b q) * (along a b p - along a b q) = along a b p * along a b p + along a b q * along a b q + 2 * (-(along a b p) * along a b q) := by grind
      have k1 := Int.mul_nonneg (show 0 ≤ -(along a b p) by omega) hal.1
      have k2 := sq_nonneg (along a b q)
      omega
    · rw [if_neg c1]
      by_cases c2 : along a b p ≥ dist a b
      · rw [if_pos c2]
        refine Int.le_of_mul_le_mul_left ?_ hVp
        have hVE : dist a b * dist b p = (along a b p - dist a b) * (along a b p - dist a b) + cr a b p * cr a b p := by rw [hf]; grind
        have : (along a b p - along a b q) * (along a b p - along a b q) = (along a b p - dist a b) * (along a b p - dist a b) + (dist a b - along a b q) * (dist a b - along a b q) + 2 * ((along a b p - dist a b) * (dist a b - along a b q)) := by grind
        have k1 := Int.mul_nonneg (show 0 ≤ along a b p - dist a b by omega) (show 0 ≤ dist a b - along a b q by omega)
        have k2 := sq_nonneg (dist a b - along a b q)
        omega
      · rw [if_neg c2]
        refine quot_le hVp ?_
        have k2 := sq_nonneg (along a b p - along a b q)
        omega
set_option maxHeartbeats 1000000 in
theorem near_far (a b p q : Pt) (w : World) (h : ¬ (Nr a ∧ Nr b ∧ Nr p ∧ Nr q)) :
    Calls Try.prog 8 #[.agg #[.int .i64 a.x, .int .i64 a.y, .int .i64 b.x, .int .i64 b.y], .agg #[.int .i64 p.x, .int .i64 p.y], .agg #[.int .i64 q.x, .int .i64 q.y]] w fun e w' => e = .returned (.bool true) ∧ Below w.heap.size w w' := by
  have HN : Hid (decide (Nr a ∧ Nr b ∧ Nr p ∧ Nr q) = false) := Lib.hid (decide_eq_false h)
  clear h
  have hu1 := Try.underlying25
  have hu2 := Try.underlying23
  have HB := Aside0.mk (Below.refl w.heap.size w)
  go_enter Try.func8, Try.ntmps8
  go_wp2_with (first | ((with_reducible refine gate_dst (N := 3) rfl ?_); refine box_event ?hg (N := 3) ?hd (cs := #[.int .i64 a.x, .int .i64 a.y, .int .i64 b.x, .int .i64 b.y]) (t := 25) ?hr ?_; (case hd => rfl); (case hg => rfl); (case hr => first | (go_simp; done) | (go_simp; rfl)); intro gs hg W0_ hbox hb; have GEgs := Aside0.mk (show w.heap.size ≤ gs by rw [hg]; exact HB.out.size); have n_ := Aside0.mk (below_step HB.out hb); clear HB; have HB := n_; clear n_; have BKgs := Aside0.mk hbox; clear hg hb hbox; have qgs_0 : W0_.cell? ⟨gs, 0, none⟩ = some (.int .i64 a.x) := (blk_cell BKgs.out 0).trans rfl; have qgs_1 : W0_.cell? ⟨gs, 1, none⟩ = some (.int .i64 a.y) := (blk_cell BKgs.out 1).trans rfl; have qgs_2 : W0_.cell? ⟨gs, 2, none⟩ = some (.int .i64 b.x) := (blk_cell BKgs.out 2).trans rfl; have qgs_3 : W0_.cell? ⟨gs, 3, none⟩ = some (.int .i64 b.y) := (blk_cell BKgs.out 3).trans rfl; have fgs_0 := blk_frozen BKgs.out 0; have fgs_1 := blk_frozen BKgs.out 1; have fgs_2 := blk_frozen BKgs.out 2; have fgs_3 := blk_frozen BKgs.out 3) | ((with_reducible refine gate_dst (N := 4) rfl ?_); refine box_event ?hg (N := 4) ?hd (cs := #[.int .i64 p.x, .int .i64 p.y]) (t := 23) ?hr ?_; (case hd => rfl); (case hg => rfl); (case hr => first | (go_simp; done) | (go_simp; rfl)); intro gp hg W1_ hbox hb; (try clear qgs_0 fgs_0 qgs_1 fgs_1 qgs_2 fgs_2 qgs_3 fgs_3); have negsgp : gs ≠ gp := (by rw [hg]; exact Nat.ne_of_lt (blk_lt BKgs.out)); have negpgs : gp ≠ gs := (by rw [hg]; exact Nat.ne_of_gt (blk_lt BKgs.out)); have n_ := Aside0.mk (blk_below BKgs.out hb); clear BKgs; have BKgs := n_; clear n_; have GEgp := Aside0.mk (show w.heap.size ≤ gp by rw [hg]; exact HB.out.size); have n_ := Aside0.mk (below_step HB.out hb); clear HB; have HB := n_; clear n_; have BKgp := Aside0.mk hbox; clear hg hb hbox; have qgs_0 : W1_.cell? ⟨gs, 0, none⟩ = some (.int .i64 a.x) := (blk_cell BKgs.out 0).trans rfl; have qgs_1 : W1_.cell? ⟨gs, 1, none⟩ = some (.int .i64 a.y) := (blk_cell BKgs.out 1).trans rfl; have qgs_2 : W1_.cell? ⟨gs, 2, none⟩ = some (.int .i64 b.x) := (blk_cell BKgs.out 2).trans rfl; have qgs_3 : W1_.cell? ⟨gs, 3, none⟩ = some (.int .i64 b.y) := (blk_cell BKgs.out 3).trans rfl; have fgs_0 := blk_frozen BKgs.out 0; have fgs_1 := blk_frozen BKgs.out 1; have fgs_2 := blk_frozen BKgs.out 2; have fgs_3 := blk_frozen BKgs.out 3; have qgp_0 : W1_.cell? ⟨gp, 0, none⟩ = some (.int .i64 p.x) := (blk_cell BKgp.out 0).trans rfl; have qgp_1 : W1_.cell? ⟨gp, 1, none⟩ = some (.int .i64 p.y) := (blk_cell BKgp.out 1).trans rfl; have fgp_0 := blk_frozen BKgp.out 0; have fgp_1 := blk_frozen BKgp.out 1) | ((with_reducible refine gate_dst (N := 5) rfl ?_); refine box_event ?hg (N := 5) ?hd (cs := #[.int .i64 q.x, .int .i64 q.y]) (t := 23) ?hr ?_; (case hd => rfl); (case hg => rfl); (case hr => first | (go_simp; done) | (go_simp; rfl)); intro gq hg W2_ hbox hb; (try clear qgs_0 fgs_0 qgs_1 fgs_1 qgs_2 fgs_2 qgs_3 fgs_3); (try clear qgp_0 fgp_0 qgp_1 fgp_1); have negsgq : gs ≠ gq := (by rw [hg]; exact Nat.ne_of_lt (blk_lt BKgs.out)); have negqgs : gq ≠ gs := (by rw [hg]; exact Nat.ne_of_gt (blk_lt BKgs.out)); have negpgq : gp ≠ gq := (by rw [hg]; exact Nat.ne_of_lt (blk_lt BKgp.out)); have negqgp : gq ≠ gp := (by rw [hg]; exact Nat.ne_of_gt (blk_lt BKgp.out)); have n_ := Aside0.mk (blk_below BKgs.out hb); clear BKgs; have BKgs := n_; clear n_; have n_ := Aside0.mk (blk_below BKgp.out hb); clear BKgp; have BKgp := n_; clear n_; have GEgq := Aside0.mk (show w.heap.size ≤ gq by rw [hg]; exact HB.out.size); have n_ := Aside0.mk (below_step HB.out hb); clear HB; have HB := n_; clear n_; have BKgq := Aside0.mk hbox; clear hg hb hbox; have qgs_0 : W2_.cell? ⟨gs, 0, none⟩ = some (.int .i64 a.x) := (blk_cell BKgs.out 0).trans rfl; have qgs_1 : W2_.cell? ⟨gs, 1, none⟩ = some (.int .i64 a.y) := (blk_cell BKgs.out 1).trans rfl; have qgs_2 : W2_.cell? ⟨gs, 2, none⟩ = some (.int .i64 b.x) := (blk_cell BKgs.out 2).trans rfl; have qgs_3 : W2_.cell? ⟨gs, 3, none⟩ = some (.int .i64 b.y) := (blk_cell BKgs.out 3).trans rfl; have fgs_0 := blk_frozen BKgs.out 0; have fgs_1 := blk_frozen BKgs.out 1; have fgs_2 := blk_frozen BKgs.out 2; have fgs_3 := blk_frozen BKgs.out 3; have qgp_0 : W2_.cell? ⟨gp, 0, none⟩ = some (.int .i64 p.x) := (blk_cell BKgp.out 0).trans rfl; have qgp_1 : W2_.cell? ⟨gp, 1, none⟩ = some (.int .i64 p.y) := (blk_cell BKgp.out 1).trans rfl; have fgp_0 := blk_frozen BKgp.out 0; have fgp_1 := blk_frozen BKgp.out 1; have qgq_0 : W2_.cell? ⟨gq, 0, none⟩ = some (.int .i64 q.x) := (blk_cell BKgq.out 0).trans rfl; have qgq_1 : W2_.cell? ⟨gq, 1, none⟩ = some (.int .i64 q.y) := (blk_cell BKgq.out 1).trans rfl; have fgq_0 := blk_frozen BKgq.out 0; have fgq_1 := blk_frozen BKgq.out 1) | (go_at_call 10; (with_reducible refine (head_calls _).mono ?_); rintro e Wc_ ⟨rfl, hb⟩; (try clear qgs_0 fgs_0 qgs_1 fgs_1 qgs_2 fgs_2 qgs_3 fgs_3); (try clear qgp_0 fgp_0 qgp_1 fgp_1); (try clear qgq_0 fgq_0 qgq_1 fgq_1); have n_ := Aside0.mk (blk_below BKgs.out hb); clear BKgs; have BKgs := n_; clear n_; have n_ := Aside0.mk (blk_below BKgp.out hb); clear BKgp; have BKgp := n_; clear n_; have n_ := Aside0.mk (blk_below BKgq.out hb); clear BKgq; have BKgq := n_; clear n_; have n_ := Aside0.mk (below_step HB.out hb); clear HB; have HB := n_; clear n_; clear hb; have qgs_0 : Wc_.cell? ⟨gs, 0, none⟩ = some (.int .i64 a.x) := (blk_cell BKgs.out 0).trans rfl; have qgs_1 : Wc_.cell? ⟨gs, 1, none⟩ = some (.int .i64 a.y) := (blk_cell BKgs.out 1).trans rfl; have qgs_2 : Wc_.cell? ⟨gs, 2, none⟩ = some (.int .i64 b.x) := (blk_cell BKgs.out 2).trans rfl; have qgs_3 : Wc_.cell? ⟨gs, 3, none⟩ = some (.int .i64 b.y) := (blk_cell BKgs.out 3).trans rfl; have fgs_0 := blk_frozen BKgs.out 0; have fgs_1 := blk_frozen BKgs.out 1; have fgs_2 := blk_frozen BKgs.out 2; have fgs_3 := blk_frozen BKgs.out 3; have qgp_0 : Wc_.cell? ⟨gp, 0, none⟩ = some (.int .i64 p.x) := (blk_cell BKgp.out 0).trans rfl; have qgp_1 : Wc_.cell? ⟨gp, 1, none⟩ = some (.int .i64 p.y) := (blk_cell BKgp.out 1).trans rfl; have fgp_0 := blk_frozen BKgp.out 0; have fgp_1 := blk_frozen BKgp.out 1; have qgq_0 : Wc_.cell? ⟨gq, 0, none⟩ = some (.int .i64 q.x) := (blk_cell BKgq.out 0).trans rfl; have qgq_1 : Wc_.cell? ⟨gq, 1, none⟩ = some (.int .i64 q.y) := (blk_cell BKgq.out 1).trans rfl; have fgq_0 := blk_frozen BKgq.out 0; have fgq_1 := blk_frozen BKgq.out 1) | (go_at_call 25; (with_reducible refine (lawnear4_calls a b p q _ HN _ _ (blk_new _ _)).mono ?_); rintro e Wc_ ⟨rfl, hb⟩; (try clear qgs_0 fgs_0 qgs_1 fgs_1 qgs_2 fgs_2 qgs_3 fgs_3); (try clear qgp_0 fgp_0 qgp_1 fgp_1); (try clear qgq_0 fgq_0 qgq_1 fgq_1); have n_ := Aside0.mk (blk_below (blk_alloc BKgs.out _) hb); clear BKgs; have BKgs := n_; clear n_; have n_ := Aside0.mk (blk_below (blk_alloc BKgp.out _) hb); clear BKgp; have BKgp := n_; clear n_; have n_ := Aside0.mk (blk_below (blk_alloc BKgq.out _) hb); clear BKgq; have BKgq := n_; clear n_; have n_ := Aside0.mk (below_step (below_alloc HB.out _) hb); clear HB; have HB := n_; clear n_; clear hb; have qgs_0 : Wc_.cell? ⟨gs, 0, none⟩ = some (.int .i64 a.x) := (blk_cell BKgs.out 0).trans rfl; have qgs_1 : Wc_.cell? ⟨gs, 1, none⟩ = some (.int .i64 a.y) := (blk_cell BKgs.out 1).trans rfl; have qgs_2 : Wc_.cell? ⟨gs, 2, none⟩ = some (.int .i64 b.x) := (blk_cell BKgs.out 2).trans rfl; have qgs_3 : Wc_.cell? ⟨gs, 3, none⟩ = some (.int .i64 b.y) := (blk_cell BKgs.out 3).trans rfl; have fgs_0 := blk_frozen BKgs.out 0; have fgs_1 := blk_frozen BKgs.out 1; have fgs_2 := blk_frozen BKgs.out 2; have fgs_3 := blk_frozen BKgs.out 3; have qgp_0 : Wc_.cell? ⟨gp, 0, none⟩ = some (.int .i64 p.x) := (blk_cell BKgp.out 0).trans rfl; have qgp_1 : Wc_.cell? ⟨gp, 1, none⟩ = some (.int .i64 p.y) := (blk_cell BKgp.out 1).trans rfl; have fgp_0 := blk_frozen BKgp.out 0; have fgp_1 := blk_frozen BKgp.out 1; have qgq_0 : Wc_.cell? ⟨gq, 0, none⟩ = some (.int .i64 q.x) := (blk_cell BKgq.out 0).trans rfl; have qgq_1 : Wc_.cell? ⟨gq, 1, none⟩ = some (.int .i64 q.y) := (blk_cell BKgq.out 1).trans rfl; have fgq_0 := blk_frozen BKgq.out 0; have fgq_1 := blk_frozen BKgq.out 1))
  all_goals go_ret
  all_goals exact ⟨rfl, HB.out⟩
set_option maxHeartbeats 8000000 in
theorem near_near (a b p q : Pt) (w : World) (h : Nr a ∧ Nr b ∧ Nr p ∧ Nr q) :
    Calls Try.prog 8 #[.agg #[.int .i64 a.x, .int .i64 a.y, .int .i64 b.x, .int .i64 b.y], .agg #[.int .i64 p.x, .int .i64 p.y], .agg #[.int .i64 q.x, .int .i64 q.y]] w fun e w' => e = .returned (.bool true) ∧ Below w.heap.size w w' := by
  have HN : Hid (decide (Nr a ∧ Nr b ∧ Nr p ∧ Nr q) = true) := Lib.hid (decide_eq_true h)
  obtain ⟨ha, hb, hp, hq⟩ := h
  obtain ⟨n, HK⟩ : ∃ n, Hid (nearv a b p = n) := ⟨_, Lib.hid rfl⟩
  have en : n = near0 a b p := by rw [← HK.out]; unfold nearv; rw [if_pos ⟨ha, hb, hp⟩]
  obtain ⟨u, HU⟩ : ∃ u, Hid (distv a p = u) := ⟨_, Lib.hid rfl⟩
  have eu : u = dist a p := by rw [← HU.out]; unfold distv; rw [if_pos ⟨ha, hp⟩]
  obtain ⟨v, HV⟩ : ∃ v, Hid (distv b p = v) := ⟨_, Lib.hid rfl⟩
  have ev : v = dist b p := by rw [← HV.out]; unfold distv; rw [if_pos ⟨hb, hp⟩]
  obtain ⟨t, HT⟩ : ∃ t, Hid (distv q p = t) := ⟨_, Lib.hid rfl⟩
  have et : t = dist q p := by rw [← HT.out]; unfold distv; rw [if_pos ⟨hq, hp⟩]
  obtain ⟨o, HO⟩ : ∃ o, Hid (decide ((Nr a ∧ Nr b ∧ Nr p) ∧ On a b p) = o) := ⟨_, Lib.hid rfl⟩
  obtain ⟨oq, HOQ⟩ : ∃ o, Hid (decide ((Nr a ∧ Nr b ∧ Nr q) ∧ On a b q) = o) := ⟨_, Lib.hid rfl⟩
  have F := near0_facts a b p
  have HK2 : Hid (nearv b a p = n) := Lib.hid (by unfold nearv; rw [if_pos ⟨hb, ha, hp⟩, en]; exact F.2.1)
  have n0 : 0 ≤ n := by rw [en]; exact F.1
  have nu : n ≤ u := by rw [en, eu]; exact F.2.2.1
  have nv : n ≤ v := by rw [en, ev]; exact F.2.2.2
  have g1 : decide (n < 0) = false := decide_eq_false (by omega)
  have g2 : decide (u < n) = false := decide_eq_false (by omega)
  have g3 : decide (v < n) = false := decide_eq_false (by omega)
  have ho : o = true → n = 0 := fun z => by rw [en]; rw [← HO.out] at z; exact near0_on (of_decide_eq_true z).2
  have hoq : oq = true → n ≤ t := fun z => by rw [en, et]; rw [← HOQ.out] at z; exact near0_q (of_decide_eq_true z).2
  have hab : (a.x == b.x) = true → (a.y == b.y) = true → n = u := by
    intro h1 h2
    have e := Pt.ext' (beq_iff_eq.1 h1) (beq_iff_eq.1 h2)
    subst e
    rw [en, eu]; unfold near0; rw [if_pos (by unfold along; simp)]
  clear F en eu ev et
  cases e1 : (a.x == b.x) <;> cases e2 : (a.y == b.y) <;> cases o <;> cases oq
  all_goals first | (have e0 : n = 0 := ho rfl; subst e0) | skip
  all_goals first | (have nt := hoq rfl) | skip
  all_goals first | (have enu := hab e1 e2; subst enu) | skip
  all_goals clear ho hoq hab
  all_goals
    have hu1 := Try.underlying25
    have hu2 := Try.underlying23
    have HB := Aside0.mk (Below.refl w.heap.size w)
    go_enter Try.func8, Try.ntmps8
    go_wp2_with (first | ((with_reducible refine gate_dst (N := 3) rfl ?_); refine box_event ?hg (N := 3) ?hd (cs := #[.int .i64 a.x, .int .i64 a.y, .int .i64 b.x, .int .i64 b.y]) (t := 25) ?hr ?_; (case hd => rfl); (case hg => rfl); (case hr => first | (go_simp; done) | (go_simp; rfl)); intro gs hg W0_ hbox hb; have GEgs := Aside0.mk (show w.heap.size ≤ gs by rw [hg]; exact HB.out.size); have n_ := Aside0.mk (below_step HB.out hb); clear HB; have HB := n_; clear n_; have BKgs := Aside0.mk hbox; clear hg hb hbox; have qgs_0 : W0_.cell? ⟨gs, 0, none⟩ = some (.int .i64 a.x) := (blk_cell BKgs.out 0).trans rfl; have qgs_1 : W0_.cell? ⟨gs, 1, none⟩ = some (.int .i64 a.y) := (blk_cell BKgs.out 1).trans rfl; have qgs_2 : W0_.cell? ⟨gs, 2, none⟩ = some (.int .i64 b.x) := (blk_cell BKgs.out 2).trans rfl; have qgs_3 : W0_.cell? ⟨gs, 3, none⟩ = some (.int .i64 b.y) := (blk_cell BKgs.out 3).trans rfl; have fgs_0 := blk_frozen BKgs.out 0; have fgs_1 := blk_frozen BKgs.out 1; have fgs_2 := blk_frozen BKgs.out 2; have fgs_3 := blk_frozen BKgs.out 3) | ((with_reducible refine gate_dst (N := 4) rfl ?_); refine box_event ?hg (N := 4) ?hd (cs := #[.int .i64 p.x, .int .i64 p.y]) (t := 23) ?hr ?_; (case hd => rfl); (case hg => rfl); (case hr => first | (go_simp; done) | (go_simp; rfl)); intro gp hg W1_ hbox hb; (try clear qgs_0 fgs_0 qgs_1 fgs_1 qgs_2 fgs_2 qgs_3 fgs_3); have negsgp : gs ≠ gp := (by rw [hg]; exact Nat.ne_of_lt (blk_lt BKgs.out)); have negpgs : gp ≠ gs := (by rw [hg]; exact Nat.ne_of_gt (blk_lt BKgs.out)); have n_ := Aside0.mk (blk_below BKgs.out hb); clear BKgs; have BKgs := n_; clear n_; have GEgp := Aside0.mk (show w.heap.size ≤ gp by rw [hg]; exact HB.out.size); have n_ := Aside0.mk (below_step HB.out hb); clear HB; have HB := n_; clear n_; have BKgp := Aside0.mk hbox; clear hg hb hbox; have qgs_0 : W1_.cell? ⟨gs, 0, none⟩ = some (.int .i64 a.x) := (blk_cell BKgs.out 0).trans rfl; have qgs_1 : W1_.cell? ⟨gs, 1, none⟩ = some (.int .i64 a.y) := (blk_cell BKgs.out 1).trans rfl; have qgs_2 : W1_.cell? ⟨gs, 2, none⟩ = some (.int .i64 b.x) := (blk_cell BKgs.out 2).trans rfl; have qgs_3 : W1_.cell? ⟨gs, 3, none⟩ = some (.int .i64 b.y) := (blk_cell BKgs.out 3).trans rfl; have fgs_0 := blk_frozen BKgs.out 0; have fgs_1 := blk_frozen BKgs.out 1; have fgs_2 := blk_frozen BKgs.out 2; have fgs_3 := blk_frozen BKgs.out 3; have qgp_0 : W1_.cell? ⟨gp, 0, none⟩ = some (.int .i64 p.x) := (blk_cell BKgp.out 0).trans rfl; have qgp_1 : W1_.cell? ⟨gp, 1, none⟩ = some (.int .i64 p.y) := (blk_cell BKgp.out 1).trans rfl; have fgp_0 := blk_frozen BKgp.out 0; have fgp_1 := blk_frozen BKgp.out 1) | ((with_reducible refine gate_dst (N := 5) rfl ?_); refine box_event ?hg (N := 5) ?hd (cs := #[.int .i64 q.x, .int .i64 q.y]) (t := 23) ?hr ?_; (case hd => rfl); (case hg => rfl); (case hr => first | (go_simp; done) | (go_simp; rfl)); intro gq hg W2_ hbox hb; (try clear qgs_0 fgs_0 qgs_1 fgs_1 qgs_2 fgs_2 qgs_3 fgs_3); (try clear qgp_0 fgp_0 qgp_1 fgp_1); have negsgq : gs ≠ gq := (by rw [hg]; exact Nat.ne_of_lt (blk_lt BKgs.out)); have negqgs : gq ≠ gs := (by rw [hg]; exact Nat.ne_of_gt (blk_lt BKgs.out)); have negpgq : gp ≠ gq := (by rw [hg]; exact Nat.ne_of_lt (blk_lt BKgp.out)); have negqgp : gq ≠ gp := (by rw [hg]; exact Nat.ne_of_gt (blk_lt BKgp.out)); have n_ := Aside0.mk (blk_below BKgs.out hb); clear BKgs; have BKgs := n_; clear n_; have n_ := Aside0.mk (blk_below BKgp.out hb); clear BKgp; have BKgp := n_; clear n_; have GEgq := Aside0.mk (show w.heap.size ≤ gq by rw [hg]; exact HB.out.size); have n_ := Aside0.mk (below_step HB.out hb); clear HB; have HB := n_; clear n_; have BKgq := Aside0.mk hbox; clear hg hb hbox; have qgs_0 : W2_.cell? ⟨gs, 0, none⟩ = some (.int .i64 a.x) := (blk_cell BKgs.out 0).trans rfl; have qgs_1 : W2_.cell? ⟨gs, 1, none⟩ = some (.int .i64 a.y) := (blk_cell BKgs.out 1).trans rfl; have qgs_2 : W2_.cell? ⟨gs, 2, none⟩ = some (.int .i64 b.x) := (blk_cell BKgs.out 2).trans rfl; have qgs_3 : W2_.cell? ⟨gs, 3, none⟩ = some (.int .i64 b.y) := (blk_cell BKgs.out 3).trans rfl; have fgs_0 := blk_frozen BKgs.out 0; have fgs_1 := blk_frozen BKgs.out 1; have fgs_2 := blk_frozen BKgs.out 2; have fgs_3 := blk_frozen BKgs.out 3; have qgp_0 : W2_.cell? ⟨gp, 0, none⟩ = some (.int .i64 p.x) := (blk_cell BKgp.out 0).trans rfl; have qgp_1 : W2_.cell? ⟨gp, 1, none⟩ = some (.int .i64 p.y) := (blk_cell BKgp.out 1).trans rfl; have fgp_0 := blk_frozen BKgp.out 0; have fgp_1 := blk_frozen BKgp.out 1; have qgq_0 : W2_.cell? ⟨gq, 0, none⟩ = some (.int .i64 q.x) := (blk_cell BKgq.out 0).trans rfl; have qgq_1 : W2_.cell? ⟨gq, 1, none⟩ = some (.int .i64 q.y) := (blk_cell BKgq.out 1).trans rfl; have fgq_0 := blk_frozen BKgq.out 0; have fgq_1 := blk_frozen BKgq.out 1) | (go_at_call 10; (with_reducible refine (head_calls _).mono ?_); rintro e Wc_ ⟨rfl, hb⟩; (try clear qgs_0 fgs_0 qgs_1 fgs_1 qgs_2 fgs_2 qgs_3 fgs_3); (try clear qgp_0 fgp_0 qgp_1 fgp_1); (try clear qgq_0 fgq_0 qgq_1 fgq_1); have n_ := Aside0.mk (blk_below BKgs.out hb); clear BKgs; have BKgs := n_; clear n_; have n_ := Aside0.mk (blk_below BKgp.out hb); clear BKgp; have BKgp := n_; clear n_; have n_ := Aside0.mk (blk_below BKgq.out hb); clear BKgq; have BKgq := n_; clear n_; have n_ := Aside0.mk (below_step HB.out hb); clear HB; have HB := n_; clear n_; clear hb; have qgs_0 : Wc_.cell? ⟨gs, 0, none⟩ = some (.int .i64 a.x) := (blk_cell BKgs.out 0).trans rfl; have qgs_1 : Wc_.cell? ⟨gs, 1, none⟩ = some (.int .i64 a.y) := (blk_cell BKgs.out 1).trans rfl; have qgs_2 : Wc_.cell? ⟨gs, 2, none⟩ = some (.int .i64 b.x) := (blk_cell BKgs.out 2).trans rfl; have qgs_3 : Wc_.cell? ⟨gs, 3, none⟩ = some (.int .i64 b.y) := (blk_cell BKgs.out 3).trans rfl; have fgs_0 := blk_frozen BKgs.out 0; have fgs_1 := blk_frozen BKgs.out 1; have fgs_2 := blk_frozen BKgs.out 2; have fgs_3 := blk_frozen BKgs.out 3; have qgp_0 : Wc_.cell? ⟨gp, 0, none⟩ = some (.int .i64 p.x) := (blk_cell BKgp.out 0).trans rfl; have qgp_1 : Wc_.cell? ⟨gp, 1, none⟩ = some (.int .i64 p.y) := (blk_cell BKgp.out 1).trans rfl; have fgp_0 := blk_frozen BKgp.out 0; have fgp_1 := blk_frozen BKgp.out 1; have qgq_0 : Wc_.cell? ⟨gq, 0, none⟩ = some (.int .i64 q.x) := (blk_cell BKgq.out 0).trans rfl; have qgq_1 : Wc_.cell? ⟨gq, 1, none⟩ = some (.int .i64 q.y) := (blk_cell BKgq.out 1).trans rfl; have fgq_0 := blk_frozen BKgq.out 0; have fgq_1 := blk_frozen BKgq.out 1) | (go_at_call 25; (with_reducible refine (lawnear4_calls a b p q _ HN _ _ (blk_new _ _)).mono ?_); rintro e Wc_ ⟨rfl, hb⟩; (try clear qgs_0 fgs_0 qgs_1 fgs_1 qgs_2 fgs_2 qgs_3 fgs_3); (try clear qgp_0 fgp_0 qgp_1 fgp_1); (try clear qgq_0 fgq_0 qgq_1 fgq_1); have n_ := Aside0.mk (blk_below (blk_alloc BKgs.out _) hb); clear BKgs; have BKgs := n_; clear n_; have n_ := Aside0.mk (blk_below (blk_alloc BKgp.out _) hb); clear BKgp; have BKgp := n_; clear n_; have n_ := Aside0.mk (blk_below (blk_alloc BKgq.out _) hb); clear BKgq; have BKgq := n_; clear n_; have n_ := Aside0.mk (below_step (below_alloc HB.out _) hb); clear HB; have HB := n_; clear n_; clear hb; have qgs_0 : Wc_.cell? ⟨gs, 0, none⟩ = some (.int .i64 a.x) := (blk_cell BKgs.out 0).trans rfl; have qgs_1 : Wc_.cell? ⟨gs, 1, none⟩ = some (.int .i64 a.y) := (blk_cell BKgs.out 1).trans rfl; have qgs_2 : Wc_.cell? ⟨gs, 2, none⟩ = some (.int .i64 b.x) := (blk_cell BKgs.out 2).trans rfl; have qgs_3 : Wc_.cell? ⟨gs, 3, none⟩ = some (.int .i64 b.y) := (blk_cell BKgs.out 3).trans rfl; have fgs_0 := blk_frozen BKgs.out 0; have fgs_1 := blk_frozen BKgs.out 1; have fgs_2 := blk_frozen BKgs.out 2; have fgs_3 := blk_frozen BKgs.out 3; have qgp_0 : Wc_.cell? ⟨gp, 0, none⟩ = some (.int .i64 p.x) := (blk_cell BKgp.out 0).trans rfl; have qgp_1 : Wc_.cell? ⟨gp, 1, none⟩ = some (.int .i64 p.y) := (blk_cell BKgp.out 1).trans rfl; have fgp_0 := blk_frozen BKgp.out 0; have fgp_1 := blk_frozen BKgp.out 1; have qgq_0 : Wc_.cell? ⟨gq, 0, none⟩ = some (.int .i64 q.x) := (blk_cell BKgq.out 0).trans rfl; have qgq_1 : Wc_.cell? ⟨gq, 1, none⟩ = some (.int .i64 q.y) := (blk_cell BKgq.out 1).trans rfl; have fgq_0 := blk_frozen BKgq.out 0; have fgq_1 := blk_frozen BKgq.out 1) | (go_at_call 21; (with_reducible refine (near_calls a b p _ HK _).mono ?_); rintro e Wc_ ⟨rfl, hb⟩; (try clear qgs_0 fgs_0 qgs_1 fgs_1 qgs_2 fgs_2 qgs_3 fgs_3); (try clear qgp_0 fgp_0 qgp_1 fgp_1); (try clear qgq_0 fgq_0 qgq_1 fgq_1); have n_ := Aside0.mk (blk_below BKgs.out hb); clear BKgs; have BKgs := n_; clear n_; have n_ := Aside0.mk (blk_below BKgp.out hb); clear BKgp; have BKgp := n_; clear n_; have n_ := Aside0.mk (blk_below BKgq.out hb); clear BKgq; have BKgq := n_; clear n_; have n_ := Aside0.mk (below_step HB.out hb); clear HB; have HB := n_; clear n_; clear hb; have qgs_0 : Wc_.cell? ⟨gs, 0, none⟩ = some (.int .i64 a.x) := (blk_cell BKgs.out 0).trans rfl; have qgs_1 : Wc_.cell? ⟨gs, 1, none⟩ = some (.int .i64 a.y) := (blk_cell BKgs.out 1).trans rfl; have qgs_2 : Wc_.cell? ⟨gs, 2, none⟩ = some (.int .i64 b.x) := (blk_cell BKgs.out 2).trans rfl; have qgs_3 : Wc_.cell? ⟨gs, 3, none⟩ = some (.int .i64 b.y) := (blk_cell BKgs.out 3).trans rfl; have fgs_0 := blk_frozen BKgs.out 0; have fgs_1 := blk_frozen BKgs.out 1; have fgs_2 := blk_frozen BKgs.out 2; have fgs_3 := blk_frozen BKgs.out 3; have qgp_0 : Wc_.cell? ⟨gp, 0, none⟩ = some (.int .i64 p.x) := (blk_cell BKgp.out 0).trans rfl; have qgp_1 : Wc_.cell? ⟨gp, 1, none⟩ = some (.int .i64 p.y) := (blk_cell BKgp.out 1).trans rfl; have fgp_0 := blk_frozen BKgp.out 0; have fgp_1 := blk_frozen BKgp.out 1; have qgq_0 : Wc_.cell? ⟨gq, 0, none⟩ = some (.int .i64 q.x) := (blk_cell BKgq.out 0).trans rfl; have qgq_1 : Wc_.cell? ⟨gq, 1, none⟩ = some (.int .i64 q.y) := (blk_cell BKgq.out 1).trans rfl; have fgq_0 := blk_frozen BKgq.out 0; have fgq_1 := blk_frozen BKgq.out 1))
    all_goals
      refine wp_region_each (S := fun w' => Aside0 (w'.heap[gs]? = some (.cells #[.int .i64 a.x, .int .i64 a.y, .int .i64 b.x, .int .i64 b.y] 25 (0, 0))) ∧ Aside0 (w'.heap[gp]? = some (.cells #[.int .i64 p.x, .int .i64 p.y] 23 (0, 0))) ∧ Aside0 (w'.heap[gq]? = some (.cells #[.int .i64 q.x, .int .i64 q.y] 23 (0, 0))) ∧ Aside0 (Below w.heap.size w w') ∧ w'.cell? ⟨gs, 0, none⟩ = some (.int .i64 a.x) ∧ w'.cell? ⟨gs, 1, none⟩ = some (.int .i64 a.y) ∧ w'.cell? ⟨gs, 2, none⟩ = some (.int .i64 b.x) ∧ w'.cell? ⟨gs, 3, none⟩ = some (.int .i64 b.y) ∧ w'.cell? ⟨gp, 0, none⟩ = some (.int .i64 p.x) ∧ w'.cell? ⟨gp, 1, none⟩ = some (.int .i64 p.y) ∧ w'.cell? ⟨gq, 0, none⟩ = some (.int .i64 q.x) ∧ w'.cell? ⟨gq, 1, none⟩ = some (.int .i64 q.y)) (by kernel_rfl) (by kernel_rfl) (keep_near_drew ⟨BKgs, BKgp, BKgq, HB, qgs_0, qgs_1, qgs_2, qgs_3, qgp_0, qgp_1, qgq_0, qgq_1⟩) ?_
      dsimp only
      repeat (first
        | ((refine each_skip (by rfl) ?_); simp only [Act.put, List.setIfInBounds_toArray, List.set_cons_zero, List.set_cons_succ])
        | ((refine each_yield (v := ?_) (by rfl) ?hy ?_); (case hy => (intro w_ hS; (try dsimp only at hS); go_simp; try (with_reducible rfl))); simp only [Act.put, List.setIfInBounds_toArray, List.set_cons_zero, List.set_cons_succ])
        | ((refine each_call (v := ?_) (f := ?_) (args := ?_) (by rfl) ?hr ?hc ?_); (case hr => (intro w_ hS; go_simp; refine ⟨?_, ?_⟩ <;> (with_reducible rfl))); (case hc => (intro w_ hS; (first | (with_reducible refine (back_calls a b _).mono ?_) | (with_reducible refine (near_calls b a p _ HK2 _).mono ?_) | (with_reducible refine (distance_calls a p _ HU _).mono ?_) | (with_reducible refine (distance_calls b p _ HV _).mono ?_) | (with_reducible refine (on_calls a b p _ HO _).mono ?_)); rintro e Wn_ ⟨rfl, hb⟩; refine ⟨?_, keep_near hS hb⟩; with_reducible rfl)); simp only [Act.put, List.setIfInBounds_toArray, List.set_cons_zero, List.set_cons_succ]))
      refine each_done ?_
      intro Wn_ hS
    all_goals (obtain ⟨n_gs, n_gp, n_gq, n_HB, -, -, -, -, -, -, -, -⟩ : Aside0 (Wn_.heap[gs]? = some (.cells #[.int .i64 a.x, .int .i64 a.y, .int .i64 b.x, .int .i64 b.y] 25 (0, 0))) ∧ Aside0 (Wn_.heap[gp]? = some (.cells #[.int .i64 p.x, .int .i64 p.y] 23 (0, 0))) ∧ Aside0 (Wn_.heap[gq]? = some (.cells #[.int .i64 q.x, .int .i64 q.y] 23 (0, 0))) ∧ Aside0 (Below w.heap.size w Wn_) ∧ Wn_.cell? ⟨gs, 0, none⟩ = some (.int .i64 a.x) ∧ Wn_.cell? ⟨gs, 1, none⟩ = some (.int .i64 a.y) ∧ Wn_.cell? ⟨gs, 2, none⟩ = some (.int .i64 b.x) ∧ Wn_.cell? ⟨gs, 3, none⟩ = some (.int .i64 b.y) ∧ Wn_.cell? ⟨gp, 0, none⟩ = some (.int .i64 p.x) ∧ Wn_.cell? ⟨gp, 1, none⟩ = some (.int .i64 p.y) ∧ Wn_.cell? ⟨gq, 0, none⟩ = some (.int .i64 q.x) ∧ Wn_.cell? ⟨gq, 1, none⟩ = some (.int .i64 q.y) := (by assumption); (try clear qgs_0 fgs_0 qgs_1 fgs_1 qgs_2 fgs_2 qgs_3 fgs_3); (try clear qgp_0 fgp_0 qgp_1 fgp_1); (try clear qgq_0 fgq_0 qgq_1 fgq_1); clear BKgs BKgp BKgq HB; have BKgs := n_gs; have BKgp := n_gp; have BKgq := n_gq; have HB := n_HB; clear n_gs n_gp n_gq n_HB; have qgs_0 : Wn_.cell? ⟨gs, 0, none⟩ = some (.int .i64 a.x) := (blk_cell BKgs.out 0).trans rfl; have qgs_1 : Wn_.cell? ⟨gs, 1, none⟩ = some (.int .i64 a.y) := (blk_cell BKgs.out 1).trans rfl; have qgs_2 : Wn_.cell? ⟨gs, 2, none⟩ = some (.int .i64 b.x) := (blk_cell BKgs.out 2).trans rfl; have qgs_3 : Wn_.cell? ⟨gs, 3, none⟩ = some (.int .i64 b.y) := (blk_cell BKgs.out 3).trans rfl; have fgs_0 := blk_frozen BKgs.out 0; have fgs_1 := blk_frozen BKgs.out 1; have fgs_2 := blk_frozen BKgs.out 2; have fgs_3 := blk_frozen BKgs.out 3; have qgp_0 : Wn_.cell? ⟨gp, 0, none⟩ = some (.int .i64 p.x) := (blk_cell BKgp.out 0).trans rfl; have qgp_1 : Wn_.cell? ⟨gp, 1, none⟩ = some (.int .i64 p.y) := (blk_cell BKgp.out 1).trans rfl; have fgp_0 := blk_frozen BKgp.out 0; have fgp_1 := blk_frozen BKgp.out 1; have qgq_0 : Wn_.cell? ⟨gq, 0, none⟩ = some (.int .i64 q.x) := (blk_cell BKgq.out 0).trans rfl; have qgq_1 : Wn_.cell? ⟨gq, 1, none⟩ = some (.int .i64 q.y) := (blk_cell BKgq.out 1).trans rfl; have fgq_0 := blk_frozen BKgq.out 0; have fgq_1 := blk_frozen BKgq.out 1)
    all_goals go_wp2_with (first | (go_at_call 15; (with_reducible refine (on_calls a b q _ HOQ _).mono ?_); rintro e Wc_ ⟨rfl, hb⟩; (try clear qgs_0 fgs_0 qgs_1 fgs_1 qgs_2 fgs_2 qgs_3 fgs_3); (try clear qgp_0 fgp_0 qgp_1 fgp_1); (try clear qgq_0 fgq_0 qgq_1 fgq_1); have n_ := Aside0.mk (blk_below BKgs.out hb); clear BKgs; have BKgs := n_; clear n_; have n_ := Aside0.mk (blk_below BKgp.out hb); clear BKgp; have BKgp := n_; clear n_; have n_ := Aside0.mk (blk_below BKgq.out hb); clear BKgq; have BKgq := n_; clear n_; have n_ := Aside0.mk (below_step HB.out hb); clear HB; have HB := n_; clear n_; clear hb; have qgs_0 : Wc_.cell? ⟨gs, 0, none⟩ = some (.int .i64 a.x) := (blk_cell BKgs.out 0).trans rfl; have qgs_1 : Wc_.cell? ⟨gs, 1, none⟩ = some (.int .i64 a.y) := (blk_cell BKgs.out 1).trans rfl; have qgs_2 : Wc_.cell? ⟨gs, 2, none⟩ = some (.int .i64 b.x) := (blk_cell BKgs.out 2).trans rfl; have qgs_3 : Wc_.cell? ⟨gs, 3, none⟩ = some (.int .i64 b.y) := (blk_cell BKgs.out 3).trans rfl; have fgs_0 := blk_frozen BKgs.out 0; have fgs_1 := blk_frozen BKgs.out 1; have fgs_2 := blk_frozen BKgs.out 2; have fgs_3 := blk_frozen BKgs.out 3; have qgp_0 : Wc_.cell? ⟨gp, 0, none⟩ = some (.int .i64 p.x) := (blk_cell BKgp.out 0).trans rfl; have qgp_1 : Wc_.cell? ⟨gp, 1, none⟩ = some (.int .i64 p.y) := (blk_cell BKgp.out 1).trans rfl; have fgp_0 := blk_frozen BKgp.out 0; have fgp_1 := blk_frozen BKgp.out 1; have qgq_0 : Wc_.cell? ⟨gq, 0, none⟩ = some (.int .i64 q.x) := (blk_cell BKgq.out 0).trans rfl; have qgq_1 : Wc_.cell? ⟨gq, 1, none⟩ = some (.int .i64 q.y) := (blk_cell BKgq.out 1).trans rfl; have fgq_0 := blk_frozen BKgq.out 0; have fgq_1 := blk_frozen BKgq.out 1) | (go_at_call 19; (with_reducible refine (distance_calls q p _ HT _).mono ?_); rintro e Wc_ ⟨rfl, hb⟩; (try clear qgs_0 fgs_0 qgs_1 fgs_1 qgs_2 fgs_2 qgs_3 fgs_3); (try clear qgp_0 fgp_0 qgp_1 fgp_1); (try clear qgq_0 fgq_0 qgq_1 fgq_1); have n_ := Aside0.mk (blk_below BKgs.out hb); clear BKgs; have BKgs := n_; clear n_; have n_ := Aside0.mk (blk_below BKgp.out hb); clear BKgp; have BKgp := n_; clear n_; have n_ := Aside0.mk (blk_below BKgq.out hb); clear BKgq; have BKgq := n_; clear n_; have n_ := Aside0.mk (below_step HB.out hb); clear HB; have HB := n_; clear n_; clear hb; have qgs_0 : Wc_.cell? ⟨gs, 0, none⟩ = some (.int .i64 a.x) := (blk_cell BKgs.out 0).trans rfl; have qgs_1 : Wc_.cell? ⟨gs, 1, none⟩ = some (.int .i64 a.y) := (blk_cell BKgs.out 1).trans rfl; have qgs_2 : Wc_.cell? ⟨gs, 2, none⟩ = some (.int .i64 b.x) := (blk_cell BKgs.out 2).trans rfl; have qgs_3 : Wc_.cell? ⟨gs, 3, none⟩ = some (.int .i64 b.y) := (blk_cell BKgs.out 3).trans rfl; have fgs_0 := blk_frozen BKgs.out 0; have fgs_1 := blk_frozen BKgs.out 1; have fgs_2 := blk_frozen BKgs.out 2; have fgs_3 := blk_frozen BKgs.out 3; have qgp_0 : Wc_.cell? ⟨gp, 0, none⟩ = some (.int .i64 p.x) := (blk_cell BKgp.out 0).trans rfl; have qgp_1 : Wc_.cell? ⟨gp, 1, none⟩ = some (.int .i64 p.y) := (blk_cell BKgp.out 1).trans rfl; have fgp_0 := blk_frozen BKgp.out 0; have fgp_1 := blk_frozen BKgp.out 1; have qgq_0 : Wc_.cell? ⟨gq, 0, none⟩ = some (.int .i64 q.x) := (blk_cell BKgq.out 0).trans rfl; have qgq_1 : Wc_.cell? ⟨gq, 1, none⟩ = some (.int .i64 q.y) := (blk_cell BKgq.out 1).trans rfl; have fgq_0 := blk_frozen BKgq.out 0; have fgq_1 := blk_frozen BKgq.out 1) | (go_at_call 19; (with_reducible refine (distance_calls a p _ HU _).mono ?_); rintro e Wc_ ⟨rfl, hb⟩; (try clear qgs_0 fgs_0 qgs_1 fgs_1 qgs_2 fgs_2 qgs_3 fgs_3); (try clear qgp_0 fgp_0 qgp_1 fgp_1); (try clear qgq_0 fgq_0 qgq_1 fgq_1); have n_ := Aside0.mk (blk_below BKgs.out hb); clear BKgs; have BKgs := n_; clear n_; have n_ := Aside0.mk (blk_below BKgp.out hb); clear BKgp; have BKgp := n_; clear n_; have n_ := Aside0.mk (blk_below BKgq.out hb); clear BKgq; have BKgq := n_; clear n_; have n_ := Aside0.mk (below_step HB.out hb); clear HB; have HB := n_; clear n_; clear hb; have qgs_0 : Wc_.cell? ⟨gs, 0, none⟩ = some (.int .i64 a.x) := (blk_cell BKgs.out 0).trans rfl; have qgs_1 : Wc_.cell? ⟨gs, 1, none⟩ = some (.int .i64 a.y) := (blk_cell BKgs.out 1).trans rfl; have qgs_2 : Wc_.cell? ⟨gs, 2, none⟩ = some (.int .i64 b.x) := (blk_cell BKgs.out 2).trans rfl; have qgs_3 : Wc_.cell? ⟨gs, 3, none⟩ = some (.int .i64 b.y) := (blk_cell BKgs.out 3).trans rfl; have fgs_0 := blk_frozen BKgs.out 0; have fgs_1 := blk_frozen BKgs.out 1; have fgs_2 := blk_frozen BKgs.out 2; have fgs_3 := blk_frozen BKgs.out 3; have qgp_0 : Wc_.cell? ⟨gp, 0, none⟩ = some (.int .i64 p.x) := (blk_cell BKgp.out 0).trans rfl; have qgp_1 : Wc_.cell? ⟨gp, 1, none⟩ = some (.int .i64 p.y) := (blk_cell BKgp.out 1).trans rfl; have fgp_0 := blk_frozen BKgp.out 0; have fgp_1 := blk_frozen BKgp.out 1; have qgq_0 : Wc_.cell? ⟨gq, 0, none⟩ = some (.int .i64 q.x) := (blk_cell BKgq.out 0).trans rfl; have qgq_1 : Wc_.cell? ⟨gq, 1, none⟩ = some (.int .i64 q.y) := (blk_cell BKgq.out 1).trans rfl; have fgq_0 := blk_frozen BKgq.out 0; have fgq_1 := blk_frozen BKgq.out 1))
    all_goals first | (go_ret; exact ⟨rfl, HB.out⟩) | (exfalso; omega)
theorem law_GeomNear (a b c d a' b' c' d' : Int) (_ : (Lit.int .i64 a).wf = true) (_ : (Lit.int .i64 b).wf = true) (_ : (Lit.int .i64 c).wf = true) (_ : (Lit.int .i64 d).wf = true) (_ : (Lit.int .i64 a').wf = true) (_ : (Lit.int .i64 b').wf = true) (_ : (Lit.int .i64 c').wf = true) (_ : (Lit.int .i64 d').wf = true) (w : World) :
    Calls Try.prog 8 #[.agg #[.int .i64 a, .int .i64 b, .int .i64 c, .int .i64 d], .agg #[.int .i64 a', .int .i64 b'], .agg #[.int .i64 c', .int .i64 d']] w fun e w' => e = .returned (.bool true) ∧ Below w.heap.size w w' := by
  by_cases h : Nr ⟨a, b⟩ ∧ Nr ⟨c, d⟩ ∧ Nr ⟨a', b'⟩ ∧ Nr ⟨c', d'⟩
  · exact near_near ⟨a, b⟩ ⟨c, d⟩ ⟨a', b'⟩ ⟨c', d'⟩ w h
  · exact near_far ⟨a, b⟩ ⟨c, d⟩ ⟨a', b'⟩ ⟨c', d'⟩ w h
end Go.Proofs.Ytgibndgllhompaa.P
