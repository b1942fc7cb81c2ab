/- The law GeomOrients: exchanging two points changes the sign of Orient, a cyclic exchange does not; moving all points changes nothing; with two equal points it is 0. -/
import Derived.Test.YtgibndgllhompaaSemLaw
import Derived.Test.YtgibndgllhompaaRel
import Derived.Test.YtgibndgllhompaaPx18
import Derived.Deep.RegionHeld3
namespace Go.Proofs.Ytgibndgllhompaa.P
open Go.RowKit Go.Proofs.YtgibndgllhompaaW.PrintWords Go.Proofs.YtgibndgllhompaaW.PrintLast Go.Proofs.YtgibndgllhompaaW.PrintMore Go.Proofs.Ytgibndgllhompaa.Geo
set_option linter.unusedVariables false
set_option linter.unusedSimpArgs false

theorem keep_orients {w W W1 : World} {ga gb gc gy : Nat} {a b c y : Pt} (h : Aside0 (W.heap[ga]? = some (.cells #[.int .i64 a.x, .int .i64 a.y] 23 (0, 0))) ∧ Aside0 (W.heap[gb]? = some (.cells #[.int .i64 b.x, .int .i64 b.y] 23 (0, 0))) ∧ Aside0 (W.heap[gc]? = some (.cells #[.int .i64 c.x, .int .i64 c.y] 23 (0, 0))) ∧ Aside0 (W.heap[gy]? = some (.cells #[.int .i64 y.x, .int .i64 y.y] 23 (0, 0))) ∧ Aside0 (Below w.heap.size w W) ∧ W.cell? ⟨ga, 0, none⟩ = some (.int .i64 a.x) ∧ W.cell? ⟨ga, 1, none⟩ = some (.int .i64 a.y) ∧ W.cell? ⟨gb, 0, none⟩ = some (.int .i64 b.x) ∧ W.cell? ⟨gb, 1, none⟩ = some (.int .i64 b.y) ∧ W.cell? ⟨gc, 0, none⟩ = some (.int .i64 c.x) ∧ W.cell? ⟨gc, 1, none⟩ = some (.int .i64 c.y) ∧ W.cell? ⟨gy, 0, none⟩ = some (.int .i64 y.x) ∧ W.cell? ⟨gy, 1, none⟩ = some (.int .i64 y.y)) (hb : Below W.heap.size W W1) : Aside0 (W1.heap[ga]? = some (.cells #[.int .i64 a.x, .int .i64 a.y] 23 (0, 0))) ∧ Aside0 (W1.heap[gb]? = some (.cells #[.int .i64 b.x, .int .i64 b.y] 23 (0, 0))) ∧ Aside0 (W1.heap[gc]? = some (.cells #[.int .i64 c.x, .int .i64 c.y] 23 (0, 0))) ∧ Aside0 (W1.heap[gy]? = some (.cells #[.int .i64 y.x, .int .i64 y.y] 23 (0, 0))) ∧ Aside0 (Below w.heap.size w W1) ∧ W1.cell? ⟨ga, 0, none⟩ = some (.int .i64 a.x) ∧ W1.cell? ⟨ga, 1, none⟩ = some (.int .i64 a.y) ∧ W1.cell? ⟨gb, 0, none⟩ = some (.int .i64 b.x) ∧ W1.cell? ⟨gb, 1, none⟩ = some (.int .i64 b.y) ∧ W1.cell? ⟨gc, 0, none⟩ = some (.int .i64 c.x) ∧ W1.cell? ⟨gc, 1, none⟩ = some (.int .i64 c.y) ∧ W1.cell? ⟨gy, 0, none⟩ = some (.int .i64 y.x) ∧ W1.cell? ⟨gy, 1, none⟩ = some (.int .i64 y.y) := by
  obtain ⟨b0, b1, b2, b3, hB, _, _, _, _, _, _, _, _⟩ := h
  exact ⟨⟨blk_below b0.out hb⟩, ⟨blk_below b1.out hb⟩, ⟨blk_below b2.out hb⟩, ⟨blk_below b3.out hb⟩, ⟨below_step hB.out hb⟩, (blk_cell (blk_below b0.out hb) 0).trans rfl, (blk_cell (blk_below b0.out hb) 1).trans rfl, (blk_cell (blk_below b1.out hb) 0).trans rfl, (blk_cell (blk_below b1.out hb) 1).trans rfl, (blk_cell (blk_below b2.out hb) 0).trans rfl, (blk_cell (blk_below b2.out hb) 1).trans rfl, (blk_cell (blk_below b3.out hb) 0).trans rfl, (blk_cell (blk_below b3.out hb) 1).trans rfl⟩
theorem keep_orients_drew {w W : World} {ga gb gc gy : Nat} {a b c y : Pt} (h : Aside0 (W.heap[ga]? = some (.cells #[.int .i64 a.x, .int .i64 a.y] 23 (0, 0))) ∧ Aside0 (W.heap[gb]? = some (.cells #[.int .i64 b.x, .int .i64 b.y] 23 (0, 0))) ∧ Aside0 (W.heap[gc]? = some (.cells #[.int .i64 c.x, .int .i64 c.y] 23 (0, 0))) ∧ Aside0 (W.heap[gy]? = some (.cells #[.int .i64 y.x, .int .i64 y.y] 23 (0, 0))) ∧ Aside0 (Below w.heap.size w W) ∧ W.cell? ⟨ga, 0, none⟩ = some (.int .i64 a.x) ∧ W.cell? ⟨ga, 1, none⟩ = some (.int .i64 a.y) ∧ W.cell? ⟨gb, 0, none⟩ = some (.int .i64 b.x) ∧ W.cell? ⟨gb, 1, none⟩ = some (.int .i64 b.y) ∧ W.cell? ⟨gc, 0, none⟩ = some (.int .i64 c.x) ∧ W.cell? ⟨gc, 1, none⟩ = some (.int .i64 c.y) ∧ W.cell? ⟨gy, 0, none⟩ = some (.int .i64 y.x) ∧ W.cell? ⟨gy, 1, none⟩ = some (.int .i64 y.y)) : Aside0 (W.drew.heap[ga]? = some (.cells #[.int .i64 a.x, .int .i64 a.y] 23 (0, 0))) ∧ Aside0 (W.drew.heap[gb]? = some (.cells #[.int .i64 b.x, .int .i64 b.y] 23 (0, 0))) ∧ Aside0 (W.drew.heap[gc]? = some (.cells #[.int .i64 c.x, .int .i64 c.y] 23 (0, 0))) ∧ Aside0 (W.drew.heap[gy]? = some (.cells #[.int .i64 y.x, .int .i64 y.y] 23 (0, 0))) ∧ Aside0 (Below w.heap.size w W.drew) ∧ W.drew.cell? ⟨ga, 0, none⟩ = some (.int .i64 a.x) ∧ W.drew.cell? ⟨ga, 1, none⟩ = some (.int .i64 a.y) ∧ W.drew.cell? ⟨gb, 0, none⟩ = some (.int .i64 b.x) ∧ W.drew.cell? ⟨gb, 1, none⟩ = some (.int .i64 b.y) ∧ W.drew.cell? ⟨gc, 0, none⟩ = some (.int .i64 c.x) ∧ W.drew.cell? ⟨gc, 1, none⟩ = some (.int .i64 c.y) ∧ W.drew.cell? ⟨gy, 0, none⟩ = some (.int .i64 y.x) ∧ W.drew.cell? ⟨gy, 1, none⟩ = some (.int .i64 y.y) := by
  obtain ⟨b0, b1, b2, b3, hB, _, _, _, _, _, _, _, _⟩ := h
  exact ⟨⟨blk_drew b0.out⟩, ⟨blk_drew b1.out⟩, ⟨blk_drew b2.out⟩, ⟨blk_drew b3.out⟩, ⟨below_drew1 hB.out⟩, (blk_cell (blk_drew b0.out) 0).trans rfl, (blk_cell (blk_drew b0.out) 1).trans rfl, (blk_cell (blk_drew b1.out) 0).trans rfl, (blk_cell (blk_drew b1.out) 1).trans rfl, (blk_cell (blk_drew b2.out) 0).trans rfl, (blk_cell (blk_drew b2.out) 1).trans rfl, (blk_cell (blk_drew b3.out) 0).trans rfl, (blk_cell (blk_drew b3.out) 1).trans rfl⟩
theorem keep_seven {w W W1 : World} {g1 g2 g3 ga gb : Nat} {a b x1 x2 x3 : Pt} (h : Aside0 (W.heap[g1]? = some (.cells #[.int .i64 x1.x, .int .i64 x1.y] 23 (0, 0))) ∧ Aside0 (W.heap[g2]? = some (.cells #[.int .i64 x2.x, .int .i64 x2.y] 23 (0, 0))) ∧ Aside0 (W.heap[g3]? = some (.cells #[.int .i64 x3.x, .int .i64 x3.y] 23 (0, 0))) ∧ Aside0 (W.heap[ga]? = some (.cells #[.int .i64 a.x, .int .i64 a.y] 23 (0, 0))) ∧ Aside0 (W.heap[gb]? = some (.cells #[.int .i64 b.x, .int .i64 b.y] 23 (0, 0))) ∧ Aside0 (Below w.heap.size w W) ∧ W.cell? ⟨g1, 0, none⟩ = some (.int .i64 x1.x) ∧ W.cell? ⟨g1, 1, none⟩ = some (.int .i64 x1.y) ∧ W.cell? ⟨g2, 0, none⟩ = some (.int .i64 x2.x) ∧ W.cell? ⟨g2, 1, none⟩ = some (.int .i64 x2.y) ∧ W.cell? ⟨g3, 0, none⟩ = some (.int .i64 x3.x) ∧ W.cell? ⟨g3, 1, none⟩ = some (.int .i64 x3.y) ∧ W.cell? ⟨ga, 0, none⟩ = some (.int .i64 a.x) ∧ W.cell? ⟨ga, 1, none⟩ = some (.int .i64 a.y) ∧ W.cell? ⟨gb, 0, none⟩ = some (.int .i64 b.x) ∧ W.cell? ⟨gb, 1, none⟩ = some (.int .i64 b.y)) (hb : Below W.heap.size W W1) : Aside0 (W1.heap[g1]? = some (.cells #[.int .i64 x1.x, .int .i64 x1.y] 23 (0, 0))) ∧ Aside0 (W1.heap[g2]? = some (.cells #[.int .i64 x2.x, .int .i64 x2.y] 23 (0, 0))) ∧ Aside0 (W1.heap[g3]? = some (.cells #[.int .i64 x3.x, .int .i64 x3.y] 23 (0, 0))) ∧ Aside0 (W1.heap[ga]? = some (.cells #[.int .i64 a.x, .int .i64 a.y] 23 (0, 0))) ∧ Aside0 (W1.heap[gb]? = some (.cells #[.int .i64 b.x, .int .i64 b.y] 23 (0, 0))) ∧ Aside0 (Below w.heap.size w W1) ∧ W1.cell? ⟨g1, 0, none⟩ = some (.int .i64 x1.x) ∧ W1.cell? ⟨g1, 1, none⟩ = some (.int .i64 x1.y) ∧ W1.cell? ⟨g2, 0, none⟩ = some (.int .i64 x2.x) ∧ W1.cell? ⟨g2, 1, none⟩ = some (.int .i64 x2.y) ∧ W1.cell? ⟨g3, 0, none⟩ = some (.int .i64 x3.x) ∧ W1.cell? ⟨g3, 1, none⟩ = some (.int .i64 x3.y) ∧ W1.cell? ⟨ga, 0, none⟩ = some (.int .i64 a.x) ∧ W1.cell? ⟨ga, 1, none⟩ = some (.int .i64 a.y) ∧ W1.cell? ⟨gb, 0, none⟩ = some (.int .i64 b.x) ∧ W1.cell? ⟨gb, 1, none⟩ = some (.int .i64 b.y) := by
  obtain ⟨b0, b1, b2, b3, b4, hB, _, _, _, _, _, _, _, _, _, _⟩ := h
  exact ⟨⟨blk_below b0.out hb⟩, ⟨blk_below b1.out hb⟩, ⟨blk_below b2.out hb⟩, ⟨blk_below b3.out hb⟩, ⟨blk_below b4.out hb⟩, ⟨below_step hB.out hb⟩, (blk_cell (blk_below b0.out hb) 0).trans rfl, (blk_cell (blk_below b0.out hb) 1).trans rfl, (blk_cell (blk_below b1.out hb) 0).trans rfl, (blk_cell (blk_below b1.out hb) 1).trans rfl, (blk_cell (blk_below b2.out hb) 0).trans rfl, (blk_cell (blk_below b2.out hb) 1).trans rfl, (blk_cell (blk_below b3.out hb) 0).trans rfl, (blk_cell (blk_below b3.out hb) 1).trans rfl, (blk_cell (blk_below b4.out hb) 0).trans rfl, (blk_cell (blk_below b4.out hb) 1).trans rfl⟩
theorem keep_seven_drew {w W : World} {g1 g2 g3 ga gb : Nat} {a b x1 x2 x3 : Pt} (h : Aside0 (W.heap[g1]? = some (.cells #[.int .i64 x1.x, .int .i64 x1.y] 23 (0, 0))) ∧ Aside0 (W.heap[g2]? = some (.cells #[.int .i64 x2.x, .int .i64 x2.y] 23 (0, 0))) ∧ Aside0 (W.heap[g3]? = some (.cells #[.int .i64 x3.x, .int .i64 x3.y] 23 (0, 0))) ∧ Aside0 (W.heap[ga]? = some (.cells #[.int .i64 a.x, .int .i64 a.y] 23 (0, 0))) ∧ Aside0 (W.heap[gb]? = some (.cells #[.int .i64 b.x, .int .i64 b.y] 23 (0, 0))) ∧ Aside0 (Below w.heap.size w W) ∧ W.cell? ⟨g1, 0, none⟩ = some (.int .i64 x1.x) ∧ W.cell? ⟨g1, 1, none⟩ = some (.int .i64 x1.y) ∧ W.cell? ⟨g2, 0, none⟩ = some (.int .i64 x2.x) ∧ W.cell? ⟨g2, 1, none⟩ = some (.int .i64 x2.y) ∧ W.cell? ⟨g3, 0, none⟩ = some (.int .i64 x3.x) ∧ W.cell? ⟨g3, 1, none⟩ = some (.int .i64 x3.y) ∧ W.cell? ⟨ga, 0, none⟩ = some (.int .i64 a.x) ∧ W.cell? ⟨ga, 1, none⟩ = some (.int .i64 a.y) ∧ W.cell? ⟨gb, 0, none⟩ = some (.int .i64 b.x) ∧ W.cell? ⟨gb, 1, none⟩ = some (.int .i64 b.y)) : Aside0 (W.drew.heap[g1]? = some (.cells #[.int .i64 x1.x, .int .i64 x1.y] 23 (0, 0))) ∧ Aside0 (W.drew.heap[g2]? = some (.cells #[.int .i64 x2.x, .int .i64 x2.y] 23 (0, 0))) ∧ Aside0 (W.drew.heap[g3]? = some (.cells #[.int .i64 x3.x, .int .i64 x3.y] 23 (0, 0))) ∧ Aside0 (W.drew.heap[ga]? = some (.cells #[.int .i64 a.x, .int .i64 a.y] 23 (0, 0))) ∧ Aside0 (W.drew.heap[gb]? = some (.cells #[.int .i64 b.x, .int .i64 b.y] 23 (0, 0))) ∧ Aside0 (Below w.heap.size w W.drew) ∧ W.drew.cell? ⟨g1, 0, none⟩ = some (.int .i64 x1.x) ∧ W.drew.cell? ⟨g1, 1, none⟩ = some (.int .i64 x1.y) ∧ W.drew.cell? ⟨g2, 0, none⟩ = some (.int .i64 x2.x) ∧ W.drew.cell? ⟨g2, 1, none⟩ = some (.int .i64 x2.y) ∧ W.drew.cell? ⟨g3, 0, none⟩ = some (.int .i64 x3.x) ∧ W.drew.cell? ⟨g3, 1, none⟩ = some (.int .i64 x3.y) ∧ W.drew.cell? ⟨ga, 0, none⟩ = some (.int .i64 a.x) ∧ W.drew.cell? ⟨ga, 1, none⟩ = some (.int .i64 a.y) ∧ W.drew.cell? ⟨gb, 0, none⟩ = some (.int .i64 b.x) ∧ W.drew.cell? ⟨gb, 1, none⟩ = some (.int .i64 b.y) := by
  obtain ⟨b0, b1, b2, b3, b4, hB, _, _, _, _, _, _, _, _, _, _⟩ := h
  exact ⟨⟨blk_drew b0.out⟩, ⟨blk_drew b1.out⟩, ⟨blk_drew b2.out⟩, ⟨blk_drew b3.out⟩, ⟨blk_drew b4.out⟩, ⟨below_drew1 hB.out⟩, (blk_cell (blk_drew b0.out) 0).trans rfl, (blk_cell (blk_drew b0.out) 1).trans rfl, (blk_cell (blk_drew b1.out) 0).trans rfl, (blk_cell (blk_drew b1.out) 1).trans rfl, (blk_cell (blk_drew b2.out) 0).trans rfl, (blk_cell (blk_drew b2.out) 1).trans rfl, (blk_cell (blk_drew b3.out) 0).trans rfl, (blk_cell (blk_drew b3.out) 1).trans rfl, (blk_cell (blk_drew b4.out) 0).trans rfl, (blk_cell (blk_drew b4.out) 1).trans rfl⟩
/-- a new block's pointer -/
def Blk (M : Nat) (cs : Array Value) (v : Value) (w : World) : Prop := ∃ g, v = .pointer (some ⟨g, 0, none⟩) ∧ M ≤ g ∧ w.heap[g]? = some (.cells cs 23 (0, 0))
theorem Blk.below {M : Nat} {cs : Array Value} {v : Value} {w w' : World} (h : Blk M cs v w) (hb : Below w.heap.size w w') : Blk M cs v w' := by
  obtain ⟨g, h1, h2, h3⟩ := h; exact ⟨g, h1, h2, blk_below h3 hb⟩
structure JM (M : Nat) (w0 : World) (ga gb gc gy : Nat) (a b c y x1 x2 x3 : Pt) (L : Nat → Bool) (vs : Nat → Value) (w : World) : Prop where
  ba : w.heap[ga]? = some (.cells #[.int .i64 a.x, .int .i64 a.y] 23 (0, 0))
  bb : w.heap[gb]? = some (.cells #[.int .i64 b.x, .int .i64 b.y] 23 (0, 0))
  bc : w.heap[gc]? = some (.cells #[.int .i64 c.x, .int .i64 c.y] 23 (0, 0))
  bd : w.heap[gy]? = some (.cells #[.int .i64 y.x, .int .i64 y.y] 23 (0, 0))
  below : Below w0.heap.size w0 w
  hm : M ≤ w.heap.size
  v0 : L 0 = true → vs 0 = .agg #[.int .i64 a.x, .int .i64 a.y]
  v1 : L 1 = true → vs 1 = .agg #[.int .i64 y.x, .int .i64 y.y]
  v2 : L 2 = true → vs 2 = .agg #[.int .i64 x1.x, .int .i64 x1.y]
  v3 : L 3 = true → vs 3 = .agg #[.int .i64 b.x, .int .i64 b.y]
  v4 : L 4 = true → vs 4 = .agg #[.int .i64 y.x, .int .i64 y.y]
  v5 : L 5 = true → vs 5 = .agg #[.int .i64 x2.x, .int .i64 x2.y]
  v6 : L 6 = true → vs 6 = .agg #[.int .i64 c.x, .int .i64 c.y]
  v7 : L 7 = true → vs 7 = .agg #[.int .i64 y.x, .int .i64 y.y]
  v8 : L 8 = true → vs 8 = .agg #[.int .i64 x3.x, .int .i64 x3.y]
  o12 : L 12 = true → L 9 = true ∧ L 10 = true ∧ L 11 = true
  o13 : L 13 = true → L 9 = true ∧ L 10 = true ∧ L 11 = true
  o14 : L 14 = true → L 9 = true ∧ L 10 = true ∧ L 11 = true
  g9 : L 9 = true → Blk M (if L 12 = true then #[.int .i64 x1.x, .int .i64 x1.y] else #[.int .i64 0, .int .i64 0]) (vs 9) w
  g10 : L 10 = true → Blk M (if L 13 = true then #[.int .i64 x2.x, .int .i64 x2.y] else #[.int .i64 0, .int .i64 0]) (vs 10) w
  g11 : L 11 = true → Blk M (if L 14 = true then #[.int .i64 x3.x, .int .i64 x3.y] else #[.int .i64 0, .int .i64 0]) (vs 11) w
  n9_10 : L 9 = true → L 10 = true → vs 9 ≠ vs 10
  n9_11 : L 9 = true → L 11 = true → vs 9 ≠ vs 11
  n10_11 : L 10 = true → L 11 = true → vs 10 ≠ vs 11
theorem JM.keep {M : Nat} {w0 : World} {ga gb gc gy : Nat} {a b c y x1 x2 x3 : Pt} {L : Nat → Bool} {vs : Nat → Value} {w w' : World} (h : JM M w0 ga gb gc gy a b c y x1 x2 x3 L vs w) (hb : Below w.heap.size w w') : JM M w0 ga gb gc gy a b c y x1 x2 x3 L vs w' :=
  ⟨blk_below h.ba hb, blk_below h.bb hb, blk_below h.bc hb, blk_below h.bd hb, below_step h.below hb, Nat.le_trans h.hm hb.size, h.v0, h.v1, h.v2, h.v3, h.v4, h.v5, h.v6, h.v7, h.v8, h.o12, h.o13, h.o14, fun k => (h.g9 k).below hb, fun k => (h.g10 k).below hb, fun k => (h.g11 k).below hb, h.n9_10, h.n9_11, h.n10_11⟩
theorem setL_of {L : Nat → Bool} {i j : Nat} (h : L j = true) : setL L i j = true := by simp only [setL]; split <;> first | rfl | exact h
theorem ptr_ne {g g' : Nat} (h : (Value.pointer (some ⟨g, 0, none⟩)) ≠ .pointer (some ⟨g', 0, none⟩)) : g ≠ g' := fun e => h (by rw [e])
theorem ptr_lt {g g' : Nat} (h : (Value.pointer (some ⟨g, 0, none⟩)) = .pointer (some ⟨g', 0, none⟩)) (hl : g < g') : False := by
  injection h with h; injection h with h; injection h with h; omega
theorem jm0 {M : Nat} {w0 : World} {ga gb gc gy : Nat} {a b c y x1 x2 x3 : Pt} {L : Nat → Bool} {vs : Nat → Value} {w : World} (h : JM M w0 ga gb gc gy a b c y x1 x2 x3 L vs w) (hi : L 0 = false) : JM M w0 ga gb gc gy a b c y x1 x2 x3 (setL L 0) (setV vs 0 (.agg #[.int .i64 a.x, .int .i64 a.y])) w :=
  ⟨h.ba,
   h.bb,
   h.bc,
   h.bd,
   h.below,
   h.hm,
   fun _ => by simp [setV],
   by simpa [setL, setV] using h.v1,
   by simpa [setL, setV] using h.v2,
   by simpa [setL, setV] using h.v3,
   by simpa [setL, setV] using h.v4,
   by simpa [setL, setV] using h.v5,
   by simpa [setL, setV] using h.v6,
   by simpa [setL, setV] using h.v7,
   by simpa [setL, setV] using h.v8,
   fun k => by have k := h.o12 (by simpa [setL] using k); exact ⟨setL_of k.1, setL_of k.2.1, setL_of k.2.2⟩,
   fun k => by have k := h.o13 (by simpa [setL] using k); exact ⟨setL_of k.1, setL_of k.2.1, setL_of k.2.2⟩,
   fun k => by have k := h.o14 (by simpa [setL] using k); exact ⟨setL_of k.1, setL_of k.2.1, setL_of k.2.2⟩,
   by simpa [setL, setV] using h.g9,
   by simpa [setL, setV] using h.g10,
   by simpa [setL, setV] using h.g11,
   by simpa [setL, setV] using h.n9_10,
   by simpa [setL, setV] using h.n9_11,
   by simpa [setL, setV] using h.n10_11⟩
theorem jm1 {M : Nat} {w0 : World} {ga gb gc gy : Nat} {a b c y x1 x2 x3 : Pt} {L : Nat → Bool} {vs : Nat → Value} {w : World} (h : JM M w0 ga gb gc gy a b c y x1 x2 x3 L vs w) (hi : L 1 = false) : JM M w0 ga gb gc gy a b c y x1 x2 x3 (setL L 1) (setV vs 1 (.agg #[.int .i64 y.x, .int .i64 y.y])) w :=
  ⟨h.ba,
   h.bb,
   h.bc,
   h.bd,
   h.below,
   h.hm,
   by simpa [setL, setV] using h.v0,
   fun _ => by simp [setV],
   by simpa [setL, setV] using h.v2,
   by simpa [setL, setV] using h.v3,
   by simpa [setL, setV] using h.v4,
   by simpa [setL, setV] using h.v5,
   by simpa [setL, setV] using h.v6,
   by simpa [setL, setV] using h.v7,
   by simpa [setL, setV] using h.v8,
   fun k => by have k := h.o12 (by simpa [setL] using k); exact ⟨setL_of k.1, setL_of k.2.1, setL_of k.2.2⟩,
   fun k => by have k := h.o13 (by simpa [setL] using k); exact ⟨setL_of k.1, setL_of k.2.1, setL_of k.2.2⟩,
   fun k => by have k := h.o14 (by simpa [setL] using k); exact ⟨setL_of k.1, setL_of k.2.1, setL_of k.2.2⟩,
   by simpa [setL, setV] using h.g9,
   by simpa [setL, setV] using h.g10,
   by simpa [setL, setV] using h.g11,
   by simpa [setL, setV] using h.n9_10,
   by simpa [setL, setV] using h.n9_11,
   by simpa [setL, setV] using h.n10_11⟩
theorem jm2 {M : Nat} {w0 : World} {ga gb gc gy : Nat} {a b c y x1 x2 x3 : Pt} {L : Nat → Bool} {vs : Nat → Value} {w : World} (h : JM M w0 ga gb gc gy a b c y x1 x2 x3 L vs w) (hi : L 2 = false) : JM M w0 ga gb gc gy a b c y x1 x2 x3 (setL L 2) (setV vs 2 (.agg #[.int .i64 x1.x, .int .i64 x1.y])) w :=
  ⟨h.ba,
   h.bb,
   h.bc,
   h.bd,
   h.below,
   h.hm,
   by simpa [setL, setV] using h.v0,
   by simpa [setL, setV] using h.v1,
   fun _ => by simp [setV],
   by simpa [setL, setV] using h.v3,
   by simpa [setL, setV] using h.v4,
   by simpa [setL, setV] using h.v5,
   by simpa [setL, setV] using h.v6,
   by simpa [setL, setV] using h.v7,
   by simpa [setL, setV] using h.v8,
   fun k => by have k := h.o12 (by simpa [setL] using k); exact ⟨setL_of k.1, setL_of k.2.1, setL_of k.2.2⟩,
   fun k => by have k := h.o13 (by simpa [setL] using k); exact ⟨setL_of k.1, setL_of k.2.1, setL_of k.2.2⟩,
   fun k => by have k := h.o14 (by simpa [setL] using k); exact ⟨setL_of k.1, setL_of k.2.1, setL_of k.2.2⟩,
   by simpa [setL, setV] using h.g9,
   by simpa [setL, setV] using h.g10,
   by simpa [setL, setV] using h.g11,
   by simpa [setL, setV] using h.n9_10,
   by simpa [setL, setV] using h.n9_11,
   by simpa [setL, setV] using h.n10_11⟩
theorem jm3 {M : Nat} {w0 : World} {ga gb gc gy : Nat} {a b c y x1 x2 x3 : Pt} {L : Nat → Bool} {vs : Nat → Value} {w : World} (h : JM M w0 ga gb gc gy a b c y x1 x2 x3 L vs w) (hi : L 3 = false) : JM M w0 ga gb gc gy a b c y x1 x2 x3 (setL L 3) (setV vs 3 (.agg #[.int .i64 b.x, .int .i64 b.y])) w :=
  ⟨h.ba,
   h.bb,
   h.bc,
   h.bd,
   h.below,
   h.hm,
   by simpa [setL, setV] using h.v0,
   by simpa [setL, setV] using h.v1,
   by simpa [setL, setV] using h.v2,
   fun _ => by simp [setV],
   by simpa [setL, setV] using h.v4,
   by simpa [setL, setV] using h.v5,
   by simpa [setL, setV] using h.v6,
   by simpa [setL, setV] using h.v7,
   by simpa [setL, setV] using h.v8,
   fun k => by have k := h.o12 (by simpa [setL] using k); exact ⟨setL_of k.1, setL_of k.2.1, setL_of k.2.2⟩,
   fun k => by have k := h.o13 (by simpa [setL] using k); exact ⟨setL_of k.1, setL_of k.2.1, setL_of k.2.2⟩,
   fun k => by have k := h.o14 (by simpa [setL] using k); exact ⟨setL_of k.1, setL_of k.2.1, setL_of k.2.2⟩,
   by simpa [setL, setV] using h.g9,
   by simpa [setL, setV] using h.g10,
   by simpa [setL, setV] using h.g11,
   by simpa [setL, setV] using h.n9_10,
   by simpa [setL, setV] using h.n9_11,
   by simpa [setL, setV] using h.n10_11⟩
theorem jm4 {M : Nat} {w0 : World} {ga gb gc gy : Nat} {a b c y x1 x2 x3 : Pt} {L : Nat → Bool} {vs : Nat → Value} {w : World} (h : JM M w0 ga gb gc gy a b c y x1 x2 x3 L vs w) (hi : L 4 = false) : JM M w0 ga gb gc gy a b c y x1 x2 x3 (setL L 4) (setV vs 4 (.agg #[.int .i64 y.x, .int .i64 y.y])) w :=
  ⟨h.ba,
   h.bb,
   h.bc,
   h.bd,
   h.below,
   h.hm,
   by simpa [setL, setV] using h.v0,
   by simpa [setL, setV] using h.v1,
   by simpa [setL, setV] using h.v2,
   by simpa [setL, setV] using h.v3,
   fun _ => by simp [setV],
   by simpa [setL, setV] using h.v5,
   by simpa [setL, setV] using h.v6,
   by simpa [setL, setV] using h.v7,
   by simpa [setL, setV] using h.v8,
   fun k => by have k := h.o12 (by simpa [setL] using k); exact ⟨setL_of k.1, setL_of k.2.1, setL_of k.2.2⟩,
   fun k => by have k := h.o13 (by simpa [setL] using k); exact ⟨setL_of k.1, setL_of k.2.1, setL_of k.2.2⟩,
   fun k => by have k := h.o14 (by simpa [setL] using k); exact ⟨setL_of k.1, setL_of k.2.1, setL_of k.2.2⟩,
   by simpa [setL, setV] using h.g9,
   by simpa [setL, setV] using h.g10,
   by simpa [setL, setV] using h.g11,
   by simpa [setL, setV] using h.n9_10,
   by simpa [setL, setV] using h.n9_11,
   by simpa [setL, setV] using h.n10_11⟩
theorem jm5 {M : Nat} {w0 : World} {ga gb gc gy : Nat} {a b c y x1 x2 x3 : Pt} {L : Nat → Bool} {vs : Nat → Value} {w : World} (h : JM M w0 ga gb gc gy a b c y x1 x2 x3 L vs w) (hi : L 5 = false) : JM M w0 ga gb gc gy a b c y x1 x2 x3 (setL L 5) (setV vs 5 (.agg #[.int .i64 x2.x, .int .i64 x2.y])) w :=
  ⟨h.ba,
   h.bb,
   h.bc,
   h.bd,
   h.below,
   h.hm,
   by simpa [setL, setV] using h.v0,
   by simpa [setL, setV] using h.v1,
   by simpa [setL, setV] using h.v2,
   by simpa [setL, setV] using h.v3,
   by simpa [setL, setV] using h.v4,
   fun _ => by simp [setV],
   by simpa [setL, setV] using h.v6,
   by simpa [setL, setV] using h.v7,
   by simpa [setL, setV] using h.v8,
   fun k => by have k := h.o12 (by simpa [setL] using k); exact ⟨setL_of k.1, setL_of k.2.1, setL_of k.2.2⟩,
   fun k => by have k := h.o13 (by simpa [setL] using k); exact ⟨setL_of k.1, setL_of k.2.1, setL_of k.2.2⟩,
   fun k => by have k := h.o14 (by simpa [setL] using k); exact ⟨setL_of k.1, setL_of k.2.1, setL_of k.2.2⟩,
   by simpa [setL, setV] using h.g9,
   by simpa [setL, setV] using h.g10,
   by simpa [setL, setV] using h.g11,
   by simpa [setL, setV] using h.n9_10,
   by simpa [setL, setV] using h.n9_11,
   by simpa [setL, setV] using h.n10_11⟩
theorem jm6 {M : Nat} {w0 : World} {ga gb gc gy : Nat} {a b c y x1 x2 x3 : Pt} {L : Nat → Bool} {vs : Nat → Value} {w : World} (h : JM M w0 ga gb gc gy a b c y x1 x2 x3 L vs w) (hi : L 6 = false) : JM M w0 ga gb gc gy a b c y x1 x2 x3 (setL L 6) (setV vs 6 (.agg #[.int .i64 c.x, .int .i64 c.y])) w :=
  ⟨h.ba,
   h.bb,
   h.bc,
   h.bd,
   h.below,
   h.hm,
   by simpa [setL, setV] using h.v0,
   by simpa [setL, setV] using h.v1,
   by simpa [setL, setV] using h.v2,
   by simpa [setL, setV] using h.v3,
   by simpa [setL, setV] using h.v4,
   by simpa [setL, setV] using h.v5,
   fun _ => by simp [setV],
   by simpa [setL, setV] using h.v7,
   by simpa [setL, setV] using h.v8,
   fun k => by have k := h.o12 (by simpa [setL] using k); exact ⟨setL_of k.1, setL_of k.2.1, setL_of k.2.2⟩,
   fun k => by have k := h.o13 (by simpa [setL] using k); exact ⟨setL_of k.1, setL_of k.2.1, setL_of k.2.2⟩,
   fun k => by have k := h.o14 (by simpa [setL] using k); exact ⟨setL_of k.1, setL_of k.2.1, setL_of k.2.2⟩,
   by simpa [setL, setV] using h.g9,
   by simpa [setL, setV] using h.g10,
   by simpa [setL, setV] using h.g11,
   by simpa [setL, setV] using h.n9_10,
   by simpa [setL, setV] using h.n9_11,
   by simpa [setL, setV] using h.n10_11⟩
theorem jm7 {M : Nat} {w0 : World} {ga gb gc gy : Nat} {a b c y x1 x2 x3 : Pt} {L : Nat → Bool} {vs : Nat → Value} {w : World} (h : JM M w0 ga gb gc gy a b c y x1 x2 x3 L vs w) (hi : L 7 = false) : JM M w0 ga gb gc gy a b c y x1 x2 x3 (setL L 7) (setV vs 7 (.agg #[.int .i64 y.x, .int .i64 y.y])) w :=
  ⟨h.ba,
   h.bb,
   h.bc,
   h.bd,
   h.below,
   h.hm,
   by simpa [setL, setV] using h.v0,
   by simpa [setL, setV] using h.v1,
   by simpa [setL, setV] using h.v2,
   by simpa [setL, setV] using h.v3,
   by simpa [setL, setV] using h.v4,
   by simpa [setL, setV] using h.v5,
   by simpa [setL, setV] using h.v6,
   fun _ => by simp [setV],
   by simpa [setL, setV] using h.v8,
   fun k => by have k := h.o12 (by simpa [setL] using k); exact ⟨setL_of k.1, setL_of k.2.1, setL_of k.2.2⟩,
   fun k => by have k := h.o13 (by simpa [setL] using k); exact ⟨setL_of k.1, setL_of k.2.1, setL_of k.2.2⟩,
   fun k => by have k := h.o14 (by simpa [setL] using k); exact ⟨setL_of k.1, setL_of k.2.1, setL_of k.2.2⟩,
   by simpa [setL, setV] using h.g9,
   by simpa [setL, setV] using h.g10,
   by simpa [setL, setV] using h.g11,
   by simpa [setL, setV] using h.n9_10,
   by simpa [setL, setV] using h.n9_11,
   by simpa [setL, setV] using h.n10_11⟩
theorem jm8 {M : Nat} {w0 : World} {ga gb gc gy : Nat} {a b c y x1 x2 x3 : Pt} {L : Nat → Bool} {vs : Nat → Value} {w : World} (h : JM M w0 ga gb gc gy a b c y x1 x2 x3 L vs w) (hi : L 8 = false) : JM M w0 ga gb gc gy a b c y x1 x2 x3 (setL L 8) (setV vs 8 (.agg #[.int .i64 x3.x, .int .i64 x3.y])) w :=
  ⟨h.ba,
   h.bb,
   h.bc,
   h.bd,
   h.below,
   h.hm,
   by simpa [setL, setV] using h.v0,
   by simpa [setL, setV] using h.v1,
   by simpa [setL, setV] using h.v2,
   by simpa [setL, setV] using h.v3,
   by simpa [setL, setV] using h.v4,
   by simpa [setL, setV] using h.v5,
   by simpa [setL, setV] using h.v6,
   by simpa [setL, setV] using h.v7,
   fun _ => by simp [setV],
   fun k => by have k := h.o12 (by simpa [setL] using k); exact ⟨setL_of k.1, setL_of k.2.1, setL_of k.2.2⟩,
   fun k => by have k := h.o13 (by simpa [setL] using k); exact ⟨setL_of k.1, setL_of k.2.1, setL_of k.2.2⟩,
   fun k => by have k := h.o14 (by simpa [setL] using k); exact ⟨setL_of k.1, setL_of k.2.1, setL_of k.2.2⟩,
   by simpa [setL, setV] using h.g9,
   by simpa [setL, setV] using h.g10,
   by simpa [setL, setV] using h.g11,
   by simpa [setL, setV] using h.n9_10,
   by simpa [setL, setV] using h.n9_11,
   by simpa [setL, setV] using h.n10_11⟩
theorem jm9 {M : Nat} {w0 : World} {ga gb gc gy : Nat} {a b c y x1 x2 x3 : Pt} {L : Nat → Bool} {vs : Nat → Value} {w : World} (h : JM M w0 ga gb gc gy a b c y x1 x2 x3 L vs w) (hi : L 9 = false) : JM M w0 ga gb gc gy a b c y x1 x2 x3 (setL L 9) (setV vs 9 (.pointer (some ⟨w.heap.size, 0, none⟩))) (w.alloc (.cells #[.int .i64 0, .int .i64 0] 23)) := by
  have hM := h.hm
  have hb : Below w.heap.size w (w.alloc (.cells #[.int .i64 0, .int .i64 0] 23)) := below_alloc (Below.refl _ _) _
  have hs : L 12 = false := by
    cases hs : L 12 with
    | false => rfl
    | true => have k := h.o12 hs; rw [k.1] at hi; cases hi
  have old10 := h.g10
  have old11 := h.g11
  replace h := h.keep hb
  have hm : M ≤ w.heap.size := hM
  exact ⟨h.ba,
   h.bb,
   h.bc,
   h.bd,
   h.below,
   h.hm,
   by simpa [setL, setV] using h.v0,
   by simpa [setL, setV] using h.v1,
   by simpa [setL, setV] using h.v2,
   by simpa [setL, setV] using h.v3,
   by simpa [setL, setV] using h.v4,
   by simpa [setL, setV] using h.v5,
   by simpa [setL, setV] using h.v6,
   by simpa [setL, setV] using h.v7,
   by simpa [setL, setV] using h.v8,
   fun k => by have k := h.o12 (by simpa [setL] using k); exact ⟨setL_of k.1, setL_of k.2.1, setL_of k.2.2⟩,
   fun k => by have k := h.o13 (by simpa [setL] using k); exact ⟨setL_of k.1, setL_of k.2.1, setL_of k.2.2⟩,
   fun k => by have k := h.o14 (by simpa [setL] using k); exact ⟨setL_of k.1, setL_of k.2.1, setL_of k.2.2⟩,
   fun _ => by simp [setL, setV, hs]; exact ⟨w.heap.size, rfl, hm, blk_new _ _⟩,
   by simpa [setL, setV] using h.g10,
   by simpa [setL, setV] using h.g11,
   by
    intro k1 k2 e
    obtain ⟨g, e1, _, e3⟩ := old10 (by simpa [setL] using k2)
    simp only [setV] at e
    simp only [if_true, if_neg (show ¬ 10 = 9 by decide)] at e
    rw [e1] at e
    have e := e.symm
    have := blk_lt e3
    exact ptr_lt e this,
   by
    intro k1 k2 e
    obtain ⟨g, e1, _, e3⟩ := old11 (by simpa [setL] using k2)
    simp only [setV] at e
    simp only [if_true, if_neg (show ¬ 11 = 9 by decide)] at e
    rw [e1] at e
    have e := e.symm
    have := blk_lt e3
    exact ptr_lt e this,
   by simpa [setL, setV] using h.n10_11⟩
theorem jm10 {M : Nat} {w0 : World} {ga gb gc gy : Nat} {a b c y x1 x2 x3 : Pt} {L : Nat → Bool} {vs : Nat → Value} {w : World} (h : JM M w0 ga gb gc gy a b c y x1 x2 x3 L vs w) (hi : L 10 = false) : JM M w0 ga gb gc gy a b c y x1 x2 x3 (setL L 10) (setV vs 10 (.pointer (some ⟨w.heap.size, 0, none⟩))) (w.alloc (.cells #[.int .i64 0, .int .i64 0] 23)) := by
  have hM := h.hm
  have hb : Below w.heap.size w (w.alloc (.cells #[.int .i64 0, .int .i64 0] 23)) := below_alloc (Below.refl _ _) _
  have hs : L 13 = false := by
    cases hs : L 13 with
    | false => rfl
    | true => have k := h.o13 hs; rw [k.2.1] at hi; cases hi
  have old9 := h.g9
  have old11 := h.g11
  replace h := h.keep hb
  have hm : M ≤ w.heap.size := hM
  exact ⟨h.ba,
   h.bb,
   h.bc,
   h.bd,
   h.below,
   h.hm,
   by simpa [setL, setV] using h.v0,
   by simpa [setL, setV] using h.v1,
   by simpa [setL, setV] using h.v2,
   by simpa [setL, setV] using h.v3,
   by simpa [setL, setV] using h.v4,
   by simpa [setL, setV] using h.v5,
   by simpa [setL, setV] using h.v6,
   by simpa [setL, setV] using h.v7,
   by simpa [setL, setV] using h.v8,
   fun k => by have k := h.o12 (by simpa [setL] using k); exact ⟨setL_of k.1, setL_of k.2.1, setL_of k.2.2⟩,
   fun k => by have k := h.o13 (by simpa [setL] using k); exact ⟨setL_of k.1, setL_of k.2.1, setL_of k.2.2⟩,
   fun k => by have k := h.o14 (by simpa [setL] using k); exact ⟨setL_of k.1, setL_of k.2.1, setL_of k.2.2⟩,
   by simpa [setL, setV] using h.g9,
   fun _ => by simp [setL, setV, hs]; exact ⟨w.heap.size, rfl, hm, blk_new _ _⟩,
   by simpa [setL, setV] using h.g11,
   by
    intro k1 k2 e
    obtain ⟨g, e1, _, e3⟩ := old9 (by simpa [setL] using k1)
    simp only [setV] at e
    simp only [if_true, if_neg (show ¬ 9 = 10 by decide)] at e
    rw [e1] at e
    have e := e
    have := blk_lt e3
    exact ptr_lt e this,
   by simpa [setL, setV] using h.n9_11,
   by
    intro k1 k2 e
    obtain ⟨g, e1, _, e3⟩ := old11 (by simpa [setL] using k2)
    simp only [setV] at e
    simp only [if_true, if_neg (show ¬ 11 = 10 by decide)] at e
    rw [e1] at e
    have e := e.symm
    have := blk_lt e3
    exact ptr_lt e this⟩
theorem jm11 {M : Nat} {w0 : World} {ga gb gc gy : Nat} {a b c y x1 x2 x3 : Pt} {L : Nat → Bool} {vs : Nat → Value} {w : World} (h : JM M w0 ga gb gc gy a b c y x1 x2 x3 L vs w) (hi : L 11 = false) : JM M w0 ga gb gc gy a b c y x1 x2 x3 (setL L 11) (setV vs 11 (.pointer (some ⟨w.heap.size, 0, none⟩))) (w.alloc (.cells #[.int .i64 0, .int .i64 0] 23)) := by
  have hM := h.hm
  have hb : Below w.heap.size w (w.alloc (.cells #[.int .i64 0, .int .i64 0] 23)) := below_alloc (Below.refl _ _) _
  have hs : L 14 = false := by
    cases hs : L 14 with
    | false => rfl
    | true => have k := h.o14 hs; rw [k.2.2] at hi; cases hi
  have old9 := h.g9
  have old10 := h.g10
  replace h := h.keep hb
  have hm : M ≤ w.heap.size := hM
  exact ⟨h.ba,
   h.bb,
   h.bc,
   h.bd,
   h.below,
   h.hm,
   by simpa [setL, setV] using h.v0,
   by simpa [setL, setV] using h.v1,
   by simpa [setL, setV] using h.v2,
   by simpa [setL, setV] using h.v3,
   by simpa [setL, setV] using h.v4,
   by simpa [setL, setV] using h.v5,
   by simpa [setL, setV] using h.v6,
   by simpa [setL, setV] using h.v7,
   by simpa [setL, setV] using h.v8,
   fun k => by have k := h.o12 (by simpa [setL] using k); exact ⟨setL_of k.1, setL_of k.2.1, setL_of k.2.2⟩,
   fun k => by have k := h.o13 (by simpa [setL] using k); exact ⟨setL_of k.1, setL_of k.2.1, setL_of k.2.2⟩,
   fun k => by have k := h.o14 (by simpa [setL] using k); exact ⟨setL_of k.1, setL_of k.2.1, setL_of k.2.2⟩,
   by simpa [setL, setV] using h.g9,
   by simpa [setL, setV] using h.g10,
   fun _ => by simp [setL, setV, hs]; exact ⟨w.heap.size, rfl, hm, blk_new _ _⟩,
   by simpa [setL, setV] using h.n9_10,
   by
    intro k1 k2 e
    obtain ⟨g, e1, _, e3⟩ := old9 (by simpa [setL] using k1)
    simp only [setV] at e
    simp only [if_true, if_neg (show ¬ 9 = 11 by decide)] at e
    rw [e1] at e
    have e := e
    have := blk_lt e3
    exact ptr_lt e this,
   by
    intro k1 k2 e
    obtain ⟨g, e1, _, e3⟩ := old10 (by simpa [setL] using k1)
    simp only [setV] at e
    simp only [if_true, if_neg (show ¬ 10 = 11 by decide)] at e
    rw [e1] at e
    have e := e
    have := blk_lt e3
    exact ptr_lt e this⟩
theorem jm12 {M : Nat} {w0 : World} {ga gb gc gy : Nat} {a b c y x1 x2 x3 : Pt} {L : Nat → Bool} {vs : Nat → Value} {w : World} (h : JM M w0 ga gb gc gy a b c y x1 x2 x3 L vs w) (hi : L 12 = false) (hd : L 9 = true ∧ L 10 = true ∧ L 11 = true) (hNM : w0.heap.size ≤ M) (hb : ga < M ∧ gb < M ∧ gc < M ∧ gy < M) (g : Nat) (e1 : vs 9 = .pointer (some ⟨g, 0, none⟩)) (e2 : M ≤ g) (e3 : w.heap[g]? = some (.cells #[.int .i64 0, .int .i64 0] 23 (0, 0))) :
    JM M w0 ga gb gc gy a b c y x1 x2 x3 (setL L 12) (setV vs 12 undef) ((w.setCell ⟨g, 0, none⟩ (.int .i64 x1.x)).setCell ⟨g, 1, none⟩ (.int .i64 x1.y)) := by
  obtain ⟨h1, h2, h3, h4⟩ := hb
  have n_ga : ga ≠ g := by omega
  have n_gb : gb ≠ g := by omega
  have n_gc : gc ≠ g := by omega
  have n_gy : gy ≠ g := by omega
  exact ⟨blk_far (blk_far h.ba n_ga _) n_ga _,
   blk_far (blk_far h.bb n_gb _) n_gb _,
   blk_far (blk_far h.bc n_gc _) n_gc _,
   blk_far (blk_far h.bd n_gy _) n_gy _,
   below_set (below_set h.below (Nat.le_trans hNM e2)) (Nat.le_trans hNM e2),
   by simpa using h.hm,
   by simpa [setL, setV] using h.v0,
   by simpa [setL, setV] using h.v1,
   by simpa [setL, setV] using h.v2,
   by simpa [setL, setV] using h.v3,
   by simpa [setL, setV] using h.v4,
   by simpa [setL, setV] using h.v5,
   by simpa [setL, setV] using h.v6,
   by simpa [setL, setV] using h.v7,
   by simpa [setL, setV] using h.v8,
   fun k => ⟨setL_of hd.1, setL_of hd.2.1, setL_of hd.2.2⟩,
   fun k => by have k := h.o13 (by simpa [setL] using k); exact ⟨setL_of k.1, setL_of k.2.1, setL_of k.2.2⟩,
   fun k => by have k := h.o14 (by simpa [setL] using k); exact ⟨setL_of k.1, setL_of k.2.1, setL_of k.2.2⟩,
   fun _ => by simp [setL, setV]; exact ⟨g, e1, e2, blk_put (blk_put e3 0 _ rfl) 1 _ rfl⟩,
   fun k => by
    obtain ⟨g', k1, k2, k3⟩ := h.g10 (by simpa [setL] using k)
    have hne : g' ≠ g := ptr_ne (by rw [← k1, ← e1]; exact fun z => h.n9_10 hd.1 hd.2.1 z.symm)
    have : Blk M _ (vs 10) ((w.setCell ⟨g, 0, none⟩ (.int .i64 x1.x)).setCell ⟨g, 1, none⟩ (.int .i64 x1.y)) := ⟨g', k1, k2, blk_far (blk_far k3 hne _) hne _⟩
    simpa [setL, setV] using this,
   fun k => by
    obtain ⟨g', k1, k2, k3⟩ := h.g11 (by simpa [setL] using k)
    have hne : g' ≠ g := ptr_ne (by rw [← k1, ← e1]; exact fun z => h.n9_11 hd.1 hd.2.2 z.symm)
    have : Blk M _ (vs 11) ((w.setCell ⟨g, 0, none⟩ (.int .i64 x1.x)).setCell ⟨g, 1, none⟩ (.int .i64 x1.y)) := ⟨g', k1, k2, blk_far (blk_far k3 hne _) hne _⟩
    simpa [setL, setV] using this,
   by simpa [setL, setV] using h.n9_10,
   by simpa [setL, setV] using h.n9_11,
   by simpa [setL, setV] using h.n10_11⟩
theorem jm13 {M : Nat} {w0 : World} {ga gb gc gy : Nat} {a b c y x1 x2 x3 : Pt} {L : Nat → Bool} {vs : Nat → Value} {w : World} (h : JM M w0 ga gb gc gy a b c y x1 x2 x3 L vs w) (hi : L 13 = false) (hd : L 9 = true ∧ L 10 = true ∧ L 11 = true) (hNM : w0.heap.size ≤ M) (hb : ga < M ∧ gb < M ∧ gc < M ∧ gy < M) (g : Nat) (e1 : vs 10 = .pointer (some ⟨g, 0, none⟩)) (e2 : M ≤ g) (e3 : w.heap[g]? = some (.cells #[.int .i64 0, .int .i64 0] 23 (0, 0))) :
    JM M w0 ga gb gc gy a b c y x1 x2 x3 (setL L 13) (setV vs 13 undef) ((w.setCell ⟨g, 0, none⟩ (.int .i64 x2.x)).setCell ⟨g, 1, none⟩ (.int .i64 x2.y)) := by
  obtain ⟨h1, h2, h3, h4⟩ := hb
  have n_ga : ga ≠ g := by omega
  have n_gb : gb ≠ g := by omega
  have n_gc : gc ≠ g := by omega
  have n_gy : gy ≠ g := by omega
  exact ⟨blk_far (blk_far h.ba n_ga _) n_ga _,
   blk_far (blk_far h.bb n_gb _) n_gb _,
   blk_far (blk_far h.bc n_gc _) n_gc _,
   blk_far (blk_far h.bd n_gy _) n_gy _,
   below_set (below_set h.below (Nat.le_trans hNM e2)) (Nat.le_trans hNM e2),
   by simpa using h.hm,
   by simpa [setL, setV] using h.v0,
   by simpa [setL, setV] using h.v1,
   by simpa [setL, setV] using h.v2,
   by simpa [setL, setV] using h.v3,
   by simpa [setL, setV] using h.v4,
   by simpa [setL, setV] using h.v5,
   by simpa [setL, setV] using h.v6,
   by simpa [setL, setV] using h.v7,
   by simpa [setL, setV] using h.v8,
   fun k => by have k := h.o12 (by simpa [setL] using k); exact ⟨setL_of k.1, setL_of k.2.1, setL_of k.2.2⟩,
   fun k => ⟨setL_of hd.1, setL_of hd.2.1, setL_of hd.2.2⟩,
   fun k => by have k := h.o14 (by simpa [setL] using k); exact ⟨setL_of k.1, setL_of k.2.1, setL_of k.2.2⟩,
   fun k => by
    obtain ⟨g', k1, k2, k3⟩ := h.g9 (by simpa [setL] using k)
    have hne : g' ≠ g := ptr_ne (by rw [← k1, ← e1]; exact h.n9_10 hd.1 hd.2.1)
    have : Blk M _ (vs 9) ((w.setCell ⟨g, 0, none⟩ (.int .i64 x2.x)).setCell ⟨g, 1, none⟩ (.int .i64 x2.y)) := ⟨g', k1, k2, blk_far (blk_far k3 hne _) hne _⟩
    simpa [setL, setV] using this,
   fun _ => by simp [setL, setV]; exact ⟨g, e1, e2, blk_put (blk_put e3 0 _ rfl) 1 _ rfl⟩,
   fun k => by
    obtain ⟨g', k1, k2, k3⟩ := h.g11 (by simpa [setL] using k)
    have hne : g' ≠ g := ptr_ne (by rw [← k1, ← e1]; exact fun z => h.n10_11 hd.2.1 hd.2.2 z.symm)
    have : Blk M _ (vs 11) ((w.setCell ⟨g, 0, none⟩ (.int .i64 x2.x)).setCell ⟨g, 1, none⟩ (.int .i64 x2.y)) := ⟨g', k1, k2, blk_far (blk_far k3 hne _) hne _⟩
    simpa [setL, setV] using this,
   by simpa [setL, setV] using h.n9_10,
   by simpa [setL, setV] using h.n9_11,
   by simpa [setL, setV] using h.n10_11⟩
theorem jm14 {M : Nat} {w0 : World} {ga gb gc gy : Nat} {a b c y x1 x2 x3 : Pt} {L : Nat → Bool} {vs : Nat → Value} {w : World} (h : JM M w0 ga gb gc gy a b c y x1 x2 x3 L vs w) (hi : L 14 = false) (hd : L 9 = true ∧ L 10 = true ∧ L 11 = true) (hNM : w0.heap.size ≤ M) (hb : ga < M ∧ gb < M ∧ gc < M ∧ gy < M) (g : Nat) (e1 : vs 11 = .pointer (some ⟨g, 0, none⟩)) (e2 : M ≤ g) (e3 : w.heap[g]? = some (.cells #[.int .i64 0, .int .i64 0] 23 (0, 0))) :
    JM M w0 ga gb gc gy a b c y x1 x2 x3 (setL L 14) (setV vs 14 undef) ((w.setCell ⟨g, 0, none⟩ (.int .i64 x3.x)).setCell ⟨g, 1, none⟩ (.int .i64 x3.y)) := by
  obtain ⟨h1, h2, h3, h4⟩ := hb
  have n_ga : ga ≠ g := by omega
  have n_gb : gb ≠ g := by omega
  have n_gc : gc ≠ g := by omega
  have n_gy : gy ≠ g := by omega
  exact ⟨blk_far (blk_far h.ba n_ga _) n_ga _,
   blk_far (blk_far h.bb n_gb _) n_gb _,
   blk_far (blk_far h.bc n_gc _) n_gc _,
   blk_far (blk_far h.bd n_gy _) n_gy _,
   below_set (below_set h.below (Nat.le_trans hNM e2)) (Nat.le_trans hNM e2),
   by simpa using h.hm,
   by simpa [setL, setV] using h.v0,
   by simpa [setL, setV] using h.v1,
   by simpa [setL, setV] using h.v2,
   by simpa [setL, setV] using h.v3,
   by simpa [setL, setV] using h.v4,
   by simpa [setL, setV] using h.v5,
   by simpa [setL, setV] using h.v6,
   by simpa [setL, setV] using h.v7,
   by simpa [setL, setV] using h.v8,
   fun k => by have k := h.o12 (by simpa [setL] using k); exact ⟨setL_of k.1, setL_of k.2.1, setL_of k.2.2⟩,
   fun k => by have k := h.o13 (by simpa [setL] using k); exact ⟨setL_of k.1, setL_of k.2.1, setL_of k.2.2⟩,
   fun k => ⟨setL_of hd.1, setL_of hd.2.1, setL_of hd.2.2⟩,
   fun k => by
    obtain ⟨g', k1, k2, k3⟩ := h.g9 (by simpa [setL] using k)
    have hne : g' ≠ g := ptr_ne (by rw [← k1, ← e1]; exact h.n9_11 hd.1 hd.2.2)
    have : Blk M _ (vs 9) ((w.setCell ⟨g, 0, none⟩ (.int .i64 x3.x)).setCell ⟨g, 1, none⟩ (.int .i64 x3.y)) := ⟨g', k1, k2, blk_far (blk_far k3 hne _) hne _⟩
    simpa [setL, setV] using this,
   fun k => by
    obtain ⟨g', k1, k2, k3⟩ := h.g10 (by simpa [setL] using k)
    have hne : g' ≠ g := ptr_ne (by rw [← k1, ← e1]; exact h.n10_11 hd.2.1 hd.2.2)
    have : Blk M _ (vs 10) ((w.setCell ⟨g, 0, none⟩ (.int .i64 x3.x)).setCell ⟨g, 1, none⟩ (.int .i64 x3.y)) := ⟨g', k1, k2, blk_far (blk_far k3 hne _) hne _⟩
    simpa [setL, setV] using this,
   fun _ => by simp [setL, setV]; exact ⟨g, e1, e2, blk_put (blk_put e3 0 _ rfl) 1 _ rfl⟩,
   by simpa [setL, setV] using h.n9_10,
   by simpa [setL, setV] using h.n9_11,
   by simpa [setL, setV] using h.n10_11⟩
theorem moved_calls (p q r : Pt) (hr : Hid (Nr p ∧ Nr q ∧ r = ⟨p.x + q.x, p.y + q.y⟩)) (W : World) :
    Calls Try.prog 26 #[.agg #[.int .i64 p.x, .int .i64 p.y], .agg #[.int .i64 q.x, .int .i64 q.y]] W fun e w' => e = .returned (.agg #[.int .i64 r.x, .int .i64 r.y]) ∧ Below W.heap.size W w' := by
  obtain ⟨h1, h2, rfl⟩ := hr.out
  unfold Nr at h1 h2
  refine planispherelaw03_moved.calls p.x p.y q.x q.y _ _ W ?_
  unfold planispherelaw03_moved.f
  rw [w64 (by omega) (by omega), w64 (by omega) (by omega)]
theorem sg_neg (n : Int) : sg (-n) = - sg n := by unfold sg; (repeat' split) <;> omega
theorem orients (a b c : Pt) (ha : Nr a) (hb : Nr b) (hc : Nr c) : orient b a c = - orient a b c ∧ orient a c b = - orient a b c ∧ orient b c a = orient a b c ∧ orient a a c = 0 ∧ orient a b b = 0 ∧ (orient a b c = -1 ∨ orient a b c = 0 ∨ orient a b c = 1) := by
  unfold orient
  rw [if_pos ⟨hb, ha, hc⟩, if_pos ⟨ha, hb, hc⟩, if_pos ⟨ha, hc, hb⟩, if_pos ⟨hb, hc, ha⟩, if_pos ⟨ha, ha, hc⟩, if_pos ⟨ha, hb, hb⟩]
  refine ⟨by rw [cr_swap, sg_neg], ?_, ?_, ?_, ?_, ?_⟩
  · rw [← sg_neg]; congr 1; unfold cr; grind
  · rw [cr_cyc a b c]
  · rw [show cr a a c = 0 by unfold cr; grind]; rfl
  · rw [show cr a b b = 0 by unfold cr; grind]; rfl
  · unfold sg; (repeat' split) <;> omega
theorem orient_move (a b c y : Pt) (ha : Nr a) (hb : Nr b) (hc : Nr c) (h1 : Nr ⟨a.x + y.x, a.y + y.y⟩) (h2 : Nr ⟨b.x + y.x, b.y + y.y⟩) (h3 : Nr ⟨c.x + y.x, c.y + y.y⟩) :
    orient ⟨a.x + y.x, a.y + y.y⟩ ⟨b.x + y.x, b.y + y.y⟩ ⟨c.x + y.x, c.y + y.y⟩ = orient a b c ∧ distv ⟨a.x + y.x, a.y + y.y⟩ ⟨b.x + y.x, b.y + y.y⟩ = distv a b := by
  unfold orient distv
  rw [if_pos ⟨h1, h2, h3⟩, if_pos ⟨ha, hb, hc⟩, if_pos ⟨h1, h2⟩, if_pos ⟨ha, hb⟩]
  refine ⟨congrArg sg (by unfold cr; grind), by unfold dist; grind⟩
set_option maxHeartbeats 1000000 in
theorem orients_far (a b c y : Pt) (w : World) (h : ¬ (Nr a ∧ Nr b ∧ Nr c ∧ Nr y)) :
    Calls Try.prog 4 #[.agg #[.int .i64 a.x, .int .i64 a.y], .agg #[.int .i64 b.x, .int .i64 b.y], .agg #[.int .i64 c.x, .int .i64 c.y], .agg #[.int .i64 y.x, .int .i64 y.y]] w fun e w' => e = .returned (.bool true) ∧ Below w.heap.size w w' := by
  have HN : Hid (decide (Nr a ∧ Nr b ∧ Nr c ∧ Nr y) = false) := Lib.hid (decide_eq_false h)
  clear h
  have hu2 := Try.underlying23
  have HB := Aside0.mk (Below.refl w.heap.size w)
  go_enter Try.func4, Try.ntmps4
  go_wp2_with (first | ((with_reducible refine gate_dst (N := 4) rfl ?_); refine box_event ?hg (N := 4) ?hd (cs := #[.int .i64 a.x, .int .i64 a.y]) (t := 23) ?hr ?_; (case hd => rfl); (case hg => rfl); (case hr => first | (go_simp; done) | (go_simp; rfl)); intro ga hg W0_ hbox hb; have GEga := Aside0.mk (show w.heap.size ≤ ga by rw [hg]; exact HB.out.size); have n_ := Aside0.mk (below_step HB.out hb); clear HB; have HB := n_; clear n_; have BKga := Aside0.mk hbox; clear hg hb hbox; have qga_0 : W0_.cell? ⟨ga, 0, none⟩ = some (.int .i64 a.x) := (blk_cell BKga.out 0).trans rfl; have qga_1 : W0_.cell? ⟨ga, 1, none⟩ = some (.int .i64 a.y) := (blk_cell BKga.out 1).trans rfl; have fga_0 := blk_frozen BKga.out 0; have fga_1 := blk_frozen BKga.out 1) | ((with_reducible refine gate_dst (N := 5) rfl ?_); refine box_event ?hg (N := 5) ?hd (cs := #[.int .i64 b.x, .int .i64 b.y]) (t := 23) ?hr ?_; (case hd => rfl); (case hg => rfl); (case hr => first | (go_simp; done) | (go_simp; rfl)); intro gb hg W1_ hbox hb; (try clear qga_0 fga_0 qga_1 fga_1); have negagb : ga ≠ gb := (by rw [hg]; exact Nat.ne_of_lt (blk_lt BKga.out)); have negbga : gb ≠ ga := (by rw [hg]; exact Nat.ne_of_gt (blk_lt BKga.out)); have n_ := Aside0.mk (blk_below BKga.out hb); clear BKga; have BKga := n_; clear n_; have GEgb := Aside0.mk (show w.heap.size ≤ gb by rw [hg]; exact HB.out.size); have n_ := Aside0.mk (below_step HB.out hb); clear HB; have HB := n_; clear n_; have BKgb := Aside0.mk hbox; clear hg hb hbox; have qga_0 : W1_.cell? ⟨ga, 0, none⟩ = some (.int .i64 a.x) := (blk_cell BKga.out 0).trans rfl; have qga_1 : W1_.cell? ⟨ga, 1, none⟩ = some (.int .i64 a.y) := (blk_cell BKga.out 1).trans rfl; have fga_0 := blk_frozen BKga.out 0; have fga_1 := blk_frozen BKga.out 1; have qgb_0 : W1_.cell? ⟨gb, 0, none⟩ = some (.int .i64 b.x) := (blk_cell BKgb.out 0).trans rfl; have qgb_1 : W1_.cell? ⟨gb, 1, none⟩ = some (.int .i64 b.y) := (blk_cell BKgb.out 1).trans rfl; have fgb_0 := blk_frozen BKgb.out 0; have fgb_1 := blk_frozen BKgb.out 1) | ((with_reducible refine gate_dst (N := 6) rfl ?_); refine box_event ?hg (N := 6) ?hd (cs := #[.int .i64 c.x, .int .i64 c.y]) (t := 23) ?hr ?_; (case hd => rfl); (case hg => rfl); (case hr => first | (go_simp; done) | (go_simp; rfl)); intro gc hg W2_ hbox hb; (try clear qga_0 fga_0 qga_1 fga_1); (try clear qgb_0 fgb_0 qgb_1 fgb_1); have negagc : ga ≠ gc := (by rw [hg]; exact Nat.ne_of_lt (blk_lt BKga.out)); have negcga : gc ≠ ga := (by rw [hg]; exact Nat.ne_of_gt (blk_lt BKga.out)); have negbgc : gb ≠ gc := (by rw [hg]; exact Nat.ne_of_lt (blk_lt BKgb.out)); have negcgb : gc ≠ gb := (by rw [hg]; exact Nat.ne_of_gt (blk_lt BKgb.out)); have n_ := Aside0.mk (blk_below BKga.out hb); clear BKga; have BKga := n_; clear n_; have n_ := Aside0.mk (blk_below BKgb.out hb); clear BKgb; have BKgb := n_; clear n_; have GEgc := Aside0.mk (show w.heap.size ≤ gc by rw [hg]; exact HB.out.size); have n_ := Aside0.mk (below_step HB.out hb); clear HB; have HB := n_; clear n_; have BKgc := Aside0.mk hbox; clear hg hb hbox; have qga_0 : W2_.cell? ⟨ga, 0, none⟩ = some (.int .i64 a.x) := (blk_cell BKga.out 0).trans rfl; have qga_1 : W2_.cell? ⟨ga, 1, none⟩ = some (.int .i64 a.y) := (blk_cell BKga.out 1).trans rfl; have fga_0 := blk_frozen BKga.out 0; have fga_1 := blk_frozen BKga.out 1; have qgb_0 : W2_.cell? ⟨gb, 0, none⟩ = some (.int .i64 b.x) := (blk_cell BKgb.out 0).trans rfl; have qgb_1 : W2_.cell? ⟨gb, 1, none⟩ = some (.int .i64 b.y) := (blk_cell BKgb.out 1).trans rfl; have fgb_0 := blk_frozen BKgb.out 0; have fgb_1 := blk_frozen BKgb.out 1; have qgc_0 : W2_.cell? ⟨gc, 0, none⟩ = some (.int .i64 c.x) := (blk_cell BKgc.out 0).trans rfl; have qgc_1 : W2_.cell? ⟨gc, 1, none⟩ = some (.int .i64 c.y) := (blk_cell BKgc.out 1).trans rfl; have fgc_0 := blk_frozen BKgc.out 0; have fgc_1 := blk_frozen BKgc.out 1) | ((with_reducible refine gate_dst (N := 7) rfl ?_); refine box_event ?hg (N := 7) ?hd (cs := #[.int .i64 y.x, .int .i64 y.y]) (t := 23) ?hr ?_; (case hd => rfl); (case hg => rfl); (case hr => first | (go_simp; done) | (go_simp; rfl)); intro gy hg W3_ hbox hb; (try clear qga_0 fga_0 qga_1 fga_1); (try clear qgb_0 fgb_0 qgb_1 fgb_1); (try clear qgc_0 fgc_0 qgc_1 fgc_1); have negagy : ga ≠ gy := (by rw [hg]; exact Nat.ne_of_lt (blk_lt BKga.out)); have negyga : gy ≠ ga := (by rw [hg]; exact Nat.ne_of_gt (blk_lt BKga.out)); have negbgy : gb ≠ gy := (by rw [hg]; exact Nat.ne_of_lt (blk_lt BKgb.out)); have negygb : gy ≠ gb := (by rw [hg]; exact Nat.ne_of_gt (blk_lt BKgb.out)); have negcgy : gc ≠ gy := (by rw [hg]; exact Nat.ne_of_lt (blk_lt BKgc.out)); have negygc : gy ≠ gc := (by rw [hg]; exact Nat.ne_of_gt (blk_lt BKgc.out)); have n_ := Aside0.mk (blk_below BKga.out hb); clear BKga; have BKga := n_; clear n_; have n_ := Aside0.mk (blk_below BKgb.out hb); clear BKgb; have BKgb := n_; clear n_; have n_ := Aside0.mk (blk_below BKgc.out hb); clear BKgc; have BKgc := n_; clear n_; have GEgy := Aside0.mk (show w.heap.size ≤ gy by rw [hg]; exact HB.out.size); have n_ := Aside0.mk (below_step HB.out hb); clear HB; have HB := n_; clear n_; have BKgy := Aside0.mk hbox; clear hg hb hbox; have qga_0 : W3_.cell? ⟨ga, 0, none⟩ = some (.int .i64 a.x) := (blk_cell BKga.out 0).trans rfl; have qga_1 : W3_.cell? ⟨ga, 1, none⟩ = some (.int .i64 a.y) := (blk_cell BKga.out 1).trans rfl; have fga_0 := blk_frozen BKga.out 0; have fga_1 := blk_frozen BKga.out 1; have qgb_0 : W3_.cell? ⟨gb, 0, none⟩ = some (.int .i64 b.x) := (blk_cell BKgb.out 0).trans rfl; have qgb_1 : W3_.cell? ⟨gb, 1, none⟩ = some (.int .i64 b.y) := (blk_cell BKgb.out 1).trans rfl; have fgb_0 := blk_frozen BKgb.out 0; have fgb_1 := blk_frozen BKgb.out 1; have qgc_0 : W3_.cell? ⟨gc, 0, none⟩ = some (.int .i64 c.x) := (blk_cell BKgc.out 0).trans rfl; have qgc_1 : W3_.cell? ⟨gc, 1, none⟩ = some (.int .i64 c.y) := (blk_cell BKgc.out 1).trans rfl; have fgc_0 := blk_frozen BKgc.out 0; have fgc_1 := blk_frozen BKgc.out 1; have qgy_0 : W3_.cell? ⟨gy, 0, none⟩ = some (.int .i64 y.x) := (blk_cell BKgy.out 0).trans rfl; have qgy_1 : W3_.cell? ⟨gy, 1, none⟩ = some (.int .i64 y.y) := (blk_cell BKgy.out 1).trans rfl; have fgy_0 := blk_frozen BKgy.out 0; have fgy_1 := blk_frozen BKgy.out 1) | (go_at_call 10; (with_reducible refine (head_calls _).mono ?_); rintro e Wc_ ⟨rfl, hb⟩; (try clear qga_0 fga_0 qga_1 fga_1); (try clear qgb_0 fgb_0 qgb_1 fgb_1); (try clear qgc_0 fgc_0 qgc_1 fgc_1); (try clear qgy_0 fgy_0 qgy_1 fgy_1); have n_ := Aside0.mk (blk_below BKga.out hb); clear BKga; have BKga := n_; clear n_; have n_ := Aside0.mk (blk_below BKgb.out hb); clear BKgb; have BKgb := n_; clear n_; have n_ := Aside0.mk (blk_below BKgc.out hb); clear BKgc; have BKgc := n_; clear n_; have n_ := Aside0.mk (blk_below BKgy.out hb); clear BKgy; have BKgy := n_; clear n_; have n_ := Aside0.mk (below_step HB.out hb); clear HB; have HB := n_; clear n_; clear hb; have qga_0 : Wc_.cell? ⟨ga, 0, none⟩ = some (.int .i64 a.x) := (blk_cell BKga.out 0).trans rfl; have qga_1 : Wc_.cell? ⟨ga, 1, none⟩ = some (.int .i64 a.y) := (blk_cell BKga.out 1).trans rfl; have fga_0 := blk_frozen BKga.out 0; have fga_1 := blk_frozen BKga.out 1; have qgb_0 : Wc_.cell? ⟨gb, 0, none⟩ = some (.int .i64 b.x) := (blk_cell BKgb.out 0).trans rfl; have qgb_1 : Wc_.cell? ⟨gb, 1, none⟩ = some (.int .i64 b.y) := (blk_cell BKgb.out 1).trans rfl; have fgb_0 := blk_frozen BKgb.out 0; have fgb_1 := blk_frozen BKgb.out 1; have qgc_0 : Wc_.cell? ⟨gc, 0, none⟩ = some (.int .i64 c.x) := (blk_cell BKgc.out 0).trans rfl; have qgc_1 : Wc_.cell? ⟨gc, 1, none⟩ = some (.int .i64 c.y) := (blk_cell BKgc.out 1).trans rfl; have fgc_0 := blk_frozen BKgc.out 0; have fgc_1 := blk_frozen BKgc.out 1; have qgy_0 : Wc_.cell? ⟨gy, 0, none⟩ = some (.int .i64 y.x) := (blk_cell BKgy.out 0).trans rfl; have qgy_1 : Wc_.cell? ⟨gy, 1, none⟩ = some (.int .i64 y.y) := (blk_cell BKgy.out 1).trans rfl; have fgy_0 := blk_frozen BKgy.out 0; have fgy_1 := blk_frozen BKgy.out 1) | (go_at_call 25; (with_reducible refine (lawnear4_calls a b c y _ HN _ _ (blk_new _ _)).mono ?_); rintro e Wc_ ⟨rfl, hb⟩; (try clear qga_0 fga_0 qga_1 fga_1); (try clear qgb_0 fgb_0 qgb_1 fgb_1); (try clear qgc_0 fgc_0 qgc_1 fgc_1); (try clear qgy_0 fgy_0 qgy_1 fgy_1); have n_ := Aside0.mk (blk_below (blk_alloc BKga.out _) hb); clear BKga; have BKga := n_; clear n_; have n_ := Aside0.mk (blk_below (blk_alloc BKgb.out _) hb); clear BKgb; have BKgb := n_; clear n_; have n_ := Aside0.mk (blk_below (blk_alloc BKgc.out _) hb); clear BKgc; have BKgc := n_; clear n_; have n_ := Aside0.mk (blk_below (blk_alloc BKgy.out _) hb); clear BKgy; have BKgy := n_; clear n_; have n_ := Aside0.mk (below_step (below_alloc HB.out _) hb); clear HB; have HB := n_; clear n_; clear hb; have qga_0 : Wc_.cell? ⟨ga, 0, none⟩ = some (.int .i64 a.x) := (blk_cell BKga.out 0).trans rfl; have qga_1 : Wc_.cell? ⟨ga, 1, none⟩ = some (.int .i64 a.y) := (blk_cell BKga.out 1).trans rfl; have fga_0 := blk_frozen BKga.out 0; have fga_1 := blk_frozen BKga.out 1; have qgb_0 : Wc_.cell? ⟨gb, 0, none⟩ = some (.int .i64 b.x) := (blk_cell BKgb.out 0).trans rfl; have qgb_1 : Wc_.cell? ⟨gb, 1, none⟩ = some (.int .i64 b.y) := (blk_cell BKgb.out 1).trans rfl; have fgb_0 := blk_frozen BKgb.out 0; have fgb_1 := blk_frozen BKgb.out 1; have qgc_0 : Wc_.cell? ⟨gc, 0, none⟩ = some (.int .i64 c.x) := (blk_cell BKgc.out 0).trans rfl; have qgc_1 : Wc_.cell? ⟨gc, 1, none⟩ = some (.int .i64 c.y) := (blk_cell BKgc.out 1).trans rfl; have fgc_0 := blk_frozen BKgc.out 0; have fgc_1 := blk_frozen BKgc.out 1; have qgy_0 : Wc_.cell? ⟨gy, 0, none⟩ = some (.int .i64 y.x) := (blk_cell BKgy.out 0).trans rfl; have qgy_1 : Wc_.cell? ⟨gy, 1, none⟩ = some (.int .i64 y.y) := (blk_cell BKgy.out 1).trans rfl; have fgy_0 := blk_frozen BKgy.out 0; have fgy_1 := blk_frozen BKgy.out 1))
  all_goals go_ret
  all_goals exact ⟨rfl, HB.out⟩
/-- what the operations of the last region leave when the moved points are not near -/
def TB8 (x1 x2 x3 : Pt) : Nat → Value
  | 0 => .bool true
  | 1 => .bool true
  | 2 => .agg #[.int .i64 x1.x, .int .i64 x1.y]
  | 3 => .agg #[.int .i64 x2.x, .int .i64 x2.y]
  | 4 => .agg #[.int .i64 x3.x, .int .i64 x3.y]
  | 6 => .bool false
  | 7 => .bool true
  | 8 => .bool true
  | 24 => .bool true
  | 25 => .bool true
  | 26 => .bool true
  | _ => undef
def G8 (x1 x2 x3 : Pt) (j : Nat) (v : Value) (w : World) : Prop := if j = 5 then ∃ g, v = .slice (some ⟨g, 0, none⟩) 3 3 ∧ w.heap[g]? = some (.cells #[.int .i64 x1.x, .int .i64 x1.y, .int .i64 x2.x, .int .i64 x2.y, .int .i64 x3.x, .int .i64 x3.y] 23 (0, 0)) else v = TB8 x1 x2 x3 j
theorem G8.keep {x1 x2 x3 : Pt} {w w' : World} (hb : Below w.heap.size w w') : ∀ j u, G8 x1 x2 x3 j u w → G8 x1 x2 x3 j u w' := by
  intro j u h
  unfold G8 at *
  by_cases e : j = 5
  · rw [if_pos e] at *; obtain ⟨g, e1, e2⟩ := h; exact ⟨g, e1, blk_below e2 hb⟩
  · rw [if_neg e] at *; exact h
set_option maxRecDepth 8000 in
set_option maxHeartbeats 4000000 in
theorem orients_near (a b c y : Pt) (w : World) (h : Nr a ∧ Nr b ∧ Nr c ∧ Nr y) :
    Calls Try.prog 4 #[.agg #[.int .i64 a.x, .int .i64 a.y], .agg #[.int .i64 b.x, .int .i64 b.y], .agg #[.int .i64 c.x, .int .i64 c.y], .agg #[.int .i64 y.x, .int .i64 y.y]] w fun e w' => e = .returned (.bool true) ∧ Below w.heap.size w w' := by
  have HN : Hid (decide (Nr a ∧ Nr b ∧ Nr c ∧ Nr y) = true) := Lib.hid (decide_eq_true h)
  obtain ⟨ha, hb, hc, hy⟩ := h
  obtain ⟨x1, hx1⟩ : ∃ p : Pt, p = ⟨a.x + y.x, a.y + y.y⟩ := ⟨_, rfl⟩
  obtain ⟨x2, hx2⟩ : ∃ p : Pt, p = ⟨b.x + y.x, b.y + y.y⟩ := ⟨_, rfl⟩
  obtain ⟨x3, hx3⟩ : ∃ p : Pt, p = ⟨c.x + y.x, c.y + y.y⟩ := ⟨_, rfl⟩
  have M1 : Hid (Nr a ∧ Nr y ∧ x1 = ⟨a.x + y.x, a.y + y.y⟩) := Lib.hid ⟨ha, hy, hx1⟩
  have M2 : Hid (Nr b ∧ Nr y ∧ x2 = ⟨b.x + y.x, b.y + y.y⟩) := Lib.hid ⟨hb, hy, hx2⟩
  have M3 : Hid (Nr c ∧ Nr y ∧ x3 = ⟨c.x + y.x, c.y + y.y⟩) := Lib.hid ⟨hc, hy, hx3⟩
  have mv : Nr x1 ∧ Nr x2 ∧ Nr x3 → orient x1 x2 x3 = orient a b c ∧ distv x1 x2 = distv a b := by
    rintro ⟨h1, h2, h3⟩
    rw [hx1] at h1 ⊢; rw [hx2] at h2 ⊢; rw [hx3] at h3 ⊢
    exact orient_move a b c y ha hb hc h1 h2 h3
  obtain ⟨k1, k2, k3, k4, k5, k6⟩ := orients a b c ha hb hc
  obtain ⟨o, HK⟩ : ∃ o, Hid (orient a b c = o) := ⟨_, Lib.hid rfl⟩
  obtain ⟨dv, HD⟩ : ∃ o, Hid (distv a b = o) := ⟨_, Lib.hid rfl⟩
  have HX : Hid (Nr x1 ∧ Nr x2 ∧ Nr x3 → orient x1 x2 x3 = o ∧ distv x1 x2 = dv) := Lib.hid (by rw [← HK.out, ← HD.out]; exact mv)
  rw [HK.out] at k1 k2 k3 k6
  have HK1 : Hid (orient b a c = - o) := Lib.hid k1
  have HK2 : Hid (orient a c b = - o) := Lib.hid k2
  have HK3 : Hid (orient b c a = o) := Lib.hid k3
  have HK4 : Hid (orient a a c = 0) := Lib.hid k4
  have HK5 : Hid (orient a b b = 0) := Lib.hid k5
  have K6 := Aside0.mk k6
  clear hx1 hx2 hx3 mv k1 k2 k3 k4 k5 k6 ha hb hc hy
  have hu2 := Try.underlying23
  have HB := Aside0.mk (Below.refl w.heap.size w)
  go_enter Try.func4, Try.ntmps4
  go_upto_region 5 with (first | ((with_reducible refine gate_dst (N := 4) rfl ?_); refine box_event ?hg (N := 4) ?hd (cs := #[.int .i64 a.x, .int .i64 a.y]) (t := 23) ?hr ?_; (case hd => rfl); (case hg => rfl); (case hr => first | (go_simp; done) | (go_simp; rfl)); intro ga hg W0_ hbox hb; have GEga := Aside0.mk (show w.heap.size ≤ ga by rw [hg]; exact HB.out.size); have n_ := Aside0.mk (below_step HB.out hb); clear HB; have HB := n_; clear n_; have BKga := Aside0.mk hbox; clear hg hb hbox; have qga_0 : W0_.cell? ⟨ga, 0, none⟩ = some (.int .i64 a.x) := (blk_cell BKga.out 0).trans rfl; have qga_1 : W0_.cell? ⟨ga, 1, none⟩ = some (.int .i64 a.y) := (blk_cell BKga.out 1).trans rfl; have fga_0 := blk_frozen BKga.out 0; have fga_1 := blk_frozen BKga.out 1) | ((with_reducible refine gate_dst (N := 5) rfl ?_); refine box_event ?hg (N := 5) ?hd (cs := #[.int .i64 b.x, .int .i64 b.y]) (t := 23) ?hr ?_; (case hd => rfl); (case hg => rfl); (case hr => first | (go_simp; done) | (go_simp; rfl)); intro gb hg W1_ hbox hb; (try clear qga_0 fga_0 qga_1 fga_1); have negagb : ga ≠ gb := (by rw [hg]; exact Nat.ne_of_lt (blk_lt BKga.out)); have negbga : gb ≠ ga := (by rw [hg]; exact Nat.ne_of_gt (blk_lt BKga.out)); have n_ := Aside0.mk (blk_below BKga.out hb); clear BKga; have BKga := n_; clear n_; have GEgb := Aside0.mk (show w.heap.size ≤ gb by rw [hg]; exact HB.out.size); have n_ := Aside0.mk (below_step HB.out hb); clear HB; have HB := n_; clear n_; have BKgb := Aside0.mk hbox; clear hg hb hbox; have qga_0 : W1_.cell? ⟨ga, 0, none⟩ = some (.int .i64 a.x) := (blk_cell BKga.out 0).trans rfl; have qga_1 : W1_.cell? ⟨ga, 1, none⟩ = some (.int .i64 a.y) := (blk_cell BKga.out 1).trans rfl; have fga_0 := blk_frozen BKga.out 0; have fga_1 := blk_frozen BKga.out 1; have qgb_0 : W1_.cell? ⟨gb, 0, none⟩ = some (.int .i64 b.x) := (blk_cell BKgb.out 0).trans rfl; have qgb_1 : W1_.cell? ⟨gb, 1, none⟩ = some (.int .i64 b.y) := (blk_cell BKgb.out 1).trans rfl; have fgb_0 := blk_frozen BKgb.out 0; have fgb_1 := blk_frozen BKgb.out 1) | ((with_reducible refine gate_dst (N := 6) rfl ?_); refine box_event ?hg (N := 6) ?hd (cs := #[.int .i64 c.x, .int .i64 c.y]) (t := 23) ?hr ?_; (case hd => rfl); (case hg => rfl); (case hr => first | (go_simp; done) | (go_simp; rfl)); intro gc hg W2_ hbox hb; (try clear qga_0 fga_0 qga_1 fga_1); (try clear qgb_0 fgb_0 qgb_1 fgb_1); have negagc : ga ≠ gc := (by rw [hg]; exact Nat.ne_of_lt (blk_lt BKga.out)); have negcga : gc ≠ ga := (by rw [hg]; exact Nat.ne_of_gt (blk_lt BKga.out)); have negbgc : gb ≠ gc := (by rw [hg]; exact Nat.ne_of_lt (blk_lt BKgb.out)); have negcgb : gc ≠ gb := (by rw [hg]; exact Nat.ne_of_gt (blk_lt BKgb.out)); have n_ := Aside0.mk (blk_below BKga.out hb); clear BKga; have BKga := n_; clear n_; have n_ := Aside0.mk (blk_below BKgb.out hb); clear BKgb; have BKgb := n_; clear n_; have GEgc := Aside0.mk (show w.heap.size ≤ gc by rw [hg]; exact HB.out.size); have n_ := Aside0.mk (below_step HB.out hb); clear HB; have HB := n_; clear n_; have BKgc := Aside0.mk hbox; clear hg hb hbox; have qga_0 : W2_.cell? ⟨ga, 0, none⟩ = some (.int .i64 a.x) := (blk_cell BKga.out 0).trans rfl; have qga_1 : W2_.cell? ⟨ga, 1, none⟩ = some (.int .i64 a.y) := (blk_cell BKga.out 1).trans rfl; have fga_0 := blk_frozen BKga.out 0; have fga_1 := blk_frozen BKga.out 1; have qgb_0 : W2_.cell? ⟨gb, 0, none⟩ = some (.int .i64 b.x) := (blk_cell BKgb.out 0).trans rfl; have qgb_1 : W2_.cell? ⟨gb, 1, none⟩ = some (.int .i64 b.y) := (blk_cell BKgb.out 1).trans rfl; have fgb_0 := blk_frozen BKgb.out 0; have fgb_1 := blk_frozen BKgb.out 1; have qgc_0 : W2_.cell? ⟨gc, 0, none⟩ = some (.int .i64 c.x) := (blk_cell BKgc.out 0).trans rfl; have qgc_1 : W2_.cell? ⟨gc, 1, none⟩ = some (.int .i64 c.y) := (blk_cell BKgc.out 1).trans rfl; have fgc_0 := blk_frozen BKgc.out 0; have fgc_1 := blk_frozen BKgc.out 1) | ((with_reducible refine gate_dst (N := 7) rfl ?_); refine box_event ?hg (N := 7) ?hd (cs := #[.int .i64 y.x, .int .i64 y.y]) (t := 23) ?hr ?_; (case hd => rfl); (case hg => rfl); (case hr => first | (go_simp; done) | (go_simp; rfl)); intro gy hg W3_ hbox hb; (try clear qga_0 fga_0 qga_1 fga_1); (try clear qgb_0 fgb_0 qgb_1 fgb_1); (try clear qgc_0 fgc_0 qgc_1 fgc_1); have negagy : ga ≠ gy := (by rw [hg]; exact Nat.ne_of_lt (blk_lt BKga.out)); have negyga : gy ≠ ga := (by rw [hg]; exact Nat.ne_of_gt (blk_lt BKga.out)); have negbgy : gb ≠ gy := (by rw [hg]; exact Nat.ne_of_lt (blk_lt BKgb.out)); have negygb : gy ≠ gb := (by rw [hg]; exact Nat.ne_of_gt (blk_lt BKgb.out)); have negcgy : gc ≠ gy := (by rw [hg]; exact Nat.ne_of_lt (blk_lt BKgc.out)); have negygc : gy ≠ gc := (by rw [hg]; exact Nat.ne_of_gt (blk_lt BKgc.out)); have n_ := Aside0.mk (blk_below BKga.out hb); clear BKga; have BKga := n_; clear n_; have n_ := Aside0.mk (blk_below BKgb.out hb); clear BKgb; have BKgb := n_; clear n_; have n_ := Aside0.mk (blk_below BKgc.out hb); clear BKgc; have BKgc := n_; clear n_; have GEgy := Aside0.mk (show w.heap.size ≤ gy by rw [hg]; exact HB.out.size); have n_ := Aside0.mk (below_step HB.out hb); clear HB; have HB := n_; clear n_; have BKgy := Aside0.mk hbox; clear hg hb hbox; have qga_0 : W3_.cell? ⟨ga, 0, none⟩ = some (.int .i64 a.x) := (blk_cell BKga.out 0).trans rfl; have qga_1 : W3_.cell? ⟨ga, 1, none⟩ = some (.int .i64 a.y) := (blk_cell BKga.out 1).trans rfl; have fga_0 := blk_frozen BKga.out 0; have fga_1 := blk_frozen BKga.out 1; have qgb_0 : W3_.cell? ⟨gb, 0, none⟩ = some (.int .i64 b.x) := (blk_cell BKgb.out 0).trans rfl; have qgb_1 : W3_.cell? ⟨gb, 1, none⟩ = some (.int .i64 b.y) := (blk_cell BKgb.out 1).trans rfl; have fgb_0 := blk_frozen BKgb.out 0; have fgb_1 := blk_frozen BKgb.out 1; have qgc_0 : W3_.cell? ⟨gc, 0, none⟩ = some (.int .i64 c.x) := (blk_cell BKgc.out 0).trans rfl; have qgc_1 : W3_.cell? ⟨gc, 1, none⟩ = some (.int .i64 c.y) := (blk_cell BKgc.out 1).trans rfl; have fgc_0 := blk_frozen BKgc.out 0; have fgc_1 := blk_frozen BKgc.out 1; have qgy_0 : W3_.cell? ⟨gy, 0, none⟩ = some (.int .i64 y.x) := (blk_cell BKgy.out 0).trans rfl; have qgy_1 : W3_.cell? ⟨gy, 1, none⟩ = some (.int .i64 y.y) := (blk_cell BKgy.out 1).trans rfl; have fgy_0 := blk_frozen BKgy.out 0; have fgy_1 := blk_frozen BKgy.out 1) | (go_at_call 10; (with_reducible refine (head_calls _).mono ?_); rintro e Wc_ ⟨rfl, hb⟩; (try clear qga_0 fga_0 qga_1 fga_1); (try clear qgb_0 fgb_0 qgb_1 fgb_1); (try clear qgc_0 fgc_0 qgc_1 fgc_1); (try clear qgy_0 fgy_0 qgy_1 fgy_1); have n_ := Aside0.mk (blk_below BKga.out hb); clear BKga; have BKga := n_; clear n_; have n_ := Aside0.mk (blk_below BKgb.out hb); clear BKgb; have BKgb := n_; clear n_; have n_ := Aside0.mk (blk_below BKgc.out hb); clear BKgc; have BKgc := n_; clear n_; have n_ := Aside0.mk (blk_below BKgy.out hb); clear BKgy; have BKgy := n_; clear n_; have n_ := Aside0.mk (below_step HB.out hb); clear HB; have HB := n_; clear n_; clear hb; have qga_0 : Wc_.cell? ⟨ga, 0, none⟩ = some (.int .i64 a.x) := (blk_cell BKga.out 0).trans rfl; have qga_1 : Wc_.cell? ⟨ga, 1, none⟩ = some (.int .i64 a.y) := (blk_cell BKga.out 1).trans rfl; have fga_0 := blk_frozen BKga.out 0; have fga_1 := blk_frozen BKga.out 1; have qgb_0 : Wc_.cell? ⟨gb, 0, none⟩ = some (.int .i64 b.x) := (blk_cell BKgb.out 0).trans rfl; have qgb_1 : Wc_.cell? ⟨gb, 1, none⟩ = some (.int .i64 b.y) := (blk_cell BKgb.out 1).trans rfl; have fgb_0 := blk_frozen BKgb.out 0; have fgb_1 := blk_frozen BKgb.out 1; have qgc_0 : Wc_.cell? ⟨gc, 0, none⟩ = some (.int .i64 c.x) := (blk_cell BKgc.out 0).trans rfl; have qgc_1 : Wc_.cell? ⟨gc, 1, none⟩ = some (.int .i64 c.y) := (blk_cell BKgc.out 1).trans rfl; have fgc_0 := blk_frozen BKgc.out 0; have fgc_1 := blk_frozen BKgc.out 1; have qgy_0 : Wc_.cell? ⟨gy, 0, none⟩ = some (.int .i64 y.x) := (blk_cell BKgy.out 0).trans rfl; have qgy_1 : Wc_.cell? ⟨gy, 1, none⟩ = some (.int .i64 y.y) := (blk_cell BKgy.out 1).trans rfl; have fgy_0 := blk_frozen BKgy.out 0; have fgy_1 := blk_frozen BKgy.out 1) | (go_at_call 25; (with_reducible refine (lawnear4_calls a b c y _ HN _ _ (blk_new _ _)).mono ?_); rintro e Wc_ ⟨rfl, hb⟩; (try clear qga_0 fga_0 qga_1 fga_1); (try clear qgb_0 fgb_0 qgb_1 fgb_1); (try clear qgc_0 fgc_0 qgc_1 fgc_1); (try clear qgy_0 fgy_0 qgy_1 fgy_1); have n_ := Aside0.mk (blk_below (blk_alloc BKga.out _) hb); clear BKga; have BKga := n_; clear n_; have n_ := Aside0.mk (blk_below (blk_alloc BKgb.out _) hb); clear BKgb; have BKgb := n_; clear n_; have n_ := Aside0.mk (blk_below (blk_alloc BKgc.out _) hb); clear BKgc; have BKgc := n_; clear n_; have n_ := Aside0.mk (blk_below (blk_alloc BKgy.out _) hb); clear BKgy; have BKgy := n_; clear n_; have n_ := Aside0.mk (below_step (below_alloc HB.out _) hb); clear HB; have HB := n_; clear n_; clear hb; have qga_0 : Wc_.cell? ⟨ga, 0, none⟩ = some (.int .i64 a.x) := (blk_cell BKga.out 0).trans rfl; have qga_1 : Wc_.cell? ⟨ga, 1, none⟩ = some (.int .i64 a.y) := (blk_cell BKga.out 1).trans rfl; have fga_0 := blk_frozen BKga.out 0; have fga_1 := blk_frozen BKga.out 1; have qgb_0 : Wc_.cell? ⟨gb, 0, none⟩ = some (.int .i64 b.x) := (blk_cell BKgb.out 0).trans rfl; have qgb_1 : Wc_.cell? ⟨gb, 1, none⟩ = some (.int .i64 b.y) := (blk_cell BKgb.out 1).trans rfl; have fgb_0 := blk_frozen BKgb.out 0; have fgb_1 := blk_frozen BKgb.out 1; have qgc_0 : Wc_.cell? ⟨gc, 0, none⟩ = some (.int .i64 c.x) := (blk_cell BKgc.out 0).trans rfl; have qgc_1 : Wc_.cell? ⟨gc, 1, none⟩ = some (.int .i64 c.y) := (blk_cell BKgc.out 1).trans rfl; have fgc_0 := blk_frozen BKgc.out 0; have fgc_1 := blk_frozen BKgc.out 1; have qgy_0 : Wc_.cell? ⟨gy, 0, none⟩ = some (.int .i64 y.x) := (blk_cell BKgy.out 0).trans rfl; have qgy_1 : Wc_.cell? ⟨gy, 1, none⟩ = some (.int .i64 y.y) := (blk_cell BKgy.out 1).trans rfl; have fgy_0 := blk_frozen BKgy.out 0; have fgy_1 := blk_frozen BKgy.out 1) | (go_at_call 11; (with_reducible refine (orient_calls a b c _ HK _).mono ?_); rintro e Wc_ ⟨rfl, hb⟩; (try clear qga_0 fga_0 qga_1 fga_1); (try clear qgb_0 fgb_0 qgb_1 fgb_1); (try clear qgc_0 fgc_0 qgc_1 fgc_1); (try clear qgy_0 fgy_0 qgy_1 fgy_1); have n_ := Aside0.mk (blk_below BKga.out hb); clear BKga; have BKga := n_; clear n_; have n_ := Aside0.mk (blk_below BKgb.out hb); clear BKgb; have BKgb := n_; clear n_; have n_ := Aside0.mk (blk_below BKgc.out hb); clear BKgc; have BKgc := n_; clear n_; have n_ := Aside0.mk (blk_below BKgy.out hb); clear BKgy; have BKgy := n_; clear n_; have n_ := Aside0.mk (below_step HB.out hb); clear HB; have HB := n_; clear n_; clear hb; have qga_0 : Wc_.cell? ⟨ga, 0, none⟩ = some (.int .i64 a.x) := (blk_cell BKga.out 0).trans rfl; have qga_1 : Wc_.cell? ⟨ga, 1, none⟩ = some (.int .i64 a.y) := (blk_cell BKga.out 1).trans rfl; have fga_0 := blk_frozen BKga.out 0; have fga_1 := blk_frozen BKga.out 1; have qgb_0 : Wc_.cell? ⟨gb, 0, none⟩ = some (.int .i64 b.x) := (blk_cell BKgb.out 0).trans rfl; have qgb_1 : Wc_.cell? ⟨gb, 1, none⟩ = some (.int .i64 b.y) := (blk_cell BKgb.out 1).trans rfl; have fgb_0 := blk_frozen BKgb.out 0; have fgb_1 := blk_frozen BKgb.out 1; have qgc_0 : Wc_.cell? ⟨gc, 0, none⟩ = some (.int .i64 c.x) := (blk_cell BKgc.out 0).trans rfl; have qgc_1 : Wc_.cell? ⟨gc, 1, none⟩ = some (.int .i64 c.y) := (blk_cell BKgc.out 1).trans rfl; have fgc_0 := blk_frozen BKgc.out 0; have fgc_1 := blk_frozen BKgc.out 1; have qgy_0 : Wc_.cell? ⟨gy, 0, none⟩ = some (.int .i64 y.x) := (blk_cell BKgy.out 0).trans rfl; have qgy_1 : Wc_.cell? ⟨gy, 1, none⟩ = some (.int .i64 y.y) := (blk_cell BKgy.out 1).trans rfl; have fgy_0 := blk_frozen BKgy.out 0; have fgy_1 := blk_frozen BKgy.out 1))
  go_cut [64] from 15 (fun s64 w' => s64 = .bool false ∧ Aside0 (w'.heap[ga]? = some (.cells #[.int .i64 a.x, .int .i64 a.y] 23 (0, 0))) ∧ Aside0 (w'.heap[gb]? = some (.cells #[.int .i64 b.x, .int .i64 b.y] 23 (0, 0))) ∧ Aside0 (w'.heap[gc]? = some (.cells #[.int .i64 c.x, .int .i64 c.y] 23 (0, 0))) ∧ Aside0 (w'.heap[gy]? = some (.cells #[.int .i64 y.x, .int .i64 y.y] 23 (0, 0))) ∧ Aside0 (Below w.heap.size w w') ∧ w'.cell? ⟨ga, 0, none⟩ = some (.int .i64 a.x) ∧ w'.cell? ⟨ga, 1, none⟩ = some (.int .i64 a.y) ∧ w'.cell? ⟨gb, 0, none⟩ = some (.int .i64 b.x) ∧ w'.cell? ⟨gb, 1, none⟩ = some (.int .i64 b.y) ∧ w'.cell? ⟨gc, 0, none⟩ = some (.int .i64 c.x) ∧ w'.cell? ⟨gc, 1, none⟩ = some (.int .i64 c.y) ∧ w'.cell? ⟨gy, 0, none⟩ = some (.int .i64 y.x) ∧ w'.cell? ⟨gy, 1, none⟩ = some (.int .i64 y.y))
  case first =>
    have k6 := K6.out
    rcases k6 with rfl | rfl | rfl
    all_goals
      go_wp2_with (first | (go_at_call 11; (with_reducible refine (orient_calls b a c _ HK1 _).mono ?_); rintro e Wc_ ⟨rfl, hb⟩; (try clear qga_0 fga_0 qga_1 fga_1); (try clear qgb_0 fgb_0 qgb_1 fgb_1); (try clear qgc_0 fgc_0 qgc_1 fgc_1); (try clear qgy_0 fgy_0 qgy_1 fgy_1); have n_ := Aside0.mk (blk_below BKga.out hb); clear BKga; have BKga := n_; clear n_; have n_ := Aside0.mk (blk_below BKgb.out hb); clear BKgb; have BKgb := n_; clear n_; have n_ := Aside0.mk (blk_below BKgc.out hb); clear BKgc; have BKgc := n_; clear n_; have n_ := Aside0.mk (blk_below BKgy.out hb); clear BKgy; have BKgy := n_; clear n_; have n_ := Aside0.mk (below_step HB.out hb); clear HB; have HB := n_; clear n_; clear hb; have qga_0 : Wc_.cell? ⟨ga, 0, none⟩ = some (.int .i64 a.x) := (blk_cell BKga.out 0).trans rfl; have qga_1 : Wc_.cell? ⟨ga, 1, none⟩ = some (.int .i64 a.y) := (blk_cell BKga.out 1).trans rfl; have fga_0 := blk_frozen BKga.out 0; have fga_1 := blk_frozen BKga.out 1; have qgb_0 : Wc_.cell? ⟨gb, 0, none⟩ = some (.int .i64 b.x) := (blk_cell BKgb.out 0).trans rfl; have qgb_1 : Wc_.cell? ⟨gb, 1, none⟩ = some (.int .i64 b.y) := (blk_cell BKgb.out 1).trans rfl; have fgb_0 := blk_frozen BKgb.out 0; have fgb_1 := blk_frozen BKgb.out 1; have qgc_0 : Wc_.cell? ⟨gc, 0, none⟩ = some (.int .i64 c.x) := (blk_cell BKgc.out 0).trans rfl; have qgc_1 : Wc_.cell? ⟨gc, 1, none⟩ = some (.int .i64 c.y) := (blk_cell BKgc.out 1).trans rfl; have fgc_0 := blk_frozen BKgc.out 0; have fgc_1 := blk_frozen BKgc.out 1; have qgy_0 : Wc_.cell? ⟨gy, 0, none⟩ = some (.int .i64 y.x) := (blk_cell BKgy.out 0).trans rfl; have qgy_1 : Wc_.cell? ⟨gy, 1, none⟩ = some (.int .i64 y.y) := (blk_cell BKgy.out 1).trans rfl; have fgy_0 := blk_frozen BKgy.out 0; have fgy_1 := blk_frozen BKgy.out 1) | (go_at_call 11; (with_reducible refine (orient_calls a c b _ HK2 _).mono ?_); rintro e Wc_ ⟨rfl, hb⟩; (try clear qga_0 fga_0 qga_1 fga_1); (try clear qgb_0 fgb_0 qgb_1 fgb_1); (try clear qgc_0 fgc_0 qgc_1 fgc_1); (try clear qgy_0 fgy_0 qgy_1 fgy_1); have n_ := Aside0.mk (blk_below BKga.out hb); clear BKga; have BKga := n_; clear n_; have n_ := Aside0.mk (blk_below BKgb.out hb); clear BKgb; have BKgb := n_; clear n_; have n_ := Aside0.mk (blk_below BKgc.out hb); clear BKgc; have BKgc := n_; clear n_; have n_ := Aside0.mk (blk_below BKgy.out hb); clear BKgy; have BKgy := n_; clear n_; have n_ := Aside0.mk (below_step HB.out hb); clear HB; have HB := n_; clear n_; clear hb; have qga_0 : Wc_.cell? ⟨ga, 0, none⟩ = some (.int .i64 a.x) := (blk_cell BKga.out 0).trans rfl; have qga_1 : Wc_.cell? ⟨ga, 1, none⟩ = some (.int .i64 a.y) := (blk_cell BKga.out 1).trans rfl; have fga_0 := blk_frozen BKga.out 0; have fga_1 := blk_frozen BKga.out 1; have qgb_0 : Wc_.cell? ⟨gb, 0, none⟩ = some (.int .i64 b.x) := (blk_cell BKgb.out 0).trans rfl; have qgb_1 : Wc_.cell? ⟨gb, 1, none⟩ = some (.int .i64 b.y) := (blk_cell BKgb.out 1).trans rfl; have fgb_0 := blk_frozen BKgb.out 0; have fgb_1 := blk_frozen BKgb.out 1; have qgc_0 : Wc_.cell? ⟨gc, 0, none⟩ = some (.int .i64 c.x) := (blk_cell BKgc.out 0).trans rfl; have qgc_1 : Wc_.cell? ⟨gc, 1, none⟩ = some (.int .i64 c.y) := (blk_cell BKgc.out 1).trans rfl; have fgc_0 := blk_frozen BKgc.out 0; have fgc_1 := blk_frozen BKgc.out 1; have qgy_0 : Wc_.cell? ⟨gy, 0, none⟩ = some (.int .i64 y.x) := (blk_cell BKgy.out 0).trans rfl; have qgy_1 : Wc_.cell? ⟨gy, 1, none⟩ = some (.int .i64 y.y) := (blk_cell BKgy.out 1).trans rfl; have fgy_0 := blk_frozen BKgy.out 0; have fgy_1 := blk_frozen BKgy.out 1) | (go_at_call 11; (with_reducible refine (orient_calls b c a _ HK3 _).mono ?_); rintro e Wc_ ⟨rfl, hb⟩; (try clear qga_0 fga_0 qga_1 fga_1); (try clear qgb_0 fgb_0 qgb_1 fgb_1); (try clear qgc_0 fgc_0 qgc_1 fgc_1); (try clear qgy_0 fgy_0 qgy_1 fgy_1); have n_ := Aside0.mk (blk_below BKga.out hb); clear BKga; have BKga := n_; clear n_; have n_ := Aside0.mk (blk_below BKgb.out hb); clear BKgb; have BKgb := n_; clear n_; have n_ := Aside0.mk (blk_below BKgc.out hb); clear BKgc; have BKgc := n_; clear n_; have n_ := Aside0.mk (blk_below BKgy.out hb); clear BKgy; have BKgy := n_; clear n_; have n_ := Aside0.mk (below_step HB.out hb); clear HB; have HB := n_; clear n_; clear hb; have qga_0 : Wc_.cell? ⟨ga, 0, none⟩ = some (.int .i64 a.x) := (blk_cell BKga.out 0).trans rfl; have qga_1 : Wc_.cell? ⟨ga, 1, none⟩ = some (.int .i64 a.y) := (blk_cell BKga.out 1).trans rfl; have fga_0 := blk_frozen BKga.out 0; have fga_1 := blk_frozen BKga.out 1; have qgb_0 : Wc_.cell? ⟨gb, 0, none⟩ = some (.int .i64 b.x) := (blk_cell BKgb.out 0).trans rfl; have qgb_1 : Wc_.cell? ⟨gb, 1, none⟩ = some (.int .i64 b.y) := (blk_cell BKgb.out 1).trans rfl; have fgb_0 := blk_frozen BKgb.out 0; have fgb_1 := blk_frozen BKgb.out 1; have qgc_0 : Wc_.cell? ⟨gc, 0, none⟩ = some (.int .i64 c.x) := (blk_cell BKgc.out 0).trans rfl; have qgc_1 : Wc_.cell? ⟨gc, 1, none⟩ = some (.int .i64 c.y) := (blk_cell BKgc.out 1).trans rfl; have fgc_0 := blk_frozen BKgc.out 0; have fgc_1 := blk_frozen BKgc.out 1; have qgy_0 : Wc_.cell? ⟨gy, 0, none⟩ = some (.int .i64 y.x) := (blk_cell BKgy.out 0).trans rfl; have qgy_1 : Wc_.cell? ⟨gy, 1, none⟩ = some (.int .i64 y.y) := (blk_cell BKgy.out 1).trans rfl; have fgy_0 := blk_frozen BKgy.out 0; have fgy_1 := blk_frozen BKgy.out 1) | (go_at_call 11; (with_reducible refine (orient_calls a a c _ HK4 _).mono ?_); rintro e Wc_ ⟨rfl, hb⟩; (try clear qga_0 fga_0 qga_1 fga_1); (try clear qgb_0 fgb_0 qgb_1 fgb_1); (try clear qgc_0 fgc_0 qgc_1 fgc_1); (try clear qgy_0 fgy_0 qgy_1 fgy_1); have n_ := Aside0.mk (blk_below BKga.out hb); clear BKga; have BKga := n_; clear n_; have n_ := Aside0.mk (blk_below BKgb.out hb); clear BKgb; have BKgb := n_; clear n_; have n_ := Aside0.mk (blk_below BKgc.out hb); clear BKgc; have BKgc := n_; clear n_; have n_ := Aside0.mk (blk_below BKgy.out hb); clear BKgy; have BKgy := n_; clear n_; have n_ := Aside0.mk (below_step HB.out hb); clear HB; have HB := n_; clear n_; clear hb; have qga_0 : Wc_.cell? ⟨ga, 0, none⟩ = some (.int .i64 a.x) := (blk_cell BKga.out 0).trans rfl; have qga_1 : Wc_.cell? ⟨ga, 1, none⟩ = some (.int .i64 a.y) := (blk_cell BKga.out 1).trans rfl; have fga_0 := blk_frozen BKga.out 0; have fga_1 := blk_frozen BKga.out 1; have qgb_0 : Wc_.cell? ⟨gb, 0, none⟩ = some (.int .i64 b.x) := (blk_cell BKgb.out 0).trans rfl; have qgb_1 : Wc_.cell? ⟨gb, 1, none⟩ = some (.int .i64 b.y) := (blk_cell BKgb.out 1).trans rfl; have fgb_0 := blk_frozen BKgb.out 0; have fgb_1 := blk_frozen BKgb.out 1; have qgc_0 : Wc_.cell? ⟨gc, 0, none⟩ = some (.int .i64 c.x) := (blk_cell BKgc.out 0).trans rfl; have qgc_1 : Wc_.cell? ⟨gc, 1, none⟩ = some (.int .i64 c.y) := (blk_cell BKgc.out 1).trans rfl; have fgc_0 := blk_frozen BKgc.out 0; have fgc_1 := blk_frozen BKgc.out 1; have qgy_0 : Wc_.cell? ⟨gy, 0, none⟩ = some (.int .i64 y.x) := (blk_cell BKgy.out 0).trans rfl; have qgy_1 : Wc_.cell? ⟨gy, 1, none⟩ = some (.int .i64 y.y) := (blk_cell BKgy.out 1).trans rfl; have fgy_0 := blk_frozen BKgy.out 0; have fgy_1 := blk_frozen BKgy.out 1) | (go_at_call 11; (with_reducible refine (orient_calls a b b _ HK5 _).mono ?_); rintro e Wc_ ⟨rfl, hb⟩; (try clear qga_0 fga_0 qga_1 fga_1); (try clear qgb_0 fgb_0 qgb_1 fgb_1); (try clear qgc_0 fgc_0 qgc_1 fgc_1); (try clear qgy_0 fgy_0 qgy_1 fgy_1); have n_ := Aside0.mk (blk_below BKga.out hb); clear BKga; have BKga := n_; clear n_; have n_ := Aside0.mk (blk_below BKgb.out hb); clear BKgb; have BKgb := n_; clear n_; have n_ := Aside0.mk (blk_below BKgc.out hb); clear BKgc; have BKgc := n_; clear n_; have n_ := Aside0.mk (blk_below BKgy.out hb); clear BKgy; have BKgy := n_; clear n_; have n_ := Aside0.mk (below_step HB.out hb); clear HB; have HB := n_; clear n_; clear hb; have qga_0 : Wc_.cell? ⟨ga, 0, none⟩ = some (.int .i64 a.x) := (blk_cell BKga.out 0).trans rfl; have qga_1 : Wc_.cell? ⟨ga, 1, none⟩ = some (.int .i64 a.y) := (blk_cell BKga.out 1).trans rfl; have fga_0 := blk_frozen BKga.out 0; have fga_1 := blk_frozen BKga.out 1; have qgb_0 : Wc_.cell? ⟨gb, 0, none⟩ = some (.int .i64 b.x) := (blk_cell BKgb.out 0).trans rfl; have qgb_1 : Wc_.cell? ⟨gb, 1, none⟩ = some (.int .i64 b.y) := (blk_cell BKgb.out 1).trans rfl; have fgb_0 := blk_frozen BKgb.out 0; have fgb_1 := blk_frozen BKgb.out 1; have qgc_0 : Wc_.cell? ⟨gc, 0, none⟩ = some (.int .i64 c.x) := (blk_cell BKgc.out 0).trans rfl; have qgc_1 : Wc_.cell? ⟨gc, 1, none⟩ = some (.int .i64 c.y) := (blk_cell BKgc.out 1).trans rfl; have fgc_0 := blk_frozen BKgc.out 0; have fgc_1 := blk_frozen BKgc.out 1; have qgy_0 : Wc_.cell? ⟨gy, 0, none⟩ = some (.int .i64 y.x) := (blk_cell BKgy.out 0).trans rfl; have qgy_1 : Wc_.cell? ⟨gy, 1, none⟩ = some (.int .i64 y.y) := (blk_cell BKgy.out 1).trans rfl; have fgy_0 := blk_frozen BKgy.out 0; have fgy_1 := blk_frozen BKgy.out 1))
      go_meet
      case rel => exact ⟨rfl, (by first | assumption | exact ⟨BKga, BKgb, BKgc, BKgy, HB, qga_0, qga_1, qgb_0, qgb_1, qgc_0, qgc_1, qgy_0, qgy_1⟩)⟩
  case rest =>
  obtain ⟨hs_, hS⟩ := hcut
  subst hs_
  (obtain ⟨n_ga, n_gb, n_gc, n_gy, n_HB, -, -, -, -, -, -, -, -⟩ : Aside0 (wc.heap[ga]? = some (.cells #[.int .i64 a.x, .int .i64 a.y] 23 (0, 0))) ∧ Aside0 (wc.heap[gb]? = some (.cells #[.int .i64 b.x, .int .i64 b.y] 23 (0, 0))) ∧ Aside0 (wc.heap[gc]? = some (.cells #[.int .i64 c.x, .int .i64 c.y] 23 (0, 0))) ∧ Aside0 (wc.heap[gy]? = some (.cells #[.int .i64 y.x, .int .i64 y.y] 23 (0, 0))) ∧ Aside0 (Below w.heap.size w wc) ∧ wc.cell? ⟨ga, 0, none⟩ = some (.int .i64 a.x) ∧ wc.cell? ⟨ga, 1, none⟩ = some (.int .i64 a.y) ∧ wc.cell? ⟨gb, 0, none⟩ = some (.int .i64 b.x) ∧ wc.cell? ⟨gb, 1, none⟩ = some (.int .i64 b.y) ∧ wc.cell? ⟨gc, 0, none⟩ = some (.int .i64 c.x) ∧ wc.cell? ⟨gc, 1, none⟩ = some (.int .i64 c.y) ∧ wc.cell? ⟨gy, 0, none⟩ = some (.int .i64 y.x) ∧ wc.cell? ⟨gy, 1, none⟩ = some (.int .i64 y.y) := hS; (try clear qga_0 fga_0 qga_1 fga_1); (try clear qgb_0 fgb_0 qgb_1 fgb_1); (try clear qgc_0 fgc_0 qgc_1 fgc_1); (try clear qgy_0 fgy_0 qgy_1 fgy_1); clear BKga BKgb BKgc BKgy HB; have BKga := n_ga; have BKgb := n_gb; have BKgc := n_gc; have BKgy := n_gy; have HB := n_HB; clear n_ga n_gb n_gc n_gy n_HB; have qga_0 : wc.cell? ⟨ga, 0, none⟩ = some (.int .i64 a.x) := (blk_cell BKga.out 0).trans rfl; have qga_1 : wc.cell? ⟨ga, 1, none⟩ = some (.int .i64 a.y) := (blk_cell BKga.out 1).trans rfl; have fga_0 := blk_frozen BKga.out 0; have fga_1 := blk_frozen BKga.out 1; have qgb_0 : wc.cell? ⟨gb, 0, none⟩ = some (.int .i64 b.x) := (blk_cell BKgb.out 0).trans rfl; have qgb_1 : wc.cell? ⟨gb, 1, none⟩ = some (.int .i64 b.y) := (blk_cell BKgb.out 1).trans rfl; have fgb_0 := blk_frozen BKgb.out 0; have fgb_1 := blk_frozen BKgb.out 1; have qgc_0 : wc.cell? ⟨gc, 0, none⟩ = some (.int .i64 c.x) := (blk_cell BKgc.out 0).trans rfl; have qgc_1 : wc.cell? ⟨gc, 1, none⟩ = some (.int .i64 c.y) := (blk_cell BKgc.out 1).trans rfl; have fgc_0 := blk_frozen BKgc.out 0; have fgc_1 := blk_frozen BKgc.out 1; have qgy_0 : wc.cell? ⟨gy, 0, none⟩ = some (.int .i64 y.x) := (blk_cell BKgy.out 0).trans rfl; have qgy_1 : wc.cell? ⟨gy, 1, none⟩ = some (.int .i64 y.y) := (blk_cell BKgy.out 1).trans rfl; have fgy_0 := blk_frozen BKgy.out 0; have fgy_1 := blk_frozen BKgy.out 1)
  go_upto_region 7 with (fail)
  have hM : ga < wc.heap.size ∧ gb < wc.heap.size ∧ gc < wc.heap.size ∧ gy < wc.heap.size := ⟨blk_lt BKga.out, blk_lt BKgb.out, blk_lt BKgc.out, blk_lt BKgy.out⟩
  have hNM : w.heap.size ≤ wc.heap.size := HB.out.size
  refine wp_region_rel (J := fun L vs w' => JM wc.heap.size w ga gb gc gy a b c y x1 x2 x3 L vs w') (by kernel_rfl) (by kernel_rfl) ?_ ?_ ?_
  · intro vs
    exact ⟨blk_drew BKga.out, blk_drew BKgb.out, blk_drew BKgc.out, blk_drew BKgy.out, below_drew1 HB.out, Nat.le_refl _, fun h => absurd h (by simp), fun h => absurd h (by simp), fun h => absurd h (by simp), fun h => absurd h (by simp), fun h => absurd h (by simp), fun h => absurd h (by simp), fun h => absurd h (by simp), fun h => absurd h (by simp), fun h => absurd h (by simp), fun h => absurd h (by simp), fun h => absurd h (by simp), fun h => absurd h (by simp), fun h => absurd h (by simp), fun h => absurd h (by simp), fun h => absurd h (by simp), fun h _ => absurd h (by simp), fun h _ => absurd h (by simp), fun h _ => absurd h (by simp)⟩
  · intro L vs w' i o ho hL hd hJ
    have hi : i < 15 := (Array.getElem?_eq_some_iff.1 ho).1
    obtain rfl | rfl | rfl | rfl | rfl | rfl | rfl | rfl | rfl | rfl | rfl | rfl | rfl | rfl | rfl : i = 0 ∨ i = 1 ∨ i = 2 ∨ i = 3 ∨ i = 4 ∨ i = 5 ∨ i = 6 ∨ i = 7 ∨ i = 8 ∨ i = 9 ∨ i = 10 ∨ i = 11 ∨ i = 12 ∨ i = 13 ∨ i = 14 := by omega
    all_goals
      simp only [List.getElem?_toArray, List.getElem?_cons_succ, List.getElem?_cons_zero] at ho
      obtain rfl := Option.some.inj ho
      simp only [frs, Act.put, List.setIfInBounds_toArray, List.set_cons_zero, List.set_cons_succ]
      refine .inl ⟨by rfl, ?_⟩
    · have q0 := (blk_cell hJ.ba 0).trans rfl
      have q1 := (blk_cell hJ.ba 1).trans rfl
      refine oneR_yield (v := .agg #[.int .i64 a.x, .int .i64 a.y]) (w' := w') ?_ (jm0 hJ hL)
      go_simp
      try (with_reducible rfl)
    · have q0 := (blk_cell hJ.bd 0).trans rfl
      have q1 := (blk_cell hJ.bd 1).trans rfl
      refine oneR_yield (v := .agg #[.int .i64 y.x, .int .i64 y.y]) (w' := w') ?_ (jm1 hJ hL)
      go_simp
      try (with_reducible rfl)
    · have e0 := hJ.v0 (hd { on := 0, ground := Ground.data } (by simp) (by rfl))
      have e1 := hJ.v1 (hd { on := 1, ground := Ground.data } (by simp) (by rfl))
      simp only [Nat.zero_add, Nat.reduceAdd]
      rw [e0, e1]
      refine oneR_call (w' := w') ?_ ((moved_calls a y x1 M1 _).mono fun e w'' he => ⟨_, he.1, jm2 (hJ.keep he.2) hL⟩)
      go_simp
      try (with_reducible rfl)
    · have q0 := (blk_cell hJ.bb 0).trans rfl
      have q1 := (blk_cell hJ.bb 1).trans rfl
      refine oneR_yield (v := .agg #[.int .i64 b.x, .int .i64 b.y]) (w' := w') ?_ (jm3 hJ hL)
      go_simp
      try (with_reducible rfl)
    · have q0 := (blk_cell hJ.bd 0).trans rfl
      have q1 := (blk_cell hJ.bd 1).trans rfl
      refine oneR_yield (v := .agg #[.int .i64 y.x, .int .i64 y.y]) (w' := w') ?_ (jm4 hJ hL)
      go_simp
      try (with_reducible rfl)
    · have e0 := hJ.v3 (hd { on := 3, ground := Ground.data } (by simp) (by rfl))
      have e1 := hJ.v4 (hd { on := 4, ground := Ground.data } (by simp) (by rfl))
      simp only [Nat.zero_add, Nat.reduceAdd]
      rw [e0, e1]
      refine oneR_call (w' := w') ?_ ((moved_calls b y x2 M2 _).mono fun e w'' he => ⟨_, he.1, jm5 (hJ.keep he.2) hL⟩)
      go_simp
      try (with_reducible rfl)
    · have q0 := (blk_cell hJ.bc 0).trans rfl
      have q1 := (blk_cell hJ.bc 1).trans rfl
      refine oneR_yield (v := .agg #[.int .i64 c.x, .int .i64 c.y]) (w' := w') ?_ (jm6 hJ hL)
      go_simp
      try (with_reducible rfl)
    · have q0 := (blk_cell hJ.bd 0).trans rfl
      have q1 := (blk_cell hJ.bd 1).trans rfl
      refine oneR_yield (v := .agg #[.int .i64 y.x, .int .i64 y.y]) (w' := w') ?_ (jm7 hJ hL)
      go_simp
      try (with_reducible rfl)
    · have e0 := hJ.v6 (hd { on := 6, ground := Ground.data } (by simp) (by rfl))
      have e1 := hJ.v7 (hd { on := 7, ground := Ground.data } (by simp) (by rfl))
      simp only [Nat.zero_add, Nat.reduceAdd]
      rw [e0, e1]
      refine oneR_call (w' := w') ?_ ((moved_calls c y x3 M3 _).mono fun e w'' he => ⟨_, he.1, jm8 (hJ.keep he.2) hL⟩)
      go_simp
      try (with_reducible rfl)
    · refine oneR_yield ?_ (jm9 hJ hL)
      go_simp
      try (with_reducible rfl)
    · refine oneR_yield ?_ (jm10 hJ hL)
      go_simp
      try (with_reducible rfl)
    · refine oneR_yield ?_ (jm11 hJ hL)
      go_simp
      try (with_reducible rfl)
    · have e0 := hJ.v2 (hd { on := 2, ground := Ground.data } (by simp) (by rfl))
      have hg := hJ.g9 (hd { on := 9, ground := Ground.data } (by simp) (by rfl))
      rw [if_neg (by rw [hL]; decide)] at hg
      obtain ⟨g, e1, e2, e3⟩ := hg
      have q0 := (blk_cell e3 0).trans rfl
      have q1 := (blk_cell e3 1).trans rfl
      have f0 := blk_frozen e3 0
      have f1 := blk_frozen e3 1
      simp only [Nat.zero_add, Nat.reduceAdd]
      have J2 := Aside0.mk (jm12 hJ hL ⟨(hd { on := 9, ground := Ground.phase } (by simp) (by rfl)), (hd { on := 10, ground := Ground.phase } (by simp) (by rfl)), (hd { on := 11, ground := Ground.phase } (by simp) (by rfl))⟩ hNM hM g e1 e2 e3)
      rw [e0, e1]
      clear hJ e0 e1 e2 e3
      refine oneR_skip ?_ J2.out
      go_simp
      try (with_reducible rfl)
    · have e0 := hJ.v5 (hd { on := 5, ground := Ground.data } (by simp) (by rfl))
      have hg := hJ.g10 (hd { on := 10, ground := Ground.data } (by simp) (by rfl))
      rw [if_neg (by rw [hL]; decide)] at hg
      obtain ⟨g, e1, e2, e3⟩ := hg
      have q0 := (blk_cell e3 0).trans rfl
      have q1 := (blk_cell e3 1).trans rfl
      have f0 := blk_frozen e3 0
      have f1 := blk_frozen e3 1
      simp only [Nat.zero_add, Nat.reduceAdd]
      have J2 := Aside0.mk (jm13 hJ hL ⟨(hd { on := 9, ground := Ground.phase } (by simp) (by rfl)), (hd { on := 10, ground := Ground.phase } (by simp) (by rfl)), (hd { on := 11, ground := Ground.phase } (by simp) (by rfl))⟩ hNM hM g e1 e2 e3)
      rw [e0, e1]
      clear hJ e0 e1 e2 e3
      refine oneR_skip ?_ J2.out
      go_simp
      try (with_reducible rfl)
    · have e0 := hJ.v8 (hd { on := 8, ground := Ground.data } (by simp) (by rfl))
      have hg := hJ.g11 (hd { on := 11, ground := Ground.data } (by simp) (by rfl))
      rw [if_neg (by rw [hL]; decide)] at hg
      obtain ⟨g, e1, e2, e3⟩ := hg
      have q0 := (blk_cell e3 0).trans rfl
      have q1 := (blk_cell e3 1).trans rfl
      have f0 := blk_frozen e3 0
      have f1 := blk_frozen e3 1
      simp only [Nat.zero_add, Nat.reduceAdd]
      have J2 := Aside0.mk (jm14 hJ hL ⟨(hd { on := 9, ground := Ground.phase } (by simp) (by rfl)), (hd { on := 10, ground := Ground.phase } (by simp) (by rfl)), (hd { on := 11, ground := Ground.phase } (by simp) (by rfl))⟩ hNM hM g e1 e2 e3)
      rw [e0, e1]
      clear hJ e0 e1 e2 e3
      refine oneR_skip ?_ J2.out
      go_simp
      try (with_reducible rfl)
  · intro L vs w7 hall hJ
    have h1 := hJ.g9 (hall 9 (by decide))
    have h2 := hJ.g10 (hall 10 (by decide))
    have h3 := hJ.g11 (hall 11 (by decide))
    rw [if_pos (hall 12 (by decide))] at h1
    rw [if_pos (hall 13 (by decide))] at h2
    rw [if_pos (hall 14 (by decide))] at h3
    obtain ⟨g1, e1, l1, b1⟩ := h1
    obtain ⟨g2, e2, l2, b2⟩ := h2
    obtain ⟨g3, e3, l3, b3⟩ := h3
    have m12 := hJ.n9_10 (hall 9 (by decide)) (hall 10 (by decide))
    have m13 := hJ.n9_11 (hall 9 (by decide)) (hall 11 (by decide))
    have m23 := hJ.n10_11 (hall 10 (by decide)) (hall 11 (by decide))
    rw [e1, e2] at m12
    rw [e1, e3] at m13
    rw [e2, e3] at m23
    simp only [List.size_toArray, List.length_cons, List.length_nil, Nat.zero_add, Nat.reduceAdd]
    simp only [frs, Act.put, List.setIfInBounds_toArray, List.set_cons_zero, List.set_cons_succ]
    simp only [Nat.zero_add, Nat.reduceAdd]
    rw [e1, e2, e3]
    have n12 := ptr_ne m12
    have n13 := ptr_ne m13
    have n23 := ptr_ne m23
    have n_1 := Aside0.mk b1
    have n_2 := Aside0.mk b2
    have n_3 := Aside0.mk b3
    have n_4 := Aside0.mk hJ.ba
    have n_5 := Aside0.mk hJ.bb
    have n_6 := Aside0.mk hJ.below
    clear BKga BKgb BKgc BKgy HB hJ hall b1 b2 b3 e1 e2 e3 m12 m13 m23 qga_0 fga_0 qga_1 fga_1 qgb_0 fgb_0 qgb_1 fgb_1 qgc_0 fgc_0 qgc_1 fgc_1 qgy_0 fgy_0 qgy_1 fgy_1
    have BKg1 := n_1
    have BKg2 := n_2
    have BKg3 := n_3
    have BKga := n_4
    have BKgb := n_5
    have HB := n_6
    clear n_1 n_2 n_3 n_4 n_5 n_6
    have qg1_0 : w7.cell? ⟨g1, 0, none⟩ = some (.int .i64 x1.x) := (blk_cell BKg1.out 0).trans rfl
    have qg1_1 : w7.cell? ⟨g1, 1, none⟩ = some (.int .i64 x1.y) := (blk_cell BKg1.out 1).trans rfl
    have fg1_0 := blk_frozen BKg1.out 0
    have fg1_1 := blk_frozen BKg1.out 1
    have qg2_0 : w7.cell? ⟨g2, 0, none⟩ = some (.int .i64 x2.x) := (blk_cell BKg2.out 0).trans rfl
    have qg2_1 : w7.cell? ⟨g2, 1, none⟩ = some (.int .i64 x2.y) := (blk_cell BKg2.out 1).trans rfl
    have fg2_0 := blk_frozen BKg2.out 0
    have fg2_1 := blk_frozen BKg2.out 1
    have qg3_0 : w7.cell? ⟨g3, 0, none⟩ = some (.int .i64 x3.x) := (blk_cell BKg3.out 0).trans rfl
    have qg3_1 : w7.cell? ⟨g3, 1, none⟩ = some (.int .i64 x3.y) := (blk_cell BKg3.out 1).trans rfl
    have fg3_0 := blk_frozen BKg3.out 0
    have fg3_1 := blk_frozen BKg3.out 1
    have qga_0 : w7.cell? ⟨ga, 0, none⟩ = some (.int .i64 a.x) := (blk_cell BKga.out 0).trans rfl
    have qga_1 : w7.cell? ⟨ga, 1, none⟩ = some (.int .i64 a.y) := (blk_cell BKga.out 1).trans rfl
    have fga_0 := blk_frozen BKga.out 0
    have fga_1 := blk_frozen BKga.out 1
    have qgb_0 : w7.cell? ⟨gb, 0, none⟩ = some (.int .i64 b.x) := (blk_cell BKgb.out 0).trans rfl
    have qgb_1 : w7.cell? ⟨gb, 1, none⟩ = some (.int .i64 b.y) := (blk_cell BKgb.out 1).trans rfl
    have fgb_0 := blk_frozen BKgb.out 0
    have fgb_1 := blk_frozen BKgb.out 1
    generalize vs 0 = y0
    generalize vs 1 = y1
    generalize vs 2 = y2
    generalize vs 3 = y3
    generalize vs 4 = y4
    generalize vs 5 = y5
    generalize vs 6 = y6
    generalize vs 7 = y7
    generalize vs 8 = y8
    by_cases hn : Nr x1 ∧ Nr x2 ∧ Nr x3
    · have HN3 : Hid (decide (Nr x1 ∧ Nr x2 ∧ Nr x3) = true) := Lib.hid (decide_eq_true hn)
      have HO : Hid (orient x1 x2 x3 = o) := Lib.hid (HX.out hn).1
      have HD1 : Hid (distv x1 x2 = dv) := Lib.hid (HX.out hn).2
      clear hn
      go_wp2_with (fail)
      go_region_held3 (fun w' => Aside0 (w'.heap[g1]? = some (.cells #[.int .i64 x1.x, .int .i64 x1.y] 23 (0, 0))) ∧ Aside0 (w'.heap[g2]? = some (.cells #[.int .i64 x2.x, .int .i64 x2.y] 23 (0, 0))) ∧ Aside0 (w'.heap[g3]? = some (.cells #[.int .i64 x3.x, .int .i64 x3.y] 23 (0, 0))) ∧ Aside0 (w'.heap[ga]? = some (.cells #[.int .i64 a.x, .int .i64 a.y] 23 (0, 0))) ∧ Aside0 (w'.heap[gb]? = some (.cells #[.int .i64 b.x, .int .i64 b.y] 23 (0, 0))) ∧ Aside0 (Below w.heap.size w w') ∧ w'.cell? ⟨g1, 0, none⟩ = some (.int .i64 x1.x) ∧ w'.cell? ⟨g1, 1, none⟩ = some (.int .i64 x1.y) ∧ w'.cell? ⟨g2, 0, none⟩ = some (.int .i64 x2.x) ∧ w'.cell? ⟨g2, 1, none⟩ = some (.int .i64 x2.y) ∧ w'.cell? ⟨g3, 0, none⟩ = some (.int .i64 x3.x) ∧ w'.cell? ⟨g3, 1, none⟩ = some (.int .i64 x3.y) ∧ w'.cell? ⟨ga, 0, none⟩ = some (.int .i64 a.x) ∧ w'.cell? ⟨ga, 1, none⟩ = some (.int .i64 a.y) ∧ w'.cell? ⟨gb, 0, none⟩ = some (.int .i64 b.x) ∧ w'.cell? ⟨gb, 1, none⟩ = some (.int .i64 b.y)) ((first | assumption | exact keep_seven (by assumption) hb | exact keep_seven (by assumption) (below_alloc (Below.refl _ _) _) | exact keep_seven_drew ⟨BKg1, BKg2, BKg3, BKga, BKgb, HB, qg1_0, qg1_1, qg2_0, qg2_1, qg3_0, qg3_1, qga_0, qga_1, qgb_0, qgb_1⟩)) (first | (go_at_call 25; (with_reducible refine (lawnear3_calls x1 x2 x3 _ HN3 _ _ (blk_drew (blk_new _ _))).mono ?_); rintro e Wn_ ⟨rfl, hb⟩) | (go_at_call 11; (with_reducible refine (orient_calls x1 x2 x3 _ HO _).mono ?_); rintro e Wn_ ⟨rfl, hb⟩) | (go_at_call 19; (with_reducible refine (distance_calls x1 x2 _ HD1 _).mono ?_); rintro e Wn_ ⟨rfl, hb⟩) | (go_at_call 19; (with_reducible refine (distance_calls a b _ HD _).mono ?_); rintro e Wn_ ⟨rfl, hb⟩))
      have hS8 : Aside0 (Wn_.heap[g1]? = some (.cells #[.int .i64 x1.x, .int .i64 x1.y] 23 (0, 0))) ∧ Aside0 (Wn_.heap[g2]? = some (.cells #[.int .i64 x2.x, .int .i64 x2.y] 23 (0, 0))) ∧ Aside0 (Wn_.heap[g3]? = some (.cells #[.int .i64 x3.x, .int .i64 x3.y] 23 (0, 0))) ∧ Aside0 (Wn_.heap[ga]? = some (.cells #[.int .i64 a.x, .int .i64 a.y] 23 (0, 0))) ∧ Aside0 (Wn_.heap[gb]? = some (.cells #[.int .i64 b.x, .int .i64 b.y] 23 (0, 0))) ∧ Aside0 (Below w.heap.size w Wn_) ∧ Wn_.cell? ⟨g1, 0, none⟩ = some (.int .i64 x1.x) ∧ Wn_.cell? ⟨g1, 1, none⟩ = some (.int .i64 x1.y) ∧ Wn_.cell? ⟨g2, 0, none⟩ = some (.int .i64 x2.x) ∧ Wn_.cell? ⟨g2, 1, none⟩ = some (.int .i64 x2.y) ∧ Wn_.cell? ⟨g3, 0, none⟩ = some (.int .i64 x3.x) ∧ Wn_.cell? ⟨g3, 1, none⟩ = some (.int .i64 x3.y) ∧ Wn_.cell? ⟨ga, 0, none⟩ = some (.int .i64 a.x) ∧ Wn_.cell? ⟨ga, 1, none⟩ = some (.int .i64 a.y) ∧ Wn_.cell? ⟨gb, 0, none⟩ = some (.int .i64 b.x) ∧ Wn_.cell? ⟨gb, 1, none⟩ = some (.int .i64 b.y) := by assumption
      have HB8 := hS8.2.2.2.2.2.1
      clear hS8 HB
      go_wp2
      go_ret
      exact ⟨rfl, HB8.out⟩
    · have HN3 : Hid (decide (Nr x1 ∧ Nr x2 ∧ Nr x3) = false) := Lib.hid (decide_eq_false hn)
      clear hn
      go_wp2_with (fail)
      refine wp_region_rel (J := Jt (fun w' => Aside0 (w'.heap[g1]? = some (.cells #[.int .i64 x1.x, .int .i64 x1.y] 23 (0, 0))) ∧ Aside0 (w'.heap[g2]? = some (.cells #[.int .i64 x2.x, .int .i64 x2.y] 23 (0, 0))) ∧ Aside0 (w'.heap[g3]? = some (.cells #[.int .i64 x3.x, .int .i64 x3.y] 23 (0, 0))) ∧ Aside0 (w'.heap[ga]? = some (.cells #[.int .i64 a.x, .int .i64 a.y] 23 (0, 0))) ∧ Aside0 (w'.heap[gb]? = some (.cells #[.int .i64 b.x, .int .i64 b.y] 23 (0, 0))) ∧ Aside0 (Below w.heap.size w w') ∧ w'.cell? ⟨g1, 0, none⟩ = some (.int .i64 x1.x) ∧ w'.cell? ⟨g1, 1, none⟩ = some (.int .i64 x1.y) ∧ w'.cell? ⟨g2, 0, none⟩ = some (.int .i64 x2.x) ∧ w'.cell? ⟨g2, 1, none⟩ = some (.int .i64 x2.y) ∧ w'.cell? ⟨g3, 0, none⟩ = some (.int .i64 x3.x) ∧ w'.cell? ⟨g3, 1, none⟩ = some (.int .i64 x3.y) ∧ w'.cell? ⟨ga, 0, none⟩ = some (.int .i64 a.x) ∧ w'.cell? ⟨ga, 1, none⟩ = some (.int .i64 a.y) ∧ w'.cell? ⟨gb, 0, none⟩ = some (.int .i64 b.x) ∧ w'.cell? ⟨gb, 1, none⟩ = some (.int .i64 b.y)) (G8 x1 x2 x3)) (by kernel_rfl) (by kernel_rfl) ?_ ?_ ?_
      · intro vs
        exact ⟨keep_seven_drew ⟨BKg1, BKg2, BKg3, BKga, BKgb, HB, qg1_0, qg1_1, qg2_0, qg2_1, qg3_0, qg3_1, qga_0, qga_1, qgb_0, qgb_1⟩, fun j hj => by cases hj⟩
      · intro L vs w' i o ho hL hd hJ
        have hi : i < 27 := (Array.getElem?_eq_some_iff.1 ho).1
        obtain rfl | rfl | rfl | rfl | rfl | rfl | rfl | rfl | rfl | rfl | rfl | rfl | rfl | rfl | rfl | rfl | rfl | rfl | rfl | rfl | rfl | rfl | rfl | rfl | rfl | rfl | rfl : i = 0 ∨ i = 1 ∨ i = 2 ∨ i = 3 ∨ i = 4 ∨ i = 5 ∨ i = 6 ∨ i = 7 ∨ i = 8 ∨ i = 9 ∨ i = 10 ∨ i = 11 ∨ i = 12 ∨ i = 13 ∨ i = 14 ∨ i = 15 ∨ i = 16 ∨ i = 17 ∨ i = 18 ∨ i = 19 ∨ i = 20 ∨ i = 21 ∨ i = 22 ∨ i = 23 ∨ i = 24 ∨ i = 25 ∨ i = 26 := by omega
        all_goals
          simp only [List.getElem?_toArray, List.getElem?_cons_succ, List.getElem?_cons_zero] at ho
          obtain rfl := Option.some.inj ho
          simp only [frs, Act.put, List.setIfInBounds_toArray, List.set_cons_zero, List.set_cons_succ]
        · refine .inl ⟨by rfl, oneR_yield (v := .bool true) (w' := w') ?_ (hJ.step hJ.1 (fun _ _ h => h) (by rw [G8, if_neg (by decide)]; rfl))⟩
          go_simp
          try (with_reducible rfl)
        · have e0 : vs 0 = .bool true := by have := hJ.2 0 (hd { on := 0, ground := Ground.data } (by simp) (by rfl)); rw [G8, if_neg (by decide)] at this; exact this
          try simp only [Nat.zero_add, Nat.reduceAdd]
          rw [e0]
          refine .inl ⟨by rfl, oneR_yield (v := .bool true) (w' := w') ?_ (hJ.step hJ.1 (fun _ _ h => h) (by rw [G8, if_neg (by decide)]; rfl))⟩
          go_simp
          try (with_reducible rfl)
        · have e1 : vs 1 = .bool true := by have := hJ.2 1 (hd { on := 1, ground := Ground.guard } (by simp) (by rfl)); rw [G8, if_neg (by decide)] at this; exact this
          try simp only [Nat.zero_add, Nat.reduceAdd]
          rw [e1]
          have q0 := (blk_cell hJ.1.1.out 0).trans rfl
          have q1 := (blk_cell hJ.1.1.out 1).trans rfl
          refine .inl ⟨by rfl, oneR_yield (v := .agg #[.int .i64 x1.x, .int .i64 x1.y]) (w' := w') ?_ (hJ.step hJ.1 (fun _ _ h => h) (by rw [G8, if_neg (by decide)]; rfl))⟩
          go_simp
          try (with_reducible rfl)
        · have e1 : vs 1 = .bool true := by have := hJ.2 1 (hd { on := 1, ground := Ground.guard } (by simp) (by rfl)); rw [G8, if_neg (by decide)] at this; exact this
          try simp only [Nat.zero_add, Nat.reduceAdd]
          rw [e1]
          have q0 := (blk_cell hJ.1.2.1.out 0).trans rfl
          have q1 := (blk_cell hJ.1.2.1.out 1).trans rfl
          refine .inl ⟨by rfl, oneR_yield (v := .agg #[.int .i64 x2.x, .int .i64 x2.y]) (w' := w') ?_ (hJ.step hJ.1 (fun _ _ h => h) (by rw [G8, if_neg (by decide)]; rfl))⟩
          go_simp
          try (with_reducible rfl)
        · have e1 : vs 1 = .bool true := by have := hJ.2 1 (hd { on := 1, ground := Ground.guard } (by simp) (by rfl)); rw [G8, if_neg (by decide)] at this; exact this
          try simp only [Nat.zero_add, Nat.reduceAdd]
          rw [e1]
          have q0 := (blk_cell hJ.1.2.2.1.out 0).trans rfl
          have q1 := (blk_cell hJ.1.2.2.1.out 1).trans rfl
          refine .inl ⟨by rfl, oneR_yield (v := .agg #[.int .i64 x3.x, .int .i64 x3.y]) (w' := w') ?_ (hJ.step hJ.1 (fun _ _ h => h) (by rw [G8, if_neg (by decide)]; rfl))⟩
          go_simp
          try (with_reducible rfl)
        · have e2 : vs 2 = .agg #[.int .i64 x1.x, .int .i64 x1.y] := by have := hJ.2 2 (hd { on := 2, ground := Ground.data } (by simp) (by rfl)); rw [G8, if_neg (by decide)] at this; exact this
          have e3 : vs 3 = .agg #[.int .i64 x2.x, .int .i64 x2.y] := by have := hJ.2 3 (hd { on := 3, ground := Ground.data } (by simp) (by rfl)); rw [G8, if_neg (by decide)] at this; exact this
          have e4 : vs 4 = .agg #[.int .i64 x3.x, .int .i64 x3.y] := by have := hJ.2 4 (hd { on := 4, ground := Ground.data } (by simp) (by rfl)); rw [G8, if_neg (by decide)] at this; exact this
          have e1 : vs 1 = .bool true := by have := hJ.2 1 (hd { on := 1, ground := Ground.guard } (by simp) (by rfl)); rw [G8, if_neg (by decide)] at this; exact this
          try simp only [Nat.zero_add, Nat.reduceAdd]
          rw [e1, e2, e3, e4]
          have hb : Below w'.heap.size w' (w'.alloc (.cells #[.int .i64 x1.x, .int .i64 x1.y, .int .i64 x2.x, .int .i64 x2.y, .int .i64 x3.x, .int .i64 x3.y] 23)) := below_alloc (Below.refl _ _) _
          refine .inl ⟨by rfl, oneR_yield (v := .slice (some ⟨w'.heap.size, 0, none⟩) 3 3) (w' := (w'.alloc (.cells #[.int .i64 x1.x, .int .i64 x1.y, .int .i64 x2.x, .int .i64 x2.y, .int .i64 x3.x, .int .i64 x3.y] 23))) ?_ (hJ.step (keep_seven hJ.1 hb) (G8.keep hb) (by rw [G8, if_pos rfl]; exact ⟨_, rfl, blk_new _ _⟩))⟩
          go_simp
          try (with_reducible rfl)
        · obtain ⟨g, e5, hg⟩ : ∃ g, vs 5 = .slice (some ⟨g, 0, none⟩) 3 3 ∧ w'.heap[g]? = some (.cells #[.int .i64 x1.x, .int .i64 x1.y, .int .i64 x2.x, .int .i64 x2.y, .int .i64 x3.x, .int .i64 x3.y] 23 (0, 0)) := by have := hJ.2 5 (hd { on := 5, ground := Ground.data } (by simp) (by rfl)); rw [G8, if_pos rfl] at this; exact this
          have e1 : vs 1 = .bool true := by have := hJ.2 1 (hd { on := 1, ground := Ground.guard } (by simp) (by rfl)); rw [G8, if_neg (by decide)] at this; exact this
          try simp only [Nat.zero_add, Nat.reduceAdd]
          rw [e1, e5]
          refine .inl ⟨by rfl, oneR_call (w' := w') ?_ ((lawnear3_calls x1 x2 x3 _ HN3 _ _ hg).mono fun e w'' he => ⟨_, he.1, hJ.step (keep_seven hJ.1 he.2) (G8.keep he.2) (by rw [G8, if_neg (by decide)]; rfl)⟩)⟩
          go_simp
          try (with_reducible rfl)
        · have e6 : vs 6 = .bool false := by have := hJ.2 6 (hd { on := 6, ground := Ground.data } (by simp) (by rfl)); rw [G8, if_neg (by decide)] at this; exact this
          have e1 : vs 1 = .bool true := by have := hJ.2 1 (hd { on := 1, ground := Ground.guard } (by simp) (by rfl)); rw [G8, if_neg (by decide)] at this; exact this
          try simp only [Nat.zero_add, Nat.reduceAdd]
          rw [e1, e6]
          refine .inl ⟨by rfl, oneR_yield (v := .bool true) (w' := w') ?_ (hJ.step hJ.1 (fun _ _ h => h) (by rw [G8, if_neg (by decide)]; rfl))⟩
          go_simp
          try (with_reducible rfl)
        · have e7 : vs 7 = .bool true := by have := hJ.2 7 (hd { on := 7, ground := Ground.data } (by simp) (by rfl)); rw [G8, if_neg (by decide)] at this; exact this
          have e1 : vs 1 = .bool true := by have := hJ.2 1 (hd { on := 1, ground := Ground.guard } (by simp) (by rfl)); rw [G8, if_neg (by decide)] at this; exact this
          try simp only [Nat.zero_add, Nat.reduceAdd]
          rw [e1, e7]
          refine .inl ⟨by rfl, oneR_yield (v := .bool true) (w' := w') ?_ (hJ.step hJ.1 (fun _ _ h => h) (by rw [G8, if_neg (by decide)]; rfl))⟩
          go_simp
          try (with_reducible rfl)
        · have e8 : vs 8 = .bool true := by have := hJ.2 8 (hd { on := 8, ground := Ground.guard } (by simp) (by rfl)); rw [G8, if_neg (by decide)] at this; exact this
          try simp only [Nat.zero_add, Nat.reduceAdd]
          rw [e8]
          exact .inr ⟨by rfl, hJ.step hJ.1 (fun _ _ h => h) (by rw [G8, if_neg (by decide)]; rfl)⟩
        · have e8 : vs 8 = .bool true := by have := hJ.2 8 (hd { on := 8, ground := Ground.guard } (by simp) (by rfl)); rw [G8, if_neg (by decide)] at this; exact this
          try simp only [Nat.zero_add, Nat.reduceAdd]
          rw [e8]
          exact .inr ⟨by rfl, hJ.step hJ.1 (fun _ _ h => h) (by rw [G8, if_neg (by decide)]; rfl)⟩
        · have e8 : vs 8 = .bool true := by have := hJ.2 8 (hd { on := 8, ground := Ground.guard } (by simp) (by rfl)); rw [G8, if_neg (by decide)] at this; exact this
          try simp only [Nat.zero_add, Nat.reduceAdd]
          rw [e8]
          exact .inr ⟨by rfl, hJ.step hJ.1 (fun _ _ h => h) (by rw [G8, if_neg (by decide)]; rfl)⟩
        · have e8 : vs 8 = .bool true := by have := hJ.2 8 (hd { on := 8, ground := Ground.guard } (by simp) (by rfl)); rw [G8, if_neg (by decide)] at this; exact this
          try simp only [Nat.zero_add, Nat.reduceAdd]
          rw [e8]
          exact .inr ⟨by rfl, hJ.step hJ.1 (fun _ _ h => h) (by rw [G8, if_neg (by decide)]; rfl)⟩
        · have e8 : vs 8 = .bool true := by have := hJ.2 8 (hd { on := 8, ground := Ground.guard } (by simp) (by rfl)); rw [G8, if_neg (by decide)] at this; exact this
          try simp only [Nat.zero_add, Nat.reduceAdd]
          rw [e8]
          exact .inr ⟨by rfl, hJ.step hJ.1 (fun _ _ h => h) (by rw [G8, if_neg (by decide)]; rfl)⟩
        · have e8 : vs 8 = .bool true := by have := hJ.2 8 (hd { on := 8, ground := Ground.guard } (by simp) (by rfl)); rw [G8, if_neg (by decide)] at this; exact this
          try simp only [Nat.zero_add, Nat.reduceAdd]
          rw [e8]
          exact .inr ⟨by rfl, hJ.step hJ.1 (fun _ _ h => h) (by rw [G8, if_neg (by decide)]; rfl)⟩
        · have e8 : vs 8 = .bool true := by have := hJ.2 8 (hd { on := 8, ground := Ground.guard } (by simp) (by rfl)); rw [G8, if_neg (by decide)] at this; exact this
          try simp only [Nat.zero_add, Nat.reduceAdd]
          rw [e8]
          exact .inr ⟨by rfl, hJ.step hJ.1 (fun _ _ h => h) (by rw [G8, if_neg (by decide)]; rfl)⟩
        · have e15 : vs 15 = undef := by have := hJ.2 15 (hd { on := 15, ground := Ground.guard } (by simp) (by rfl)); rw [G8, if_neg (by decide)] at this; exact this
          try simp only [Nat.zero_add, Nat.reduceAdd]
          rw [e15]
          exact .inr ⟨by rfl, hJ.step hJ.1 (fun _ _ h => h) (by rw [G8, if_neg (by decide)]; rfl)⟩
        · have e15 : vs 15 = undef := by have := hJ.2 15 (hd { on := 15, ground := Ground.guard } (by simp) (by rfl)); rw [G8, if_neg (by decide)] at this; exact this
          try simp only [Nat.zero_add, Nat.reduceAdd]
          rw [e15]
          exact .inr ⟨by rfl, hJ.step hJ.1 (fun _ _ h => h) (by rw [G8, if_neg (by decide)]; rfl)⟩
        · have e15 : vs 15 = undef := by have := hJ.2 15 (hd { on := 15, ground := Ground.guard } (by simp) (by rfl)); rw [G8, if_neg (by decide)] at this; exact this
          try simp only [Nat.zero_add, Nat.reduceAdd]
          rw [e15]
          exact .inr ⟨by rfl, hJ.step hJ.1 (fun _ _ h => h) (by rw [G8, if_neg (by decide)]; rfl)⟩
        · have e15 : vs 15 = undef := by have := hJ.2 15 (hd { on := 15, ground := Ground.guard } (by simp) (by rfl)); rw [G8, if_neg (by decide)] at this; exact this
          try simp only [Nat.zero_add, Nat.reduceAdd]
          rw [e15]
          exact .inr ⟨by rfl, hJ.step hJ.1 (fun _ _ h => h) (by rw [G8, if_neg (by decide)]; rfl)⟩
        · have e15 : vs 15 = undef := by have := hJ.2 15 (hd { on := 15, ground := Ground.guard } (by simp) (by rfl)); rw [G8, if_neg (by decide)] at this; exact this
          try simp only [Nat.zero_add, Nat.reduceAdd]
          rw [e15]
          exact .inr ⟨by rfl, hJ.step hJ.1 (fun _ _ h => h) (by rw [G8, if_neg (by decide)]; rfl)⟩
        · have e15 : vs 15 = undef := by have := hJ.2 15 (hd { on := 15, ground := Ground.guard } (by simp) (by rfl)); rw [G8, if_neg (by decide)] at this; exact this
          try simp only [Nat.zero_add, Nat.reduceAdd]
          rw [e15]
          exact .inr ⟨by rfl, hJ.step hJ.1 (fun _ _ h => h) (by rw [G8, if_neg (by decide)]; rfl)⟩
        · have e15 : vs 15 = undef := by have := hJ.2 15 (hd { on := 15, ground := Ground.guard } (by simp) (by rfl)); rw [G8, if_neg (by decide)] at this; exact this
          try simp only [Nat.zero_add, Nat.reduceAdd]
          rw [e15]
          exact .inr ⟨by rfl, hJ.step hJ.1 (fun _ _ h => h) (by rw [G8, if_neg (by decide)]; rfl)⟩
        · have e8 : vs 8 = .bool true := by have := hJ.2 8 (hd { on := 8, ground := Ground.guard } (by simp) (by rfl)); rw [G8, if_neg (by decide)] at this; exact this
          try simp only [Nat.zero_add, Nat.reduceAdd]
          rw [e8]
          exact .inr ⟨by rfl, hJ.step hJ.1 (fun _ _ h => h) (by rw [G8, if_neg (by decide)]; rfl)⟩
        · have e8 : vs 8 = .bool true := by have := hJ.2 8 (hd { on := 8, ground := Ground.data } (by simp) (by rfl)); rw [G8, if_neg (by decide)] at this; exact this
          have e1 : vs 1 = .bool true := by have := hJ.2 1 (hd { on := 1, ground := Ground.guard } (by simp) (by rfl)); rw [G8, if_neg (by decide)] at this; exact this
          try simp only [Nat.zero_add, Nat.reduceAdd]
          rw [e1, e8]
          refine .inl ⟨by rfl, oneR_yield (v := .bool true) (w' := w') ?_ (hJ.step hJ.1 (fun _ _ h => h) (by rw [G8, if_neg (by decide)]; rfl))⟩
          go_simp
          try (with_reducible rfl)
        · have e1 : vs 1 = .bool true := by have := hJ.2 1 (hd { on := 1, ground := Ground.data } (by simp) (by rfl)); rw [G8, if_neg (by decide)] at this; exact this
          have e24 : vs 24 = .bool true := by have := hJ.2 24 (hd { on := 24, ground := Ground.data } (by simp) (by rfl)); rw [G8, if_neg (by decide)] at this; exact this
          try simp only [Nat.zero_add, Nat.reduceAdd]
          rw [e1, e24]
          refine .inl ⟨by rfl, oneR_yield (v := .bool true) (w' := w') ?_ (hJ.step hJ.1 (fun _ _ h => h) (by rw [G8, if_neg (by decide)]; rfl))⟩
          go_simp
          try (with_reducible rfl)
        · have e25 : vs 25 = .bool true := by have := hJ.2 25 (hd { on := 25, ground := Ground.data } (by simp) (by rfl)); rw [G8, if_neg (by decide)] at this; exact this
          try simp only [Nat.zero_add, Nat.reduceAdd]
          rw [e25]
          refine .inl ⟨by rfl, oneR_yield (v := .bool true) (w' := w') ?_ (hJ.step hJ.1 (fun _ _ h => h) (by rw [G8, if_neg (by decide)]; rfl))⟩
          go_simp
          try (with_reducible rfl)
      · intro L vs w8 hall hJ
        have e26 := hJ.2 26 (hall 26 (by decide))
        rw [G8, if_neg (by decide)] at e26
        have e26 : vs 26 = .bool true := e26
        simp only [List.size_toArray, List.length_cons, List.length_nil, Nat.zero_add, Nat.reduceAdd]
        simp only [frs, Act.put, List.setIfInBounds_toArray, List.set_cons_zero, List.set_cons_succ]
        simp only [Nat.zero_add, Nat.reduceAdd]
        rw [e26]
        have HB8 := hJ.1.2.2.2.2.2.1
        clear hJ hall e26
        go_wp2
        go_ret
        exact ⟨rfl, HB8.out⟩
theorem law_GeomOrients (a b c d a' b' c' d' : Int) (_ : (Lit.int .i64 a).wf = true) (_ : (Lit.int .i64 b).wf = true) (_ : (Lit.int .i64 c).wf = true) (_ : (Lit.int .i64 d).wf = true) (_ : (Lit.int .i64 a').wf = true) (_ : (Lit.int .i64 b').wf = true) (_ : (Lit.int .i64 c').wf = true) (_ : (Lit.int .i64 d').wf = true) (w : World) :
    Calls Try.prog 4 #[.agg #[.int .i64 a, .int .i64 b], .agg #[.int .i64 c, .int .i64 d], .agg #[.int .i64 a', .int .i64 b'], .agg #[.int .i64 c', .int .i64 d']] w fun e w' => e = .returned (.bool true) ∧ Below w.heap.size w w' := by
  by_cases h : Nr ⟨a, b⟩ ∧ Nr ⟨c, d⟩ ∧ Nr ⟨a', b'⟩ ∧ Nr ⟨c', d'⟩
  · exact orients_near ⟨a, b⟩ ⟨c, d⟩ ⟨a', b'⟩ ⟨c', d'⟩ w h
  · exact orients_far ⟨a, b⟩ ⟨c, d⟩ ⟨a', b'⟩ ⟨c', d'⟩ w h
end Go.Proofs.Ytgibndgllhompaa.P
