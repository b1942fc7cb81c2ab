/- What the law's helpers near, moved and back answer. -/
import Derived.Test.YtgibndgllhompaaHead
import Derived.Test.YtgibndgllhompaaPx17
import Derived.Test.YtgibndgllhompaaPx20
import Derived.Test.YtgibndgllhompaaPx12
namespace Go.Proofs.Ytgibndgllhompaa.P
open Go.RowKit Go.Proofs.YtgibndgllhompaaW.PrintWords Go.Proofs.YtgibndgllhompaaW.PrintLast Go.Proofs.YtgibndgllhompaaW.PrintMore Go.Proofs.Ytgibndgllhompaa.Geo
set_option linter.unusedVariables false
set_option linter.unusedSimpArgs false
theorem is_sem (x y : Int) : planisphereref03_Is.f x y = some (decide (Nr ⟨x, y⟩)) := by
  unfold planisphereref03_Is.f Nr
  by_cases h1 : x ≥ -2097152 <;> by_cases h2 : x ≤ 2097152 <;> by_cases h3 : y ≥ -2097152 <;> simp [h1, h2, h3] <;> omega
theorem lawnear_loop (l : List S23) (hl : l.length ≤ 1000000) : ∀ (d k i : Nat), l.length - i = d → d < k → i ≤ l.length →
    ∃ b : Bool, planispherelaw03_near.l0 k l (i : Int) = some b ∧ (b = true ↔ ∀ j, i ≤ j → j < l.length → Nr (pt (rd_T23 l (j : Int)))) := by
  intro d
  induction d with
  | zero =>
    intro k i hd hk hi
    obtain ⟨k, rfl⟩ : ∃ m, k = m + 1 := ⟨k - 1, by omega⟩
    simp only [planispherelaw03_near.l0]
    rw [if_neg (by omega)]
    exact ⟨true, rfl, fun _ j h1 h2 => absurd h2 (by omega), fun _ => rfl⟩
  | succ d ih =>
    intro k i hd hk hi
    obtain ⟨k, rfl⟩ : ∃ m, k = m + 1 := ⟨k - 1, by omega⟩
    simp only [planispherelaw03_near.l0]
    rw [if_pos (by omega), if_pos (by omega), is_sem, Option.bind_some]
    obtain ⟨b, hr, hb⟩ := ih k (i + 1) (by omega) (by omega) (by omega)
    have e : wrap64 ((i : Int) + 1) = ((i + 1 : Nat) : Int) := by rw [w64 (by omega) (by omega)]; omega
    rw [e, hr]
    have key : (∀ j, i ≤ j → j < l.length → Nr (pt (rd_T23 l (j : Int)))) ↔ (Nr (pt (rd_T23 l (i : Int))) ∧ ∀ j, i + 1 ≤ j → j < l.length → Nr (pt (rd_T23 l (j : Int)))) := by
      constructor
      · intro h
        exact ⟨h i (Nat.le_refl _) (by omega), fun j h1 h2 => h j (by omega) h2⟩
      · rintro ⟨h0, h⟩ j h1 h2
        by_cases e : j = i
        · subst e; exact h0
        · exact h j (by omega) h2
    rw [key]
    by_cases c : Nr (pt (rd_T23 l (i : Int)))
    · rw [if_pos (show decide (Nr { x := (rd_T23 l (i : Int)).f0, y := (rd_T23 l (i : Int)).f1 }) = true from decide_eq_true c)]
      exact ⟨b, rfl, fun h => ⟨c, hb.1 h⟩, fun h => hb.2 h.2⟩
    · rw [if_neg (show ¬ decide (Nr { x := (rd_T23 l (i : Int)).f0, y := (rd_T23 l (i : Int)).f1 }) = true from fun z => c (of_decide_eq_true z))]
      exact ⟨false, rfl, fun h => by simp at h, fun h => absurd h.1 c⟩
theorem lawnear3_calls (a b c : Pt) (v : Bool) (hv : Hid (decide (Nr a ∧ Nr b ∧ Nr c) = v)) (W : World) (g : Nat) (h : W.heap[g]? = some (.cells #[.int .i64 a.x, .int .i64 a.y, .int .i64 b.x, .int .i64 b.y, .int .i64 c.x, .int .i64 c.y] 23 (0, 0))) :
    Calls Try.prog 25 #[.slice (some ⟨g, 0, none⟩) 3 3] W fun e w' => e = .returned (.bool v) ∧ Below W.heap.size W w' := by
  refine planispherelaw03_near.calls 4 (some ⟨g, 0, none⟩) 3 [⟨a.x, a.y⟩, ⟨b.x, b.y⟩, ⟨c.x, c.y⟩] v W (pts_read W g _ _ _ h (by simp) ?_) (by simp) ?_
  · intro j p hj
    match j, hj with
    | 0, hj => cases hj; exact ⟨rfl, rfl⟩
    | 1, hj => cases hj; exact ⟨rfl, rfl⟩
    | 2, hj => cases hj; exact ⟨rfl, rfl⟩
  · obtain ⟨b_, e, hb⟩ := lawnear_loop [⟨a.x, a.y⟩, ⟨b.x, b.y⟩, ⟨c.x, c.y⟩] (by simp) 3 4 0 rfl (by omega) (by simp)
    refine Eq.trans e (congrArg some ?_)
    rw [← hv.out, Bool.eq_iff_iff, hb, decide_eq_true_iff]
    constructor
    · intro h; exact ⟨h 0 (by omega) (by simp), h 1 (by omega) (by simp), h 2 (by omega) (by simp)⟩
    · rintro ⟨h0, h1, h2⟩ j _ hj
      match j, hj with
      | 0, _ => exact h0
      | 1, _ => exact h1
      | 2, _ => exact h2
theorem lawnear4_calls (a b c d : Pt) (v : Bool) (hv : Hid (decide (Nr a ∧ Nr b ∧ Nr c ∧ Nr d) = v)) (W : World) (g : Nat) (h : W.heap[g]? = some (.cells #[.int .i64 a.x, .int .i64 a.y, .int .i64 b.x, .int .i64 b.y, .int .i64 c.x, .int .i64 c.y, .int .i64 d.x, .int .i64 d.y] 23 (0, 0))) :
    Calls Try.prog 25 #[.slice (some ⟨g, 0, none⟩) 4 4] W fun e w' => e = .returned (.bool v) ∧ Below W.heap.size W w' := by
  refine planispherelaw03_near.calls 5 (some ⟨g, 0, none⟩) 4 [⟨a.x, a.y⟩, ⟨b.x, b.y⟩, ⟨c.x, c.y⟩, ⟨d.x, d.y⟩] v W (pts_read W g _ _ _ h (by simp) ?_) (by simp) ?_
  · intro j p hj
    match j, hj with
    | 0, hj => cases hj; exact ⟨rfl, rfl⟩
    | 1, hj => cases hj; exact ⟨rfl, rfl⟩
    | 2, hj => cases hj; exact ⟨rfl, rfl⟩
    | 3, hj => cases hj; exact ⟨rfl, rfl⟩
  · obtain ⟨b_, e, hb⟩ := lawnear_loop [⟨a.x, a.y⟩, ⟨b.x, b.y⟩, ⟨c.x, c.y⟩, ⟨d.x, d.y⟩] (by simp) 4 5 0 rfl (by omega) (by simp)
    refine Eq.trans e (congrArg some ?_)
    rw [← hv.out, Bool.eq_iff_iff, hb, decide_eq_true_iff]
    constructor
    · intro h; exact ⟨h 0 (by omega) (by simp), h 1 (by omega) (by simp), h 2 (by omega) (by simp), h 3 (by omega) (by simp)⟩
    · rintro ⟨h0, h1, h2, h3⟩ j _ hj
      match j, hj with
      | 0, _ => exact h0
      | 1, _ => exact h1
      | 2, _ => exact h2
      | 3, _ => exact h3
theorem lawnear6_calls (a b c d p q : Pt) (v : Bool) (hv : Hid (decide (Nr a ∧ Nr b ∧ Nr c ∧ Nr d ∧ Nr p ∧ Nr q) = v)) (W : World) (g : Nat) (h : W.heap[g]? = some (.cells #[.int .i64 a.x, .int .i64 a.y, .int .i64 b.x, .int .i64 b.y, .int .i64 c.x, .int .i64 c.y, .int .i64 d.x, .int .i64 d.y, .int .i64 p.x, .int .i64 p.y, .int .i64 q.x, .int .i64 q.y] 23 (0, 0))) :
    Calls Try.prog 25 #[.slice (some ⟨g, 0, none⟩) 6 6] W fun e w' => e = .returned (.bool v) ∧ Below W.heap.size W w' := by
  refine planispherelaw03_near.calls 7 (some ⟨g, 0, none⟩) 6 [⟨a.x, a.y⟩, ⟨b.x, b.y⟩, ⟨c.x, c.y⟩, ⟨d.x, d.y⟩, ⟨p.x, p.y⟩, ⟨q.x, q.y⟩] v W (pts_read W g _ _ _ h (by simp) ?_) (by simp) ?_
  · intro j p hj
    match j, hj with
    | 0, hj => cases hj; exact ⟨rfl, rfl⟩
    | 1, hj => cases hj; exact ⟨rfl, rfl⟩
    | 2, hj => cases hj; exact ⟨rfl, rfl⟩
    | 3, hj => cases hj; exact ⟨rfl, rfl⟩
    | 4, hj => cases hj; exact ⟨rfl, rfl⟩
    | 5, hj => cases hj; exact ⟨rfl, rfl⟩
  · obtain ⟨b_, e, hb⟩ := lawnear_loop [⟨a.x, a.y⟩, ⟨b.x, b.y⟩, ⟨c.x, c.y⟩, ⟨d.x, d.y⟩, ⟨p.x, p.y⟩, ⟨q.x, q.y⟩] (by simp) 6 7 0 rfl (by omega) (by simp)
    refine Eq.trans e (congrArg some ?_)
    rw [← hv.out, Bool.eq_iff_iff, hb, decide_eq_true_iff]
    constructor
    · intro h; exact ⟨h 0 (by omega) (by simp), h 1 (by omega) (by simp), h 2 (by omega) (by simp), h 3 (by omega) (by simp), h 4 (by omega) (by simp), h 5 (by omega) (by simp)⟩
    · rintro ⟨h0, h1, h2, h3, h4, h5⟩ j _ hj
      match j, hj with
      | 0, _ => exact h0
      | 1, _ => exact h1
      | 2, _ => exact h2
      | 3, _ => exact h3
      | 4, _ => exact h4
      | 5, _ => exact h5
theorem back_calls (a b : Pt) (W : World) :
    Calls Try.prog 27 #[.agg #[.int .i64 a.x, .int .i64 a.y, .int .i64 b.x, .int .i64 b.y]] W fun e w' => e = .returned (.agg #[.int .i64 b.x, .int .i64 b.y, .int .i64 a.x, .int .i64 a.y]) ∧ Below W.heap.size W w' :=
  planispherelaw03_back.calls a.x a.y b.x b.y b.x b.y a.x a.y W rfl
end Go.Proofs.Ytgibndgllhompaa.P
