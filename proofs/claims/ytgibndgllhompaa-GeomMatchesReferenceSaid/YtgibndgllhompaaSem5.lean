/- What the printed Near of package geom answers; and the contracts of the functions of package geom, their answers under letters. -/
import Derived.Test.YtgibndgllhompaaSem4
import Derived.Test.YtgibndgllhompaaPx8
import Derived.Test.YtgibndgllhompaaPx10
import Derived.Lib.Hide
namespace Go.Proofs.Ytgibndgllhompaa.P
open Go.RowKit Go.Proofs.YtgibndgllhompaaW.PrintWords Go.Proofs.YtgibndgllhompaaW.PrintLast Go.Proofs.YtgibndgllhompaaW.PrintMore Go.Proofs.Ytgibndgllhompaa.Geo
set_option linter.unusedVariables false
set_option linter.unusedSimpArgs false

def along (a b p : Pt) : Int := (b.x - a.x) * (p.x - a.x) + (b.y - a.y) * (p.y - a.y)
def near0 (a b p : Pt) : Int := if along a b p ≤ 0 then dist a p else if along a b p ≥ dist a b then dist b p else cr a b p * cr a b p / dist a b
def nearv (a b p : Pt) : Int := if Nr a ∧ Nr b ∧ Nr p then near0 a b p else 0
theorem sq_nonneg (x : Int) : 0 ≤ x * x := by
  rcases Int.le_total 0 x with h | h
  · exact Int.mul_nonneg h h
  · exact Int.mul_nonneg_of_nonpos_of_nonpos h h
theorem lagrange (a b p : Pt) : cr a b p * cr a b p + along a b p * along a b p = dist a b * dist a p := by
  unfold cr along dist; grind
theorem dist_bd {a b : Pt} (ha : Nr a) (hb : Nr b) : 0 ≤ dist a b ∧ dist a b ≤ 35184372088832 := by
  unfold Nr at ha hb
  have h1 := prod_bd (x := b.x - a.x) (y := b.x - a.x) (by omega) (by omega)
  have h2 := prod_bd (x := b.y - a.y) (y := b.y - a.y) (by omega) (by omega)
  have h3 := sq_nonneg (b.x - a.x)
  have h4 := sq_nonneg (b.y - a.y)
  unfold dist; omega
theorem cr_sq_le (a b p : Pt) : cr a b p * cr a b p ≤ dist a b * dist a p := by
  have := lagrange a b p; have := sq_nonneg (along a b p); omega
theorem near_quot (k : Nat) (hk : 40 ≤ k) (n V D : Int) (hn0 : 0 ≤ n) (hn : n ≤ 35184372088832) (hV0 : 0 < V) (hV : V ≤ 35184372088832) (hD : D ≤ 35184372088832) (h : n * n ≤ V * D) :
    ((bits_Mul64.f (IntKind.u64.wrap n) (IntKind.u64.wrap n)).bind fun bt206 => ((bits_Div64.f k bt206.1 bt206.2 (IntKind.u64.wrap V)).bind fun bt209 => (some (wrap64 (bt209.1))))) = some (n * n / V) := by
  rw [u64w (x := n) (by omega) (by omega), u64w (x := V) (by omega) (by omega), mul64_sem n n (by omega) (by omega) (by omega) (by omega)]
  simp only [Option.bind_some]
  have hnn := sq_nonneg n
  have hVD : V * D ≤ V * 35184372088832 := Int.mul_le_mul_of_nonneg_left hD (by omega)
  have hq : n * n / V ≤ 35184372088832 := by
    rw [Int.ediv_le_iff_le_mul hV0, Int.mul_comm]; omega
  have hq0 : 0 ≤ n * n / V := Int.ediv_nonneg hnn (by omega)
  have hlt : n * n / 18446744073709551616 < V := by
    rw [Int.ediv_lt_iff_lt_mul (by omega)]
    omega
  obtain ⟨z, hz⟩ := div64_sem k hk (n * n / 18446744073709551616) (n * n % 18446744073709551616) V (by omega) (by omega) (by omega) hlt (by omega)
  rw [hz, Option.bind_some]
  have e : n * n / 18446744073709551616 * 18446744073709551616 + n * n % 18446744073709551616 = n * n := by omega
  simp only [e]
  rw [w64 (by omega) (by omega)]
theorem near_sem (k : Nat) (hk : 60 ≤ k) (a b p : Pt) : geom_Near.f k a.x a.y b.x b.y p.x p.y = some (nearv a b p) := by
  unfold geom_Near.f
  rw [near3 k (by omega) a b p, Option.bind_some]
  unfold nearv
  by_cases h : Nr a ∧ Nr b ∧ Nr p
  · obtain ⟨h1, h2, h3⟩ := h
    rw [if_pos (by simpa using ⟨h1, h2, h3⟩), if_pos ⟨h1, h2, h3⟩, to_sem h1 h2, to_sem h1 h3]
    have b1 := h1; have b2 := h2; have b3 := h3
    unfold Nr at b1 b2 b3
    simp only [Option.bind_some]
    rw [dot_sem (p := b.x - a.x) (q := b.y - a.y) (r := p.x - a.x) (s := p.y - a.y) (by omega) (by omega) (by omega) (by omega), Option.bind_some]
    rw [show (b.x - a.x) * (p.x - a.x) + (b.y - a.y) * (p.y - a.y) = along a b p from rfl]
    unfold near0
    have da : distv a p = dist a p := by unfold distv; rw [if_pos ⟨h1, h3⟩]
    have db : distv b p = dist b p := by unfold distv; rw [if_pos ⟨h2, h3⟩]
    by_cases c1 : along a b p ≤ 0
    · rw [if_pos c1, if_pos c1, distance_sem k (by omega), Option.bind_some, da]
    · rw [if_neg c1, if_neg c1, dot_sem (p := b.x - a.x) (q := b.y - a.y) (r := b.x - a.x) (s := b.y - a.y) (by omega) (by omega) (by omega) (by omega), Option.bind_some]
      rw [show (b.x - a.x) * (b.x - a.x) + (b.y - a.y) * (b.y - a.y) = dist a b from rfl]
      by_cases c2 : along a b p ≥ dist a b
      · rw [if_pos c2, if_pos c2, distance_sem k (by omega), Option.bind_some, db]
      · rw [if_neg c2, if_neg c2, cross_sem (by omega) (by omega) (by omega) (by omega), Option.bind_some]
        rw [show (b.x - a.x) * (p.y - a.y) - (b.y - a.y) * (p.x - a.x) = cr a b p from rfl]
        have hc := cr_bd h1 h2 h3
        have hV := dist_bd h1 h2
        have hD := dist_bd h1 h3
        have hle := cr_sq_le a b p
        have hV0 : 0 < dist a b := by omega
        generalize cr a b p = c at *
        by_cases c3 : c < 0
        · rw [if_pos c3, w64 (x := -c) (by omega) (by omega)]
          have := near_quot k (by omega) (-c) (dist a b) (dist a p) (by omega) (by omega) hV0 hV.2 hD.2 (by rw [Int.neg_mul_neg]; exact hle)
          rw [Int.neg_mul_neg] at this
          exact this
        · rw [if_neg c3]
          exact near_quot k (by omega) c (dist a b) (dist a p) (by omega) (by omega) hV0 hV.2 hD.2 hle
  · rw [if_neg (by simpa using h), if_neg h]

/-! ### the contracts -/
theorem on_calls (a b p : Pt) (v : Bool) (hv : Hid (decide ((Nr a ∧ Nr b ∧ Nr p) ∧ On a b p) = v)) (W : World) :
    Calls Try.prog 15 #[.agg #[.int .i64 a.x, .int .i64 a.y, .int .i64 b.x, .int .i64 b.y], .agg #[.int .i64 p.x, .int .i64 p.y]] W fun e w' => e = .returned (.bool v) ∧ Below W.heap.size W w' :=
  geom_On.calls 4 _ _ _ _ _ _ _ W (by rw [on_sem 4 (by omega), hv.out])
theorem meets_calls (a b c d : Pt) (v : Int) (hv : Hid (meetv a b c d = v)) (W : World) :
    Calls Try.prog 17 #[.agg #[.int .i64 a.x, .int .i64 a.y, .int .i64 b.x, .int .i64 b.y], .agg #[.int .i64 c.x, .int .i64 c.y, .int .i64 d.x, .int .i64 d.y]] W fun e w' => e = .returned (.int .i64 v) ∧ Below W.heap.size W w' :=
  geom_Meets.calls 8 _ _ _ _ _ _ _ _ _ W (by rw [meets_sem 8 (by omega), hv.out])
theorem distance_calls (a b : Pt) (v : Int) (hv : Hid (distv a b = v)) (W : World) :
    Calls Try.prog 19 #[.agg #[.int .i64 a.x, .int .i64 a.y], .agg #[.int .i64 b.x, .int .i64 b.y]] W fun e w' => e = .returned (.int .i64 v) ∧ Below W.heap.size W w' :=
  geom_Distance.calls 3 _ _ _ _ _ W (by rw [distance_sem 3 (by omega), hv.out])
theorem near_calls (a b p : Pt) (v : Int) (hv : Hid (nearv a b p = v)) (W : World) :
    Calls Try.prog 21 #[.agg #[.int .i64 a.x, .int .i64 a.y, .int .i64 b.x, .int .i64 b.y], .agg #[.int .i64 p.x, .int .i64 p.y]] W fun e w' => e = .returned (.int .i64 v) ∧ Below W.heap.size W w' :=
  geom_Near.calls 60 _ _ _ _ _ _ _ W (by rw [near_sem 60 (by omega), hv.out])
def rootv (n : Int) : Int := ((geom_Root.f 33 n).getD 0)
theorem rootv_ok (n : Int) (h1 : -9223372036854775808 ≤ n) (h2 : n ≤ 9223372036854775807) : (n < 0 ∧ rootv n = 0) ∨ (0 ≤ n ∧ 0 ≤ rootv n ∧ rootv n * rootv n ≤ n ∧ n < (rootv n + 1) * (rootv n + 1)) := by
  obtain ⟨t, e, h⟩ := root_sem 33 (by omega) n h1 h2
  have : rootv n = t := by unfold rootv; rw [e]; rfl
  rw [this]; exact h
theorem root_calls (n v : Int) (h1 : -9223372036854775808 ≤ n) (h2 : n ≤ 9223372036854775807) (hv : Hid (rootv n = v)) (W : World) :
    Calls Try.prog 23 #[.int .i64 n] W fun e w' => e = .returned (.int .i64 v) ∧ Below W.heap.size W w' := by
  obtain ⟨t, e, h⟩ := root_sem 33 (by omega) n h1 h2
  have : v = t := by rw [← hv.out]; unfold rootv; rw [e]; rfl
  subst this
  refine (geom_Root.calls 33 n v W e).mono ?_
  rintro e w' ⟨rfl, hd⟩
  exact ⟨rfl, hd.below⟩
theorem seg_calls (a b c d : Int) (W : World) :
    Calls Try.prog 28 #[.int .i64 a, .int .i64 b, .int .i64 c, .int .i64 d] W fun e w' => e = .returned (.agg #[.int .i64 a, .int .i64 b, .int .i64 c, .int .i64 d]) ∧ Below W.heap.size W w' :=
  planispherelaw03_seg.calls a b c d a b c d W rfl
/-! ### boxes -/
end Go.Proofs.Ytgibndgllhompaa.P
