-- printed for this claim by xprint.py (the seat's own program)
import Derived.Test.YtgibndgllhompaaPx0
namespace Go.Proofs.Ytgibndgllhompaa.P
open Go.RowKit Go.Proofs.YtgibndgllhompaaW.PrintWords Go.Proofs.YtgibndgllhompaaW.PrintLast
set_option linter.unusedVariables false
set_option linter.unusedSimpArgs false

/-! ### geom_Root: function 23 -/
def geom_Root.l0 : Nat → Int → Int → Int → Int → Option (Int)
  | 0, _, _, _, _ => none
  | k + 1, x0, x3, x4, x9 => if x9 < 32 then (if 0 ≤ (wrap64 (62 - (wrap64 (2 * x9)))) then (if (Go.bits .or .u64 (IntKind.u64.wrap ((IntKind.u64.wrap (x3 * 2)) * 2)) 1) ≤ (Go.bits .or .u64 (IntKind.u64.wrap (x4 * 4)) (Go.bits .and .u64 (shr .u64 (IntKind.u64.wrap (x0)) (wrap64 (62 - (wrap64 (2 * x9))))) 3)) then (geom_Root.l0 k x0 (Go.bits .or .u64 (IntKind.u64.wrap (x3 * 2)) 1) (IntKind.u64.wrap ((Go.bits .or .u64 (IntKind.u64.wrap (x4 * 4)) (Go.bits .and .u64 (shr .u64 (IntKind.u64.wrap (x0)) (wrap64 (62 - (wrap64 (2 * x9))))) 3)) - (Go.bits .or .u64 (IntKind.u64.wrap ((IntKind.u64.wrap (x3 * 2)) * 2)) 1))) (wrap64 (x9 + 1))) else (geom_Root.l0 k x0 (IntKind.u64.wrap (x3 * 2)) (Go.bits .or .u64 (IntKind.u64.wrap (x4 * 4)) (Go.bits .and .u64 (shr .u64 (IntKind.u64.wrap (x0)) (wrap64 (62 - (wrap64 (2 * x9))))) 3)) (wrap64 (x9 + 1)))) else (none)) else (some (wrap64 (x3)))
def geom_Root.f (k : Nat) (a0 : Int) : Option (Int) := if a0 < 0 then (some 0) else (geom_Root.l0 k a0 0 0 0)
theorem geom_Root.mono_l : ∀ k, (∀ y0 y1 y2 y3, LeO (geom_Root.l0 k y0 y1 y2 y3) (geom_Root.l0 (k + 1) y0 y1 y2 y3))
  | 0 => fun _ _ _ _ r h => by simp [geom_Root.l0] at h
  | k + 1 => by
    have ih0 := geom_Root.mono_l k
    · intro y0 y1 y2 y3
      unfold geom_Root.l0
      repeat' first
      | (with_reducible exact ih0 _ _ _ _)
      | (with_reducible exact LeO.refl _)
      | (with_reducible exact LeO.none _)
      | (with_reducible refine LeO.ite ?_ ?_)
      | (with_reducible refine LeO.bind ?_ (fun _ => ?_))
      | exact ih0 _ _ _ _
      | exact LeO.none _
      | refine LeO.ite ?_ ?_
      | refine LeO.bind ?_ (fun _ => ?_)
theorem geom_Root.mono : ∀ a0 k, LeO (geom_Root.f k a0) (geom_Root.f (k + 1) a0) := by
  intro a0 k
  have ih0 := geom_Root.mono_l k
  unfold geom_Root.f
  repeat' first
      | (with_reducible exact ih0 _ _ _ _)
      | (with_reducible exact LeO.refl _)
      | (with_reducible exact LeO.none _)
      | (with_reducible refine LeO.ite ?_ ?_)
      | (with_reducible refine LeO.bind ?_ (fun _ => ?_))
      | exact ih0 _ _ _ _
      | exact LeO.none _
      | refine LeO.ite ?_ ?_
      | refine LeO.bind ?_ (fun _ => ?_)
set_option maxHeartbeats 8000000 in
set_option maxRecDepth 100000 in
theorem geom_Root.calls (k : Nat) (a0 : Int) (r : Int) (w : World) (h : geom_Root.f k a0 = some r) :
    Calls Try.prog 23 #[.int .i64 a0] w fun e w' => e = .returned (.int .i64 r) ∧ Drawn0 w w' := by
 have H : (if a0 < 0 then (some 0) else (geom_Root.l0 k a0 0 0 0)) = some r := h
 clear h
 by_cases c2 : a0 < 0
 ·rw [if_pos c2] at H
  have c2b0 : decide (a0 < 0) = true := decide_eq_true c2
  clear c2
  obtain rfl := Option.some.inj H
  go_enter Try.func23, Try.ntmps23
  go_wp2
  go_ret
  exact ⟨by first | rfl | (simp; done) | (simp [*]; done), by repeat (first | exact Drawn0.refl _ | apply Drawn0.step)⟩
 ·rw [if_neg c2] at H
  have c2b0 : decide (a0 < 0) = false := decide_eq_false c2
  clear c2
  have H' := Aside0.mk H
  clear H
  go_enter Try.func23, Try.ntmps23
  go_wp2
  try simp only [Act.put, List.setIfInBounds_toArray, List.set_cons_succ, List.set_cons_zero]
  go_loopg [3, 4, 9] k (fun kq v3 v4 v9 w' => ∃ (x3_1 : Int) (x4_1 : Int) (x9_1 : Int), v3 = .int .u64 x3_1 ∧ v4 = .int .u64 x4_1 ∧ v9 = .int .i64 x9_1 ∧ Aside0 (geom_Root.l0 kq a0 x3_1 x4_1 x9_1 = some r) ∧ Aside0 (kq ≤ k) ∧ Drawn0 w w')
  case atStart => exact ⟨(0), (0), (0), (by first | rfl | (simp; done) | (simp [*]; done)), (by first | rfl | (simp; done) | (simp [*]; done)), (by first | rfl | (simp; done) | (simp [*]; done)), H', ⟨Nat.le_refl _⟩, by repeat (first | exact Drawn0.refl _ | apply Drawn0.step)⟩
  case round =>
   clear H'
   try clear c2
   try clear c2b0
   try clear p2
   obtain ⟨x3_1, x4_1, x9_1, rfl, rfl, rfl, HA, HK1, ⟨m1, rfl⟩⟩ := hrel
   cases gk with
   | zero => exact absurd HA.out (by simp [geom_Root.l0])
   | succ k1 =>
    have H := HA.out
    clear HA
    simp only [geom_Root.l0] at H
    by_cases c3 : x9_1 < 32
    ·rw [if_pos c3] at H
     have c3b0 : decide (x9_1 < 32) = true := decide_eq_true c3
     clear c3
     obtain ⟨ji4, hji4⟩ : ∃ j_ : Int, (wrap64 (62 - (wrap64 (2 * x9_1)))) = j_ := ⟨_, rfl⟩
     replace H : (if 0 ≤ (ji4) then (if (Go.bits .or .u64 (IntKind.u64.wrap ((IntKind.u64.wrap (x3_1 * 2)) * 2)) 1) ≤ (Go.bits .or .u64 (IntKind.u64.wrap (x4_1 * 4)) (Go.bits .and .u64 (shr .u64 (IntKind.u64.wrap (a0)) (ji4)) 3)) then (geom_Root.l0 k1 a0 (Go.bits .or .u64 (IntKind.u64.wrap (x3_1 * 2)) 1) (IntKind.u64.wrap ((Go.bits .or .u64 (IntKind.u64.wrap (x4_1 * 4)) (Go.bits .and .u64 (shr .u64 (IntKind.u64.wrap (a0)) (ji4)) 3)) - (Go.bits .or .u64 (IntKind.u64.wrap ((IntKind.u64.wrap (x3_1 * 2)) * 2)) 1))) (wrap64 (x9_1 + 1))) else (geom_Root.l0 k1 a0 (IntKind.u64.wrap (x3_1 * 2)) (Go.bits .or .u64 (IntKind.u64.wrap (x4_1 * 4)) (Go.bits .and .u64 (shr .u64 (IntKind.u64.wrap (a0)) (ji4)) 3)) (wrap64 (x9_1 + 1)))) else (none)) = some r := by first | (rw [hji4] at H; exact H) | (simp only [hji4] at H ⊢; exact H)
     have hji4w : (IntKind.i64.wrap (62 - (wrap64 (2 * x9_1)))) = ji4 := (i64_w _).trans hji4
     by_cases c5 : 0 ≤ (ji4)
     ·rw [if_pos c5] at H
      have c5b0 := eq_true c5
      have c5b1 : decide (0 ≤ (ji4)) = true := decide_eq_true c5
      clear c5
      obtain ⟨ji6, hji6⟩ : ∃ j_ : Int, (shr .u64 (IntKind.u64.wrap (a0)) (ji4)) = j_ := ⟨_, rfl⟩
      replace H : (if (Go.bits .or .u64 (IntKind.u64.wrap ((IntKind.u64.wrap (x3_1 * 2)) * 2)) 1) ≤ (Go.bits .or .u64 (IntKind.u64.wrap (x4_1 * 4)) (Go.bits .and .u64 (ji6) 3)) then (geom_Root.l0 k1 a0 (Go.bits .or .u64 (IntKind.u64.wrap (x3_1 * 2)) 1) (IntKind.u64.wrap ((Go.bits .or .u64 (IntKind.u64.wrap (x4_1 * 4)) (Go.bits .and .u64 (ji6) 3)) - (Go.bits .or .u64 (IntKind.u64.wrap ((IntKind.u64.wrap (x3_1 * 2)) * 2)) 1))) (wrap64 (x9_1 + 1))) else (geom_Root.l0 k1 a0 (IntKind.u64.wrap (x3_1 * 2)) (Go.bits .or .u64 (IntKind.u64.wrap (x4_1 * 4)) (Go.bits .and .u64 (ji6) 3)) (wrap64 (x9_1 + 1)))) = some r := by first | (rw [hji6] at H; exact H) | (simp only [hji6] at H ⊢; exact H)
      have hji6_ : ((IntKind.u64.wrap (a0)) / 2 ^ min (ji4).toNat 64) = ji6 := hji6
      have hji6z : (ji4) ≤ 64 → ((IntKind.u64.wrap (a0)) / 2 ^ (ji4).toNat) = ji6 := shr_small hji6
      by_cases c7 : (Go.bits .or .u64 (IntKind.u64.wrap ((IntKind.u64.wrap (x3_1 * 2)) * 2)) 1) ≤ (Go.bits .or .u64 (IntKind.u64.wrap (x4_1 * 4)) (Go.bits .and .u64 (ji6) 3))
      ·rw [if_pos c7] at H
       have c7b0 : decide ((Go.bits .or .u64 (IntKind.u64.wrap ((IntKind.u64.wrap (x3_1 * 2)) * 2)) 1) ≤ (Go.bits .or .u64 (IntKind.u64.wrap (x4_1 * 4)) (Go.bits .and .u64 (ji6) 3))) = true := decide_eq_true c7
       clear c7
       have H' := Aside0.mk H
       clear H
       go_wp2
       go_roundg k1
       case measure => have := HK1.out; omega
       case rel => exact ⟨(Go.bits .or .u64 (IntKind.u64.wrap (x3_1 * 2)) 1), (IntKind.u64.wrap ((Go.bits .or .u64 (IntKind.u64.wrap (x4_1 * 4)) (Go.bits .and .u64 (ji6) 3)) - (Go.bits .or .u64 (IntKind.u64.wrap ((IntKind.u64.wrap (x3_1 * 2)) * 2)) 1))), (wrap64 (x9_1 + 1)), (by first | rfl | (simp; done) | (simp [*]; done)), (by first | rfl | (simp; done) | (simp only [← hji6] <;> (first | rfl | simp)) | (simp [*]; done)), (by first | rfl | (simp; done) | (simp [*]; done)), H', ⟨by have := HK1.out; omega⟩, by repeat (first | exact Drawn0.refl _ | apply Drawn0.step)⟩
      ·rw [if_neg c7] at H
       have c7b0 : decide ((Go.bits .or .u64 (IntKind.u64.wrap ((IntKind.u64.wrap (x3_1 * 2)) * 2)) 1) ≤ (Go.bits .or .u64 (IntKind.u64.wrap (x4_1 * 4)) (Go.bits .and .u64 (ji6) 3))) = false := decide_eq_false c7
       clear c7
       have H' := Aside0.mk H
       clear H
       go_wp2
       go_roundg k1
       case measure => have := HK1.out; omega
       case rel => exact ⟨(IntKind.u64.wrap (x3_1 * 2)), (Go.bits .or .u64 (IntKind.u64.wrap (x4_1 * 4)) (Go.bits .and .u64 (ji6) 3)), (wrap64 (x9_1 + 1)), (by first | rfl | (simp; done) | (simp [*]; done)), (by first | rfl | (simp; done) | (simp only [← hji6] <;> (first | rfl | simp)) | (simp [*]; done)), (by first | rfl | (simp; done) | (simp [*]; done)), H', ⟨by have := HK1.out; omega⟩, by repeat (first | exact Drawn0.refl _ | apply Drawn0.step)⟩
     ·rw [if_neg c5] at H
      exact absurd H (by simp)
    ·rw [if_neg c3] at H
     have c3b0 : decide (x9_1 < 32) = false := decide_eq_false c3
     clear c3
     obtain rfl := Option.some.inj H
     go_wp2
     go_ret
     exact ⟨by first | rfl | (simp; done) | (simp [*]; done), by repeat (first | exact Drawn0.refl _ | apply Drawn0.step)⟩

end Go.Proofs.Ytgibndgllhompaa.P
