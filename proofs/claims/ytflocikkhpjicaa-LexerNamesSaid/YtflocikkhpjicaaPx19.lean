-- printed for this claim by xprint.py (the seat's own program)
import Derived.Test.YtflocikkhpjicaaPx0
import Derived.Test.YtflocikkhpjicaaPx1
import Derived.Test.YtflocikkhpjicaaPx2
import Derived.Test.YtflocikkhpjicaaPx3
import Derived.Test.YtflocikkhpjicaaPx18
namespace Go.Proofs.Ytflocikkhpjicaa.P
open Go.RowKit Go.Proofs.YtflocikkhpjicaaW.PrintWords Go.Proofs.YtflocikkhpjicaaW.PrintLast Go.Proofs.YtflocikkhpjicaaW.PrintMore
attribute [local go_sem] max2_int min2_int max_two min_two max_three min_three max_four min_four   -- for this text's walks alone
set_option linter.unusedVariables false
set_option linter.unusedSimpArgs false

attribute [local go_sem high] eqA31
/-! ### planispherelaw08_LexerNames: function 10 -/
def planispherelaw08_LexerNames.j0 : Nat → ByteArray → Int → Int → Bool → Bool → Option (Bool)
  | 0, _, _, _, _, _ => none
  | k + 1, x0, x1, x2, x7, x11 => (lexer_Name.f x0).bind fun t288 => (if (x11 != t288) = true then (some false) else (if x11 = true then ((planisphereref08_Decimal.f k (wrap64 (Int.tmod x1 10000000))).bind fun t289 => (if 0 ≤ (Int.tmod (wrap64 (x2)) 15) then (if (Int.tmod (wrap64 (x2)) 15) ≤ (wrap64 ((Int.tmod (wrap64 (x2)) 15) + 1)) then (if (wrap64 ((Int.tmod (wrap64 (x2)) 15) + 1)) ≤ 15 then (if x0.size + ((⟨#[61, 59, 60, 62, 40, 41, 123, 125, 91, 93, 44, 46, 58, 47, 45]⟩ : ByteArray).extract ((Int.tmod (wrap64 (x2)) 15) : Int).toNat ((wrap64 ((Int.tmod (wrap64 (x2)) 15) + 1)) : Int).toNat).size ≤ 9223372036854775807 then (if (x0 ++ ((⟨#[61, 59, 60, 62, 40, 41, 123, 125, 91, 93, 44, 46, 58, 47, 45]⟩ : ByteArray).extract ((Int.tmod (wrap64 (x2)) 15) : Int).toNat ((wrap64 ((Int.tmod (wrap64 (x2)) 15) + 1)) : Int).toNat)).size + t289.size ≤ 9223372036854775807 then ((lexer_Lex.f ((x0 ++ ((⟨#[61, 59, 60, 62, 40, 41, 123, 125, 91, 93, 44, 46, 58, 47, 45]⟩ : ByteArray).extract ((Int.tmod (wrap64 (x2)) 15) : Int).toNat ((wrap64 ((Int.tmod (wrap64 (x2)) 15) + 1)) : Int).toNat)) ++ t289)).bind fun bt290 => (if bt290.2.1 = 0 then (if (bt290.1.length : Int) = 3 then (if x7 = true then (if 0 < (bt290.1.length : Int) then (if (((rd_T31 bt290.1 0).f0) == 1 && ((((rd_T31 bt290.1 0).f1).toList) == x0.toList && (((rd_T31 bt290.1 0).f2) == 0))) = true then (if 1 < (bt290.1.length : Int) then (if (((rd_T31 bt290.1 1).f0) == 4 && ((((rd_T31 bt290.1 1).f1).toList) == (((⟨#[61, 59, 60, 62, 40, 41, 123, 125, 91, 93, 44, 46, 58, 47, 45]⟩ : ByteArray).extract ((Int.tmod (wrap64 (x2)) 15) : Int).toNat ((wrap64 ((Int.tmod (wrap64 (x2)) 15) + 1)) : Int).toNat).toList) && (((rd_T31 bt290.1 1).f2) == (x0.size : Int)))) = true then (if 2 < (bt290.1.length : Int) then (some (((rd_T31 bt290.1 2).f0) == 2 && ((((rd_T31 bt290.1 2).f1).toList) == t289.toList && (((rd_T31 bt290.1 2).f2) == (wrap64 ((x0.size : Int) + 1)))))) else (none)) else (some false)) else (none)) else (some false)) else (none)) else (some false)) else (some false)) else (some false))) else (none)) else (none)) else (none)) else (none)) else (none))) else (some x7)))
def planispherelaw08_LexerNames.f (k : Nat) (a0 : ByteArray) (a1 : Int) (a2 : Int) : Option (Bool) := (planispherelaw08_head.f k).bind fun t281 => (if (a0.size : Int) > 3000 then (some t281) else ((lexer_Lex.f a0).bind fun bt282 => (if bt282.2.1 = 0 then (if (bt282.1.length : Int) = 1 then (if 0 < (bt282.1.length : Int) then (planispherelaw08_LexerNames.j0 k a0 a1 a2 t281 (((rd_T31 bt282.1 0).f0) == 1 && ((((rd_T31 bt282.1 0).f1).toList) == a0.toList && (((rd_T31 bt282.1 0).f2) == 0)))) else (none)) else (planispherelaw08_LexerNames.j0 k a0 a1 a2 t281 false)) else (planispherelaw08_LexerNames.j0 k a0 a1 a2 t281 false))))
theorem planispherelaw08_LexerNames.mono_l : ∀ k, (∀ y0 y1 y2 y3 y4, LeO (planispherelaw08_LexerNames.j0 k y0 y1 y2 y3 y4) (planispherelaw08_LexerNames.j0 (k + 1) y0 y1 y2 y3 y4))
  | 0 => fun _ _ _ _ _ r h => by simp [planispherelaw08_LexerNames.j0] at h
  | k + 1 => by
    have ih0 := planispherelaw08_LexerNames.mono_l k
    · intro y0 y1 y2 y3 y4
      unfold planispherelaw08_LexerNames.j0
      repeat' first
      | (with_reducible exact ih0 _ _ _ _ _)
      | (with_reducible exact planispherelaw08_head.mono _)
      | (with_reducible exact planisphereref08_Decimal.mono _ _)
      | (with_reducible exact LeO.refl _)
      | (with_reducible exact LeO.none _)
      | (with_reducible refine LeO.ite ?_ ?_)
      | (with_reducible refine LeO.bind ?_ (fun _ => ?_))
      | exact ih0 _ _ _ _ _
      | exact planispherelaw08_head.mono _
      | exact planisphereref08_Decimal.mono _ _
      | exact LeO.none _
      | refine LeO.ite ?_ ?_
      | refine LeO.bind ?_ (fun _ => ?_)
theorem planispherelaw08_LexerNames.mono : ∀ a0 a1 a2 k, LeO (planispherelaw08_LexerNames.f k a0 a1 a2) (planispherelaw08_LexerNames.f (k + 1) a0 a1 a2) := by
  intro a0 a1 a2 k
  have ih0 := planispherelaw08_LexerNames.mono_l k
  unfold planispherelaw08_LexerNames.f
  repeat' first
      | (with_reducible exact ih0 _ _ _ _ _)
      | (with_reducible exact planispherelaw08_head.mono _)
      | (with_reducible exact planisphereref08_Decimal.mono _ _)
      | (with_reducible exact LeO.refl _)
      | (with_reducible exact LeO.none _)
      | (with_reducible refine LeO.ite ?_ ?_)
      | (with_reducible refine LeO.bind ?_ (fun _ => ?_))
      | exact ih0 _ _ _ _ _
      | exact planispherelaw08_head.mono _
      | exact planisphereref08_Decimal.mono _ _
      | exact LeO.none _
      | refine LeO.ite ?_ ?_
      | refine LeO.bind ?_ (fun _ => ?_)
set_option maxHeartbeats 8000000 in
set_option maxRecDepth 100000 in
theorem planispherelaw08_LexerNames.calls (k : Nat) (a0 : ByteArray) (a1 : Int) (a2 : Int) (r : Bool) (w : World) (h : planispherelaw08_LexerNames.f k a0 a1 a2 = some r) :
    Calls Try.prog 10 #[.string a0, .int .u64 a1, .int .u8 a2] w fun e w' => e = .returned (.bool r) ∧ Below w.heap.size w w' := by
 have hu31 := Try.underlying31
 have HB := Aside0.mk (Below.refl w.heap.size w)
 have H : ((planispherelaw08_head.f k).bind fun t281 => (if (a0.size : Int) > 3000 then (some t281) else ((lexer_Lex.f a0).bind fun bt282 => (if bt282.2.1 = 0 then (if (bt282.1.length : Int) = 1 then (if 0 < (bt282.1.length : Int) then (planispherelaw08_LexerNames.j0 k a0 a1 a2 t281 (((rd_T31 bt282.1 0).f0) == 1 && ((((rd_T31 bt282.1 0).f1).toList) == a0.toList && (((rd_T31 bt282.1 0).f2) == 0)))) else (none)) else (planispherelaw08_LexerNames.j0 k a0 a1 a2 t281 false)) else (planispherelaw08_LexerNames.j0 k a0 a1 a2 t281 false))))) = some r := h
 clear h
 replace H := Option.bind_eq_some_iff.mp H
 obtain ⟨t281, A40, H⟩ := H
 replace H : (if (a0.size : Int) > 3000 then (some t281) else ((lexer_Lex.f a0).bind fun bt282 => (if bt282.2.1 = 0 then (if (bt282.1.length : Int) = 1 then (if 0 < (bt282.1.length : Int) then (planispherelaw08_LexerNames.j0 k a0 a1 a2 t281 (((rd_T31 bt282.1 0).f0) == 1 && ((((rd_T31 bt282.1 0).f1).toList) == a0.toList && (((rd_T31 bt282.1 0).f2) == 0)))) else (none)) else (planispherelaw08_LexerNames.j0 k a0 a1 a2 t281 false)) else (planispherelaw08_LexerNames.j0 k a0 a1 a2 t281 false)))) = some r := H
 have A4 := Aside0.mk A40
 clear A40
 by_cases c5 : (a0.size : Int) > 3000
 ·rw [if_pos c5] at H
  have c5b0 : decide (3000 < (a0.size : Int)) = true := decide_eq_true c5
  have c5b1 : decide (3000 < a0.size) = true := decide_eq_true (by omega)
  clear c5
  obtain rfl := Option.some.inj H
  go_enter Try.func10, Try.ntmps10
  go_wp2_with (first | ((with_reducible refine gate_callee (f := 11) rfl ?_); refine goesL_ (some 17) rfl rfl Try.func11 (by kernel_rfl) rfl #[] rfl (by (try simp only [List.map_toArray, List.map_cons, List.map_nil]); first | done | rfl | (simp only [List.length_drop, List.length_take]; rfl)) ?_; (with_reducible refine (planispherelaw08_head.calls k  t281 _ A4.out).mono ?_); rintro e w6 ⟨rfl, hb⟩; refine ⟨_, rfl, ?_⟩; have n0_ := Aside0.mk (below_step HB.out hb); clear HB; have HB := n0_; clear n0_; (try clear hb); (try clear hb2); (try clear hk); (try clear hi)))
  go_ret
  exact ⟨by first | rfl | (simp [errW_none, errW_some] <;> rfl) | (simp [*, errW_none, errW_some] <;> rfl), by repeat (first | (with_reducible first | exact HB.out | apply below_alloc | apply pw_below_drewN | apply below_drew1) | exact HB.out)⟩
 ·rw [if_neg c5] at H
  have c5b0 : decide (3000 < (a0.size : Int)) = false := decide_eq_false c5
  have c5b1 : decide (3000 < a0.size) = false := decide_eq_false (by omega)
  clear c5
  replace H := Option.bind_eq_some_iff.mp H
  obtain ⟨⟨t282, t283, t284⟩, A70, H⟩ := H
  replace H : (if t283 = 0 then (if (t282.length : Int) = 1 then (if 0 < (t282.length : Int) then (planispherelaw08_LexerNames.j0 k a0 a1 a2 t281 (((rd_T31 t282 0).f0) == 1 && ((((rd_T31 t282 0).f1).toList) == a0.toList && (((rd_T31 t282 0).f2) == 0)))) else (none)) else (planispherelaw08_LexerNames.j0 k a0 a1 a2 t281 false)) else (planispherelaw08_LexerNames.j0 k a0 a1 a2 t281 false)) = some r := H
  have A7 := Aside0.mk A70
  clear A70
  have HC8 := Aside0.mk H
  clear H
  go_enter Try.func10, Try.ntmps10
  go_upto_region 5 with (first | ((with_reducible refine gate_callee (f := 11) rfl ?_); refine goesL_ (some 17) rfl rfl Try.func11 (by kernel_rfl) rfl #[] rfl (by (try simp only [List.map_toArray, List.map_cons, List.map_nil]); first | done | rfl | (simp only [List.length_drop, List.length_take]; rfl)) ?_; (with_reducible refine (planispherelaw08_head.calls k  t281 _ A4.out).mono ?_); rintro e w9 ⟨rfl, hb⟩; refine ⟨_, rfl, ?_⟩; have n0_ := Aside0.mk (below_step (by repeat (first | (with_reducible first | exact HB.out | apply below_alloc | apply pw_below_drewN | apply below_drew1) | exact HB.out)) hb); clear HB; have HB := n0_; clear n0_; (try clear hb); (try clear hb2); (try clear hk); (try clear hi)) | ((with_reducible refine gate_callee (f := 12) rfl ?_); refine goesL_ (some 24) rfl rfl Try.func12 (by kernel_rfl) rfl #[.string a0] rfl (by (try simp only [List.map_toArray, List.map_cons, List.map_nil]); first | done | rfl | (simp only [List.length_drop, List.length_take]; rfl)) ?_; (with_reducible refine (lexer_Lex.calls a0 t282 t283 t284 _ A7.out).mono ?_); rintro e w10 ⟨v285, rfl, ho0, hb⟩; refine ⟨_, rfl, ?_⟩; have n0_ := Aside0.mk (Kd.R_lower ho0 (below_size (by repeat (first | (with_reducible first | exact HB.out | apply below_alloc | apply pw_below_drewN | apply below_drew1) | exact HB.out)))); have n1_ := Aside0.mk (below_step (by repeat (first | (with_reducible first | exact HB.out | apply below_alloc | apply pw_below_drewN | apply below_drew1) | exact HB.out)) hb); clear HB; have HO286 := n0_; have HB := n1_; clear n0_ n1_; (try clear hb); (try clear hb2); (try clear hk); (try clear hi); (try clear ho0)))
  (try simp only [Act.put, List.setIfInBounds_toArray, List.set_cons_zero, List.set_cons_succ])
  go_cut [11] (fun v11 wc => ∃ (kq : Nat) (x11_7 : Bool), v11 = .bool x11_7 ∧ Aside0 (planispherelaw08_LexerNames.j0 kq a0 a1 a2 t281 x11_7 = some r) ∧ Aside0 (kq ≤ k) ∧ Aside0 (Below w.heap.size w wc))
  case first =>
   have H := HC8.out
   clear HC8
   by_cases c11 : t283 = 0
   ·rw [if_pos c11] at H
    have c11b0 : (t283 == 0) = true := beq_iff_eq.mpr c11
    have c11b1 : (t283 != 0) = false := bne_eq_false_iff_eq.mpr c11
    clear c11
    (first | rw [c11b0] | (simp only [i64_w, i32_w]; rw [c11b0]) | skip)
    by_cases c12 : (t282.length : Int) = 1
    ·rw [if_pos c12] at H
     have c12b0 : ((t282.length : Int) == 1) = true := beq_iff_eq.mpr c12
     have c12b1 : ((t282.length : Int) != 1) = false := bne_eq_false_iff_eq.mpr c12
     clear c12
     by_cases c13 : 0 < (t282.length : Int)
     ·rw [if_pos c13] at H
      have c13b0 : decide (0 < (t282.length : Int)) = true := decide_eq_true c13
      have c13b1 : decide (0 < t282.length) = true := decide_eq_true (by omega)
      clear c13
      have H' := Aside0.mk H
      clear H
      obtain ⟨Ao14, co14, eo14⟩ := Kd.R_slice HO286.out
      subst eo14
      have p287 : 0 ≤ (0 : Int) := (by omega)
      have q287 : 0 < (t282.length : Int) := of_decide_eq_true (by first | (with_reducible assumption) | assumption)
      obtain ⟨ad287, e287, hx287_0, hx287_1, hx287_2⟩ := at_T31 (Kd.R_reads' HO286.out).2.2 0 p287 q287
      cases e287
      have qi287 : (0 < t282.length) = True := eq_true (by omega)
      (try rw [show ((0 : Int)).toNat = 0 from rfl] at hx287_0)
      (try rw [show 0 * 3 = 0 from rfl] at hx287_0)
      (try rw [Addr.add_zero'] at hx287_0)
      (try rw [show ((0 : Int)).toNat = 0 from rfl] at hx287_1)
      (try rw [show 0 * 3 = 0 from rfl] at hx287_1)
      (try rw [Addr.add_zero'] at hx287_1)
      (try rw [show ((0 : Int)).toNat = 0 from rfl] at hx287_2)
      (try rw [show 0 * 3 = 0 from rfl] at hx287_2)
      (try rw [Addr.add_zero'] at hx287_2)
      replace p287 := eq_true p287
      replace q287 := eq_true q287
      go_wp2
      go_meet
      case rel => exact ⟨_, ((((rd_T31 t282 0).f0) == 1 && ((((rd_T31 t282 0).f1).toList) == a0.toList && (((rd_T31 t282 0).f2) == 0)))), (by first | rfl | (simp; done) | (simp [*]; done)), H', ⟨by first | omega | exact Nat.le_refl _⟩, ⟨by repeat (first | (with_reducible first | exact HB.out | apply below_alloc | apply pw_below_drewN | apply below_drew1) | exact HB.out)⟩⟩
     ·rw [if_neg c13] at H
      exact absurd H (by simp)
    ·rw [if_neg c12] at H
     have c12b0 : ((t282.length : Int) == 1) = false := beq_eq_false_iff_ne.mpr c12
     have c12b1 : ((t282.length : Int) != 1) = true := bne_iff_ne.mpr c12
     have H' := Aside0.mk H
     clear H
     obtain ⟨Ao15, co15, eo15⟩ := Kd.R_slice HO286.out
     subst eo15
     go_wp2
     go_meet
     case rel => exact ⟨_, (false), (by first | rfl | (simp; done) | (simp [*]; done)), H', ⟨by first | omega | exact Nat.le_refl _⟩, ⟨by repeat (first | (with_reducible first | exact HB.out | apply below_alloc | apply pw_below_drewN | apply below_drew1) | exact HB.out)⟩⟩
   ·rw [if_neg c11] at H
    have c11b0 : (t283 == 0) = false := beq_eq_false_iff_ne.mpr c11
    have c11b1 : (t283 != 0) = true := bne_iff_ne.mpr c11
    (first | rw [c11b0] | (simp only [i64_w, i32_w]; rw [c11b0]) | skip)
    have H' := Aside0.mk H
    clear H
    go_wp2
    go_meet
    case rel => exact ⟨_, (false), (by first | rfl | (simp; done) | (simp [*]; done)), H', ⟨by first | omega | exact Nat.le_refl _⟩, ⟨by repeat (first | (with_reducible first | exact HB.out | apply below_alloc | apply pw_below_drewN | apply below_drew1) | exact HB.out)⟩⟩
  case rest =>
   clear HC8
   try clear c1
   try clear p2
   try clear q2
   try clear hx2
   try clear qi2
   try clear c5
   try clear c5b0
   try clear c5b1
   try clear c10
   try clear c11
   try clear c11b0
   try clear c11b1
   try clear c12
   try clear c12b0
   try clear c12b1
   try clear c13
   try clear c13b0
   try clear c13b1
   try clear hx287_0
   try clear hx287_1
   try clear hx287_2
   try clear p287
   try clear q287
   obtain ⟨kq, x11_7, rfl, HA, HJ7, HB⟩ := hcut
   cases kq with
   | zero => exact absurd HA.out (by simp [planispherelaw08_LexerNames.j0])
   | succ kj7 =>
    have H := HA.out
    clear HA
    simp only [planispherelaw08_LexerNames.j0] at H
    replace H := Option.bind_eq_some_iff.mp H
    obtain ⟨t288, A160, H⟩ := H
    replace H : (if (x11_7 != t288) = true then (some false) else (if x11_7 = true then ((planisphereref08_Decimal.f kj7 (wrap64 (Int.tmod a1 10000000))).bind fun t289 => (if 0 ≤ (Int.tmod (wrap64 (a2)) 15) then (if (Int.tmod (wrap64 (a2)) 15) ≤ (wrap64 ((Int.tmod (wrap64 (a2)) 15) + 1)) then (if (wrap64 ((Int.tmod (wrap64 (a2)) 15) + 1)) ≤ 15 then (if a0.size + ((⟨#[61, 59, 60, 62, 40, 41, 123, 125, 91, 93, 44, 46, 58, 47, 45]⟩ : ByteArray).extract ((Int.tmod (wrap64 (a2)) 15) : Int).toNat ((wrap64 ((Int.tmod (wrap64 (a2)) 15) + 1)) : Int).toNat).size ≤ 9223372036854775807 then (if (a0 ++ ((⟨#[61, 59, 60, 62, 40, 41, 123, 125, 91, 93, 44, 46, 58, 47, 45]⟩ : ByteArray).extract ((Int.tmod (wrap64 (a2)) 15) : Int).toNat ((wrap64 ((Int.tmod (wrap64 (a2)) 15) + 1)) : Int).toNat)).size + t289.size ≤ 9223372036854775807 then ((lexer_Lex.f ((a0 ++ ((⟨#[61, 59, 60, 62, 40, 41, 123, 125, 91, 93, 44, 46, 58, 47, 45]⟩ : ByteArray).extract ((Int.tmod (wrap64 (a2)) 15) : Int).toNat ((wrap64 ((Int.tmod (wrap64 (a2)) 15) + 1)) : Int).toNat)) ++ t289)).bind fun bt290 => (if bt290.2.1 = 0 then (if (bt290.1.length : Int) = 3 then (if t281 = true then (if 0 < (bt290.1.length : Int) then (if (((rd_T31 bt290.1 0).f0) == 1 && ((((rd_T31 bt290.1 0).f1).toList) == a0.toList && (((rd_T31 bt290.1 0).f2) == 0))) = true then (if 1 < (bt290.1.length : Int) then (if (((rd_T31 bt290.1 1).f0) == 4 && ((((rd_T31 bt290.1 1).f1).toList) == (((⟨#[61, 59, 60, 62, 40, 41, 123, 125, 91, 93, 44, 46, 58, 47, 45]⟩ : ByteArray).extract ((Int.tmod (wrap64 (a2)) 15) : Int).toNat ((wrap64 ((Int.tmod (wrap64 (a2)) 15) + 1)) : Int).toNat).toList) && (((rd_T31 bt290.1 1).f2) == (a0.size : Int)))) = true then (if 2 < (bt290.1.length : Int) then (some (((rd_T31 bt290.1 2).f0) == 2 && ((((rd_T31 bt290.1 2).f1).toList) == t289.toList && (((rd_T31 bt290.1 2).f2) == (wrap64 ((a0.size : Int) + 1)))))) else (none)) else (some false)) else (none)) else (some false)) else (none)) else (some false)) else (some false)) else (some false))) else (none)) else (none)) else (none)) else (none)) else (none))) else (some t281))) = some r := H
    have A16 := Aside0.mk A160
    clear A160
    by_cases c17 : (x11_7 != t288) = true
    ·rw [if_pos c17] at H
     have c17b0 : (x11_7 != t288) = true := c17
     (try (have c17b1 : decide (x11_7 = t288) = false := by simpa using c17))
     (try (have c17b2 : (x11_7 == t288) = false := by simpa using c17))
     (try (have c17b3 : ¬ (x11_7 = t288) := by simpa using c17))
     clear c17
     obtain rfl := Option.some.inj H
     go_wp2_with (first | ((with_reducible refine gate_callee (f := 15) rfl ?_); refine goesL_ (some 45) rfl rfl Try.func15 (by kernel_rfl) rfl #[.string a0] rfl (by (try simp only [List.map_toArray, List.map_cons, List.map_nil]); first | done | rfl | (simp only [List.length_drop, List.length_take]; rfl)) ?_; (with_reducible refine (lexer_Name.calls a0 t288 _ A16.out).mono ?_); rintro e w18 ⟨rfl, hb⟩; refine ⟨_, rfl, ?_⟩; have n0_ := Aside0.mk (below_step HB.out hb); clear HB; have HB := n0_; clear n0_; (try clear hb); (try clear hb2); (try clear hk); (try clear hi)))
     go_ret
     exact ⟨by first | rfl | (simp [errW_none, errW_some] <;> rfl) | (simp [*, errW_none, errW_some] <;> rfl), by repeat (first | (with_reducible first | exact HB.out | apply below_alloc | apply pw_below_drewN | apply below_drew1) | exact HB.out)⟩
    ·rw [if_neg c17] at H
     have c17b0 : (x11_7 != t288) = false := by simpa using c17
     (try (have c17b1 : decide (x11_7 = t288) = true := by simpa using c17))
     (try (have c17b2 : (x11_7 == t288) = true := by simpa using c17))
     clear c17
     by_cases c19 : x11_7 = true
     ·subst c19
      have H1 : ((planisphereref08_Decimal.f kj7 (wrap64 (Int.tmod a1 10000000))).bind fun t289 => (if 0 ≤ (Int.tmod (wrap64 (a2)) 15) then (if (Int.tmod (wrap64 (a2)) 15) ≤ (wrap64 ((Int.tmod (wrap64 (a2)) 15) + 1)) then (if (wrap64 ((Int.tmod (wrap64 (a2)) 15) + 1)) ≤ 15 then (if a0.size + ((⟨#[61, 59, 60, 62, 40, 41, 123, 125, 91, 93, 44, 46, 58, 47, 45]⟩ : ByteArray).extract ((Int.tmod (wrap64 (a2)) 15) : Int).toNat ((wrap64 ((Int.tmod (wrap64 (a2)) 15) + 1)) : Int).toNat).size ≤ 9223372036854775807 then (if (a0 ++ ((⟨#[61, 59, 60, 62, 40, 41, 123, 125, 91, 93, 44, 46, 58, 47, 45]⟩ : ByteArray).extract ((Int.tmod (wrap64 (a2)) 15) : Int).toNat ((wrap64 ((Int.tmod (wrap64 (a2)) 15) + 1)) : Int).toNat)).size + t289.size ≤ 9223372036854775807 then ((lexer_Lex.f ((a0 ++ ((⟨#[61, 59, 60, 62, 40, 41, 123, 125, 91, 93, 44, 46, 58, 47, 45]⟩ : ByteArray).extract ((Int.tmod (wrap64 (a2)) 15) : Int).toNat ((wrap64 ((Int.tmod (wrap64 (a2)) 15) + 1)) : Int).toNat)) ++ t289)).bind fun bt290 => (if bt290.2.1 = 0 then (if (bt290.1.length : Int) = 3 then (if t281 = true then (if 0 < (bt290.1.length : Int) then (if (((rd_T31 bt290.1 0).f0) == 1 && ((((rd_T31 bt290.1 0).f1).toList) == a0.toList && (((rd_T31 bt290.1 0).f2) == 0))) = true then (if 1 < (bt290.1.length : Int) then (if (((rd_T31 bt290.1 1).f0) == 4 && ((((rd_T31 bt290.1 1).f1).toList) == (((⟨#[61, 59, 60, 62, 40, 41, 123, 125, 91, 93, 44, 46, 58, 47, 45]⟩ : ByteArray).extract ((Int.tmod (wrap64 (a2)) 15) : Int).toNat ((wrap64 ((Int.tmod (wrap64 (a2)) 15) + 1)) : Int).toNat).toList) && (((rd_T31 bt290.1 1).f2) == (a0.size : Int)))) = true then (if 2 < (bt290.1.length : Int) then (some (((rd_T31 bt290.1 2).f0) == 2 && ((((rd_T31 bt290.1 2).f1).toList) == t289.toList && (((rd_T31 bt290.1 2).f2) == (wrap64 ((a0.size : Int) + 1)))))) else (none)) else (some false)) else (none)) else (some false)) else (none)) else (some false)) else (some false)) else (some false))) else (none)) else (none)) else (none)) else (none)) else (none))) = some r := by rw [if_pos rfl] at H; exact H
      clear H
      have H := H1
      clear H1
      replace H := Option.bind_eq_some_iff.mp H
      obtain ⟨t289, A200, H⟩ := H
      replace H : (if 0 ≤ (Int.tmod (wrap64 (a2)) 15) then (if (Int.tmod (wrap64 (a2)) 15) ≤ (wrap64 ((Int.tmod (wrap64 (a2)) 15) + 1)) then (if (wrap64 ((Int.tmod (wrap64 (a2)) 15) + 1)) ≤ 15 then (if a0.size + ((⟨#[61, 59, 60, 62, 40, 41, 123, 125, 91, 93, 44, 46, 58, 47, 45]⟩ : ByteArray).extract ((Int.tmod (wrap64 (a2)) 15) : Int).toNat ((wrap64 ((Int.tmod (wrap64 (a2)) 15) + 1)) : Int).toNat).size ≤ 9223372036854775807 then (if (a0 ++ ((⟨#[61, 59, 60, 62, 40, 41, 123, 125, 91, 93, 44, 46, 58, 47, 45]⟩ : ByteArray).extract ((Int.tmod (wrap64 (a2)) 15) : Int).toNat ((wrap64 ((Int.tmod (wrap64 (a2)) 15) + 1)) : Int).toNat)).size + t289.size ≤ 9223372036854775807 then ((lexer_Lex.f ((a0 ++ ((⟨#[61, 59, 60, 62, 40, 41, 123, 125, 91, 93, 44, 46, 58, 47, 45]⟩ : ByteArray).extract ((Int.tmod (wrap64 (a2)) 15) : Int).toNat ((wrap64 ((Int.tmod (wrap64 (a2)) 15) + 1)) : Int).toNat)) ++ t289)).bind fun bt290 => (if bt290.2.1 = 0 then (if (bt290.1.length : Int) = 3 then (if t281 = true then (if 0 < (bt290.1.length : Int) then (if (((rd_T31 bt290.1 0).f0) == 1 && ((((rd_T31 bt290.1 0).f1).toList) == a0.toList && (((rd_T31 bt290.1 0).f2) == 0))) = true then (if 1 < (bt290.1.length : Int) then (if (((rd_T31 bt290.1 1).f0) == 4 && ((((rd_T31 bt290.1 1).f1).toList) == (((⟨#[61, 59, 60, 62, 40, 41, 123, 125, 91, 93, 44, 46, 58, 47, 45]⟩ : ByteArray).extract ((Int.tmod (wrap64 (a2)) 15) : Int).toNat ((wrap64 ((Int.tmod (wrap64 (a2)) 15) + 1)) : Int).toNat).toList) && (((rd_T31 bt290.1 1).f2) == (a0.size : Int)))) = true then (if 2 < (bt290.1.length : Int) then (some (((rd_T31 bt290.1 2).f0) == 2 && ((((rd_T31 bt290.1 2).f1).toList) == t289.toList && (((rd_T31 bt290.1 2).f2) == (wrap64 ((a0.size : Int) + 1)))))) else (none)) else (some false)) else (none)) else (some false)) else (none)) else (some false)) else (some false)) else (some false))) else (none)) else (none)) else (none)) else (none)) else (none)) = some r := H
      have A20 := Aside0.mk A200
      clear A200
      obtain ⟨ji21, hji21⟩ : ∃ j_ : Int, (Int.tmod (wrap64 (a2)) 15) = j_ := ⟨_, rfl⟩
      replace H : (if 0 ≤ (ji21) then (if (ji21) ≤ (wrap64 ((ji21) + 1)) then (if (wrap64 ((ji21) + 1)) ≤ 15 then (if a0.size + ((⟨#[61, 59, 60, 62, 40, 41, 123, 125, 91, 93, 44, 46, 58, 47, 45]⟩ : ByteArray).extract ((ji21) : Int).toNat ((wrap64 ((ji21) + 1)) : Int).toNat).size ≤ 9223372036854775807 then (if (a0 ++ ((⟨#[61, 59, 60, 62, 40, 41, 123, 125, 91, 93, 44, 46, 58, 47, 45]⟩ : ByteArray).extract ((ji21) : Int).toNat ((wrap64 ((ji21) + 1)) : Int).toNat)).size + t289.size ≤ 9223372036854775807 then ((lexer_Lex.f ((a0 ++ ((⟨#[61, 59, 60, 62, 40, 41, 123, 125, 91, 93, 44, 46, 58, 47, 45]⟩ : ByteArray).extract ((ji21) : Int).toNat ((wrap64 ((ji21) + 1)) : Int).toNat)) ++ t289)).bind fun bt290 => (if bt290.2.1 = 0 then (if (bt290.1.length : Int) = 3 then (if t281 = true then (if 0 < (bt290.1.length : Int) then (if (((rd_T31 bt290.1 0).f0) == 1 && ((((rd_T31 bt290.1 0).f1).toList) == a0.toList && (((rd_T31 bt290.1 0).f2) == 0))) = true then (if 1 < (bt290.1.length : Int) then (if (((rd_T31 bt290.1 1).f0) == 4 && ((((rd_T31 bt290.1 1).f1).toList) == (((⟨#[61, 59, 60, 62, 40, 41, 123, 125, 91, 93, 44, 46, 58, 47, 45]⟩ : ByteArray).extract ((ji21) : Int).toNat ((wrap64 ((ji21) + 1)) : Int).toNat).toList) && (((rd_T31 bt290.1 1).f2) == (a0.size : Int)))) = true then (if 2 < (bt290.1.length : Int) then (some (((rd_T31 bt290.1 2).f0) == 2 && ((((rd_T31 bt290.1 2).f1).toList) == t289.toList && (((rd_T31 bt290.1 2).f2) == (wrap64 ((a0.size : Int) + 1)))))) else (none)) else (some false)) else (none)) else (some false)) else (none)) else (some false)) else (some false)) else (some false))) else (none)) else (none)) else (none)) else (none)) else (none)) = some r := by first | (rw [hji21] at H; exact H) | (simp only [hji21] at H ⊢; exact H)
      (try rw [hji21] at A16)
      (try rw [hji21] at A20)
      by_cases c22 : 0 ≤ (ji21)
      ·rw [if_pos c22] at H
       have c22b0 := eq_true c22
       have c22b1 : decide (0 ≤ (ji21)) = true := decide_eq_true c22
       clear c22
       by_cases c23 : (ji21) ≤ (wrap64 ((ji21) + 1))
       ·rw [if_pos c23] at H
        have c23b0 := eq_true c23
        have c23b1 : decide ((ji21) ≤ (wrap64 ((ji21) + 1))) = true := decide_eq_true c23
        by_cases c24 : (wrap64 ((ji21) + 1)) ≤ 15
        ·rw [if_pos c24] at H
         have c24b0 := eq_true c24
         have c24b1 : decide ((wrap64 ((ji21) + 1)) ≤ 15) = true := decide_eq_true c24
         by_cases c25 : a0.size + ((⟨#[61, 59, 60, 62, 40, 41, 123, 125, 91, 93, 44, 46, 58, 47, 45]⟩ : ByteArray).extract ((ji21) : Int).toNat ((wrap64 ((ji21) + 1)) : Int).toNat).size ≤ 9223372036854775807
         ·rw [if_pos c25] at H
          have c25b0 := eq_true c25
          have c25b1 : decide (a0.size + ((⟨#[61, 59, 60, 62, 40, 41, 123, 125, 91, 93, 44, 46, 58, 47, 45]⟩ : ByteArray).extract ((ji21) : Int).toNat ((wrap64 ((ji21) + 1)) : Int).toNat).size ≤ 9223372036854775807) = true := decide_eq_true c25
          try have c25b2 : (9223372036854775807 < a0.size + ((⟨#[61, 59, 60, 62, 40, 41, 123, 125, 91, 93, 44, 46, 58, 47, 45]⟩ : ByteArray).extract ((ji21) : Int).toNat ((wrap64 ((ji21) + 1)) : Int).toNat).size) = False := eq_false (Nat.not_lt.2 c25)
          by_cases c26 : (a0 ++ ((⟨#[61, 59, 60, 62, 40, 41, 123, 125, 91, 93, 44, 46, 58, 47, 45]⟩ : ByteArray).extract ((ji21) : Int).toNat ((wrap64 ((ji21) + 1)) : Int).toNat)).size + t289.size ≤ 9223372036854775807
          ·rw [if_pos c26] at H
           have c26b0 := eq_true c26
           have c26b1 : decide ((a0 ++ ((⟨#[61, 59, 60, 62, 40, 41, 123, 125, 91, 93, 44, 46, 58, 47, 45]⟩ : ByteArray).extract ((ji21) : Int).toNat ((wrap64 ((ji21) + 1)) : Int).toNat)).size + t289.size ≤ 9223372036854775807) = true := decide_eq_true c26
           try have c26b2 : (9223372036854775807 < (a0 ++ ((⟨#[61, 59, 60, 62, 40, 41, 123, 125, 91, 93, 44, 46, 58, 47, 45]⟩ : ByteArray).extract ((ji21) : Int).toNat ((wrap64 ((ji21) + 1)) : Int).toNat)).size + t289.size) = False := eq_false (Nat.not_lt.2 c26)
           replace H := Option.bind_eq_some_iff.mp H
           obtain ⟨⟨t290, t291, t292⟩, A270, H⟩ := H
           replace H : (if t291 = 0 then (if (t290.length : Int) = 3 then (if t281 = true then (if 0 < (t290.length : Int) then (if (((rd_T31 t290 0).f0) == 1 && ((((rd_T31 t290 0).f1).toList) == a0.toList && (((rd_T31 t290 0).f2) == 0))) = true then (if 1 < (t290.length : Int) then (if (((rd_T31 t290 1).f0) == 4 && ((((rd_T31 t290 1).f1).toList) == (((⟨#[61, 59, 60, 62, 40, 41, 123, 125, 91, 93, 44, 46, 58, 47, 45]⟩ : ByteArray).extract ((ji21) : Int).toNat ((wrap64 ((ji21) + 1)) : Int).toNat).toList) && (((rd_T31 t290 1).f2) == (a0.size : Int)))) = true then (if 2 < (t290.length : Int) then (some (((rd_T31 t290 2).f0) == 2 && ((((rd_T31 t290 2).f1).toList) == t289.toList && (((rd_T31 t290 2).f2) == (wrap64 ((a0.size : Int) + 1)))))) else (none)) else (some false)) else (none)) else (some false)) else (none)) else (some false)) else (some false)) else (some false)) = some r := H
           have A27 := Aside0.mk A270
           clear A270
           by_cases c28 : t291 = 0
           ·rw [if_pos c28] at H
            have c28b0 : (t291 == 0) = true := beq_iff_eq.mpr c28
            have c28b1 : (t291 != 0) = false := bne_eq_false_iff_eq.mpr c28
            clear c28
            by_cases c29 : (t290.length : Int) = 3
            ·rw [if_pos c29] at H
             have c29b0 : ((t290.length : Int) == 3) = true := beq_iff_eq.mpr c29
             have c29b1 : ((t290.length : Int) != 3) = false := bne_eq_false_iff_eq.mpr c29
             clear c29
             by_cases c30 : t281 = true
             ·subst c30
              have H1 : (if 0 < (t290.length : Int) then (if (((rd_T31 t290 0).f0) == 1 && ((((rd_T31 t290 0).f1).toList) == a0.toList && (((rd_T31 t290 0).f2) == 0))) = true then (if 1 < (t290.length : Int) then (if (((rd_T31 t290 1).f0) == 4 && ((((rd_T31 t290 1).f1).toList) == (((⟨#[61, 59, 60, 62, 40, 41, 123, 125, 91, 93, 44, 46, 58, 47, 45]⟩ : ByteArray).extract ((ji21) : Int).toNat ((wrap64 ((ji21) + 1)) : Int).toNat).toList) && (((rd_T31 t290 1).f2) == (a0.size : Int)))) = true then (if 2 < (t290.length : Int) then (some (((rd_T31 t290 2).f0) == 2 && ((((rd_T31 t290 2).f1).toList) == t289.toList && (((rd_T31 t290 2).f2) == (wrap64 ((a0.size : Int) + 1)))))) else (none)) else (some false)) else (none)) else (some false)) else (none)) = some r := by rw [if_pos rfl] at H; exact H
              clear H
              have H := H1
              clear H1
              by_cases c31 : 0 < (t290.length : Int)
              ·rw [if_pos c31] at H
               have c31b0 : decide (0 < (t290.length : Int)) = true := decide_eq_true c31
               have c31b1 : decide (0 < t290.length) = true := decide_eq_true (by omega)
               clear c31
               by_cases c32 : (((rd_T31 t290 0).f0) == 1 && ((((rd_T31 t290 0).f1).toList) == a0.toList && (((rd_T31 t290 0).f2) == 0))) = true
               ·rw [if_pos c32] at H
                have c32b0 : (((rd_T31 t290 0).f0) == 1 && ((((rd_T31 t290 0).f1).toList) == a0.toList && (((rd_T31 t290 0).f2) == 0))) = true := c32
                (try (have c32b1 : decide (((rd_T31 t290 0).f0) = 1 && ((((rd_T31 t290 0).f1).toList) == a0.toList && (((rd_T31 t290 0).f2) == 0))) = true := by simpa using c32))
                (try (have c32b2 : (((rd_T31 t290 0).f0) == 1 && ((((rd_T31 t290 0).f1).toList) == a0.toList && (((rd_T31 t290 0).f2) == 0))) = true := by simpa using c32))
                clear c32
                by_cases c33 : 1 < (t290.length : Int)
                ·rw [if_pos c33] at H
                 have c33b0 : decide (1 < (t290.length : Int)) = true := decide_eq_true c33
                 have c33b1 : decide (1 < t290.length) = true := decide_eq_true (by omega)
                 clear c33
                 by_cases c34 : (((rd_T31 t290 1).f0) == 4 && ((((rd_T31 t290 1).f1).toList) == (((⟨#[61, 59, 60, 62, 40, 41, 123, 125, 91, 93, 44, 46, 58, 47, 45]⟩ : ByteArray).extract ((ji21) : Int).toNat ((wrap64 ((ji21) + 1)) : Int).toNat).toList) && (((rd_T31 t290 1).f2) == (a0.size : Int)))) = true
                 ·rw [if_pos c34] at H
                  have c34b0 : (((rd_T31 t290 1).f0) == 4 && ((((rd_T31 t290 1).f1).toList) == (((⟨#[61, 59, 60, 62, 40, 41, 123, 125, 91, 93, 44, 46, 58, 47, 45]⟩ : ByteArray).extract ((ji21) : Int).toNat ((wrap64 ((ji21) + 1)) : Int).toNat).toList) && (((rd_T31 t290 1).f2) == (a0.size : Int)))) = true := c34
                  (try (have c34b1 : decide (((rd_T31 t290 1).f0) = 4 && ((((rd_T31 t290 1).f1).toList) == (((⟨#[61, 59, 60, 62, 40, 41, 123, 125, 91, 93, 44, 46, 58, 47, 45]⟩ : ByteArray).extract ((ji21) : Int).toNat ((wrap64 ((ji21) + 1)) : Int).toNat).toList) && (((rd_T31 t290 1).f2) == (a0.size : Int)))) = true := by simpa using c34))
                  (try (have c34b2 : (((rd_T31 t290 1).f0) == 4 && ((((rd_T31 t290 1).f1).toList) == (((⟨#[61, 59, 60, 62, 40, 41, 123, 125, 91, 93, 44, 46, 58, 47, 45]⟩ : ByteArray).extract ((ji21) : Int).toNat ((wrap64 ((ji21) + 1)) : Int).toNat).toList) && (((rd_T31 t290 1).f2) == (a0.size : Int)))) = true := by simpa using c34))
                  clear c34
                  by_cases c35 : 2 < (t290.length : Int)
                  ·rw [if_pos c35] at H
                   have c35b0 : decide (2 < (t290.length : Int)) = true := decide_eq_true c35
                   have c35b1 : decide (2 < t290.length) = true := decide_eq_true (by omega)
                   clear c35
                   obtain rfl := Option.some.inj H
                   go_wp2_with (first | ((with_reducible refine gate_callee (f := 15) rfl ?_); refine goesL_ (some 45) rfl rfl Try.func15 (by kernel_rfl) rfl #[.string a0] rfl (by (try simp only [List.map_toArray, List.map_cons, List.map_nil]); first | done | rfl | (simp only [List.length_drop, List.length_take]; rfl)) ?_; (with_reducible refine (lexer_Name.calls a0 t288 _ A16.out).mono ?_); rintro e w36 ⟨rfl, hb⟩; refine ⟨_, rfl, ?_⟩; have n0_ := Aside0.mk (below_step HB.out hb); clear HB; have HB := n0_; clear n0_; (try clear hb); (try clear hb2); (try clear hk); (try clear hi)) | ((with_reducible refine gate_callee (f := 23) rfl ?_); refine goesL_ (some 53) rfl rfl Try.func23 (by kernel_rfl) rfl #[.int .i64 (wrap64 (Int.tmod a1 10000000))] rfl (by (try simp only [List.map_toArray, List.map_cons, List.map_nil]); first | done | rfl | (simp only [List.length_drop, List.length_take]; rfl)) ?_; (with_reducible refine (planisphereref08_Decimal.calls kj7 (wrap64 (Int.tmod a1 10000000)) t289 _ A20.out).mono ?_); rintro e w' ⟨rfl, ⟨nd, rfl⟩⟩; refine ⟨_, rfl, ?_⟩) | ((with_reducible refine gate_callee (f := 12) rfl ?_); refine goesL_ (some 68) rfl rfl Try.func12 (by kernel_rfl) rfl #[.string ((a0 ++ ((⟨#[61, 59, 60, 62, 40, 41, 123, 125, 91, 93, 44, 46, 58, 47, 45]⟩ : ByteArray).extract ((ji21) : Int).toNat ((wrap64 ((ji21) + 1)) : Int).toNat)) ++ t289)] rfl (by (try simp only [List.map_toArray, List.map_cons, List.map_nil]); first | done | (simp only [hji21]; rfl) | rfl | (simp only [List.length_drop, List.length_take]; rfl)) ?_; (with_reducible refine (lexer_Lex.calls ((a0 ++ ((⟨#[61, 59, 60, 62, 40, 41, 123, 125, 91, 93, 44, 46, 58, 47, 45]⟩ : ByteArray).extract ((ji21) : Int).toNat ((wrap64 ((ji21) + 1)) : Int).toNat)) ++ t289) t290 t291 t292 _ A27.out).mono ?_); rintro e w37 ⟨v293, rfl, ho0, hb⟩; refine ⟨_, rfl, ?_⟩; have n0_ := Aside0.mk (Kd.R_lower ho0 (below_size (by repeat (first | (with_reducible first | exact HB.out | apply below_alloc | apply pw_below_drewN | apply below_drew1) | exact HB.out)))); have n1_ := Aside0.mk (below_step (by repeat (first | (with_reducible first | exact HB.out | apply below_alloc | apply pw_below_drewN | apply below_drew1) | exact HB.out)) hb); clear HB; have HO294 := n0_; have HB := n1_; clear n0_ n1_; (try clear hb); (try clear hb2); (try clear hk); (try clear hi); (try clear ho0); obtain ⟨Ao38, co38, eo38⟩ := Kd.R_slice HO294.out; subst eo38; have p295 : 0 ≤ (0 : Int) := (by omega); have q295 : 0 < (t290.length : Int) := of_decide_eq_true (by first | (with_reducible assumption) | assumption); obtain ⟨ad295, e295, hx295_0, hx295_1, hx295_2⟩ := at_T31 (Kd.R_reads' HO294.out).2.2 0 p295 q295; cases e295; have qi295 : (0 < t290.length) = True := eq_true (by omega); (try rw [show ((0 : Int)).toNat = 0 from rfl] at hx295_0); (try rw [show 0 * 3 = 0 from rfl] at hx295_0); (try rw [Addr.add_zero'] at hx295_0); (try rw [show ((0 : Int)).toNat = 0 from rfl] at hx295_1); (try rw [show 0 * 3 = 0 from rfl] at hx295_1); (try rw [Addr.add_zero'] at hx295_1); (try rw [show ((0 : Int)).toNat = 0 from rfl] at hx295_2); (try rw [show 0 * 3 = 0 from rfl] at hx295_2); (try rw [Addr.add_zero'] at hx295_2); replace p295 := eq_true p295; replace q295 := eq_true q295; have p296 : 0 ≤ (1 : Int) := (by omega); have q296 : 1 < (t290.length : Int) := of_decide_eq_true (by first | (with_reducible assumption) | assumption); obtain ⟨ad296, e296, hx296_0, hx296_1, hx296_2⟩ := at_T31 (Kd.R_reads' HO294.out).2.2 1 p296 q296; obtain rfl : ad295 = ad296 := (by injection e296); (try simp only [show (1 : Int).toNat = 1 from rfl, Nat.reduceMul, Nat.reduceEqDiff, Go.Addr.add, ↓reduceIte] at hx296_0); (try simp only [show (1 : Int).toNat = 1 from rfl, Nat.reduceMul, Nat.reduceEqDiff, Go.Addr.add, ↓reduceIte] at hx296_1); (try simp only [show (1 : Int).toNat = 1 from rfl, Nat.reduceMul, Nat.reduceEqDiff, Go.Addr.add, ↓reduceIte] at hx296_2); have qi296 : (1 < t290.length) = True := eq_true (by omega); (try rw [show ((1 : Int)).toNat = 1 from rfl] at hx296_0); (try rw [show 1 * 3 = 3 from rfl] at hx296_0); (try rw [show ((1 : Int)).toNat = 1 from rfl] at hx296_1); (try rw [show 1 * 3 = 3 from rfl] at hx296_1); (try rw [show ((1 : Int)).toNat = 1 from rfl] at hx296_2); (try rw [show 1 * 3 = 3 from rfl] at hx296_2); replace p296 := eq_true p296; replace q296 := eq_true q296; have p297 : 0 ≤ (2 : Int) := (by omega); have q297 : 2 < (t290.length : Int) := of_decide_eq_true (by first | (with_reducible assumption) | assumption); obtain ⟨ad297, e297, hx297_0, hx297_1, hx297_2⟩ := at_T31 (Kd.R_reads' HO294.out).2.2 2 p297 q297; obtain rfl : ad295 = ad297 := (by injection e297); (try simp only [show (2 : Int).toNat = 2 from rfl, Nat.reduceMul, Nat.reduceEqDiff, Go.Addr.add, ↓reduceIte] at hx297_0); (try simp only [show (2 : Int).toNat = 2 from rfl, Nat.reduceMul, Nat.reduceEqDiff, Go.Addr.add, ↓reduceIte] at hx297_1); (try simp only [show (2 : Int).toNat = 2 from rfl, Nat.reduceMul, Nat.reduceEqDiff, Go.Addr.add, ↓reduceIte] at hx297_2); have qi297 : (2 < t290.length) = True := eq_true (by omega); (try rw [show ((2 : Int)).toNat = 2 from rfl] at hx297_0); (try rw [show 2 * 3 = 6 from rfl] at hx297_0); (try rw [show ((2 : Int)).toNat = 2 from rfl] at hx297_1); (try rw [show 2 * 3 = 6 from rfl] at hx297_1); (try rw [show ((2 : Int)).toNat = 2 from rfl] at hx297_2); (try rw [show 2 * 3 = 6 from rfl] at hx297_2); replace p297 := eq_true p297; replace q297 := eq_true q297))
                   go_ret
                   exact ⟨by first | rfl | (simp [errW_none, errW_some] <;> rfl) | (simp only [← hji21]; first | rfl | (simp [errW_none, errW_some] <;> rfl)) | (simp [*, errW_none, errW_some] <;> rfl), by repeat (first | (with_reducible first | exact HB.out | apply below_alloc | apply pw_below_drewN | apply below_drew1) | exact HB.out)⟩
                  ·rw [if_neg c35] at H
                   exact absurd H (by simp)
                 ·rw [if_neg c34] at H
                  have c34b0 : (((rd_T31 t290 1).f0) == 4 && ((((rd_T31 t290 1).f1).toList) == (((⟨#[61, 59, 60, 62, 40, 41, 123, 125, 91, 93, 44, 46, 58, 47, 45]⟩ : ByteArray).extract ((ji21) : Int).toNat ((wrap64 ((ji21) + 1)) : Int).toNat).toList) && (((rd_T31 t290 1).f2) == (a0.size : Int)))) = false := by simpa using c34
                  (try (have c34b1 : decide (((rd_T31 t290 1).f0) = 4 && ((((rd_T31 t290 1).f1).toList) == (((⟨#[61, 59, 60, 62, 40, 41, 123, 125, 91, 93, 44, 46, 58, 47, 45]⟩ : ByteArray).extract ((ji21) : Int).toNat ((wrap64 ((ji21) + 1)) : Int).toNat).toList) && (((rd_T31 t290 1).f2) == (a0.size : Int)))) = false := by simpa using c34))
                  (try (have c34b2 : (((rd_T31 t290 1).f0) == 4 && ((((rd_T31 t290 1).f1).toList) == (((⟨#[61, 59, 60, 62, 40, 41, 123, 125, 91, 93, 44, 46, 58, 47, 45]⟩ : ByteArray).extract ((ji21) : Int).toNat ((wrap64 ((ji21) + 1)) : Int).toNat).toList) && (((rd_T31 t290 1).f2) == (a0.size : Int)))) = false := by simpa using c34))
                  (try (have c34b3 : ¬ (((rd_T31 t290 1).f0) = 4 && ((((rd_T31 t290 1).f1).toList) == (((⟨#[61, 59, 60, 62, 40, 41, 123, 125, 91, 93, 44, 46, 58, 47, 45]⟩ : ByteArray).extract ((ji21) : Int).toNat ((wrap64 ((ji21) + 1)) : Int).toNat).toList) && (((rd_T31 t290 1).f2) == (a0.size : Int)))) := by simpa using c34))
                  clear c34
                  obtain rfl := Option.some.inj H
                  go_wp2_with (first | ((with_reducible refine gate_callee (f := 15) rfl ?_); refine goesL_ (some 45) rfl rfl Try.func15 (by kernel_rfl) rfl #[.string a0] rfl (by (try simp only [List.map_toArray, List.map_cons, List.map_nil]); first | done | rfl | (simp only [List.length_drop, List.length_take]; rfl)) ?_; (with_reducible refine (lexer_Name.calls a0 t288 _ A16.out).mono ?_); rintro e w39 ⟨rfl, hb⟩; refine ⟨_, rfl, ?_⟩; have n0_ := Aside0.mk (below_step HB.out hb); clear HB; have HB := n0_; clear n0_; (try clear hb); (try clear hb2); (try clear hk); (try clear hi)) | ((with_reducible refine gate_callee (f := 23) rfl ?_); refine goesL_ (some 53) rfl rfl Try.func23 (by kernel_rfl) rfl #[.int .i64 (wrap64 (Int.tmod a1 10000000))] rfl (by (try simp only [List.map_toArray, List.map_cons, List.map_nil]); first | done | rfl | (simp only [List.length_drop, List.length_take]; rfl)) ?_; (with_reducible refine (planisphereref08_Decimal.calls kj7 (wrap64 (Int.tmod a1 10000000)) t289 _ A20.out).mono ?_); rintro e w' ⟨rfl, ⟨nd, rfl⟩⟩; refine ⟨_, rfl, ?_⟩) | ((with_reducible refine gate_callee (f := 12) rfl ?_); refine goesL_ (some 68) rfl rfl Try.func12 (by kernel_rfl) rfl #[.string ((a0 ++ ((⟨#[61, 59, 60, 62, 40, 41, 123, 125, 91, 93, 44, 46, 58, 47, 45]⟩ : ByteArray).extract ((ji21) : Int).toNat ((wrap64 ((ji21) + 1)) : Int).toNat)) ++ t289)] rfl (by (try simp only [List.map_toArray, List.map_cons, List.map_nil]); first | done | (simp only [hji21]; rfl) | rfl | (simp only [List.length_drop, List.length_take]; rfl)) ?_; (with_reducible refine (lexer_Lex.calls ((a0 ++ ((⟨#[61, 59, 60, 62, 40, 41, 123, 125, 91, 93, 44, 46, 58, 47, 45]⟩ : ByteArray).extract ((ji21) : Int).toNat ((wrap64 ((ji21) + 1)) : Int).toNat)) ++ t289) t290 t291 t292 _ A27.out).mono ?_); rintro e w40 ⟨v293, rfl, ho0, hb⟩; refine ⟨_, rfl, ?_⟩; have n0_ := Aside0.mk (Kd.R_lower ho0 (below_size (by repeat (first | (with_reducible first | exact HB.out | apply below_alloc | apply pw_below_drewN | apply below_drew1) | exact HB.out)))); have n1_ := Aside0.mk (below_step (by repeat (first | (with_reducible first | exact HB.out | apply below_alloc | apply pw_below_drewN | apply below_drew1) | exact HB.out)) hb); clear HB; have HO294 := n0_; have HB := n1_; clear n0_ n1_; (try clear hb); (try clear hb2); (try clear hk); (try clear hi); (try clear ho0); obtain ⟨Ao41, co41, eo41⟩ := Kd.R_slice HO294.out; subst eo41; have p295 : 0 ≤ (0 : Int) := (by omega); have q295 : 0 < (t290.length : Int) := of_decide_eq_true (by first | (with_reducible assumption) | assumption); obtain ⟨ad295, e295, hx295_0, hx295_1, hx295_2⟩ := at_T31 (Kd.R_reads' HO294.out).2.2 0 p295 q295; cases e295; have qi295 : (0 < t290.length) = True := eq_true (by omega); (try rw [show ((0 : Int)).toNat = 0 from rfl] at hx295_0); (try rw [show 0 * 3 = 0 from rfl] at hx295_0); (try rw [Addr.add_zero'] at hx295_0); (try rw [show ((0 : Int)).toNat = 0 from rfl] at hx295_1); (try rw [show 0 * 3 = 0 from rfl] at hx295_1); (try rw [Addr.add_zero'] at hx295_1); (try rw [show ((0 : Int)).toNat = 0 from rfl] at hx295_2); (try rw [show 0 * 3 = 0 from rfl] at hx295_2); (try rw [Addr.add_zero'] at hx295_2); replace p295 := eq_true p295; replace q295 := eq_true q295; have p296 : 0 ≤ (1 : Int) := (by omega); have q296 : 1 < (t290.length : Int) := of_decide_eq_true (by first | (with_reducible assumption) | assumption); obtain ⟨ad296, e296, hx296_0, hx296_1, hx296_2⟩ := at_T31 (Kd.R_reads' HO294.out).2.2 1 p296 q296; obtain rfl : ad295 = ad296 := (by injection e296); (try simp only [show (1 : Int).toNat = 1 from rfl, Nat.reduceMul, Nat.reduceEqDiff, Go.Addr.add, ↓reduceIte] at hx296_0); (try simp only [show (1 : Int).toNat = 1 from rfl, Nat.reduceMul, Nat.reduceEqDiff, Go.Addr.add, ↓reduceIte] at hx296_1); (try simp only [show (1 : Int).toNat = 1 from rfl, Nat.reduceMul, Nat.reduceEqDiff, Go.Addr.add, ↓reduceIte] at hx296_2); have qi296 : (1 < t290.length) = True := eq_true (by omega); (try rw [show ((1 : Int)).toNat = 1 from rfl] at hx296_0); (try rw [show 1 * 3 = 3 from rfl] at hx296_0); (try rw [show ((1 : Int)).toNat = 1 from rfl] at hx296_1); (try rw [show 1 * 3 = 3 from rfl] at hx296_1); (try rw [show ((1 : Int)).toNat = 1 from rfl] at hx296_2); (try rw [show 1 * 3 = 3 from rfl] at hx296_2); replace p296 := eq_true p296; replace q296 := eq_true q296))
                  go_ret
                  exact ⟨by first | rfl | (simp [errW_none, errW_some] <;> rfl) | (simp only [← hji21]; first | rfl | (simp [errW_none, errW_some] <;> rfl)) | (simp [*, errW_none, errW_some] <;> rfl), by repeat (first | (with_reducible first | exact HB.out | apply below_alloc | apply pw_below_drewN | apply below_drew1) | exact HB.out)⟩
                ·rw [if_neg c33] at H
                 exact absurd H (by simp)
               ·rw [if_neg c32] at H
                have c32b0 : (((rd_T31 t290 0).f0) == 1 && ((((rd_T31 t290 0).f1).toList) == a0.toList && (((rd_T31 t290 0).f2) == 0))) = false := by simpa using c32
                (try (have c32b1 : decide (((rd_T31 t290 0).f0) = 1 && ((((rd_T31 t290 0).f1).toList) == a0.toList && (((rd_T31 t290 0).f2) == 0))) = false := by simpa using c32))
                (try (have c32b2 : (((rd_T31 t290 0).f0) == 1 && ((((rd_T31 t290 0).f1).toList) == a0.toList && (((rd_T31 t290 0).f2) == 0))) = false := by simpa using c32))
                (try (have c32b3 : ¬ (((rd_T31 t290 0).f0) = 1 && ((((rd_T31 t290 0).f1).toList) == a0.toList && (((rd_T31 t290 0).f2) == 0))) := by simpa using c32))
                clear c32
                obtain rfl := Option.some.inj H
                go_wp2_with (first | ((with_reducible refine gate_callee (f := 15) rfl ?_); refine goesL_ (some 45) rfl rfl Try.func15 (by kernel_rfl) rfl #[.string a0] rfl (by (try simp only [List.map_toArray, List.map_cons, List.map_nil]); first | done | rfl | (simp only [List.length_drop, List.length_take]; rfl)) ?_; (with_reducible refine (lexer_Name.calls a0 t288 _ A16.out).mono ?_); rintro e w42 ⟨rfl, hb⟩; refine ⟨_, rfl, ?_⟩; have n0_ := Aside0.mk (below_step HB.out hb); clear HB; have HB := n0_; clear n0_; (try clear hb); (try clear hb2); (try clear hk); (try clear hi)) | ((with_reducible refine gate_callee (f := 23) rfl ?_); refine goesL_ (some 53) rfl rfl Try.func23 (by kernel_rfl) rfl #[.int .i64 (wrap64 (Int.tmod a1 10000000))] rfl (by (try simp only [List.map_toArray, List.map_cons, List.map_nil]); first | done | rfl | (simp only [List.length_drop, List.length_take]; rfl)) ?_; (with_reducible refine (planisphereref08_Decimal.calls kj7 (wrap64 (Int.tmod a1 10000000)) t289 _ A20.out).mono ?_); rintro e w' ⟨rfl, ⟨nd, rfl⟩⟩; refine ⟨_, rfl, ?_⟩) | ((with_reducible refine gate_callee (f := 12) rfl ?_); refine goesL_ (some 68) rfl rfl Try.func12 (by kernel_rfl) rfl #[.string ((a0 ++ ((⟨#[61, 59, 60, 62, 40, 41, 123, 125, 91, 93, 44, 46, 58, 47, 45]⟩ : ByteArray).extract ((ji21) : Int).toNat ((wrap64 ((ji21) + 1)) : Int).toNat)) ++ t289)] rfl (by (try simp only [List.map_toArray, List.map_cons, List.map_nil]); first | done | (simp only [hji21]; rfl) | rfl | (simp only [List.length_drop, List.length_take]; rfl)) ?_; (with_reducible refine (lexer_Lex.calls ((a0 ++ ((⟨#[61, 59, 60, 62, 40, 41, 123, 125, 91, 93, 44, 46, 58, 47, 45]⟩ : ByteArray).extract ((ji21) : Int).toNat ((wrap64 ((ji21) + 1)) : Int).toNat)) ++ t289) t290 t291 t292 _ A27.out).mono ?_); rintro e w43 ⟨v293, rfl, ho0, hb⟩; refine ⟨_, rfl, ?_⟩; have n0_ := Aside0.mk (Kd.R_lower ho0 (below_size (by repeat (first | (with_reducible first | exact HB.out | apply below_alloc | apply pw_below_drewN | apply below_drew1) | exact HB.out)))); have n1_ := Aside0.mk (below_step (by repeat (first | (with_reducible first | exact HB.out | apply below_alloc | apply pw_below_drewN | apply below_drew1) | exact HB.out)) hb); clear HB; have HO294 := n0_; have HB := n1_; clear n0_ n1_; (try clear hb); (try clear hb2); (try clear hk); (try clear hi); (try clear ho0); obtain ⟨Ao44, co44, eo44⟩ := Kd.R_slice HO294.out; subst eo44; have p295 : 0 ≤ (0 : Int) := (by omega); have q295 : 0 < (t290.length : Int) := of_decide_eq_true (by first | (with_reducible assumption) | assumption); obtain ⟨ad295, e295, hx295_0, hx295_1, hx295_2⟩ := at_T31 (Kd.R_reads' HO294.out).2.2 0 p295 q295; cases e295; have qi295 : (0 < t290.length) = True := eq_true (by omega); (try rw [show ((0 : Int)).toNat = 0 from rfl] at hx295_0); (try rw [show 0 * 3 = 0 from rfl] at hx295_0); (try rw [Addr.add_zero'] at hx295_0); (try rw [show ((0 : Int)).toNat = 0 from rfl] at hx295_1); (try rw [show 0 * 3 = 0 from rfl] at hx295_1); (try rw [Addr.add_zero'] at hx295_1); (try rw [show ((0 : Int)).toNat = 0 from rfl] at hx295_2); (try rw [show 0 * 3 = 0 from rfl] at hx295_2); (try rw [Addr.add_zero'] at hx295_2); replace p295 := eq_true p295; replace q295 := eq_true q295))
                go_ret
                exact ⟨by first | rfl | (simp [errW_none, errW_some] <;> rfl) | (simp only [← hji21]; first | rfl | (simp [errW_none, errW_some] <;> rfl)) | (simp [*, errW_none, errW_some] <;> rfl), by repeat (first | (with_reducible first | exact HB.out | apply below_alloc | apply pw_below_drewN | apply below_drew1) | exact HB.out)⟩
              ·rw [if_neg c31] at H
               exact absurd H (by simp)
             ·replace c30 := Bool.eq_false_iff.mpr c30
              subst c30
              have H1 : (some false) = some r := by rw [if_neg (show ¬ (false = true) by decide)] at H; exact H
              clear H
              have H := H1
              clear H1
              obtain rfl := Option.some.inj H
              go_wp2_with (first | ((with_reducible refine gate_callee (f := 15) rfl ?_); refine goesL_ (some 45) rfl rfl Try.func15 (by kernel_rfl) rfl #[.string a0] rfl (by (try simp only [List.map_toArray, List.map_cons, List.map_nil]); first | done | rfl | (simp only [List.length_drop, List.length_take]; rfl)) ?_; (with_reducible refine (lexer_Name.calls a0 t288 _ A16.out).mono ?_); rintro e w45 ⟨rfl, hb⟩; refine ⟨_, rfl, ?_⟩; have n0_ := Aside0.mk (below_step HB.out hb); clear HB; have HB := n0_; clear n0_; (try clear hb); (try clear hb2); (try clear hk); (try clear hi)) | ((with_reducible refine gate_callee (f := 23) rfl ?_); refine goesL_ (some 53) rfl rfl Try.func23 (by kernel_rfl) rfl #[.int .i64 (wrap64 (Int.tmod a1 10000000))] rfl (by (try simp only [List.map_toArray, List.map_cons, List.map_nil]); first | done | rfl | (simp only [List.length_drop, List.length_take]; rfl)) ?_; (with_reducible refine (planisphereref08_Decimal.calls kj7 (wrap64 (Int.tmod a1 10000000)) t289 _ A20.out).mono ?_); rintro e w' ⟨rfl, ⟨nd, rfl⟩⟩; refine ⟨_, rfl, ?_⟩) | ((with_reducible refine gate_callee (f := 12) rfl ?_); refine goesL_ (some 68) rfl rfl Try.func12 (by kernel_rfl) rfl #[.string ((a0 ++ ((⟨#[61, 59, 60, 62, 40, 41, 123, 125, 91, 93, 44, 46, 58, 47, 45]⟩ : ByteArray).extract ((ji21) : Int).toNat ((wrap64 ((ji21) + 1)) : Int).toNat)) ++ t289)] rfl (by (try simp only [List.map_toArray, List.map_cons, List.map_nil]); first | done | (simp only [hji21]; rfl) | rfl | (simp only [List.length_drop, List.length_take]; rfl)) ?_; (with_reducible refine (lexer_Lex.calls ((a0 ++ ((⟨#[61, 59, 60, 62, 40, 41, 123, 125, 91, 93, 44, 46, 58, 47, 45]⟩ : ByteArray).extract ((ji21) : Int).toNat ((wrap64 ((ji21) + 1)) : Int).toNat)) ++ t289) t290 t291 t292 _ A27.out).mono ?_); rintro e w46 ⟨v293, rfl, ho0, hb⟩; refine ⟨_, rfl, ?_⟩; have n0_ := Aside0.mk (Kd.R_lower ho0 (below_size (by repeat (first | (with_reducible first | exact HB.out | apply below_alloc | apply pw_below_drewN | apply below_drew1) | exact HB.out)))); have n1_ := Aside0.mk (below_step (by repeat (first | (with_reducible first | exact HB.out | apply below_alloc | apply pw_below_drewN | apply below_drew1) | exact HB.out)) hb); clear HB; have HO294 := n0_; have HB := n1_; clear n0_ n1_; (try clear hb); (try clear hb2); (try clear hk); (try clear hi); (try clear ho0); obtain ⟨Ao47, co47, eo47⟩ := Kd.R_slice HO294.out; subst eo47))
              go_ret
              exact ⟨by first | rfl | (simp [errW_none, errW_some] <;> rfl) | (simp only [← hji21]; first | rfl | (simp [errW_none, errW_some] <;> rfl)) | (simp [*, errW_none, errW_some] <;> rfl), by repeat (first | (with_reducible first | exact HB.out | apply below_alloc | apply pw_below_drewN | apply below_drew1) | exact HB.out)⟩
            ·rw [if_neg c29] at H
             have c29b0 : ((t290.length : Int) == 3) = false := beq_eq_false_iff_ne.mpr c29
             have c29b1 : ((t290.length : Int) != 3) = true := bne_iff_ne.mpr c29
             obtain rfl := Option.some.inj H
             go_wp2_with (first | ((with_reducible refine gate_callee (f := 15) rfl ?_); refine goesL_ (some 45) rfl rfl Try.func15 (by kernel_rfl) rfl #[.string a0] rfl (by (try simp only [List.map_toArray, List.map_cons, List.map_nil]); first | done | rfl | (simp only [List.length_drop, List.length_take]; rfl)) ?_; (with_reducible refine (lexer_Name.calls a0 t288 _ A16.out).mono ?_); rintro e w48 ⟨rfl, hb⟩; refine ⟨_, rfl, ?_⟩; have n0_ := Aside0.mk (below_step HB.out hb); clear HB; have HB := n0_; clear n0_; (try clear hb); (try clear hb2); (try clear hk); (try clear hi)) | ((with_reducible refine gate_callee (f := 23) rfl ?_); refine goesL_ (some 53) rfl rfl Try.func23 (by kernel_rfl) rfl #[.int .i64 (wrap64 (Int.tmod a1 10000000))] rfl (by (try simp only [List.map_toArray, List.map_cons, List.map_nil]); first | done | rfl | (simp only [List.length_drop, List.length_take]; rfl)) ?_; (with_reducible refine (planisphereref08_Decimal.calls kj7 (wrap64 (Int.tmod a1 10000000)) t289 _ A20.out).mono ?_); rintro e w' ⟨rfl, ⟨nd, rfl⟩⟩; refine ⟨_, rfl, ?_⟩) | ((with_reducible refine gate_callee (f := 12) rfl ?_); refine goesL_ (some 68) rfl rfl Try.func12 (by kernel_rfl) rfl #[.string ((a0 ++ ((⟨#[61, 59, 60, 62, 40, 41, 123, 125, 91, 93, 44, 46, 58, 47, 45]⟩ : ByteArray).extract ((ji21) : Int).toNat ((wrap64 ((ji21) + 1)) : Int).toNat)) ++ t289)] rfl (by (try simp only [List.map_toArray, List.map_cons, List.map_nil]); first | done | (simp only [hji21]; rfl) | rfl | (simp only [List.length_drop, List.length_take]; rfl)) ?_; (with_reducible refine (lexer_Lex.calls ((a0 ++ ((⟨#[61, 59, 60, 62, 40, 41, 123, 125, 91, 93, 44, 46, 58, 47, 45]⟩ : ByteArray).extract ((ji21) : Int).toNat ((wrap64 ((ji21) + 1)) : Int).toNat)) ++ t289) t290 t291 t292 _ A27.out).mono ?_); rintro e w49 ⟨v293, rfl, ho0, hb⟩; refine ⟨_, rfl, ?_⟩; have n0_ := Aside0.mk (Kd.R_lower ho0 (below_size (by repeat (first | (with_reducible first | exact HB.out | apply below_alloc | apply pw_below_drewN | apply below_drew1) | exact HB.out)))); have n1_ := Aside0.mk (below_step (by repeat (first | (with_reducible first | exact HB.out | apply below_alloc | apply pw_below_drewN | apply below_drew1) | exact HB.out)) hb); clear HB; have HO294 := n0_; have HB := n1_; clear n0_ n1_; (try clear hb); (try clear hb2); (try clear hk); (try clear hi); (try clear ho0); obtain ⟨Ao50, co50, eo50⟩ := Kd.R_slice HO294.out; subst eo50))
             go_ret
             exact ⟨by first | rfl | (simp [errW_none, errW_some] <;> rfl) | (simp only [← hji21]; first | rfl | (simp [errW_none, errW_some] <;> rfl)) | (simp [*, errW_none, errW_some] <;> rfl), by repeat (first | (with_reducible first | exact HB.out | apply below_alloc | apply pw_below_drewN | apply below_drew1) | exact HB.out)⟩
           ·rw [if_neg c28] at H
            have c28b0 : (t291 == 0) = false := beq_eq_false_iff_ne.mpr c28
            have c28b1 : (t291 != 0) = true := bne_iff_ne.mpr c28
            obtain rfl := Option.some.inj H
            go_wp2_with (first | ((with_reducible refine gate_callee (f := 15) rfl ?_); refine goesL_ (some 45) rfl rfl Try.func15 (by kernel_rfl) rfl #[.string a0] rfl (by (try simp only [List.map_toArray, List.map_cons, List.map_nil]); first | done | rfl | (simp only [List.length_drop, List.length_take]; rfl)) ?_; (with_reducible refine (lexer_Name.calls a0 t288 _ A16.out).mono ?_); rintro e w51 ⟨rfl, hb⟩; refine ⟨_, rfl, ?_⟩; have n0_ := Aside0.mk (below_step HB.out hb); clear HB; have HB := n0_; clear n0_; (try clear hb); (try clear hb2); (try clear hk); (try clear hi)) | ((with_reducible refine gate_callee (f := 23) rfl ?_); refine goesL_ (some 53) rfl rfl Try.func23 (by kernel_rfl) rfl #[.int .i64 (wrap64 (Int.tmod a1 10000000))] rfl (by (try simp only [List.map_toArray, List.map_cons, List.map_nil]); first | done | rfl | (simp only [List.length_drop, List.length_take]; rfl)) ?_; (with_reducible refine (planisphereref08_Decimal.calls kj7 (wrap64 (Int.tmod a1 10000000)) t289 _ A20.out).mono ?_); rintro e w' ⟨rfl, ⟨nd, rfl⟩⟩; refine ⟨_, rfl, ?_⟩) | ((with_reducible refine gate_callee (f := 12) rfl ?_); refine goesL_ (some 68) rfl rfl Try.func12 (by kernel_rfl) rfl #[.string ((a0 ++ ((⟨#[61, 59, 60, 62, 40, 41, 123, 125, 91, 93, 44, 46, 58, 47, 45]⟩ : ByteArray).extract ((ji21) : Int).toNat ((wrap64 ((ji21) + 1)) : Int).toNat)) ++ t289)] rfl (by (try simp only [List.map_toArray, List.map_cons, List.map_nil]); first | done | (simp only [hji21]; rfl) | rfl | (simp only [List.length_drop, List.length_take]; rfl)) ?_; (with_reducible refine (lexer_Lex.calls ((a0 ++ ((⟨#[61, 59, 60, 62, 40, 41, 123, 125, 91, 93, 44, 46, 58, 47, 45]⟩ : ByteArray).extract ((ji21) : Int).toNat ((wrap64 ((ji21) + 1)) : Int).toNat)) ++ t289) t290 t291 t292 _ A27.out).mono ?_); rintro e w52 ⟨v293, rfl, ho0, hb⟩; refine ⟨_, rfl, ?_⟩; have n0_ := Aside0.mk (Kd.R_lower ho0 (below_size (by repeat (first | (with_reducible first | exact HB.out | apply below_alloc | apply pw_below_drewN | apply below_drew1) | exact HB.out)))); have n1_ := Aside0.mk (below_step (by repeat (first | (with_reducible first | exact HB.out | apply below_alloc | apply pw_below_drewN | apply below_drew1) | exact HB.out)) hb); clear HB; have HO294 := n0_; have HB := n1_; clear n0_ n1_; (try clear hb); (try clear hb2); (try clear hk); (try clear hi); (try clear ho0)))
            go_ret
            exact ⟨by first | rfl | (simp [errW_none, errW_some] <;> rfl) | (simp only [← hji21]; first | rfl | (simp [errW_none, errW_some] <;> rfl)) | (simp [*, errW_none, errW_some] <;> rfl), by repeat (first | (with_reducible first | exact HB.out | apply below_alloc | apply pw_below_drewN | apply below_drew1) | exact HB.out)⟩
          ·rw [if_neg c26] at H
           exact absurd H (by simp)
         ·rw [if_neg c25] at H
          exact absurd H (by simp)
        ·rw [if_neg c24] at H
         exact absurd H (by simp)
       ·rw [if_neg c23] at H
        exact absurd H (by simp)
      ·rw [if_neg c22] at H
       exact absurd H (by simp)
     ·replace c19 := Bool.eq_false_iff.mpr c19
      subst c19
      have H1 : (some t281) = some r := by rw [if_neg (show ¬ (false = true) by decide)] at H; exact H
      clear H
      have H := H1
      clear H1
      obtain rfl := Option.some.inj H
      go_wp2_with (first | ((with_reducible refine gate_callee (f := 15) rfl ?_); refine goesL_ (some 45) rfl rfl Try.func15 (by kernel_rfl) rfl #[.string a0] rfl (by (try simp only [List.map_toArray, List.map_cons, List.map_nil]); first | done | rfl | (simp only [List.length_drop, List.length_take]; rfl)) ?_; (with_reducible refine (lexer_Name.calls a0 t288 _ A16.out).mono ?_); rintro e w53 ⟨rfl, hb⟩; refine ⟨_, rfl, ?_⟩; have n0_ := Aside0.mk (below_step HB.out hb); clear HB; have HB := n0_; clear n0_; (try clear hb); (try clear hb2); (try clear hk); (try clear hi)))
      go_ret
      exact ⟨by first | rfl | (simp [errW_none, errW_some] <;> rfl) | (simp [*, errW_none, errW_some] <;> rfl), by repeat (first | (with_reducible first | exact HB.out | apply below_alloc | apply pw_below_drewN | apply below_drew1) | exact HB.out)⟩

/-- THE ONE PURE STATEMENT of planispherelaw08_LexerNames: yours. -/
def planispherelaw08_LexerNames.Pure : Prop := ∀ (a0 : ByteArray) (a1 : Int) (a2 : Int), a0.size ≤ 140737488351232 → (Lit.int .u64 a1).wf = true → (Lit.int .u8 a2).wf = true → ∃ k, planispherelaw08_LexerNames.f k a0 a1 a2 = some true
theorem planispherelaw08_LexerNames.walk (P : planispherelaw08_LexerNames.Pure) (a0 : ByteArray) (a1 : Int) (a2 : Int) (w : World) (w0 : a0.size ≤ 140737488351232) (w1 : (Lit.int .u64 a1).wf = true) (w2 : (Lit.int .u8 a2).wf = true) :
    Calls Try.prog 10 #[.string a0, .int .u64 a1, .int .u8 a2] w fun e w' => e = .returned (.bool true) ∧ Below w.heap.size w w' := by
  obtain ⟨k, h⟩ := P a0 a1 a2 w0 w1 w2
  refine (planispherelaw08_LexerNames.calls k a0 a1 a2 true w h).mono ?_
  rintro e w' ⟨rfl, hd⟩
  exact ⟨rfl, hd⟩

end Go.Proofs.Ytflocikkhpjicaa.P
