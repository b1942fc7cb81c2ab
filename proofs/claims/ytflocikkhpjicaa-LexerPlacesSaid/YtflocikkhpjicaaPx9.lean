-- printed for this claim by xprint.py (the seat's own program)
import Derived.Test.YtflocikkhpjicaaPx0
import Derived.Test.YtflocikkhpjicaaPx2
import Derived.Test.YtflocikkhpjicaaPx3
import Derived.Test.YtflocikkhpjicaaPx8
namespace Go.Proofs.Ytflocikkhpjicaa.P
open Go.RowKit Go.Proofs.YtflocikkhpjicaaW.PrintWords Go.Proofs.YtflocikkhpjicaaW.PrintLast Go.Proofs.YtflocikkhpjicaaW.PrintMore
attribute [local go_sem] max2_int min2_int max_two min_two max_three min_three max_four min_four   -- for this text's walks alone
set_option linter.unusedVariables false
set_option linter.unusedSimpArgs false

/-! ### planispherelaw08_LexerPlaces: function 4 -/
def planispherelaw08_LexerPlaces.l0 : Nat → ByteArray → Bool → List (S31) → Int → Int → Int → Option (Bool)
  | 0, _, _, _, _, _, _ => none
  | k + 1, x0, x3, x4, x6, x7, x8 => if x8 < (x4.length : Int) then (if 0 ≤ x8 then (if ((rd_T31 x4 x8).f0) = 3 then ((lexer_Quote.f ((rd_T31 x4 x8).f1)).bind fun t188 => (if ((rd_T31 x4 x8).f2) < x7 then (some false) else (if (t188.size : Int) = 0 then (some false) else (if (wrap64 (((rd_T31 x4 x8).f2) + (t188.size : Int))) > (x0.size : Int) then (some false) else (if 0 ≤ ((rd_T31 x4 x8).f2) then (if ((rd_T31 x4 x8).f2) ≤ (wrap64 (((rd_T31 x4 x8).f2) + (t188.size : Int))) then (if (wrap64 (((rd_T31 x4 x8).f2) + (t188.size : Int))) ≤ (x0.size : Int) then (if (x0.extract (((rd_T31 x4 x8).f2) : Int).toNat ((wrap64 (((rd_T31 x4 x8).f2) + (t188.size : Int))) : Int).toNat).toList = t188.toList then (if 0 ≤ x7 then (if x7 ≤ ((rd_T31 x4 x8).f2) then (if ((rd_T31 x4 x8).f2) ≤ (x0.size : Int) then ((planisphereref08_Gaps.f k (x0.extract (x7 : Int).toNat (((rd_T31 x4 x8).f2) : Int).toNat)).bind fun t189 => (if t189 = true then (planispherelaw08_LexerPlaces.l0 k x0 x3 x4 x6 (wrap64 (((rd_T31 x4 x8).f2) + (t188.size : Int))) (wrap64 (x8 + 1))) else (some false))) else (none)) else (none)) else (none)) else (some false)) else (none)) else (none)) else (none)))))) else (if ((rd_T31 x4 x8).f2) < x7 then (some false) else (if (((rd_T31 x4 x8).f1).size : Int) = 0 then (some false) else (if (wrap64 (((rd_T31 x4 x8).f2) + (((rd_T31 x4 x8).f1).size : Int))) > (x0.size : Int) then (some false) else (if 0 ≤ ((rd_T31 x4 x8).f2) then (if ((rd_T31 x4 x8).f2) ≤ (wrap64 (((rd_T31 x4 x8).f2) + (((rd_T31 x4 x8).f1).size : Int))) then (if (wrap64 (((rd_T31 x4 x8).f2) + (((rd_T31 x4 x8).f1).size : Int))) ≤ (x0.size : Int) then (if (x0.extract (((rd_T31 x4 x8).f2) : Int).toNat ((wrap64 (((rd_T31 x4 x8).f2) + (((rd_T31 x4 x8).f1).size : Int))) : Int).toNat).toList = ((rd_T31 x4 x8).f1).toList then (if 0 ≤ x7 then (if x7 ≤ ((rd_T31 x4 x8).f2) then (if ((rd_T31 x4 x8).f2) ≤ (x0.size : Int) then ((planisphereref08_Gaps.f k (x0.extract (x7 : Int).toNat (((rd_T31 x4 x8).f2) : Int).toNat)).bind fun t190 => (if t190 = true then (planispherelaw08_LexerPlaces.l0 k x0 x3 x4 x6 (wrap64 (((rd_T31 x4 x8).f2) + (((rd_T31 x4 x8).f1).size : Int))) (wrap64 (x8 + 1))) else (some false))) else (none)) else (none)) else (none)) else (some false)) else (none)) else (none)) else (none)))))) else (none)) else (if x3 = true then (if x6 = 0 then (if 0 ≤ x7 then (if x7 ≤ (x0.size : Int) then ((planisphereref08_Gaps.f k (x0.extract (x7 : Int).toNat x0.size)).bind fun t184 => (some t184)) else (none)) else (none)) else (some false)) else (some false))
def planispherelaw08_LexerPlaces.f (k : Nat) (a0 : ByteArray) : Option (Bool) := (planispherelaw08_head.f k).bind fun t178 => (if (a0.size : Int) > 3000 then (some t178) else ((lexer_Lex.f a0).bind fun bt179 => (if bt179.2.1 = 0 then (planispherelaw08_LexerPlaces.l0 k a0 t178 bt179.1 bt179.2.2 0 0) else (if t178 = true then (if (bt179.1.length : Int) = 0 then (if bt179.2.2 ≥ 0 then (some (decide (bt179.2.2 < (a0.size : Int)))) else (some false)) else (some false)) else (some false)))))
theorem planispherelaw08_LexerPlaces.mono_l : ∀ k, (∀ y0 y1 y2 y3 y4 y5, LeO (planispherelaw08_LexerPlaces.l0 k y0 y1 y2 y3 y4 y5) (planispherelaw08_LexerPlaces.l0 (k + 1) y0 y1 y2 y3 y4 y5))
  | 0 => fun _ _ _ _ _ _ r h => by simp [planispherelaw08_LexerPlaces.l0] at h
  | k + 1 => by
    have ih0 := planispherelaw08_LexerPlaces.mono_l k
    · intro y0 y1 y2 y3 y4 y5
      unfold planispherelaw08_LexerPlaces.l0
      repeat' first
      | (with_reducible exact ih0 _ _ _ _ _ _)
      | (with_reducible exact planispherelaw08_head.mono _)
      | (with_reducible exact planisphereref08_Gaps.mono _ _)
      | (with_reducible exact LeO.refl _)
      | (with_reducible exact LeO.none _)
      | (with_reducible refine LeO.ite ?_ ?_)
      | (with_reducible refine LeO.bind ?_ (fun _ => ?_))
      | exact ih0 _ _ _ _ _ _
      | exact planispherelaw08_head.mono _
      | exact planisphereref08_Gaps.mono _ _
      | exact LeO.none _
      | refine LeO.ite ?_ ?_
      | refine LeO.bind ?_ (fun _ => ?_)
theorem planispherelaw08_LexerPlaces.mono : ∀ a0 k, LeO (planispherelaw08_LexerPlaces.f k a0) (planispherelaw08_LexerPlaces.f (k + 1) a0) := by
  intro a0 k
  have ih0 := planispherelaw08_LexerPlaces.mono_l k
  unfold planispherelaw08_LexerPlaces.f
  repeat' first
      | (with_reducible exact ih0 _ _ _ _ _ _)
      | (with_reducible exact planispherelaw08_head.mono _)
      | (with_reducible exact planisphereref08_Gaps.mono _ _)
      | (with_reducible exact LeO.refl _)
      | (with_reducible exact LeO.none _)
      | (with_reducible refine LeO.ite ?_ ?_)
      | (with_reducible refine LeO.bind ?_ (fun _ => ?_))
      | exact ih0 _ _ _ _ _ _
      | exact planispherelaw08_head.mono _
      | exact planisphereref08_Gaps.mono _ _
      | exact LeO.none _
      | refine LeO.ite ?_ ?_
      | refine LeO.bind ?_ (fun _ => ?_)
set_option maxHeartbeats 8000000 in
set_option maxRecDepth 100000 in
theorem planispherelaw08_LexerPlaces.calls (k : Nat) (a0 : ByteArray) (r : Bool) (w : World) (h : planispherelaw08_LexerPlaces.f k a0 = some r) :
    Calls Try.prog 4 #[.string a0] w fun e w' => e = .returned (.bool r) ∧ Below w.heap.size w w' := by
 have HB := Aside0.mk (Below.refl w.heap.size w)
 have H : ((planispherelaw08_head.f k).bind fun t178 => (if (a0.size : Int) > 3000 then (some t178) else ((lexer_Lex.f a0).bind fun bt179 => (if bt179.2.1 = 0 then (planispherelaw08_LexerPlaces.l0 k a0 t178 bt179.1 bt179.2.2 0 0) else (if t178 = true then (if (bt179.1.length : Int) = 0 then (if bt179.2.2 ≥ 0 then (some (decide (bt179.2.2 < (a0.size : Int)))) else (some false)) else (some false)) else (some false)))))) = some r := h
 clear h
 replace H := Option.bind_eq_some_iff.mp H
 obtain ⟨t178, A20, H⟩ := H
 replace H : (if (a0.size : Int) > 3000 then (some t178) else ((lexer_Lex.f a0).bind fun bt179 => (if bt179.2.1 = 0 then (planispherelaw08_LexerPlaces.l0 k a0 t178 bt179.1 bt179.2.2 0 0) else (if t178 = true then (if (bt179.1.length : Int) = 0 then (if bt179.2.2 ≥ 0 then (some (decide (bt179.2.2 < (a0.size : Int)))) else (some false)) else (some false)) else (some false))))) = some r := H
 have A2 := Aside0.mk A20
 clear A20
 by_cases c3 : (a0.size : Int) > 3000
 ·rw [if_pos c3] at H
  have c3b0 : decide (3000 < (a0.size : Int)) = true := decide_eq_true c3
  have c3b1 : decide (3000 < a0.size) = true := decide_eq_true (by omega)
  clear c3
  obtain rfl := Option.some.inj H
  go_enter Try.func4, Try.ntmps4
  go_wp2_with (first | ((with_reducible refine gate_callee (f := 11) rfl ?_); refine goesL_ (some 11) rfl rfl Try.func11 (by kernel_rfl) rfl #[] rfl (by (try simp only [List.map_toArray, List.map_cons, List.map_nil]); first | done | rfl | (simp only [List.length_drop, List.length_take]; rfl)) ?_; (with_reducible refine (planispherelaw08_head.calls k  t178 _ A2.out).mono ?_); rintro e w4 ⟨rfl, hb⟩; refine ⟨_, rfl, ?_⟩; have n0_ := Aside0.mk (below_step HB.out hb); clear HB; have HB := n0_; clear n0_; (try clear hb); (try clear hb2); (try clear hk); (try clear hi)))
  go_ret
  exact ⟨by first | rfl | (simp [errW_none, errW_some] <;> rfl) | (simp [*, errW_none, errW_some] <;> rfl), by repeat (first | (with_reducible first | exact HB.out | apply below_alloc | apply pw_below_drewN | apply below_drew1) | exact HB.out)⟩
 ·rw [if_neg c3] at H
  have c3b0 : decide (3000 < (a0.size : Int)) = false := decide_eq_false c3
  have c3b1 : decide (3000 < a0.size) = false := decide_eq_false (by omega)
  clear c3
  replace H := Option.bind_eq_some_iff.mp H
  obtain ⟨⟨t179, t180, t181⟩, A50, H⟩ := H
  replace H : (if t180 = 0 then (planispherelaw08_LexerPlaces.l0 k a0 t178 t179 t181 0 0) else (if t178 = true then (if (t179.length : Int) = 0 then (if t181 ≥ 0 then (some (decide (t181 < (a0.size : Int)))) else (some false)) else (some false)) else (some false))) = some r := H
  have A5 := Aside0.mk A50
  clear A50
  by_cases c6 : t180 = 0
  ·rw [if_pos c6] at H
   have c6b0 : (t180 == 0) = true := beq_iff_eq.mpr c6
   have c6b1 : (t180 != 0) = false := bne_eq_false_iff_eq.mpr c6
   clear c6
   have H' := Aside0.mk H
   clear H
   go_enter Try.func4, Try.ntmps4
   go_wp2_with (first | ((with_reducible refine gate_callee (f := 11) rfl ?_); refine goesL_ (some 11) rfl rfl Try.func11 (by kernel_rfl) rfl #[] rfl (by (try simp only [List.map_toArray, List.map_cons, List.map_nil]); first | done | rfl | (simp only [List.length_drop, List.length_take]; rfl)) ?_; (with_reducible refine (planispherelaw08_head.calls k  t178 _ A2.out).mono ?_); rintro e w7 ⟨rfl, hb⟩; refine ⟨_, rfl, ?_⟩; have n0_ := Aside0.mk (below_step HB.out hb); clear HB; have HB := n0_; clear n0_; (try clear hb); (try clear hb2); (try clear hk); (try clear hi)) | ((with_reducible refine gate_callee (f := 12) rfl ?_); refine goesL_ (some 18) rfl rfl Try.func12 (by kernel_rfl) rfl #[.string a0] rfl (by (try simp only [List.map_toArray, List.map_cons, List.map_nil]); first | done | rfl | (simp only [List.length_drop, List.length_take]; rfl)) ?_; (with_reducible refine (lexer_Lex.calls a0 t179 t180 t181 _ A5.out).mono ?_); rintro e w8 ⟨v182, rfl, ho0, hb⟩; refine ⟨_, rfl, ?_⟩; have n0_ := Aside0.mk (Kd.R_lower ho0 (below_size HB.out)); have n1_ := Aside0.mk (below_step HB.out hb); clear HB; have HO183 := n0_; have HB := n1_; clear n0_ n1_; (try clear hb); (try clear hb2); (try clear hk); (try clear hi); (try clear ho0)))
   try simp only [Act.put, List.setIfInBounds_toArray, List.set_cons_succ, List.set_cons_zero]
   go_loopg [7, 8] k (fun kq v7 v8 w' => ∃ (x7_1 : Int) (x8_1 : Int), v7 = .int .i64 x7_1 ∧ v8 = .int .i64 x8_1 ∧ Aside0 (planispherelaw08_LexerPlaces.l0 kq a0 t178 t179 t181 x7_1 x8_1 = some r) ∧ Aside0 (kq ≤ k) ∧ Aside0 (Kd.R k31 31 w' w.heap.size (fun _ => True) v182 t179) ∧ Aside0 (Below w.heap.size w w'))
   case atStart => exact ⟨(0), (0), (by first | rfl | (simp; done) | (simp [*]; done)), (by first | rfl | (simp; done) | (simp [*]; done)), H', ⟨Nat.le_refl _⟩, ⟨by (with_reducible repeat (first | apply Kd.R_alloc | apply Kd.R_drewN | apply Kd.R_drew)); exact HO183.out⟩, ⟨by repeat (first | (with_reducible first | exact HB.out | apply below_alloc | apply pw_below_drewN | apply below_drew1) | exact HB.out)⟩⟩
   case round =>
    clear H'
    try clear c1
    try clear p2
    try clear c3
    try clear c3b0
    try clear c3b1
    try clear c4
    try clear c6
    try clear c6b0
    try clear c6b1
    obtain ⟨x7_1, x8_1, rfl, rfl, HA, HK1, HO_4, HB⟩ := hrel
    cases gk with
    | zero => exact absurd HA.out (by simp [planispherelaw08_LexerPlaces.l0])
    | succ k1 =>
     have H := HA.out
     clear HA
     simp only [planispherelaw08_LexerPlaces.l0] at H
     by_cases c9 : x8_1 < (t179.length : Int)
     ·rw [if_pos c9] at H
      have c9b0 : decide (x8_1 < (t179.length : Int)) = true := decide_eq_true c9
      clear c9
      by_cases c10 : 0 ≤ x8_1
      ·rw [if_pos c10] at H
       have c10b0 : decide (0 ≤ x8_1) = true := decide_eq_true c10
       clear c10
       by_cases c11 : ((rd_T31 t179 x8_1).f0) = 3
       ·rw [if_pos c11] at H
        have c11b0 : (((rd_T31 t179 x8_1).f0) == 3) = true := beq_iff_eq.mpr c11
        have c11b1 : (((rd_T31 t179 x8_1).f0) != 3) = false := bne_eq_false_iff_eq.mpr c11
        clear c11
        replace H := Option.bind_eq_some_iff.mp H
        obtain ⟨t188, A120, H⟩ := H
        replace H : (if ((rd_T31 t179 x8_1).f2) < x7_1 then (some false) else (if (t188.size : Int) = 0 then (some false) else (if (wrap64 (((rd_T31 t179 x8_1).f2) + (t188.size : Int))) > (a0.size : Int) then (some false) else (if 0 ≤ ((rd_T31 t179 x8_1).f2) then (if ((rd_T31 t179 x8_1).f2) ≤ (wrap64 (((rd_T31 t179 x8_1).f2) + (t188.size : Int))) then (if (wrap64 (((rd_T31 t179 x8_1).f2) + (t188.size : Int))) ≤ (a0.size : Int) then (if (a0.extract (((rd_T31 t179 x8_1).f2) : Int).toNat ((wrap64 (((rd_T31 t179 x8_1).f2) + (t188.size : Int))) : Int).toNat).toList = t188.toList then (if 0 ≤ x7_1 then (if x7_1 ≤ ((rd_T31 t179 x8_1).f2) then (if ((rd_T31 t179 x8_1).f2) ≤ (a0.size : Int) then ((planisphereref08_Gaps.f k1 (a0.extract (x7_1 : Int).toNat (((rd_T31 t179 x8_1).f2) : Int).toNat)).bind fun t189 => (if t189 = true then (planispherelaw08_LexerPlaces.l0 k1 a0 t178 t179 t181 (wrap64 (((rd_T31 t179 x8_1).f2) + (t188.size : Int))) (wrap64 (x8_1 + 1))) else (some false))) else (none)) else (none)) else (none)) else (some false)) else (none)) else (none)) else (none))))) = some r := H
        have A12 := Aside0.mk A120
        clear A120
        by_cases c13 : ((rd_T31 t179 x8_1).f2) < x7_1
        ·rw [if_pos c13] at H
         have c13b0 : decide (((rd_T31 t179 x8_1).f2) < x7_1) = true := decide_eq_true c13
         clear c13
         obtain rfl := Option.some.inj H
         obtain ⟨Ao14, co14, eo14⟩ := Kd.R_slice HO_4.out
         subst eo14
         have p185 : 0 ≤ (x8_1 : Int) := of_decide_eq_true (by first | (with_reducible assumption) | assumption)
         have q185 : x8_1 < (t179.length : Int) := of_decide_eq_true (by first | (with_reducible assumption) | assumption)
         obtain ⟨ad185, e185, hx185_0, hx185_1, hx185_2⟩ := at_T31 (Kd.R_reads' HO_4.out).2.2 x8_1 p185 q185
         cases e185
         replace p185 := eq_true p185
         replace q185 := eq_true q185
         have p186 : 0 ≤ (x8_1 : Int) := of_decide_eq_true (by first | (with_reducible assumption) | assumption)
         have q186 : x8_1 < (t179.length : Int) := of_decide_eq_true (by first | (with_reducible assumption) | assumption)
         obtain ⟨ad186, e186, hx186_0, hx186_1, hx186_2⟩ := at_T31 (Kd.R_reads' HO_4.out).2.2 x8_1 p186 q186
         obtain rfl : ad185 = ad186 := (by injection e186)
         replace p186 := eq_true p186
         replace q186 := eq_true q186
         have p187 : 0 ≤ (x8_1 : Int) := of_decide_eq_true (by first | (with_reducible assumption) | assumption)
         have q187 : x8_1 < (t179.length : Int) := of_decide_eq_true (by first | (with_reducible assumption) | assumption)
         obtain ⟨ad187, e187, hx187_0, hx187_1, hx187_2⟩ := at_T31 (Kd.R_reads' HO_4.out).2.2 x8_1 p187 q187
         obtain rfl : ad185 = ad187 := (by injection e187)
         replace p187 := eq_true p187
         replace q187 := eq_true q187
         go_wp2_with (first | ((with_reducible refine gate_callee (f := 17) rfl ?_); refine goesL_ (some 63) rfl rfl Try.func17 (by kernel_rfl) rfl #[.string ((rd_T31 t179 x8_1).f1)] rfl (by (try simp only [List.map_toArray, List.map_cons, List.map_nil]); first | done | rfl | (simp only [List.length_drop, List.length_take]; rfl)) ?_; (with_reducible refine (lexer_Quote.calls ((rd_T31 t179 x8_1).f1) t188 _ A12.out).mono ?_); rintro e w15 ⟨rfl, hb⟩; refine ⟨_, rfl, ?_⟩; have n0_ := Aside0.mk (Kd.R_below HO_4.out hb); have n1_ := Aside0.mk (below_step HB.out hb); clear HO_4; clear HB; have HO_4 := n0_; have HB := n1_; clear n0_ n1_; (try clear hb); (try clear hb2); (try clear hk); (try clear hi)))
         go_ret
         exact ⟨by first | rfl | (simp [errW_none, errW_some] <;> rfl) | (simp [*, errW_none, errW_some] <;> rfl), by repeat (first | (with_reducible first | exact HB.out | apply below_alloc | apply pw_below_drewN | apply below_drew1) | exact HB.out)⟩
        ·rw [if_neg c13] at H
         have c13b0 : decide (((rd_T31 t179 x8_1).f2) < x7_1) = false := decide_eq_false c13
         clear c13
         by_cases c16 : (t188.size : Int) = 0
         ·rw [if_pos c16] at H
          have c16b0 : ((t188.size : Int) == 0) = true := beq_iff_eq.mpr c16
          have c16b1 : ((t188.size : Int) != 0) = false := bne_eq_false_iff_eq.mpr c16
          clear c16
          obtain rfl := Option.some.inj H
          obtain ⟨Ao17, co17, eo17⟩ := Kd.R_slice HO_4.out
          subst eo17
          have p185 : 0 ≤ (x8_1 : Int) := of_decide_eq_true (by first | (with_reducible assumption) | assumption)
          have q185 : x8_1 < (t179.length : Int) := of_decide_eq_true (by first | (with_reducible assumption) | assumption)
          obtain ⟨ad185, e185, hx185_0, hx185_1, hx185_2⟩ := at_T31 (Kd.R_reads' HO_4.out).2.2 x8_1 p185 q185
          cases e185
          replace p185 := eq_true p185
          replace q185 := eq_true q185
          have p186 : 0 ≤ (x8_1 : Int) := of_decide_eq_true (by first | (with_reducible assumption) | assumption)
          have q186 : x8_1 < (t179.length : Int) := of_decide_eq_true (by first | (with_reducible assumption) | assumption)
          obtain ⟨ad186, e186, hx186_0, hx186_1, hx186_2⟩ := at_T31 (Kd.R_reads' HO_4.out).2.2 x8_1 p186 q186
          obtain rfl : ad185 = ad186 := (by injection e186)
          replace p186 := eq_true p186
          replace q186 := eq_true q186
          have p187 : 0 ≤ (x8_1 : Int) := of_decide_eq_true (by first | (with_reducible assumption) | assumption)
          have q187 : x8_1 < (t179.length : Int) := of_decide_eq_true (by first | (with_reducible assumption) | assumption)
          obtain ⟨ad187, e187, hx187_0, hx187_1, hx187_2⟩ := at_T31 (Kd.R_reads' HO_4.out).2.2 x8_1 p187 q187
          obtain rfl : ad185 = ad187 := (by injection e187)
          replace p187 := eq_true p187
          replace q187 := eq_true q187
          go_wp2_with (first | ((with_reducible refine gate_callee (f := 17) rfl ?_); refine goesL_ (some 63) rfl rfl Try.func17 (by kernel_rfl) rfl #[.string ((rd_T31 t179 x8_1).f1)] rfl (by (try simp only [List.map_toArray, List.map_cons, List.map_nil]); first | done | rfl | (simp only [List.length_drop, List.length_take]; rfl)) ?_; (with_reducible refine (lexer_Quote.calls ((rd_T31 t179 x8_1).f1) t188 _ A12.out).mono ?_); rintro e w18 ⟨rfl, hb⟩; refine ⟨_, rfl, ?_⟩; have n0_ := Aside0.mk (Kd.R_below HO_4.out hb); have n1_ := Aside0.mk (below_step HB.out hb); clear HO_4; clear HB; have HO_4 := n0_; have HB := n1_; clear n0_ n1_; (try clear hb); (try clear hb2); (try clear hk); (try clear hi)))
          go_ret
          exact ⟨by first | rfl | (simp [errW_none, errW_some] <;> rfl) | (simp [*, errW_none, errW_some] <;> rfl), by repeat (first | (with_reducible first | exact HB.out | apply below_alloc | apply pw_below_drewN | apply below_drew1) | exact HB.out)⟩
         ·rw [if_neg c16] at H
          have c16b0 : ((t188.size : Int) == 0) = false := beq_eq_false_iff_ne.mpr c16
          have c16b1 : ((t188.size : Int) != 0) = true := bne_iff_ne.mpr c16
          by_cases c19 : (wrap64 (((rd_T31 t179 x8_1).f2) + (t188.size : Int))) > (a0.size : Int)
          ·rw [if_pos c19] at H
           have c19b0 : decide ((a0.size : Int) < (wrap64 (((rd_T31 t179 x8_1).f2) + (t188.size : Int)))) = true := decide_eq_true c19
           clear c19
           obtain rfl := Option.some.inj H
           obtain ⟨Ao20, co20, eo20⟩ := Kd.R_slice HO_4.out
           subst eo20
           have p185 : 0 ≤ (x8_1 : Int) := of_decide_eq_true (by first | (with_reducible assumption) | assumption)
           have q185 : x8_1 < (t179.length : Int) := of_decide_eq_true (by first | (with_reducible assumption) | assumption)
           obtain ⟨ad185, e185, hx185_0, hx185_1, hx185_2⟩ := at_T31 (Kd.R_reads' HO_4.out).2.2 x8_1 p185 q185
           cases e185
           replace p185 := eq_true p185
           replace q185 := eq_true q185
           have p186 : 0 ≤ (x8_1 : Int) := of_decide_eq_true (by first | (with_reducible assumption) | assumption)
           have q186 : x8_1 < (t179.length : Int) := of_decide_eq_true (by first | (with_reducible assumption) | assumption)
           obtain ⟨ad186, e186, hx186_0, hx186_1, hx186_2⟩ := at_T31 (Kd.R_reads' HO_4.out).2.2 x8_1 p186 q186
           obtain rfl : ad185 = ad186 := (by injection e186)
           replace p186 := eq_true p186
           replace q186 := eq_true q186
           have p187 : 0 ≤ (x8_1 : Int) := of_decide_eq_true (by first | (with_reducible assumption) | assumption)
           have q187 : x8_1 < (t179.length : Int) := of_decide_eq_true (by first | (with_reducible assumption) | assumption)
           obtain ⟨ad187, e187, hx187_0, hx187_1, hx187_2⟩ := at_T31 (Kd.R_reads' HO_4.out).2.2 x8_1 p187 q187
           obtain rfl : ad185 = ad187 := (by injection e187)
           replace p187 := eq_true p187
           replace q187 := eq_true q187
           go_wp2_with (first | ((with_reducible refine gate_callee (f := 17) rfl ?_); refine goesL_ (some 63) rfl rfl Try.func17 (by kernel_rfl) rfl #[.string ((rd_T31 t179 x8_1).f1)] rfl (by (try simp only [List.map_toArray, List.map_cons, List.map_nil]); first | done | rfl | (simp only [List.length_drop, List.length_take]; rfl)) ?_; (with_reducible refine (lexer_Quote.calls ((rd_T31 t179 x8_1).f1) t188 _ A12.out).mono ?_); rintro e w21 ⟨rfl, hb⟩; refine ⟨_, rfl, ?_⟩; have n0_ := Aside0.mk (Kd.R_below HO_4.out hb); have n1_ := Aside0.mk (below_step HB.out hb); clear HO_4; clear HB; have HO_4 := n0_; have HB := n1_; clear n0_ n1_; (try clear hb); (try clear hb2); (try clear hk); (try clear hi)))
           go_ret
           exact ⟨by first | rfl | (simp [errW_none, errW_some] <;> rfl) | (simp [*, errW_none, errW_some] <;> rfl), by repeat (first | (with_reducible first | exact HB.out | apply below_alloc | apply pw_below_drewN | apply below_drew1) | exact HB.out)⟩
          ·rw [if_neg c19] at H
           have c19b0 : decide ((a0.size : Int) < (wrap64 (((rd_T31 t179 x8_1).f2) + (t188.size : Int)))) = false := decide_eq_false c19
           clear c19
           by_cases c22 : 0 ≤ ((rd_T31 t179 x8_1).f2)
           ·rw [if_pos c22] at H
            have c22b0 := eq_true c22
            have c22b1 : decide (0 ≤ ((rd_T31 t179 x8_1).f2)) = true := decide_eq_true c22
            clear c22
            by_cases c23 : ((rd_T31 t179 x8_1).f2) ≤ (wrap64 (((rd_T31 t179 x8_1).f2) + (t188.size : Int)))
            ·rw [if_pos c23] at H
             have c23b0 := eq_true c23
             have c23b1 : decide (((rd_T31 t179 x8_1).f2) ≤ (wrap64 (((rd_T31 t179 x8_1).f2) + (t188.size : Int)))) = true := decide_eq_true c23
             by_cases c24 : (wrap64 (((rd_T31 t179 x8_1).f2) + (t188.size : Int))) ≤ (a0.size : Int)
             ·rw [if_pos c24] at H
              have c24b0 := eq_true c24
              have c24b1 : decide ((wrap64 (((rd_T31 t179 x8_1).f2) + (t188.size : Int))) ≤ (a0.size : Int)) = true := decide_eq_true c24
              by_cases c25 : (a0.extract (((rd_T31 t179 x8_1).f2) : Int).toNat ((wrap64 (((rd_T31 t179 x8_1).f2) + (t188.size : Int))) : Int).toNat).toList = t188.toList
              ·rw [if_pos c25] at H
               have c25b0 : ((a0.extract (((rd_T31 t179 x8_1).f2) : Int).toNat ((wrap64 (((rd_T31 t179 x8_1).f2) + (t188.size : Int))) : Int).toNat).toList == t188.toList) = true := beq_iff_eq.mpr c25
               have c25b1 : ((a0.extract (((rd_T31 t179 x8_1).f2) : Int).toNat ((wrap64 (((rd_T31 t179 x8_1).f2) + (t188.size : Int))) : Int).toNat).toList != t188.toList) = false := bne_eq_false_iff_eq.mpr c25
               clear c25
               by_cases c26 : 0 ≤ x7_1
               ·rw [if_pos c26] at H
                have c26b0 := eq_true c26
                have c26b1 : decide (0 ≤ x7_1) = true := decide_eq_true c26
                clear c26
                by_cases c27 : x7_1 ≤ ((rd_T31 t179 x8_1).f2)
                ·rw [if_pos c27] at H
                 have c27b0 := eq_true c27
                 have c27b1 : decide (x7_1 ≤ ((rd_T31 t179 x8_1).f2)) = true := decide_eq_true c27
                 clear c27
                 by_cases c28 : ((rd_T31 t179 x8_1).f2) ≤ (a0.size : Int)
                 ·rw [if_pos c28] at H
                  have c28b0 := eq_true c28
                  have c28b1 : decide (((rd_T31 t179 x8_1).f2) ≤ (a0.size : Int)) = true := decide_eq_true c28
                  clear c28
                  replace H := Option.bind_eq_some_iff.mp H
                  obtain ⟨t189, A290, H⟩ := H
                  replace H : (if t189 = true then (planispherelaw08_LexerPlaces.l0 k1 a0 t178 t179 t181 (wrap64 (((rd_T31 t179 x8_1).f2) + (t188.size : Int))) (wrap64 (x8_1 + 1))) else (some false)) = some r := H
                  have A29 := Aside0.mk A290
                  clear A290
                  by_cases c30 : t189 = true
                  ·subst c30
                   have H1 : (planispherelaw08_LexerPlaces.l0 k1 a0 t178 t179 t181 (wrap64 (((rd_T31 t179 x8_1).f2) + (t188.size : Int))) (wrap64 (x8_1 + 1))) = some r := by rw [if_pos rfl] at H; exact H
                   clear H
                   have H := H1
                   clear H1
                   have H' := Aside0.mk H
                   clear H
                   obtain ⟨Ao31, co31, eo31⟩ := Kd.R_slice HO_4.out
                   subst eo31
                   have p185 : 0 ≤ (x8_1 : Int) := of_decide_eq_true (by first | (with_reducible assumption) | assumption)
                   have q185 : x8_1 < (t179.length : Int) := of_decide_eq_true (by first | (with_reducible assumption) | assumption)
                   obtain ⟨ad185, e185, hx185_0, hx185_1, hx185_2⟩ := at_T31 (Kd.R_reads' HO_4.out).2.2 x8_1 p185 q185
                   cases e185
                   replace p185 := eq_true p185
                   replace q185 := eq_true q185
                   have p186 : 0 ≤ (x8_1 : Int) := of_decide_eq_true (by first | (with_reducible assumption) | assumption)
                   have q186 : x8_1 < (t179.length : Int) := of_decide_eq_true (by first | (with_reducible assumption) | assumption)
                   obtain ⟨ad186, e186, hx186_0, hx186_1, hx186_2⟩ := at_T31 (Kd.R_reads' HO_4.out).2.2 x8_1 p186 q186
                   obtain rfl : ad185 = ad186 := (by injection e186)
                   replace p186 := eq_true p186
                   replace q186 := eq_true q186
                   have p187 : 0 ≤ (x8_1 : Int) := of_decide_eq_true (by first | (with_reducible assumption) | assumption)
                   have q187 : x8_1 < (t179.length : Int) := of_decide_eq_true (by first | (with_reducible assumption) | assumption)
                   obtain ⟨ad187, e187, hx187_0, hx187_1, hx187_2⟩ := at_T31 (Kd.R_reads' HO_4.out).2.2 x8_1 p187 q187
                   obtain rfl : ad185 = ad187 := (by injection e187)
                   replace p187 := eq_true p187
                   replace q187 := eq_true q187
                   go_wp2_with (first | ((with_reducible refine gate_callee (f := 17) rfl ?_); refine goesL_ (some 63) rfl rfl Try.func17 (by kernel_rfl) rfl #[.string ((rd_T31 t179 x8_1).f1)] rfl (by (try simp only [List.map_toArray, List.map_cons, List.map_nil]); first | done | rfl | (simp only [List.length_drop, List.length_take]; rfl)) ?_; (with_reducible refine (lexer_Quote.calls ((rd_T31 t179 x8_1).f1) t188 _ A12.out).mono ?_); rintro e w32 ⟨rfl, hb⟩; refine ⟨_, rfl, ?_⟩; have n0_ := Aside0.mk (Kd.R_below HO_4.out hb); have n1_ := Aside0.mk (below_step HB.out hb); clear HO_4; clear HB; have HO_4 := n0_; have HB := n1_; clear n0_ n1_; (try clear hb); (try clear hb2); (try clear hk); (try clear hi)) | (go_at_call 19; (with_reducible refine (planisphereref08_Gaps.calls k1 (a0.extract (x7_1 : Int).toNat (((rd_T31 t179 x8_1).f2) : Int).toNat) true _ A29.out).mono ?_); rintro e w' ⟨rfl, ⟨nd, rfl⟩⟩))
                   go_roundg k1
                   case measure => have := HK1.out; omega
                   case rel => exact ⟨(wrap64 (((rd_T31 t179 x8_1).f2) + (t188.size : Int))), (wrap64 (x8_1 + 1)), (by first | rfl | (simp; done) | (simp [*]; done)), (by first | rfl | (simp; done) | (simp [*]; done)), H', ⟨by have := HK1.out; omega⟩, ⟨by (with_reducible repeat (first | apply Kd.R_alloc | apply Kd.R_drewN | apply Kd.R_drew)); exact HO_4.out⟩, ⟨by repeat (first | (with_reducible first | exact HB.out | apply below_alloc | apply pw_below_drewN | apply below_drew1) | exact HB.out)⟩⟩
                  ·replace c30 := Bool.eq_false_iff.mpr c30
                   subst c30
                   have H1 : (some false) = some r := by rw [if_neg (show ¬ (false = true) by decide)] at H; exact H
                   clear H
                   have H := H1
                   clear H1
                   obtain rfl := Option.some.inj H
                   obtain ⟨Ao33, co33, eo33⟩ := Kd.R_slice HO_4.out
                   subst eo33
                   have p185 : 0 ≤ (x8_1 : Int) := of_decide_eq_true (by first | (with_reducible assumption) | assumption)
                   have q185 : x8_1 < (t179.length : Int) := of_decide_eq_true (by first | (with_reducible assumption) | assumption)
                   obtain ⟨ad185, e185, hx185_0, hx185_1, hx185_2⟩ := at_T31 (Kd.R_reads' HO_4.out).2.2 x8_1 p185 q185
                   cases e185
                   replace p185 := eq_true p185
                   replace q185 := eq_true q185
                   have p186 : 0 ≤ (x8_1 : Int) := of_decide_eq_true (by first | (with_reducible assumption) | assumption)
                   have q186 : x8_1 < (t179.length : Int) := of_decide_eq_true (by first | (with_reducible assumption) | assumption)
                   obtain ⟨ad186, e186, hx186_0, hx186_1, hx186_2⟩ := at_T31 (Kd.R_reads' HO_4.out).2.2 x8_1 p186 q186
                   obtain rfl : ad185 = ad186 := (by injection e186)
                   replace p186 := eq_true p186
                   replace q186 := eq_true q186
                   have p187 : 0 ≤ (x8_1 : Int) := of_decide_eq_true (by first | (with_reducible assumption) | assumption)
                   have q187 : x8_1 < (t179.length : Int) := of_decide_eq_true (by first | (with_reducible assumption) | assumption)
                   obtain ⟨ad187, e187, hx187_0, hx187_1, hx187_2⟩ := at_T31 (Kd.R_reads' HO_4.out).2.2 x8_1 p187 q187
                   obtain rfl : ad185 = ad187 := (by injection e187)
                   replace p187 := eq_true p187
                   replace q187 := eq_true q187
                   go_wp2_with (first | ((with_reducible refine gate_callee (f := 17) rfl ?_); refine goesL_ (some 63) rfl rfl Try.func17 (by kernel_rfl) rfl #[.string ((rd_T31 t179 x8_1).f1)] rfl (by (try simp only [List.map_toArray, List.map_cons, List.map_nil]); first | done | rfl | (simp only [List.length_drop, List.length_take]; rfl)) ?_; (with_reducible refine (lexer_Quote.calls ((rd_T31 t179 x8_1).f1) t188 _ A12.out).mono ?_); rintro e w34 ⟨rfl, hb⟩; refine ⟨_, rfl, ?_⟩; have n0_ := Aside0.mk (Kd.R_below HO_4.out hb); have n1_ := Aside0.mk (below_step HB.out hb); clear HO_4; clear HB; have HO_4 := n0_; have HB := n1_; clear n0_ n1_; (try clear hb); (try clear hb2); (try clear hk); (try clear hi)) | (go_at_call 19; (with_reducible refine (planisphereref08_Gaps.calls k1 (a0.extract (x7_1 : Int).toNat (((rd_T31 t179 x8_1).f2) : Int).toNat) false _ A29.out).mono ?_); rintro e w' ⟨rfl, ⟨nd, rfl⟩⟩))
                   go_ret
                   exact ⟨by first | rfl | (simp [errW_none, errW_some] <;> rfl) | (simp [*, errW_none, errW_some] <;> rfl), by repeat (first | (with_reducible first | exact HB.out | apply below_alloc | apply pw_below_drewN | apply below_drew1) | exact HB.out)⟩
                 ·rw [if_neg c28] at H
                  exact absurd H (by simp)
                ·rw [if_neg c27] at H
                 exact absurd H (by simp)
               ·rw [if_neg c26] at H
                exact absurd H (by simp)
              ·rw [if_neg c25] at H
               have c25b0 : ((a0.extract (((rd_T31 t179 x8_1).f2) : Int).toNat ((wrap64 (((rd_T31 t179 x8_1).f2) + (t188.size : Int))) : Int).toNat).toList == t188.toList) = false := beq_eq_false_iff_ne.mpr c25
               have c25b1 : ((a0.extract (((rd_T31 t179 x8_1).f2) : Int).toNat ((wrap64 (((rd_T31 t179 x8_1).f2) + (t188.size : Int))) : Int).toNat).toList != t188.toList) = true := bne_iff_ne.mpr c25
               obtain rfl := Option.some.inj H
               obtain ⟨Ao35, co35, eo35⟩ := Kd.R_slice HO_4.out
               subst eo35
               have p185 : 0 ≤ (x8_1 : Int) := of_decide_eq_true (by first | (with_reducible assumption) | assumption)
               have q185 : x8_1 < (t179.length : Int) := of_decide_eq_true (by first | (with_reducible assumption) | assumption)
               obtain ⟨ad185, e185, hx185_0, hx185_1, hx185_2⟩ := at_T31 (Kd.R_reads' HO_4.out).2.2 x8_1 p185 q185
               cases e185
               replace p185 := eq_true p185
               replace q185 := eq_true q185
               have p186 : 0 ≤ (x8_1 : Int) := of_decide_eq_true (by first | (with_reducible assumption) | assumption)
               have q186 : x8_1 < (t179.length : Int) := of_decide_eq_true (by first | (with_reducible assumption) | assumption)
               obtain ⟨ad186, e186, hx186_0, hx186_1, hx186_2⟩ := at_T31 (Kd.R_reads' HO_4.out).2.2 x8_1 p186 q186
               obtain rfl : ad185 = ad186 := (by injection e186)
               replace p186 := eq_true p186
               replace q186 := eq_true q186
               have p187 : 0 ≤ (x8_1 : Int) := of_decide_eq_true (by first | (with_reducible assumption) | assumption)
               have q187 : x8_1 < (t179.length : Int) := of_decide_eq_true (by first | (with_reducible assumption) | assumption)
               obtain ⟨ad187, e187, hx187_0, hx187_1, hx187_2⟩ := at_T31 (Kd.R_reads' HO_4.out).2.2 x8_1 p187 q187
               obtain rfl : ad185 = ad187 := (by injection e187)
               replace p187 := eq_true p187
               replace q187 := eq_true q187
               go_wp2_with (first | ((with_reducible refine gate_callee (f := 17) rfl ?_); refine goesL_ (some 63) rfl rfl Try.func17 (by kernel_rfl) rfl #[.string ((rd_T31 t179 x8_1).f1)] rfl (by (try simp only [List.map_toArray, List.map_cons, List.map_nil]); first | done | rfl | (simp only [List.length_drop, List.length_take]; rfl)) ?_; (with_reducible refine (lexer_Quote.calls ((rd_T31 t179 x8_1).f1) t188 _ A12.out).mono ?_); rintro e w36 ⟨rfl, hb⟩; refine ⟨_, rfl, ?_⟩; have n0_ := Aside0.mk (Kd.R_below HO_4.out hb); have n1_ := Aside0.mk (below_step HB.out hb); clear HO_4; clear HB; have HO_4 := n0_; have HB := n1_; clear n0_ n1_; (try clear hb); (try clear hb2); (try clear hk); (try clear hi)))
               go_ret
               exact ⟨by first | rfl | (simp [errW_none, errW_some] <;> rfl) | (simp [*, errW_none, errW_some] <;> rfl), by repeat (first | (with_reducible first | exact HB.out | apply below_alloc | apply pw_below_drewN | apply below_drew1) | exact HB.out)⟩
             ·rw [if_neg c24] at H
              exact absurd H (by simp)
            ·rw [if_neg c23] at H
             exact absurd H (by simp)
           ·rw [if_neg c22] at H
            exact absurd H (by simp)
       ·rw [if_neg c11] at H
        have c11b0 : (((rd_T31 t179 x8_1).f0) == 3) = false := beq_eq_false_iff_ne.mpr c11
        have c11b1 : (((rd_T31 t179 x8_1).f0) != 3) = true := bne_iff_ne.mpr c11
        by_cases c37 : ((rd_T31 t179 x8_1).f2) < x7_1
        ·rw [if_pos c37] at H
         have c37b0 : decide (((rd_T31 t179 x8_1).f2) < x7_1) = true := decide_eq_true c37
         clear c37
         obtain rfl := Option.some.inj H
         obtain ⟨Ao38, co38, eo38⟩ := Kd.R_slice HO_4.out
         subst eo38
         have p185 : 0 ≤ (x8_1 : Int) := of_decide_eq_true (by first | (with_reducible assumption) | assumption)
         have q185 : x8_1 < (t179.length : Int) := of_decide_eq_true (by first | (with_reducible assumption) | assumption)
         obtain ⟨ad185, e185, hx185_0, hx185_1, hx185_2⟩ := at_T31 (Kd.R_reads' HO_4.out).2.2 x8_1 p185 q185
         cases e185
         replace p185 := eq_true p185
         replace q185 := eq_true q185
         have p186 : 0 ≤ (x8_1 : Int) := of_decide_eq_true (by first | (with_reducible assumption) | assumption)
         have q186 : x8_1 < (t179.length : Int) := of_decide_eq_true (by first | (with_reducible assumption) | assumption)
         obtain ⟨ad186, e186, hx186_0, hx186_1, hx186_2⟩ := at_T31 (Kd.R_reads' HO_4.out).2.2 x8_1 p186 q186
         obtain rfl : ad185 = ad186 := (by injection e186)
         replace p186 := eq_true p186
         replace q186 := eq_true q186
         have p187 : 0 ≤ (x8_1 : Int) := of_decide_eq_true (by first | (with_reducible assumption) | assumption)
         have q187 : x8_1 < (t179.length : Int) := of_decide_eq_true (by first | (with_reducible assumption) | assumption)
         obtain ⟨ad187, e187, hx187_0, hx187_1, hx187_2⟩ := at_T31 (Kd.R_reads' HO_4.out).2.2 x8_1 p187 q187
         obtain rfl : ad185 = ad187 := (by injection e187)
         replace p187 := eq_true p187
         replace q187 := eq_true q187
         go_wp2
         go_ret
         exact ⟨by first | rfl | (simp [errW_none, errW_some] <;> rfl) | (simp [*, errW_none, errW_some] <;> rfl), by repeat (first | (with_reducible first | exact HB.out | apply below_alloc | apply pw_below_drewN | apply below_drew1) | exact HB.out)⟩
        ·rw [if_neg c37] at H
         have c37b0 : decide (((rd_T31 t179 x8_1).f2) < x7_1) = false := decide_eq_false c37
         clear c37
         by_cases c39 : (((rd_T31 t179 x8_1).f1).size : Int) = 0
         ·rw [if_pos c39] at H
          have c39b0 : ((((rd_T31 t179 x8_1).f1).size : Int) == 0) = true := beq_iff_eq.mpr c39
          have c39b1 : ((((rd_T31 t179 x8_1).f1).size : Int) != 0) = false := bne_eq_false_iff_eq.mpr c39
          clear c39
          obtain rfl := Option.some.inj H
          obtain ⟨Ao40, co40, eo40⟩ := Kd.R_slice HO_4.out
          subst eo40
          have p185 : 0 ≤ (x8_1 : Int) := of_decide_eq_true (by first | (with_reducible assumption) | assumption)
          have q185 : x8_1 < (t179.length : Int) := of_decide_eq_true (by first | (with_reducible assumption) | assumption)
          obtain ⟨ad185, e185, hx185_0, hx185_1, hx185_2⟩ := at_T31 (Kd.R_reads' HO_4.out).2.2 x8_1 p185 q185
          cases e185
          replace p185 := eq_true p185
          replace q185 := eq_true q185
          have p186 : 0 ≤ (x8_1 : Int) := of_decide_eq_true (by first | (with_reducible assumption) | assumption)
          have q186 : x8_1 < (t179.length : Int) := of_decide_eq_true (by first | (with_reducible assumption) | assumption)
          obtain ⟨ad186, e186, hx186_0, hx186_1, hx186_2⟩ := at_T31 (Kd.R_reads' HO_4.out).2.2 x8_1 p186 q186
          obtain rfl : ad185 = ad186 := (by injection e186)
          replace p186 := eq_true p186
          replace q186 := eq_true q186
          have p187 : 0 ≤ (x8_1 : Int) := of_decide_eq_true (by first | (with_reducible assumption) | assumption)
          have q187 : x8_1 < (t179.length : Int) := of_decide_eq_true (by first | (with_reducible assumption) | assumption)
          obtain ⟨ad187, e187, hx187_0, hx187_1, hx187_2⟩ := at_T31 (Kd.R_reads' HO_4.out).2.2 x8_1 p187 q187
          obtain rfl : ad185 = ad187 := (by injection e187)
          replace p187 := eq_true p187
          replace q187 := eq_true q187
          go_wp2
          go_ret
          exact ⟨by first | rfl | (simp [errW_none, errW_some] <;> rfl) | (simp [*, errW_none, errW_some] <;> rfl), by repeat (first | (with_reducible first | exact HB.out | apply below_alloc | apply pw_below_drewN | apply below_drew1) | exact HB.out)⟩
         ·rw [if_neg c39] at H
          have c39b0 : ((((rd_T31 t179 x8_1).f1).size : Int) == 0) = false := beq_eq_false_iff_ne.mpr c39
          have c39b1 : ((((rd_T31 t179 x8_1).f1).size : Int) != 0) = true := bne_iff_ne.mpr c39
          by_cases c41 : (wrap64 (((rd_T31 t179 x8_1).f2) + (((rd_T31 t179 x8_1).f1).size : Int))) > (a0.size : Int)
          ·rw [if_pos c41] at H
           have c41b0 : decide ((a0.size : Int) < (wrap64 (((rd_T31 t179 x8_1).f2) + (((rd_T31 t179 x8_1).f1).size : Int)))) = true := decide_eq_true c41
           clear c41
           obtain rfl := Option.some.inj H
           obtain ⟨Ao42, co42, eo42⟩ := Kd.R_slice HO_4.out
           subst eo42
           have p185 : 0 ≤ (x8_1 : Int) := of_decide_eq_true (by first | (with_reducible assumption) | assumption)
           have q185 : x8_1 < (t179.length : Int) := of_decide_eq_true (by first | (with_reducible assumption) | assumption)
           obtain ⟨ad185, e185, hx185_0, hx185_1, hx185_2⟩ := at_T31 (Kd.R_reads' HO_4.out).2.2 x8_1 p185 q185
           cases e185
           replace p185 := eq_true p185
           replace q185 := eq_true q185
           have p186 : 0 ≤ (x8_1 : Int) := of_decide_eq_true (by first | (with_reducible assumption) | assumption)
           have q186 : x8_1 < (t179.length : Int) := of_decide_eq_true (by first | (with_reducible assumption) | assumption)
           obtain ⟨ad186, e186, hx186_0, hx186_1, hx186_2⟩ := at_T31 (Kd.R_reads' HO_4.out).2.2 x8_1 p186 q186
           obtain rfl : ad185 = ad186 := (by injection e186)
           replace p186 := eq_true p186
           replace q186 := eq_true q186
           have p187 : 0 ≤ (x8_1 : Int) := of_decide_eq_true (by first | (with_reducible assumption) | assumption)
           have q187 : x8_1 < (t179.length : Int) := of_decide_eq_true (by first | (with_reducible assumption) | assumption)
           obtain ⟨ad187, e187, hx187_0, hx187_1, hx187_2⟩ := at_T31 (Kd.R_reads' HO_4.out).2.2 x8_1 p187 q187
           obtain rfl : ad185 = ad187 := (by injection e187)
           replace p187 := eq_true p187
           replace q187 := eq_true q187
           go_wp2
           go_ret
           exact ⟨by first | rfl | (simp [errW_none, errW_some] <;> rfl) | (simp [*, errW_none, errW_some] <;> rfl), by repeat (first | (with_reducible first | exact HB.out | apply below_alloc | apply pw_below_drewN | apply below_drew1) | exact HB.out)⟩
          ·rw [if_neg c41] at H
           have c41b0 : decide ((a0.size : Int) < (wrap64 (((rd_T31 t179 x8_1).f2) + (((rd_T31 t179 x8_1).f1).size : Int)))) = false := decide_eq_false c41
           clear c41
           by_cases c43 : 0 ≤ ((rd_T31 t179 x8_1).f2)
           ·rw [if_pos c43] at H
            have c43b0 := eq_true c43
            have c43b1 : decide (0 ≤ ((rd_T31 t179 x8_1).f2)) = true := decide_eq_true c43
            clear c43
            by_cases c44 : ((rd_T31 t179 x8_1).f2) ≤ (wrap64 (((rd_T31 t179 x8_1).f2) + (((rd_T31 t179 x8_1).f1).size : Int)))
            ·rw [if_pos c44] at H
             have c44b0 := eq_true c44
             have c44b1 : decide (((rd_T31 t179 x8_1).f2) ≤ (wrap64 (((rd_T31 t179 x8_1).f2) + (((rd_T31 t179 x8_1).f1).size : Int)))) = true := decide_eq_true c44
             by_cases c45 : (wrap64 (((rd_T31 t179 x8_1).f2) + (((rd_T31 t179 x8_1).f1).size : Int))) ≤ (a0.size : Int)
             ·rw [if_pos c45] at H
              have c45b0 := eq_true c45
              have c45b1 : decide ((wrap64 (((rd_T31 t179 x8_1).f2) + (((rd_T31 t179 x8_1).f1).size : Int))) ≤ (a0.size : Int)) = true := decide_eq_true c45
              by_cases c46 : (a0.extract (((rd_T31 t179 x8_1).f2) : Int).toNat ((wrap64 (((rd_T31 t179 x8_1).f2) + (((rd_T31 t179 x8_1).f1).size : Int))) : Int).toNat).toList = ((rd_T31 t179 x8_1).f1).toList
              ·rw [if_pos c46] at H
               have c46b0 : ((a0.extract (((rd_T31 t179 x8_1).f2) : Int).toNat ((wrap64 (((rd_T31 t179 x8_1).f2) + (((rd_T31 t179 x8_1).f1).size : Int))) : Int).toNat).toList == ((rd_T31 t179 x8_1).f1).toList) = true := beq_iff_eq.mpr c46
               have c46b1 : ((a0.extract (((rd_T31 t179 x8_1).f2) : Int).toNat ((wrap64 (((rd_T31 t179 x8_1).f2) + (((rd_T31 t179 x8_1).f1).size : Int))) : Int).toNat).toList != ((rd_T31 t179 x8_1).f1).toList) = false := bne_eq_false_iff_eq.mpr c46
               clear c46
               by_cases c47 : 0 ≤ x7_1
               ·rw [if_pos c47] at H
                have c47b0 := eq_true c47
                have c47b1 : decide (0 ≤ x7_1) = true := decide_eq_true c47
                clear c47
                by_cases c48 : x7_1 ≤ ((rd_T31 t179 x8_1).f2)
                ·rw [if_pos c48] at H
                 have c48b0 := eq_true c48
                 have c48b1 : decide (x7_1 ≤ ((rd_T31 t179 x8_1).f2)) = true := decide_eq_true c48
                 clear c48
                 by_cases c49 : ((rd_T31 t179 x8_1).f2) ≤ (a0.size : Int)
                 ·rw [if_pos c49] at H
                  have c49b0 := eq_true c49
                  have c49b1 : decide (((rd_T31 t179 x8_1).f2) ≤ (a0.size : Int)) = true := decide_eq_true c49
                  clear c49
                  replace H := Option.bind_eq_some_iff.mp H
                  obtain ⟨t190, A500, H⟩ := H
                  replace H : (if t190 = true then (planispherelaw08_LexerPlaces.l0 k1 a0 t178 t179 t181 (wrap64 (((rd_T31 t179 x8_1).f2) + (((rd_T31 t179 x8_1).f1).size : Int))) (wrap64 (x8_1 + 1))) else (some false)) = some r := H
                  have A50 := Aside0.mk A500
                  clear A500
                  by_cases c51 : t190 = true
                  ·subst c51
                   have H1 : (planispherelaw08_LexerPlaces.l0 k1 a0 t178 t179 t181 (wrap64 (((rd_T31 t179 x8_1).f2) + (((rd_T31 t179 x8_1).f1).size : Int))) (wrap64 (x8_1 + 1))) = some r := by rw [if_pos rfl] at H; exact H
                   clear H
                   have H := H1
                   clear H1
                   have H' := Aside0.mk H
                   clear H
                   obtain ⟨Ao52, co52, eo52⟩ := Kd.R_slice HO_4.out
                   subst eo52
                   have p185 : 0 ≤ (x8_1 : Int) := of_decide_eq_true (by first | (with_reducible assumption) | assumption)
                   have q185 : x8_1 < (t179.length : Int) := of_decide_eq_true (by first | (with_reducible assumption) | assumption)
                   obtain ⟨ad185, e185, hx185_0, hx185_1, hx185_2⟩ := at_T31 (Kd.R_reads' HO_4.out).2.2 x8_1 p185 q185
                   cases e185
                   replace p185 := eq_true p185
                   replace q185 := eq_true q185
                   have p186 : 0 ≤ (x8_1 : Int) := of_decide_eq_true (by first | (with_reducible assumption) | assumption)
                   have q186 : x8_1 < (t179.length : Int) := of_decide_eq_true (by first | (with_reducible assumption) | assumption)
                   obtain ⟨ad186, e186, hx186_0, hx186_1, hx186_2⟩ := at_T31 (Kd.R_reads' HO_4.out).2.2 x8_1 p186 q186
                   obtain rfl : ad185 = ad186 := (by injection e186)
                   replace p186 := eq_true p186
                   replace q186 := eq_true q186
                   have p187 : 0 ≤ (x8_1 : Int) := of_decide_eq_true (by first | (with_reducible assumption) | assumption)
                   have q187 : x8_1 < (t179.length : Int) := of_decide_eq_true (by first | (with_reducible assumption) | assumption)
                   obtain ⟨ad187, e187, hx187_0, hx187_1, hx187_2⟩ := at_T31 (Kd.R_reads' HO_4.out).2.2 x8_1 p187 q187
                   obtain rfl : ad185 = ad187 := (by injection e187)
                   replace p187 := eq_true p187
                   replace q187 := eq_true q187
                   go_wp2_with (first | (go_at_call 19; (with_reducible refine (planisphereref08_Gaps.calls k1 (a0.extract (x7_1 : Int).toNat (((rd_T31 t179 x8_1).f2) : Int).toNat) true _ A50.out).mono ?_); rintro e w' ⟨rfl, ⟨nd, rfl⟩⟩))
                   go_roundg k1
                   case measure => have := HK1.out; omega
                   case rel => exact ⟨(wrap64 (((rd_T31 t179 x8_1).f2) + (((rd_T31 t179 x8_1).f1).size : Int))), (wrap64 (x8_1 + 1)), (by first | rfl | (simp; done) | (simp [*]; done)), (by first | rfl | (simp; done) | (simp [*]; done)), H', ⟨by have := HK1.out; omega⟩, ⟨by (with_reducible repeat (first | apply Kd.R_alloc | apply Kd.R_drewN | apply Kd.R_drew)); exact HO_4.out⟩, ⟨by repeat (first | (with_reducible first | exact HB.out | apply below_alloc | apply pw_below_drewN | apply below_drew1) | exact HB.out)⟩⟩
                  ·replace c51 := Bool.eq_false_iff.mpr c51
                   subst c51
                   have H1 : (some false) = some r := by rw [if_neg (show ¬ (false = true) by decide)] at H; exact H
                   clear H
                   have H := H1
                   clear H1
                   obtain rfl := Option.some.inj H
                   obtain ⟨Ao53, co53, eo53⟩ := Kd.R_slice HO_4.out
                   subst eo53
                   have p185 : 0 ≤ (x8_1 : Int) := of_decide_eq_true (by first | (with_reducible assumption) | assumption)
                   have q185 : x8_1 < (t179.length : Int) := of_decide_eq_true (by first | (with_reducible assumption) | assumption)
                   obtain ⟨ad185, e185, hx185_0, hx185_1, hx185_2⟩ := at_T31 (Kd.R_reads' HO_4.out).2.2 x8_1 p185 q185
                   cases e185
                   replace p185 := eq_true p185
                   replace q185 := eq_true q185
                   have p186 : 0 ≤ (x8_1 : Int) := of_decide_eq_true (by first | (with_reducible assumption) | assumption)
                   have q186 : x8_1 < (t179.length : Int) := of_decide_eq_true (by first | (with_reducible assumption) | assumption)
                   obtain ⟨ad186, e186, hx186_0, hx186_1, hx186_2⟩ := at_T31 (Kd.R_reads' HO_4.out).2.2 x8_1 p186 q186
                   obtain rfl : ad185 = ad186 := (by injection e186)
                   replace p186 := eq_true p186
                   replace q186 := eq_true q186
                   have p187 : 0 ≤ (x8_1 : Int) := of_decide_eq_true (by first | (with_reducible assumption) | assumption)
                   have q187 : x8_1 < (t179.length : Int) := of_decide_eq_true (by first | (with_reducible assumption) | assumption)
                   obtain ⟨ad187, e187, hx187_0, hx187_1, hx187_2⟩ := at_T31 (Kd.R_reads' HO_4.out).2.2 x8_1 p187 q187
                   obtain rfl : ad185 = ad187 := (by injection e187)
                   replace p187 := eq_true p187
                   replace q187 := eq_true q187
                   go_wp2_with (first | (go_at_call 19; (with_reducible refine (planisphereref08_Gaps.calls k1 (a0.extract (x7_1 : Int).toNat (((rd_T31 t179 x8_1).f2) : Int).toNat) false _ A50.out).mono ?_); rintro e w' ⟨rfl, ⟨nd, rfl⟩⟩))
                   go_ret
                   exact ⟨by first | rfl | (simp [errW_none, errW_some] <;> rfl) | (simp [*, errW_none, errW_some] <;> rfl), by repeat (first | (with_reducible first | exact HB.out | apply below_alloc | apply pw_below_drewN | apply below_drew1) | exact HB.out)⟩
                 ·rw [if_neg c49] at H
                  exact absurd H (by simp)
                ·rw [if_neg c48] at H
                 exact absurd H (by simp)
               ·rw [if_neg c47] at H
                exact absurd H (by simp)
              ·rw [if_neg c46] at H
               have c46b0 : ((a0.extract (((rd_T31 t179 x8_1).f2) : Int).toNat ((wrap64 (((rd_T31 t179 x8_1).f2) + (((rd_T31 t179 x8_1).f1).size : Int))) : Int).toNat).toList == ((rd_T31 t179 x8_1).f1).toList) = false := beq_eq_false_iff_ne.mpr c46
               have c46b1 : ((a0.extract (((rd_T31 t179 x8_1).f2) : Int).toNat ((wrap64 (((rd_T31 t179 x8_1).f2) + (((rd_T31 t179 x8_1).f1).size : Int))) : Int).toNat).toList != ((rd_T31 t179 x8_1).f1).toList) = true := bne_iff_ne.mpr c46
               obtain rfl := Option.some.inj H
               obtain ⟨Ao54, co54, eo54⟩ := Kd.R_slice HO_4.out
               subst eo54
               have p185 : 0 ≤ (x8_1 : Int) := of_decide_eq_true (by first | (with_reducible assumption) | assumption)
               have q185 : x8_1 < (t179.length : Int) := of_decide_eq_true (by first | (with_reducible assumption) | assumption)
               obtain ⟨ad185, e185, hx185_0, hx185_1, hx185_2⟩ := at_T31 (Kd.R_reads' HO_4.out).2.2 x8_1 p185 q185
               cases e185
               replace p185 := eq_true p185
               replace q185 := eq_true q185
               have p186 : 0 ≤ (x8_1 : Int) := of_decide_eq_true (by first | (with_reducible assumption) | assumption)
               have q186 : x8_1 < (t179.length : Int) := of_decide_eq_true (by first | (with_reducible assumption) | assumption)
               obtain ⟨ad186, e186, hx186_0, hx186_1, hx186_2⟩ := at_T31 (Kd.R_reads' HO_4.out).2.2 x8_1 p186 q186
               obtain rfl : ad185 = ad186 := (by injection e186)
               replace p186 := eq_true p186
               replace q186 := eq_true q186
               have p187 : 0 ≤ (x8_1 : Int) := of_decide_eq_true (by first | (with_reducible assumption) | assumption)
               have q187 : x8_1 < (t179.length : Int) := of_decide_eq_true (by first | (with_reducible assumption) | assumption)
               obtain ⟨ad187, e187, hx187_0, hx187_1, hx187_2⟩ := at_T31 (Kd.R_reads' HO_4.out).2.2 x8_1 p187 q187
               obtain rfl : ad185 = ad187 := (by injection e187)
               replace p187 := eq_true p187
               replace q187 := eq_true q187
               go_wp2
               go_ret
               exact ⟨by first | rfl | (simp [errW_none, errW_some] <;> rfl) | (simp [*, errW_none, errW_some] <;> rfl), by repeat (first | (with_reducible first | exact HB.out | apply below_alloc | apply pw_below_drewN | apply below_drew1) | exact HB.out)⟩
             ·rw [if_neg c45] at H
              exact absurd H (by simp)
            ·rw [if_neg c44] at H
             exact absurd H (by simp)
           ·rw [if_neg c43] at H
            exact absurd H (by simp)
      ·rw [if_neg c10] at H
       exact absurd H (by simp)
     ·rw [if_neg c9] at H
      have c9b0 : decide (x8_1 < (t179.length : Int)) = false := decide_eq_false c9
      clear c9
      by_cases c55 : t178 = true
      ·subst c55
       have H1 : (if t181 = 0 then (if 0 ≤ x7_1 then (if x7_1 ≤ (a0.size : Int) then ((planisphereref08_Gaps.f k1 (a0.extract (x7_1 : Int).toNat a0.size)).bind fun t184 => (some t184)) else (none)) else (none)) else (some false)) = some r := by rw [if_pos rfl] at H; exact H
       clear H
       have H := H1
       clear H1
       by_cases c56 : t181 = 0
       ·rw [if_pos c56] at H
        have c56b0 : (t181 == 0) = true := beq_iff_eq.mpr c56
        have c56b1 : (t181 != 0) = false := bne_eq_false_iff_eq.mpr c56
        clear c56
        by_cases c57 : 0 ≤ x7_1
        ·rw [if_pos c57] at H
         have c57b0 := eq_true c57
         have c57b1 : decide (0 ≤ x7_1) = true := decide_eq_true c57
         clear c57
         by_cases c58 : x7_1 ≤ (a0.size : Int)
         ·rw [if_pos c58] at H
          have c58b0 := eq_true c58
          have c58b1 : decide (x7_1 ≤ (a0.size : Int)) = true := decide_eq_true c58
          clear c58
          replace H := Option.bind_eq_some_iff.mp H
          obtain ⟨t184, A590, H⟩ := H
          replace H : (some t184) = some r := H
          have A59 := Aside0.mk A590
          clear A590
          obtain rfl := Option.some.inj H
          obtain ⟨Ao60, co60, eo60⟩ := Kd.R_slice HO_4.out
          subst eo60
          go_wp2_with (first | (go_at_call 19; (with_reducible refine (planisphereref08_Gaps.calls k1 (a0.extract (x7_1 : Int).toNat a0.size) t184 _ A59.out).mono ?_); rintro e w' ⟨rfl, ⟨nd, rfl⟩⟩))
          go_ret
          exact ⟨by first | rfl | (simp [errW_none, errW_some] <;> rfl) | (simp [*, errW_none, errW_some] <;> rfl), by repeat (first | (with_reducible first | exact HB.out | apply below_alloc | apply pw_below_drewN | apply below_drew1) | exact HB.out)⟩
         ·rw [if_neg c58] at H
          exact absurd H (by simp)
        ·rw [if_neg c57] at H
         exact absurd H (by simp)
       ·rw [if_neg c56] at H
        have c56b0 : (t181 == 0) = false := beq_eq_false_iff_ne.mpr c56
        have c56b1 : (t181 != 0) = true := bne_iff_ne.mpr c56
        obtain rfl := Option.some.inj H
        obtain ⟨Ao61, co61, eo61⟩ := Kd.R_slice HO_4.out
        subst eo61
        go_wp2
        go_ret
        exact ⟨by first | rfl | (simp [errW_none, errW_some] <;> rfl) | (simp [*, errW_none, errW_some] <;> rfl), by repeat (first | (with_reducible first | exact HB.out | apply below_alloc | apply pw_below_drewN | apply below_drew1) | exact HB.out)⟩
      ·replace c55 := Bool.eq_false_iff.mpr c55
       subst c55
       have H1 : (some false) = some r := by rw [if_neg (show ¬ (false = true) by decide)] at H; exact H
       clear H
       have H := H1
       clear H1
       obtain rfl := Option.some.inj H
       obtain ⟨Ao62, co62, eo62⟩ := Kd.R_slice HO_4.out
       subst eo62
       go_wp2
       go_ret
       exact ⟨by first | rfl | (simp [errW_none, errW_some] <;> rfl) | (simp [*, errW_none, errW_some] <;> rfl), by repeat (first | (with_reducible first | exact HB.out | apply below_alloc | apply pw_below_drewN | apply below_drew1) | exact HB.out)⟩
  ·rw [if_neg c6] at H
   have c6b0 : (t180 == 0) = false := beq_eq_false_iff_ne.mpr c6
   have c6b1 : (t180 != 0) = true := bne_iff_ne.mpr c6
   by_cases c63 : t178 = true
   ·subst c63
    have H1 : (if (t179.length : Int) = 0 then (if t181 ≥ 0 then (some (decide (t181 < (a0.size : Int)))) else (some false)) else (some false)) = some r := by rw [if_pos rfl] at H; exact H
    clear H
    have H := H1
    clear H1
    by_cases c64 : (t179.length : Int) = 0
    ·rw [if_pos c64] at H
     have c64b0 : ((t179.length : Int) == 0) = true := beq_iff_eq.mpr c64
     have c64b1 : ((t179.length : Int) != 0) = false := bne_eq_false_iff_eq.mpr c64
     clear c64
     by_cases c65 : t181 ≥ 0
     ·rw [if_pos c65] at H
      have c65b0 : decide (0 ≤ t181) = true := decide_eq_true c65
      clear c65
      obtain rfl := Option.some.inj H
      go_enter Try.func4, Try.ntmps4
      go_wp2_with (first | ((with_reducible refine gate_callee (f := 11) rfl ?_); refine goesL_ (some 11) rfl rfl Try.func11 (by kernel_rfl) rfl #[] rfl (by (try simp only [List.map_toArray, List.map_cons, List.map_nil]); first | done | rfl | (simp only [List.length_drop, List.length_take]; rfl)) ?_; (with_reducible refine (planispherelaw08_head.calls k  true _ A2.out).mono ?_); rintro e w66 ⟨rfl, hb⟩; refine ⟨_, rfl, ?_⟩; have n0_ := Aside0.mk (below_step HB.out hb); clear HB; have HB := n0_; clear n0_; (try clear hb); (try clear hb2); (try clear hk); (try clear hi)) | ((with_reducible refine gate_callee (f := 12) rfl ?_); refine goesL_ (some 18) rfl rfl Try.func12 (by kernel_rfl) rfl #[.string a0] rfl (by (try simp only [List.map_toArray, List.map_cons, List.map_nil]); first | done | rfl | (simp only [List.length_drop, List.length_take]; rfl)) ?_; (with_reducible refine (lexer_Lex.calls a0 t179 t180 t181 _ A5.out).mono ?_); rintro e w67 ⟨v182, rfl, ho0, hb⟩; refine ⟨_, rfl, ?_⟩; have n0_ := Aside0.mk (Kd.R_lower ho0 (below_size HB.out)); have n1_ := Aside0.mk (below_step HB.out hb); clear HB; have HO183 := n0_; have HB := n1_; clear n0_ n1_; (try clear hb); (try clear hb2); (try clear hk); (try clear hi); (try clear ho0); obtain ⟨Ao68, co68, eo68⟩ := Kd.R_slice HO183.out; subst eo68))
      go_ret
      exact ⟨by first | rfl | (simp [errW_none, errW_some] <;> rfl) | (simp [*, errW_none, errW_some] <;> rfl), by repeat (first | (with_reducible first | exact HB.out | apply below_alloc | apply pw_below_drewN | apply below_drew1) | exact HB.out)⟩
     ·rw [if_neg c65] at H
      have c65b0 : decide (0 ≤ t181) = false := decide_eq_false c65
      clear c65
      obtain rfl := Option.some.inj H
      go_enter Try.func4, Try.ntmps4
      go_wp2_with (first | ((with_reducible refine gate_callee (f := 11) rfl ?_); refine goesL_ (some 11) rfl rfl Try.func11 (by kernel_rfl) rfl #[] rfl (by (try simp only [List.map_toArray, List.map_cons, List.map_nil]); first | done | rfl | (simp only [List.length_drop, List.length_take]; rfl)) ?_; (with_reducible refine (planispherelaw08_head.calls k  true _ A2.out).mono ?_); rintro e w69 ⟨rfl, hb⟩; refine ⟨_, rfl, ?_⟩; have n0_ := Aside0.mk (below_step HB.out hb); clear HB; have HB := n0_; clear n0_; (try clear hb); (try clear hb2); (try clear hk); (try clear hi)) | ((with_reducible refine gate_callee (f := 12) rfl ?_); refine goesL_ (some 18) rfl rfl Try.func12 (by kernel_rfl) rfl #[.string a0] rfl (by (try simp only [List.map_toArray, List.map_cons, List.map_nil]); first | done | rfl | (simp only [List.length_drop, List.length_take]; rfl)) ?_; (with_reducible refine (lexer_Lex.calls a0 t179 t180 t181 _ A5.out).mono ?_); rintro e w70 ⟨v182, rfl, ho0, hb⟩; refine ⟨_, rfl, ?_⟩; have n0_ := Aside0.mk (Kd.R_lower ho0 (below_size HB.out)); have n1_ := Aside0.mk (below_step HB.out hb); clear HB; have HO183 := n0_; have HB := n1_; clear n0_ n1_; (try clear hb); (try clear hb2); (try clear hk); (try clear hi); (try clear ho0); obtain ⟨Ao71, co71, eo71⟩ := Kd.R_slice HO183.out; subst eo71))
      go_ret
      exact ⟨by first | rfl | (simp [errW_none, errW_some] <;> rfl) | (simp [*, errW_none, errW_some] <;> rfl), by repeat (first | (with_reducible first | exact HB.out | apply below_alloc | apply pw_below_drewN | apply below_drew1) | exact HB.out)⟩
    ·rw [if_neg c64] at H
     have c64b0 : ((t179.length : Int) == 0) = false := beq_eq_false_iff_ne.mpr c64
     have c64b1 : ((t179.length : Int) != 0) = true := bne_iff_ne.mpr c64
     have c64b2 : ¬ (t179 = []) := fun h_ => c64 (by rw [h_]; rfl)
     obtain rfl := Option.some.inj H
     go_enter Try.func4, Try.ntmps4
     go_wp2_with (first | ((with_reducible refine gate_callee (f := 11) rfl ?_); refine goesL_ (some 11) rfl rfl Try.func11 (by kernel_rfl) rfl #[] rfl (by (try simp only [List.map_toArray, List.map_cons, List.map_nil]); first | done | rfl | (simp only [List.length_drop, List.length_take]; rfl)) ?_; (with_reducible refine (planispherelaw08_head.calls k  true _ A2.out).mono ?_); rintro e w72 ⟨rfl, hb⟩; refine ⟨_, rfl, ?_⟩; have n0_ := Aside0.mk (below_step HB.out hb); clear HB; have HB := n0_; clear n0_; (try clear hb); (try clear hb2); (try clear hk); (try clear hi)) | ((with_reducible refine gate_callee (f := 12) rfl ?_); refine goesL_ (some 18) rfl rfl Try.func12 (by kernel_rfl) rfl #[.string a0] rfl (by (try simp only [List.map_toArray, List.map_cons, List.map_nil]); first | done | rfl | (simp only [List.length_drop, List.length_take]; rfl)) ?_; (with_reducible refine (lexer_Lex.calls a0 t179 t180 t181 _ A5.out).mono ?_); rintro e w73 ⟨v182, rfl, ho0, hb⟩; refine ⟨_, rfl, ?_⟩; have n0_ := Aside0.mk (Kd.R_lower ho0 (below_size HB.out)); have n1_ := Aside0.mk (below_step HB.out hb); clear HB; have HO183 := n0_; have HB := n1_; clear n0_ n1_; (try clear hb); (try clear hb2); (try clear hk); (try clear hi); (try clear ho0); obtain ⟨Ao74, co74, eo74⟩ := Kd.R_slice HO183.out; subst eo74))
     go_ret
     exact ⟨by first | rfl | (simp [errW_none, errW_some] <;> rfl) | (simp [*, errW_none, errW_some] <;> rfl), by repeat (first | (with_reducible first | exact HB.out | apply below_alloc | apply pw_below_drewN | apply below_drew1) | exact HB.out)⟩
   ·replace c63 := Bool.eq_false_iff.mpr c63
    subst c63
    have H1 : (some false) = some r := by rw [if_neg (show ¬ (false = true) by decide)] at H; exact H
    clear H
    have H := H1
    clear H1
    obtain rfl := Option.some.inj H
    go_enter Try.func4, Try.ntmps4
    go_wp2_with (first | ((with_reducible refine gate_callee (f := 11) rfl ?_); refine goesL_ (some 11) rfl rfl Try.func11 (by kernel_rfl) rfl #[] rfl (by (try simp only [List.map_toArray, List.map_cons, List.map_nil]); first | done | rfl | (simp only [List.length_drop, List.length_take]; rfl)) ?_; (with_reducible refine (planispherelaw08_head.calls k  false _ A2.out).mono ?_); rintro e w75 ⟨rfl, hb⟩; refine ⟨_, rfl, ?_⟩; have n0_ := Aside0.mk (below_step HB.out hb); clear HB; have HB := n0_; clear n0_; (try clear hb); (try clear hb2); (try clear hk); (try clear hi)) | ((with_reducible refine gate_callee (f := 12) rfl ?_); refine goesL_ (some 18) rfl rfl Try.func12 (by kernel_rfl) rfl #[.string a0] rfl (by (try simp only [List.map_toArray, List.map_cons, List.map_nil]); first | done | rfl | (simp only [List.length_drop, List.length_take]; rfl)) ?_; (with_reducible refine (lexer_Lex.calls a0 t179 t180 t181 _ A5.out).mono ?_); rintro e w76 ⟨v182, rfl, ho0, hb⟩; refine ⟨_, rfl, ?_⟩; have n0_ := Aside0.mk (Kd.R_lower ho0 (below_size HB.out)); have n1_ := Aside0.mk (below_step HB.out hb); clear HB; have HO183 := n0_; have HB := n1_; clear n0_ n1_; (try clear hb); (try clear hb2); (try clear hk); (try clear hi); (try clear ho0)))
    go_ret
    exact ⟨by first | rfl | (simp [errW_none, errW_some] <;> rfl) | (simp [*, errW_none, errW_some] <;> rfl), by repeat (first | (with_reducible first | exact HB.out | apply below_alloc | apply pw_below_drewN | apply below_drew1) | exact HB.out)⟩

/-- THE ONE PURE STATEMENT of planispherelaw08_LexerPlaces: yours. -/
def planispherelaw08_LexerPlaces.Pure : Prop := ∀ (a0 : ByteArray), a0.size ≤ 140737488351232 → ∃ k, planispherelaw08_LexerPlaces.f k a0 = some true
theorem planispherelaw08_LexerPlaces.walk (P : planispherelaw08_LexerPlaces.Pure) (a0 : ByteArray) (w : World) (w0 : a0.size ≤ 140737488351232) :
    Calls Try.prog 4 #[.string a0] w fun e w' => e = .returned (.bool true) ∧ Below w.heap.size w w' := by
  obtain ⟨k, h⟩ := P a0 w0
  refine (planispherelaw08_LexerPlaces.calls k a0 true w h).mono ?_
  rintro e w' ⟨rfl, hd⟩
  exact ⟨rfl, hd⟩

end Go.Proofs.Ytflocikkhpjicaa.P
