-- printed for this claim by xprint.py (the seat's own program)
import Derived.Test.YtflocikkhpjicaaPx0
import Derived.Test.YtflocikkhpjicaaPx2
import Derived.Test.YtflocikkhpjicaaPx3
import Derived.Test.YtflocikkhpjicaaPx5
import Derived.Test.YtflocikkhpjicaaPx6
namespace Go.Proofs.Ytflocikkhpjicaa.P
open Go.RowKit Go.Proofs.YtflocikkhpjicaaW.PrintWords Go.Proofs.YtflocikkhpjicaaW.PrintLast Go.Proofs.YtflocikkhpjicaaW.PrintMore
attribute [local go_sem] max2_int min2_int max_two min_two max_three min_three max_four min_four   -- for this text's walks alone
set_option linter.unusedVariables false
set_option linter.unusedSimpArgs false

/-! ### planispherelaw08_LexerMatchesReference: function 3 -/
def planispherelaw08_LexerMatchesReference.j0 : Nat → ByteArray → Bool → Bool → Option (Bool)
  | 0, _, _, _ => none
  | k + 1, x0, x3, x47 => if x47 = true then (some false) else (if x3 = true then (if (x0.size : Int) > 3000 then (some true) else ((lexer_Quote.f x0).bind fun t175 => ((planisphereref08_Quote.f k x0).bind fun t176 => (some (t175.toList == t176.toList))))) else (some false))
def planispherelaw08_LexerMatchesReference.f (k : Nat) (a0 : ByteArray) : Option (Bool) := (planispherelaw08_head.f k).bind fun t161 => (if (a0.size : Int) > 21000 then (some t161) else ((lexer_Lex.f a0).bind fun bt162 => ((planisphereref08_Lex.f k a0).bind fun bt167 => (if bt162.2.1 = bt167.2.1 then (if bt162.2.2 = bt167.2.2 then ((planisphereref08_Same.f k bt162.1 0 bt167.1).bind fun t172 => (if t172 = true then ((lexer_Name.f a0).bind fun t173 => ((planisphereref08_Name.f k a0).bind fun t174 => (planispherelaw08_LexerMatchesReference.j0 k a0 t161 (t173 != t174)))) else (planispherelaw08_LexerMatchesReference.j0 k a0 t161 true))) else (planispherelaw08_LexerMatchesReference.j0 k a0 t161 true)) else (planispherelaw08_LexerMatchesReference.j0 k a0 t161 true)))))
theorem planispherelaw08_LexerMatchesReference.mono_l : ∀ k, (∀ y0 y1 y2, LeO (planispherelaw08_LexerMatchesReference.j0 k y0 y1 y2) (planispherelaw08_LexerMatchesReference.j0 (k + 1) y0 y1 y2))
  | 0 => fun _ _ _ r h => by simp [planispherelaw08_LexerMatchesReference.j0] at h
  | k + 1 => by
    have ih0 := planispherelaw08_LexerMatchesReference.mono_l k
    · intro y0 y1 y2
      unfold planispherelaw08_LexerMatchesReference.j0
      repeat' first
      | (with_reducible exact ih0 _ _ _)
      | (with_reducible exact planispherelaw08_head.mono _)
      | (with_reducible exact planisphereref08_Lex.mono _ _)
      | (with_reducible exact planisphereref08_Name.mono _ _)
      | (with_reducible exact planisphereref08_Quote.mono _ _)
      | (with_reducible exact planisphereref08_Same.mono _ _ _ _)
      | (with_reducible exact LeO.refl _)
      | (with_reducible exact LeO.none _)
      | (with_reducible refine LeO.ite ?_ ?_)
      | (with_reducible refine LeO.bind ?_ (fun _ => ?_))
      | exact ih0 _ _ _
      | exact planispherelaw08_head.mono _
      | exact planisphereref08_Lex.mono _ _
      | exact planisphereref08_Name.mono _ _
      | exact planisphereref08_Quote.mono _ _
      | exact planisphereref08_Same.mono _ _ _ _
      | exact LeO.none _
      | refine LeO.ite ?_ ?_
      | refine LeO.bind ?_ (fun _ => ?_)
theorem planispherelaw08_LexerMatchesReference.mono : ∀ a0 k, LeO (planispherelaw08_LexerMatchesReference.f k a0) (planispherelaw08_LexerMatchesReference.f (k + 1) a0) := by
  intro a0 k
  have ih0 := planispherelaw08_LexerMatchesReference.mono_l k
  unfold planispherelaw08_LexerMatchesReference.f
  repeat' first
      | (with_reducible exact ih0 _ _ _)
      | (with_reducible exact planispherelaw08_head.mono _)
      | (with_reducible exact planisphereref08_Lex.mono _ _)
      | (with_reducible exact planisphereref08_Name.mono _ _)
      | (with_reducible exact planisphereref08_Quote.mono _ _)
      | (with_reducible exact planisphereref08_Same.mono _ _ _ _)
      | (with_reducible exact LeO.refl _)
      | (with_reducible exact LeO.none _)
      | (with_reducible refine LeO.ite ?_ ?_)
      | (with_reducible refine LeO.bind ?_ (fun _ => ?_))
      | exact ih0 _ _ _
      | exact planispherelaw08_head.mono _
      | exact planisphereref08_Lex.mono _ _
      | exact planisphereref08_Name.mono _ _
      | exact planisphereref08_Quote.mono _ _
      | exact planisphereref08_Same.mono _ _ _ _
      | exact LeO.none _
      | refine LeO.ite ?_ ?_
      | refine LeO.bind ?_ (fun _ => ?_)
set_option maxHeartbeats 8000000 in
set_option maxRecDepth 100000 in
theorem planispherelaw08_LexerMatchesReference.calls (k : Nat) (a0 : ByteArray) (r : Bool) (w : World) (h : planispherelaw08_LexerMatchesReference.f k a0 = some r) :
    Calls Try.prog 3 #[.string a0] w fun e w' => e = .returned (.bool r) ∧ Below w.heap.size w w' := by
 have HB := Aside0.mk (Below.refl w.heap.size w)
 have H : ((planispherelaw08_head.f k).bind fun t161 => (if (a0.size : Int) > 21000 then (some t161) else ((lexer_Lex.f a0).bind fun bt162 => ((planisphereref08_Lex.f k a0).bind fun bt167 => (if bt162.2.1 = bt167.2.1 then (if bt162.2.2 = bt167.2.2 then ((planisphereref08_Same.f k bt162.1 0 bt167.1).bind fun t172 => (if t172 = true then ((lexer_Name.f a0).bind fun t173 => ((planisphereref08_Name.f k a0).bind fun t174 => (planispherelaw08_LexerMatchesReference.j0 k a0 t161 (t173 != t174)))) else (planispherelaw08_LexerMatchesReference.j0 k a0 t161 true))) else (planispherelaw08_LexerMatchesReference.j0 k a0 t161 true)) else (planispherelaw08_LexerMatchesReference.j0 k a0 t161 true)))))) = some r := h
 clear h
 replace H := Option.bind_eq_some_iff.mp H
 obtain ⟨t161, A20, H⟩ := H
 replace H : (if (a0.size : Int) > 21000 then (some t161) else ((lexer_Lex.f a0).bind fun bt162 => ((planisphereref08_Lex.f k a0).bind fun bt167 => (if bt162.2.1 = bt167.2.1 then (if bt162.2.2 = bt167.2.2 then ((planisphereref08_Same.f k bt162.1 0 bt167.1).bind fun t172 => (if t172 = true then ((lexer_Name.f a0).bind fun t173 => ((planisphereref08_Name.f k a0).bind fun t174 => (planispherelaw08_LexerMatchesReference.j0 k a0 t161 (t173 != t174)))) else (planispherelaw08_LexerMatchesReference.j0 k a0 t161 true))) else (planispherelaw08_LexerMatchesReference.j0 k a0 t161 true)) else (planispherelaw08_LexerMatchesReference.j0 k a0 t161 true))))) = some r := H
 have A2 := Aside0.mk A20
 clear A20
 by_cases c3 : (a0.size : Int) > 21000
 ·rw [if_pos c3] at H
  have c3b0 : decide (21000 < (a0.size : Int)) = true := decide_eq_true c3
  have c3b1 : decide (21000 < a0.size) = true := decide_eq_true (by omega)
  clear c3
  obtain rfl := Option.some.inj H
  go_enter Try.func3, Try.ntmps3
  go_wp2_with (first | ((with_reducible refine gate_callee (f := 11) rfl ?_); refine goesL_ (some 10) rfl rfl Try.func11 (by kernel_rfl) rfl #[] rfl (by (try simp only [List.map_toArray, List.map_cons, List.map_nil]); first | done | rfl | (simp only [List.length_drop, List.length_take]; rfl)) ?_; (with_reducible refine (planispherelaw08_head.calls k  t161 _ A2.out).mono ?_); rintro e w4 ⟨rfl, hb⟩; refine ⟨_, rfl, ?_⟩; have n0_ := Aside0.mk (below_step HB.out hb); clear HB; have HB := n0_; clear n0_; (try clear hb); (try clear hb2); (try clear hk); (try clear hi)))
  go_ret
  exact ⟨by first | rfl | (simp [errW_none, errW_some] <;> rfl) | (simp [*, errW_none, errW_some] <;> rfl), by repeat (first | (with_reducible first | exact HB.out | apply below_alloc | apply pw_below_drewN | apply below_drew1) | exact HB.out)⟩
 ·rw [if_neg c3] at H
  have c3b0 : decide (21000 < (a0.size : Int)) = false := decide_eq_false c3
  have c3b1 : decide (21000 < a0.size) = false := decide_eq_false (by omega)
  clear c3
  replace H := Option.bind_eq_some_iff.mp H
  obtain ⟨⟨t162, t163, t164⟩, A50, H⟩ := H
  replace H : ((planisphereref08_Lex.f k a0).bind fun bt167 => (if t163 = bt167.2.1 then (if t164 = bt167.2.2 then ((planisphereref08_Same.f k t162 0 bt167.1).bind fun t172 => (if t172 = true then ((lexer_Name.f a0).bind fun t173 => ((planisphereref08_Name.f k a0).bind fun t174 => (planispherelaw08_LexerMatchesReference.j0 k a0 t161 (t173 != t174)))) else (planispherelaw08_LexerMatchesReference.j0 k a0 t161 true))) else (planispherelaw08_LexerMatchesReference.j0 k a0 t161 true)) else (planispherelaw08_LexerMatchesReference.j0 k a0 t161 true))) = some r := H
  have A5 := Aside0.mk A50
  clear A50
  replace H := Option.bind_eq_some_iff.mp H
  obtain ⟨⟨t167, t168, t169⟩, A60, H⟩ := H
  replace H : (if t163 = t168 then (if t164 = t169 then ((planisphereref08_Same.f k t162 0 t167).bind fun t172 => (if t172 = true then ((lexer_Name.f a0).bind fun t173 => ((planisphereref08_Name.f k a0).bind fun t174 => (planispherelaw08_LexerMatchesReference.j0 k a0 t161 (t173 != t174)))) else (planispherelaw08_LexerMatchesReference.j0 k a0 t161 true))) else (planispherelaw08_LexerMatchesReference.j0 k a0 t161 true)) else (planispherelaw08_LexerMatchesReference.j0 k a0 t161 true)) = some r := H
  have A6 := Aside0.mk A60
  clear A60
  have HC7 := Aside0.mk H
  clear H
  go_enter Try.func3, Try.ntmps3
  go_upto_region 6 with (first | ((with_reducible refine gate_callee (f := 11) rfl ?_); refine goesL_ (some 10) rfl rfl Try.func11 (by kernel_rfl) rfl #[] rfl (by (try simp only [List.map_toArray, List.map_cons, List.map_nil]); first | done | rfl | (simp only [List.length_drop, List.length_take]; rfl)) ?_; (with_reducible refine (planispherelaw08_head.calls k  t161 _ A2.out).mono ?_); rintro e w8 ⟨rfl, hb⟩; refine ⟨_, rfl, ?_⟩; have n0_ := Aside0.mk (below_step (by repeat (first | (with_reducible first | exact HB.out | apply below_alloc | apply pw_below_drewN | apply below_drew1) | exact HB.out)) hb); clear HB; have HB := n0_; clear n0_; (try clear hb); (try clear hb2); (try clear hk); (try clear hi)) | ((with_reducible refine gate_callee (f := 12) rfl ?_); refine goesL_ (some 17) rfl rfl Try.func12 (by kernel_rfl) rfl #[.string a0] rfl (by (try simp only [List.map_toArray, List.map_cons, List.map_nil]); first | done | rfl | (simp only [List.length_drop, List.length_take]; rfl)) ?_; (with_reducible refine (lexer_Lex.calls a0 t162 t163 t164 _ A5.out).mono ?_); rintro e w9 ⟨v165, rfl, ho0, hb⟩; refine ⟨_, rfl, ?_⟩; have n0_ := Aside0.mk (Kd.R_lower ho0 (below_size (by repeat (first | (with_reducible first | exact HB.out | apply below_alloc | apply pw_below_drewN | apply below_drew1) | exact HB.out)))); have n1_ := Aside0.mk (below_step (by repeat (first | (with_reducible first | exact HB.out | apply below_alloc | apply pw_below_drewN | apply below_drew1) | exact HB.out)) hb); clear HB; have HO166 := n0_; have HB := n1_; clear n0_ n1_; (try clear hb); (try clear hb2); (try clear hk); (try clear hi); (try clear ho0)) | ((with_reducible refine gate_callee (f := 13) rfl ?_); refine goesL_ (some 23) rfl rfl Try.func13 (by kernel_rfl) rfl #[.string a0] rfl (by (try simp only [List.map_toArray, List.map_cons, List.map_nil]); first | done | rfl | (simp only [List.length_drop, List.length_take]; rfl)) ?_; (with_reducible refine (planisphereref08_Lex.calls k a0 t167 t168 t169 _ A6.out).mono ?_); rintro e w10 ⟨v170, rfl, ho0, hb⟩; refine ⟨_, rfl, ?_⟩; have n0_ := Aside0.mk (Kd.R_elder' (by (with_reducible repeat (first | apply Kd.R_alloc | apply Kd.R_drewN | apply Kd.R_drew)); exact HO166.out) (Kd.R_base ho0) hb); have n1_ := Aside0.mk (Kd.R_lower (Kd.R_new' ho0 (Kd.R_lt (by (with_reducible repeat (first | apply Kd.R_alloc | apply Kd.R_drewN | apply Kd.R_drew)); exact HO166.out))) (below_size (by repeat (first | (with_reducible first | exact HB.out | apply below_alloc | apply pw_below_drewN | apply below_drew1) | exact HB.out)))); have n2_ := Aside0.mk (below_step (by repeat (first | (with_reducible first | exact HB.out | apply below_alloc | apply pw_below_drewN | apply below_drew1) | exact HB.out)) hb); clear HO166; clear HB; have HO166 := n0_; have HO171 := n1_; have HB := n2_; clear n0_ n1_ n2_; (try clear hb); (try clear hb2); (try clear hk); (try clear hi); (try clear ho0)))
  (try simp only [Act.put, List.setIfInBounds_toArray, List.set_cons_zero, List.set_cons_succ])
  go_cut [47] (fun v47 wc => ∃ (kq : Nat) (x47_6 : Bool), v47 = .bool x47_6 ∧ Aside0 (planispherelaw08_LexerMatchesReference.j0 kq a0 t161 x47_6 = some r) ∧ Aside0 (kq ≤ k) ∧ Aside0 (Below w.heap.size w wc))
  case first =>
   have H := HC7.out
   clear HC7
   by_cases c11 : t163 = t168
   ·rw [if_pos c11] at H
    have c11b0 : (t163 == t168) = true := beq_iff_eq.mpr c11
    have c11b1 : (t163 != t168) = false := bne_eq_false_iff_eq.mpr c11
    clear c11
    (first | rw [c11b0] | (simp only [i64_w, i32_w]; rw [c11b0]) | skip)
    by_cases c12 : t164 = t169
    ·rw [if_pos c12] at H
     have c12b0 : (t164 == t169) = true := beq_iff_eq.mpr c12
     have c12b1 : (t164 != t169) = false := bne_eq_false_iff_eq.mpr c12
     clear c12
     replace H := Option.bind_eq_some_iff.mp H
     obtain ⟨t172, A130, H⟩ := H
     replace H : (if t172 = true then ((lexer_Name.f a0).bind fun t173 => ((planisphereref08_Name.f k a0).bind fun t174 => (planispherelaw08_LexerMatchesReference.j0 k a0 t161 (t173 != t174)))) else (planispherelaw08_LexerMatchesReference.j0 k a0 t161 true)) = some r := H
     have A13 := Aside0.mk A130
     clear A130
     by_cases c14 : t172 = true
     ·subst c14
      have H1 : ((lexer_Name.f a0).bind fun t173 => ((planisphereref08_Name.f k a0).bind fun t174 => (planispherelaw08_LexerMatchesReference.j0 k a0 t161 (t173 != t174)))) = some r := by rw [if_pos rfl] at H; exact H
      clear H
      have H := H1
      clear H1
      replace H := Option.bind_eq_some_iff.mp H
      obtain ⟨t173, A150, H⟩ := H
      replace H : ((planisphereref08_Name.f k a0).bind fun t174 => (planispherelaw08_LexerMatchesReference.j0 k a0 t161 (t173 != t174))) = some r := H
      have A15 := Aside0.mk A150
      clear A150
      replace H := Option.bind_eq_some_iff.mp H
      obtain ⟨t174, A160, H⟩ := H
      replace H : (planispherelaw08_LexerMatchesReference.j0 k a0 t161 (t173 != t174)) = some r := H
      have A16 := Aside0.mk A160
      clear A160
      have H' := Aside0.mk H
      clear H
      obtain ⟨Ao17, co17, eo17⟩ := Kd.R_slice HO166.out
      subst eo17
      obtain ⟨Ao18, co18, eo18⟩ := Kd.R_slice HO171.out
      subst eo18
      go_wp2_with (first | (go_at_call 14; (with_reducible refine (planisphereref08_Same.calls k _ _ t162 0 _ _ t167 true _ ?side1 ?side2 ?side3 ?side4 A13.out).mono ?_); (case side1 => repeat (first | exact (Kd.R_reads' HO166.out).2.2 | (with_reducible refine Kd.C_alloc ?_ _) | (with_reducible refine Kd.C_drewN ?_ _) | (with_reducible refine Kd.C_drew ?_))); (case side2 => exact (Kd.R_reads' HO166.out).2.1); (case side3 => repeat (first | exact (Kd.R_reads' HO171.out).2.2 | (with_reducible refine Kd.C_alloc ?_ _) | (with_reducible refine Kd.C_drewN ?_ _) | (with_reducible refine Kd.C_drew ?_))); (case side4 => exact (Kd.R_reads' HO171.out).2.1); rintro e w19 ⟨rfl, hb⟩; have n0_ := Aside0.mk (Kd.R_below HO166.out hb); have n1_ := Aside0.mk (Kd.R_below HO171.out hb); have n2_ := Aside0.mk (below_step HB.out hb); clear HO166; clear HO171; clear HB; have HO166 := n0_; have HO171 := n1_; have HB := n2_; clear n0_ n1_ n2_; (try clear hb); (try clear hb2); (try clear hk); (try clear hi)) | (go_at_call 15; (with_reducible refine (lexer_Name.calls a0 t173 _ A15.out).mono ?_); rintro e w20 ⟨rfl, hb⟩; have n0_ := Aside0.mk (Kd.R_below HO166.out hb); have n1_ := Aside0.mk (Kd.R_below HO171.out hb); have n2_ := Aside0.mk (below_step HB.out hb); clear HO166; clear HO171; clear HB; have HO166 := n0_; have HO171 := n1_; have HB := n2_; clear n0_ n1_ n2_; (try clear hb); (try clear hb2); (try clear hk); (try clear hi)) | (go_at_call 16; (with_reducible refine (planisphereref08_Name.calls k a0 t174 _ A16.out).mono ?_); rintro e w' ⟨rfl, ⟨nd, rfl⟩⟩))
      go_meet
      case rel => exact ⟨_, ((t173 != t174)), (by first | rfl | (simp; done) | (simp [*]; done)), H', ⟨by first | omega | exact Nat.le_refl _⟩, ⟨by repeat (first | (with_reducible first | exact HB.out | apply below_alloc | apply pw_below_drewN | apply below_drew1) | exact HB.out)⟩⟩
     ·replace c14 := Bool.eq_false_iff.mpr c14
      subst c14
      have H1 : (planispherelaw08_LexerMatchesReference.j0 k a0 t161 true) = some r := by rw [if_neg (show ¬ (false = true) by decide)] at H; exact H
      clear H
      have H := H1
      clear H1
      have H' := Aside0.mk H
      clear H
      obtain ⟨Ao21, co21, eo21⟩ := Kd.R_slice HO166.out
      subst eo21
      obtain ⟨Ao22, co22, eo22⟩ := Kd.R_slice HO171.out
      subst eo22
      go_wp2_with (first | (go_at_call 14; (with_reducible refine (planisphereref08_Same.calls k _ _ t162 0 _ _ t167 false _ ?side1 ?side2 ?side3 ?side4 A13.out).mono ?_); (case side1 => repeat (first | exact (Kd.R_reads' HO166.out).2.2 | (with_reducible refine Kd.C_alloc ?_ _) | (with_reducible refine Kd.C_drewN ?_ _) | (with_reducible refine Kd.C_drew ?_))); (case side2 => exact (Kd.R_reads' HO166.out).2.1); (case side3 => repeat (first | exact (Kd.R_reads' HO171.out).2.2 | (with_reducible refine Kd.C_alloc ?_ _) | (with_reducible refine Kd.C_drewN ?_ _) | (with_reducible refine Kd.C_drew ?_))); (case side4 => exact (Kd.R_reads' HO171.out).2.1); rintro e w23 ⟨rfl, hb⟩; have n0_ := Aside0.mk (Kd.R_below HO166.out hb); have n1_ := Aside0.mk (Kd.R_below HO171.out hb); have n2_ := Aside0.mk (below_step HB.out hb); clear HO166; clear HO171; clear HB; have HO166 := n0_; have HO171 := n1_; have HB := n2_; clear n0_ n1_ n2_; (try clear hb); (try clear hb2); (try clear hk); (try clear hi)))
      go_meet
      case rel => exact ⟨_, (true), (by first | rfl | (simp; done) | (simp [*]; done)), H', ⟨by first | omega | exact Nat.le_refl _⟩, ⟨by repeat (first | (with_reducible first | exact HB.out | apply below_alloc | apply pw_below_drewN | apply below_drew1) | exact HB.out)⟩⟩
    ·rw [if_neg c12] at H
     have c12b0 : (t164 == t169) = false := beq_eq_false_iff_ne.mpr c12
     have c12b1 : (t164 != t169) = true := bne_iff_ne.mpr c12
     have H' := Aside0.mk H
     clear H
     go_wp2
     go_meet
     case rel => exact ⟨_, (true), (by first | rfl | (simp; done) | (simp [*]; done)), H', ⟨by first | omega | exact Nat.le_refl _⟩, ⟨by repeat (first | (with_reducible first | exact HB.out | apply below_alloc | apply pw_below_drewN | apply below_drew1) | exact HB.out)⟩⟩
   ·rw [if_neg c11] at H
    have c11b0 : (t163 == t168) = false := beq_eq_false_iff_ne.mpr c11
    have c11b1 : (t163 != t168) = true := bne_iff_ne.mpr c11
    (first | rw [c11b0] | (simp only [i64_w, i32_w]; rw [c11b0]) | skip)
    have H' := Aside0.mk H
    clear H
    go_wp2
    go_meet
    case rel => exact ⟨_, (true), (by first | rfl | (simp; done) | (simp [*]; done)), H', ⟨by first | omega | exact Nat.le_refl _⟩, ⟨by repeat (first | (with_reducible first | exact HB.out | apply below_alloc | apply pw_below_drewN | apply below_drew1) | exact HB.out)⟩⟩
  case rest =>
   clear HC7
   try clear c1
   try clear p2
   try clear c3
   try clear c3b0
   try clear c3b1
   try clear c11
   try clear c11b0
   try clear c11b1
   try clear c12
   try clear c12b0
   try clear c12b1
   try clear c13
   try clear c14
   obtain ⟨kq, x47_6, rfl, HA, HJ6, HB⟩ := hcut
   cases kq with
   | zero => exact absurd HA.out (by simp [planispherelaw08_LexerMatchesReference.j0])
   | succ kj6 =>
    have H := HA.out
    clear HA
    simp only [planispherelaw08_LexerMatchesReference.j0] at H
    by_cases c24 : x47_6 = true
    ·subst c24
     have H1 : (some false) = some r := by rw [if_pos rfl] at H; exact H
     clear H
     have H := H1
     clear H1
     obtain rfl := Option.some.inj H
     go_wp2
     go_ret
     exact ⟨by first | rfl | (simp [errW_none, errW_some] <;> rfl) | (simp [*, errW_none, errW_some] <;> rfl), by repeat (first | (with_reducible first | exact HB.out | apply below_alloc | apply pw_below_drewN | apply below_drew1) | exact HB.out)⟩
    ·replace c24 := Bool.eq_false_iff.mpr c24
     subst c24
     have H1 : (if t161 = true then (if (a0.size : Int) > 3000 then (some true) else ((lexer_Quote.f a0).bind fun t175 => ((planisphereref08_Quote.f kj6 a0).bind fun t176 => (some (t175.toList == t176.toList))))) else (some false)) = some r := by rw [if_neg (show ¬ (false = true) by decide)] at H; exact H
     clear H
     have H := H1
     clear H1
     by_cases c25 : t161 = true
     ·subst c25
      have H1 : (if (a0.size : Int) > 3000 then (some true) else ((lexer_Quote.f a0).bind fun t175 => ((planisphereref08_Quote.f kj6 a0).bind fun t176 => (some (t175.toList == t176.toList))))) = some r := by rw [if_pos rfl] at H; exact H
      clear H
      have H := H1
      clear H1
      by_cases c26 : (a0.size : Int) > 3000
      ·rw [if_pos c26] at H
       have c26b0 : decide (3000 < (a0.size : Int)) = true := decide_eq_true c26
       have c26b1 : decide (3000 < a0.size) = true := decide_eq_true (by omega)
       clear c26
       obtain rfl := Option.some.inj H
       go_wp2
       go_ret
       exact ⟨by first | rfl | (simp [errW_none, errW_some] <;> rfl) | (simp [*, errW_none, errW_some] <;> rfl), by repeat (first | (with_reducible first | exact HB.out | apply below_alloc | apply pw_below_drewN | apply below_drew1) | exact HB.out)⟩
      ·rw [if_neg c26] at H
       have c26b0 : decide (3000 < (a0.size : Int)) = false := decide_eq_false c26
       have c26b1 : decide (3000 < a0.size) = false := decide_eq_false (by omega)
       clear c26
       replace H := Option.bind_eq_some_iff.mp H
       obtain ⟨t175, A270, H⟩ := H
       replace H : ((planisphereref08_Quote.f kj6 a0).bind fun t176 => (some (t175.toList == t176.toList))) = some r := H
       have A27 := Aside0.mk A270
       clear A270
       replace H := Option.bind_eq_some_iff.mp H
       obtain ⟨t176, A280, H⟩ := H
       replace H : (some (t175.toList == t176.toList)) = some r := H
       have A28 := Aside0.mk A280
       clear A280
       obtain rfl := Option.some.inj H
       go_wp2_with (first | (go_at_call 17; (with_reducible refine (lexer_Quote.calls a0 t175 _ A27.out).mono ?_); rintro e w29 ⟨rfl, hb⟩; have n0_ := Aside0.mk (below_step HB.out hb); clear HB; have HB := n0_; clear n0_; (try clear hb); (try clear hb2); (try clear hk); (try clear hi)) | (go_at_call 18; (with_reducible refine (planisphereref08_Quote.calls kj6 a0 t176 _ A28.out).mono ?_); rintro e w' ⟨rfl, ⟨nd, rfl⟩⟩))
       go_ret
       exact ⟨by first | rfl | (simp [errW_none, errW_some] <;> rfl) | (simp [*, errW_none, errW_some] <;> rfl), by repeat (first | (with_reducible first | exact HB.out | apply below_alloc | apply pw_below_drewN | apply below_drew1) | exact HB.out)⟩
     ·replace c25 := Bool.eq_false_iff.mpr c25
      subst c25
      have H1 : (some false) = some r := by rw [if_neg (show ¬ (false = true) by decide)] at H; exact H
      clear H
      have H := H1
      clear H1
      obtain rfl := Option.some.inj H
      go_wp2
      go_ret
      exact ⟨by first | rfl | (simp [errW_none, errW_some] <;> rfl) | (simp [*, errW_none, errW_some] <;> rfl), by repeat (first | (with_reducible first | exact HB.out | apply below_alloc | apply pw_below_drewN | apply below_drew1) | exact HB.out)⟩

/-- THE ONE PURE STATEMENT of planispherelaw08_LexerMatchesReference: yours. -/
def planispherelaw08_LexerMatchesReference.Pure : Prop := ∀ (a0 : ByteArray), a0.size ≤ 140737488351232 → ∃ k, planispherelaw08_LexerMatchesReference.f k a0 = some true
theorem planispherelaw08_LexerMatchesReference.walk (P : planispherelaw08_LexerMatchesReference.Pure) (a0 : ByteArray) (w : World) (w0 : a0.size ≤ 140737488351232) :
    Calls Try.prog 3 #[.string a0] w fun e w' => e = .returned (.bool true) ∧ Below w.heap.size w w' := by
  obtain ⟨k, h⟩ := P a0 w0
  refine (planispherelaw08_LexerMatchesReference.calls k a0 true w h).mono ?_
  rintro e w' ⟨rfl, hd⟩
  exact ⟨rfl, hd⟩

end Go.Proofs.Ytflocikkhpjicaa.P
