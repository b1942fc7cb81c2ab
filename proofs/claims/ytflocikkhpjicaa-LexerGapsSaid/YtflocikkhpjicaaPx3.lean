-- printed for this claim by xprint.py (the seat's own program)
import Derived.Test.YtflocikkhpjicaaPx0
import Derived.Test.YtflocikkhpjicaaPx1
import Derived.Test.YtflocikkhpjicaaPx2
namespace Go.Proofs.Ytflocikkhpjicaa.P
open Go.RowKit Go.Proofs.YtflocikkhpjicaaW.PrintWords Go.Proofs.YtflocikkhpjicaaW.PrintLast Go.Proofs.YtflocikkhpjicaaW.PrintMore
attribute [local go_sem] max2_int min2_int max_two min_two max_three min_three max_four min_four   -- for this text's walks alone
set_option linter.unusedVariables false
set_option linter.unusedSimpArgs false

attribute [local go_sem high] eqA31
/-! ### planispherelaw08_head: function 11 -/
mutual
def planispherelaw08_head.j0 : Nat → List (S31) → Int → Int → Int → Int → Int → Int → Int → Int → Bool → Option (Bool)
  | 0, _, _, _, _, _, _, _, _, _, _ => none
  | k + 1, x1, x5, x6, x8, x9, x11, x12, x14, x15, x53 => if x53 = true then (some false) else (if 1 < (x1.length : Int) then (if (((rd_T31 x1 1).f0) == 1 && ((((rd_T31 x1 1).f1).toList) == ([119, 49] : List UInt8) && (((rd_T31 x1 1).f2) == 4))) = true then (if 2 < (x1.length : Int) then (if (((rd_T31 x1 2).f0) == 2 && ((((rd_T31 x1 2).f1).toList) == ([55] : List UInt8) && (((rd_T31 x1 2).f2) == 7))) = true then (if 3 < (x1.length : Int) then (if (((rd_T31 x1 3).f0) == 4 && ((((rd_T31 x1 3).f1).toList) == ([45] : List UInt8) && (((rd_T31 x1 3).f2) == 8))) = true then (if 4 < (x1.length : Int) then (planispherelaw08_head.j1 k x5 x6 x8 x9 x11 x12 x14 x15 (((rd_T31 x1 4).f0) == 3 && ((((rd_T31 x1 4).f1).toList) == ([97, 34, 98] : List UInt8) && (((rd_T31 x1 4).f2) == 9)))) else (none)) else (planispherelaw08_head.j1 k x5 x6 x8 x9 x11 x12 x14 x15 false)) else (none)) else (planispherelaw08_head.j1 k x5 x6 x8 x9 x11 x12 x14 x15 false)) else (none)) else (planispherelaw08_head.j1 k x5 x6 x8 x9 x11 x12 x14 x15 false)) else (none))
def planispherelaw08_head.j1 : Nat → Int → Int → Int → Int → Int → Int → Int → Int → Bool → Option (Bool)
  | 0, _, _, _, _, _, _, _, _, _ => none
  | k + 1, x5, x6, x8, x9, x11, x12, x14, x15, x16 => (lexer_Name.f (⟨#[97, 95, 49]⟩ : ByteArray)).bind fun t130 => (if t130 = true then ((lexer_Name.f (⟨#[49, 97]⟩ : ByteArray)).bind fun t131 => (if t131 = true then (if x16 = true then (some false) else (some false)) else ((lexer_Name.f (⟨#[]⟩ : ByteArray)).bind fun t132 => (if t132 = true then (if x16 = true then (some false) else (some false)) else ((lexer_Quote.f (⟨#[97, 10, 92]⟩ : ByteArray)).bind fun t133 => (if x16 = true then (if t133.toList = ([34, 97, 92, 110, 92, 92, 34] : List UInt8) then (if x5 = 3 then (if x6 = 2 then (if x8 = 4 then (if x9 = 0 then (if x11 = 3 then (if x12 = 2 then (if x14 = 2 then (some (x15 == 1)) else (some false)) else (some false)) else (some false)) else (some false)) else (some false)) else (some false)) else (some false)) else (some false)) else (some false))))))) else (if x16 = true then (some false) else (some false)))
end
def planispherelaw08_head.f (k : Nat)  : Option (Bool) := (lexer_Lex.f (⟨#[119, 97, 121, 32, 119, 49, 32, 55, 45, 34, 97, 92, 34, 98, 34, 35, 32, 121]⟩ : ByteArray)).bind fun bt101 => ((lexer_Lex.f (⟨#[97, 32, 33, 98]⟩ : ByteArray)).bind fun bt106 => ((lexer_Lex.f (⟨#[55, 120]⟩ : ByteArray)).bind fun bt111 => ((lexer_Lex.f (⟨#[97, 32, 34, 98]⟩ : ByteArray)).bind fun bt116 => ((lexer_Lex.f (⟨#[10, 97, 98, 99, 100, 101, 102, 103, 104, 105, 106, 107, 108, 109, 110, 111, 112, 113, 114, 115, 116, 117, 118, 119, 120, 121]⟩ : ByteArray)).bind fun bt121 => (if bt101.2.1 = 0 then (if bt101.2.2 = 0 then (planispherelaw08_head.j0 k bt101.1 bt106.2.1 bt106.2.2 bt111.2.1 bt111.2.2 bt116.2.1 bt116.2.2 bt121.2.1 bt121.2.2 ((bt101.1.length : Int) != 5)) else (planispherelaw08_head.j0 k bt101.1 bt106.2.1 bt106.2.2 bt111.2.1 bt111.2.2 bt116.2.1 bt116.2.2 bt121.2.1 bt121.2.2 true)) else (planispherelaw08_head.j0 k bt101.1 bt106.2.1 bt106.2.2 bt111.2.1 bt111.2.2 bt116.2.1 bt116.2.2 bt121.2.1 bt121.2.2 true))))))
theorem planispherelaw08_head.mono_l : ∀ k, (∀ y0 y1 y2 y3 y4 y5 y6 y7 y8 y9, LeO (planispherelaw08_head.j0 k y0 y1 y2 y3 y4 y5 y6 y7 y8 y9) (planispherelaw08_head.j0 (k + 1) y0 y1 y2 y3 y4 y5 y6 y7 y8 y9)) ∧ (∀ y0 y1 y2 y3 y4 y5 y6 y7 y8, LeO (planispherelaw08_head.j1 k y0 y1 y2 y3 y4 y5 y6 y7 y8) (planispherelaw08_head.j1 (k + 1) y0 y1 y2 y3 y4 y5 y6 y7 y8))
  | 0 => ⟨fun _ _ _ _ _ _ _ _ _ _ r h => by simp [planispherelaw08_head.j0] at h, fun _ _ _ _ _ _ _ _ _ r h => by simp [planispherelaw08_head.j1] at h⟩
  | k + 1 => by
    obtain ⟨ih0, ih1⟩ := planispherelaw08_head.mono_l k
    refine ⟨?_, ?_⟩
    · intro y0 y1 y2 y3 y4 y5 y6 y7 y8 y9
      unfold planispherelaw08_head.j0
      repeat' first
      | (with_reducible exact ih0 _ _ _ _ _ _ _ _ _ _)
      | (with_reducible exact ih1 _ _ _ _ _ _ _ _ _)
      | (with_reducible exact LeO.refl _)
      | (with_reducible exact LeO.none _)
      | (with_reducible refine LeO.ite ?_ ?_)
      | (with_reducible refine LeO.bind ?_ (fun _ => ?_))
      | exact ih0 _ _ _ _ _ _ _ _ _ _
      | exact ih1 _ _ _ _ _ _ _ _ _
      | exact LeO.none _
      | refine LeO.ite ?_ ?_
      | refine LeO.bind ?_ (fun _ => ?_)
    · intro y0 y1 y2 y3 y4 y5 y6 y7 y8
      unfold planispherelaw08_head.j1
      repeat' first
      | (with_reducible exact ih0 _ _ _ _ _ _ _ _ _ _)
      | (with_reducible exact ih1 _ _ _ _ _ _ _ _ _)
      | (with_reducible exact LeO.refl _)
      | (with_reducible exact LeO.none _)
      | (with_reducible refine LeO.ite ?_ ?_)
      | (with_reducible refine LeO.bind ?_ (fun _ => ?_))
      | exact ih0 _ _ _ _ _ _ _ _ _ _
      | exact ih1 _ _ _ _ _ _ _ _ _
      | exact LeO.none _
      | refine LeO.ite ?_ ?_
      | refine LeO.bind ?_ (fun _ => ?_)
theorem planispherelaw08_head.mono : ∀ k, LeO (planispherelaw08_head.f k ) (planispherelaw08_head.f (k + 1) ) := by
  intro  k
  obtain ⟨ih0, ih1⟩ := planispherelaw08_head.mono_l k
  unfold planispherelaw08_head.f
  repeat' first
      | (with_reducible exact ih0 _ _ _ _ _ _ _ _ _ _)
      | (with_reducible exact ih1 _ _ _ _ _ _ _ _ _)
      | (with_reducible exact LeO.refl _)
      | (with_reducible exact LeO.none _)
      | (with_reducible refine LeO.ite ?_ ?_)
      | (with_reducible refine LeO.bind ?_ (fun _ => ?_))
      | exact ih0 _ _ _ _ _ _ _ _ _ _
      | exact ih1 _ _ _ _ _ _ _ _ _
      | exact LeO.none _
      | refine LeO.ite ?_ ?_
      | refine LeO.bind ?_ (fun _ => ?_)
set_option maxHeartbeats 8000000 in
set_option maxRecDepth 100000 in
theorem planispherelaw08_head.calls (k : Nat)  (r : Bool) (w : World) (h : planispherelaw08_head.f k  = some r) :
    Calls Try.prog 11 #[] w fun e w' => e = .returned (.bool r) ∧ Below w.heap.size w w' := by
 have hu31 := Try.underlying31
 have HB := Aside0.mk (Below.refl w.heap.size w)
 have H : ((lexer_Lex.f (⟨#[119, 97, 121, 32, 119, 49, 32, 55, 45, 34, 97, 92, 34, 98, 34, 35, 32, 121]⟩ : ByteArray)).bind fun bt101 => ((lexer_Lex.f (⟨#[97, 32, 33, 98]⟩ : ByteArray)).bind fun bt106 => ((lexer_Lex.f (⟨#[55, 120]⟩ : ByteArray)).bind fun bt111 => ((lexer_Lex.f (⟨#[97, 32, 34, 98]⟩ : ByteArray)).bind fun bt116 => ((lexer_Lex.f (⟨#[10, 97, 98, 99, 100, 101, 102, 103, 104, 105, 106, 107, 108, 109, 110, 111, 112, 113, 114, 115, 116, 117, 118, 119, 120, 121]⟩ : ByteArray)).bind fun bt121 => (if bt101.2.1 = 0 then (if bt101.2.2 = 0 then (planispherelaw08_head.j0 k bt101.1 bt106.2.1 bt106.2.2 bt111.2.1 bt111.2.2 bt116.2.1 bt116.2.2 bt121.2.1 bt121.2.2 ((bt101.1.length : Int) != 5)) else (planispherelaw08_head.j0 k bt101.1 bt106.2.1 bt106.2.2 bt111.2.1 bt111.2.2 bt116.2.1 bt116.2.2 bt121.2.1 bt121.2.2 true)) else (planispherelaw08_head.j0 k bt101.1 bt106.2.1 bt106.2.2 bt111.2.1 bt111.2.2 bt116.2.1 bt116.2.2 bt121.2.1 bt121.2.2 true))))))) = some r := h
 clear h
 replace H := Option.bind_eq_some_iff.mp H
 obtain ⟨⟨t101, t102, t103⟩, A10, H⟩ := H
 replace H : ((lexer_Lex.f (⟨#[97, 32, 33, 98]⟩ : ByteArray)).bind fun bt106 => ((lexer_Lex.f (⟨#[55, 120]⟩ : ByteArray)).bind fun bt111 => ((lexer_Lex.f (⟨#[97, 32, 34, 98]⟩ : ByteArray)).bind fun bt116 => ((lexer_Lex.f (⟨#[10, 97, 98, 99, 100, 101, 102, 103, 104, 105, 106, 107, 108, 109, 110, 111, 112, 113, 114, 115, 116, 117, 118, 119, 120, 121]⟩ : ByteArray)).bind fun bt121 => (if t102 = 0 then (if t103 = 0 then (planispherelaw08_head.j0 k t101 bt106.2.1 bt106.2.2 bt111.2.1 bt111.2.2 bt116.2.1 bt116.2.2 bt121.2.1 bt121.2.2 ((t101.length : Int) != 5)) else (planispherelaw08_head.j0 k t101 bt106.2.1 bt106.2.2 bt111.2.1 bt111.2.2 bt116.2.1 bt116.2.2 bt121.2.1 bt121.2.2 true)) else (planispherelaw08_head.j0 k t101 bt106.2.1 bt106.2.2 bt111.2.1 bt111.2.2 bt116.2.1 bt116.2.2 bt121.2.1 bt121.2.2 true)))))) = some r := H
 have A1 := Aside0.mk A10
 clear A10
 replace H := Option.bind_eq_some_iff.mp H
 obtain ⟨⟨t106, t107, t108⟩, A20, H⟩ := H
 replace H : ((lexer_Lex.f (⟨#[55, 120]⟩ : ByteArray)).bind fun bt111 => ((lexer_Lex.f (⟨#[97, 32, 34, 98]⟩ : ByteArray)).bind fun bt116 => ((lexer_Lex.f (⟨#[10, 97, 98, 99, 100, 101, 102, 103, 104, 105, 106, 107, 108, 109, 110, 111, 112, 113, 114, 115, 116, 117, 118, 119, 120, 121]⟩ : ByteArray)).bind fun bt121 => (if t102 = 0 then (if t103 = 0 then (planispherelaw08_head.j0 k t101 t107 t108 bt111.2.1 bt111.2.2 bt116.2.1 bt116.2.2 bt121.2.1 bt121.2.2 ((t101.length : Int) != 5)) else (planispherelaw08_head.j0 k t101 t107 t108 bt111.2.1 bt111.2.2 bt116.2.1 bt116.2.2 bt121.2.1 bt121.2.2 true)) else (planispherelaw08_head.j0 k t101 t107 t108 bt111.2.1 bt111.2.2 bt116.2.1 bt116.2.2 bt121.2.1 bt121.2.2 true))))) = some r := H
 have A2 := Aside0.mk A20
 clear A20
 replace H := Option.bind_eq_some_iff.mp H
 obtain ⟨⟨t111, t112, t113⟩, A30, H⟩ := H
 replace H : ((lexer_Lex.f (⟨#[97, 32, 34, 98]⟩ : ByteArray)).bind fun bt116 => ((lexer_Lex.f (⟨#[10, 97, 98, 99, 100, 101, 102, 103, 104, 105, 106, 107, 108, 109, 110, 111, 112, 113, 114, 115, 116, 117, 118, 119, 120, 121]⟩ : ByteArray)).bind fun bt121 => (if t102 = 0 then (if t103 = 0 then (planispherelaw08_head.j0 k t101 t107 t108 t112 t113 bt116.2.1 bt116.2.2 bt121.2.1 bt121.2.2 ((t101.length : Int) != 5)) else (planispherelaw08_head.j0 k t101 t107 t108 t112 t113 bt116.2.1 bt116.2.2 bt121.2.1 bt121.2.2 true)) else (planispherelaw08_head.j0 k t101 t107 t108 t112 t113 bt116.2.1 bt116.2.2 bt121.2.1 bt121.2.2 true)))) = some r := H
 have A3 := Aside0.mk A30
 clear A30
 replace H := Option.bind_eq_some_iff.mp H
 obtain ⟨⟨t116, t117, t118⟩, A40, H⟩ := H
 replace H : ((lexer_Lex.f (⟨#[10, 97, 98, 99, 100, 101, 102, 103, 104, 105, 106, 107, 108, 109, 110, 111, 112, 113, 114, 115, 116, 117, 118, 119, 120, 121]⟩ : ByteArray)).bind fun bt121 => (if t102 = 0 then (if t103 = 0 then (planispherelaw08_head.j0 k t101 t107 t108 t112 t113 t117 t118 bt121.2.1 bt121.2.2 ((t101.length : Int) != 5)) else (planispherelaw08_head.j0 k t101 t107 t108 t112 t113 t117 t118 bt121.2.1 bt121.2.2 true)) else (planispherelaw08_head.j0 k t101 t107 t108 t112 t113 t117 t118 bt121.2.1 bt121.2.2 true))) = some r := H
 have A4 := Aside0.mk A40
 clear A40
 replace H := Option.bind_eq_some_iff.mp H
 obtain ⟨⟨t121, t122, t123⟩, A50, H⟩ := H
 replace H : (if t102 = 0 then (if t103 = 0 then (planispherelaw08_head.j0 k t101 t107 t108 t112 t113 t117 t118 t122 t123 ((t101.length : Int) != 5)) else (planispherelaw08_head.j0 k t101 t107 t108 t112 t113 t117 t118 t122 t123 true)) else (planispherelaw08_head.j0 k t101 t107 t108 t112 t113 t117 t118 t122 t123 true)) = some r := H
 have A5 := Aside0.mk A50
 clear A50
 have HC6 := Aside0.mk H
 clear H
 go_enter Try.func11, Try.ntmps11
 go_upto_region 6 with (first | ((with_reducible refine gate_callee (f := 12) rfl ?_); refine goesL_ (some 19) rfl rfl Try.func12 (by kernel_rfl) rfl #[.string (⟨#[119, 97, 121, 32, 119, 49, 32, 55, 45, 34, 97, 92, 34, 98, 34, 35, 32, 121]⟩ : ByteArray)] rfl (by (try simp only [List.map_toArray, List.map_cons, List.map_nil]); first | done | rfl | (simp only [List.length_drop, List.length_take]; rfl)) ?_; (with_reducible refine (lexer_Lex.calls (⟨#[119, 97, 121, 32, 119, 49, 32, 55, 45, 34, 97, 92, 34, 98, 34, 35, 32, 121]⟩ : ByteArray) t101 t102 t103 _ A1.out).mono ?_); rintro e w7 ⟨v104, rfl, ho0, hb⟩; refine ⟨_, rfl, ?_⟩; have n0_ := Aside0.mk (Kd.R_lower ho0 (below_size (by repeat (first | (with_reducible first | exact HB.out | apply below_alloc | apply pw_below_drewN | apply below_drew1) | exact HB.out)))); have n1_ := Aside0.mk (below_step (by repeat (first | (with_reducible first | exact HB.out | apply below_alloc | apply pw_below_drewN | apply below_drew1) | exact HB.out)) hb); clear HB; have HO105 := n0_; have HB := n1_; clear n0_ n1_; (try clear hb); (try clear hb2); (try clear hk); (try clear hi); (try clear ho0)) | ((with_reducible refine gate_callee (f := 12) rfl ?_); refine goesL_ (some 24) rfl rfl Try.func12 (by kernel_rfl) rfl #[.string (⟨#[97, 32, 33, 98]⟩ : ByteArray)] rfl (by (try simp only [List.map_toArray, List.map_cons, List.map_nil]); first | done | rfl | (simp only [List.length_drop, List.length_take]; rfl)) ?_; (with_reducible refine (lexer_Lex.calls (⟨#[97, 32, 33, 98]⟩ : ByteArray) t106 t107 t108 _ A2.out).mono ?_); rintro e w8 ⟨v109, rfl, ho0, hb⟩; refine ⟨_, rfl, ?_⟩; have n0_ := Aside0.mk (Kd.R_elder' (by (with_reducible repeat (first | apply Kd.R_alloc | apply Kd.R_drewN | apply Kd.R_drew)); exact HO105.out) (Kd.R_base ho0) hb); have n1_ := Aside0.mk (Kd.R_lower (Kd.R_new' ho0 (Kd.R_lt (by (with_reducible repeat (first | apply Kd.R_alloc | apply Kd.R_drewN | apply Kd.R_drew)); exact HO105.out))) (below_size (by repeat (first | (with_reducible first | exact HB.out | apply below_alloc | apply pw_below_drewN | apply below_drew1) | exact HB.out)))); have n2_ := Aside0.mk (below_step (by repeat (first | (with_reducible first | exact HB.out | apply below_alloc | apply pw_below_drewN | apply below_drew1) | exact HB.out)) hb); clear HO105; clear HB; have HO105 := n0_; have HO110 := n1_; have HB := n2_; clear n0_ n1_ n2_; (try clear hb); (try clear hb2); (try clear hk); (try clear hi); (try clear ho0)) | ((with_reducible refine gate_callee (f := 12) rfl ?_); refine goesL_ (some 29) rfl rfl Try.func12 (by kernel_rfl) rfl #[.string (⟨#[55, 120]⟩ : ByteArray)] rfl (by (try simp only [List.map_toArray, List.map_cons, List.map_nil]); first | done | rfl | (simp only [List.length_drop, List.length_take]; rfl)) ?_; (with_reducible refine (lexer_Lex.calls (⟨#[55, 120]⟩ : ByteArray) t111 t112 t113 _ A3.out).mono ?_); rintro e w9 ⟨v114, rfl, ho0, hb⟩; refine ⟨_, rfl, ?_⟩; have n0_ := Aside0.mk (Kd.R_elder' (by (with_reducible repeat (first | apply Kd.R_alloc | apply Kd.R_drewN | apply Kd.R_drew)); exact HO105.out) (Kd.R_base ho0) hb); have n1_ := Aside0.mk (Kd.R_elder' (by (with_reducible repeat (first | apply Kd.R_alloc | apply Kd.R_drewN | apply Kd.R_drew)); exact HO110.out) (Kd.R_base ho0) hb); have n2_ := Aside0.mk (Kd.R_lower (Kd.R_new' (Kd.R_new' ho0 (Kd.R_lt (by (with_reducible repeat (first | apply Kd.R_alloc | apply Kd.R_drewN | apply Kd.R_drew)); exact HO105.out))) (Kd.R_lt (by (with_reducible repeat (first | apply Kd.R_alloc | apply Kd.R_drewN | apply Kd.R_drew)); exact HO110.out))) (below_size (by repeat (first | (with_reducible first | exact HB.out | apply below_alloc | apply pw_below_drewN | apply below_drew1) | exact HB.out)))); have n3_ := Aside0.mk (below_step (by repeat (first | (with_reducible first | exact HB.out | apply below_alloc | apply pw_below_drewN | apply below_drew1) | exact HB.out)) hb); clear HO105; clear HO110; clear HB; have HO105 := n0_; have HO110 := n1_; have HO115 := n2_; have HB := n3_; clear n0_ n1_ n2_ n3_; (try clear hb); (try clear hb2); (try clear hk); (try clear hi); (try clear ho0)) | ((with_reducible refine gate_callee (f := 12) rfl ?_); refine goesL_ (some 34) rfl rfl Try.func12 (by kernel_rfl) rfl #[.string (⟨#[97, 32, 34, 98]⟩ : ByteArray)] rfl (by (try simp only [List.map_toArray, List.map_cons, List.map_nil]); first | done | rfl | (simp only [List.length_drop, List.length_take]; rfl)) ?_; (with_reducible refine (lexer_Lex.calls (⟨#[97, 32, 34, 98]⟩ : ByteArray) t116 t117 t118 _ A4.out).mono ?_); rintro e w10 ⟨v119, rfl, ho0, hb⟩; refine ⟨_, rfl, ?_⟩; have n0_ := Aside0.mk (Kd.R_elder' (by (with_reducible repeat (first | apply Kd.R_alloc | apply Kd.R_drewN | apply Kd.R_drew)); exact HO105.out) (Kd.R_base ho0) hb); have n1_ := Aside0.mk (Kd.R_elder' (by (with_reducible repeat (first | apply Kd.R_alloc | apply Kd.R_drewN | apply Kd.R_drew)); exact HO110.out) (Kd.R_base ho0) hb); have n2_ := Aside0.mk (Kd.R_elder' (by (with_reducible repeat (first | apply Kd.R_alloc | apply Kd.R_drewN | apply Kd.R_drew)); exact HO115.out) (Kd.R_base ho0) hb); have n3_ := Aside0.mk (Kd.R_lower (Kd.R_new' (Kd.R_new' (Kd.R_new' ho0 (Kd.R_lt (by (with_reducible repeat (first | apply Kd.R_alloc | apply Kd.R_drewN | apply Kd.R_drew)); exact HO105.out))) (Kd.R_lt (by (with_reducible repeat (first | apply Kd.R_alloc | apply Kd.R_drewN | apply Kd.R_drew)); exact HO110.out))) (Kd.R_lt (by (with_reducible repeat (first | apply Kd.R_alloc | apply Kd.R_drewN | apply Kd.R_drew)); exact HO115.out))) (below_size (by repeat (first | (with_reducible first | exact HB.out | apply below_alloc | apply pw_below_drewN | apply below_drew1) | exact HB.out)))); have n4_ := Aside0.mk (below_step (by repeat (first | (with_reducible first | exact HB.out | apply below_alloc | apply pw_below_drewN | apply below_drew1) | exact HB.out)) hb); clear HO105; clear HO110; clear HO115; clear HB; have HO105 := n0_; have HO110 := n1_; have HO115 := n2_; have HO120 := n3_; have HB := n4_; clear n0_ n1_ n2_ n3_ n4_; (try clear hb); (try clear hb2); (try clear hk); (try clear hi); (try clear ho0)) | ((with_reducible refine gate_callee (f := 12) rfl ?_); refine goesL_ (some 39) rfl rfl Try.func12 (by kernel_rfl) rfl #[.string (⟨#[10, 97, 98, 99, 100, 101, 102, 103, 104, 105, 106, 107, 108, 109, 110, 111, 112, 113, 114, 115, 116, 117, 118, 119, 120, 121]⟩ : ByteArray)] rfl (by (try simp only [List.map_toArray, List.map_cons, List.map_nil]); first | done | rfl | (simp only [List.length_drop, List.length_take]; rfl)) ?_; (with_reducible refine (lexer_Lex.calls (⟨#[10, 97, 98, 99, 100, 101, 102, 103, 104, 105, 106, 107, 108, 109, 110, 111, 112, 113, 114, 115, 116, 117, 118, 119, 120, 121]⟩ : ByteArray) t121 t122 t123 _ A5.out).mono ?_); rintro e w11 ⟨v124, rfl, ho0, hb⟩; refine ⟨_, rfl, ?_⟩; have n0_ := Aside0.mk (Kd.R_elder' (by (with_reducible repeat (first | apply Kd.R_alloc | apply Kd.R_drewN | apply Kd.R_drew)); exact HO105.out) (Kd.R_base ho0) hb); have n1_ := Aside0.mk (Kd.R_elder' (by (with_reducible repeat (first | apply Kd.R_alloc | apply Kd.R_drewN | apply Kd.R_drew)); exact HO110.out) (Kd.R_base ho0) hb); have n2_ := Aside0.mk (Kd.R_elder' (by (with_reducible repeat (first | apply Kd.R_alloc | apply Kd.R_drewN | apply Kd.R_drew)); exact HO115.out) (Kd.R_base ho0) hb); have n3_ := Aside0.mk (Kd.R_elder' (by (with_reducible repeat (first | apply Kd.R_alloc | apply Kd.R_drewN | apply Kd.R_drew)); exact HO120.out) (Kd.R_base ho0) hb); have n4_ := Aside0.mk (Kd.R_lower (Kd.R_new' (Kd.R_new' (Kd.R_new' (Kd.R_new' ho0 (Kd.R_lt (by (with_reducible repeat (first | apply Kd.R_alloc | apply Kd.R_drewN | apply Kd.R_drew)); exact HO105.out))) (Kd.R_lt (by (with_reducible repeat (first | apply Kd.R_alloc | apply Kd.R_drewN | apply Kd.R_drew)); exact HO110.out))) (Kd.R_lt (by (with_reducible repeat (first | apply Kd.R_alloc | apply Kd.R_drewN | apply Kd.R_drew)); exact HO115.out))) (Kd.R_lt (by (with_reducible repeat (first | apply Kd.R_alloc | apply Kd.R_drewN | apply Kd.R_drew)); exact HO120.out))) (below_size (by repeat (first | (with_reducible first | exact HB.out | apply below_alloc | apply pw_below_drewN | apply below_drew1) | exact HB.out)))); have n5_ := Aside0.mk (below_step (by repeat (first | (with_reducible first | exact HB.out | apply below_alloc | apply pw_below_drewN | apply below_drew1) | exact HB.out)) hb); clear HO105; clear HO110; clear HO115; clear HO120; clear HB; have HO105 := n0_; have HO110 := n1_; have HO115 := n2_; have HO120 := n3_; have HO125 := n4_; have HB := n5_; clear n0_ n1_ n2_ n3_ n4_ n5_; (try clear hb); (try clear hb2); (try clear hk); (try clear hi); (try clear ho0)))
 (try simp only [Act.put, List.setIfInBounds_toArray, List.set_cons_zero, List.set_cons_succ])
 go_cut [53] (fun v53 wc => ∃ (kq : Nat) (x53_5 : Bool), v53 = .bool x53_5 ∧ Aside0 (planispherelaw08_head.j0 kq t101 t107 t108 t112 t113 t117 t118 t122 t123 x53_5 = some r) ∧ Aside0 (kq ≤ k) ∧ Aside0 (Kd.R k31 31 wc w.heap.size (fun _ => True) v104 t101) ∧ Aside0 (Below w.heap.size w wc))
 case first =>
  have H := HC6.out
  clear HC6
  by_cases c12 : t102 = 0
  ·rw [if_pos c12] at H
   have c12b0 : (t102 == 0) = true := beq_iff_eq.mpr c12
   have c12b1 : (t102 != 0) = false := bne_eq_false_iff_eq.mpr c12
   clear c12
   (first | rw [c12b0] | (simp only [i64_w, i32_w]; rw [c12b0]) | skip)
   by_cases c13 : t103 = 0
   ·rw [if_pos c13] at H
    have c13b0 : (t103 == 0) = true := beq_iff_eq.mpr c13
    have c13b1 : (t103 != 0) = false := bne_eq_false_iff_eq.mpr c13
    clear c13
    have H' := Aside0.mk H
    clear H
    obtain ⟨Ao14, co14, eo14⟩ := Kd.R_slice HO105.out
    subst eo14
    go_wp2
    go_meet
    case rel => exact ⟨_, (((t101.length : Int) != 5)), (by first | rfl | (simp; done) | (simp [*]; done)), H', ⟨by first | omega | exact Nat.le_refl _⟩, ⟨by (with_reducible repeat (first | apply Kd.R_alloc | apply Kd.R_drewN | apply Kd.R_drew)); exact Kd.R_mono HO105.out (fun _ hk => trivial)⟩, ⟨by repeat (first | (with_reducible first | exact HB.out | apply below_alloc | apply pw_below_drewN | apply below_drew1) | exact HB.out)⟩⟩
   ·rw [if_neg c13] at H
    have c13b0 : (t103 == 0) = false := beq_eq_false_iff_ne.mpr c13
    have c13b1 : (t103 != 0) = true := bne_iff_ne.mpr c13
    have H' := Aside0.mk H
    clear H
    go_wp2
    go_meet
    case rel => exact ⟨_, (true), (by first | rfl | (simp; done) | (simp [*]; done)), H', ⟨by first | omega | exact Nat.le_refl _⟩, ⟨by (with_reducible repeat (first | apply Kd.R_alloc | apply Kd.R_drewN | apply Kd.R_drew)); exact Kd.R_mono HO105.out (fun _ hk => trivial)⟩, ⟨by repeat (first | (with_reducible first | exact HB.out | apply below_alloc | apply pw_below_drewN | apply below_drew1) | exact HB.out)⟩⟩
  ·rw [if_neg c12] at H
   have c12b0 : (t102 == 0) = false := beq_eq_false_iff_ne.mpr c12
   have c12b1 : (t102 != 0) = true := bne_iff_ne.mpr c12
   (first | rw [c12b0] | (simp only [i64_w, i32_w]; rw [c12b0]) | skip)
   have H' := Aside0.mk H
   clear H
   go_wp2
   go_meet
   case rel => exact ⟨_, (true), (by first | rfl | (simp; done) | (simp [*]; done)), H', ⟨by first | omega | exact Nat.le_refl _⟩, ⟨by (with_reducible repeat (first | apply Kd.R_alloc | apply Kd.R_drewN | apply Kd.R_drew)); exact Kd.R_mono HO105.out (fun _ hk => trivial)⟩, ⟨by repeat (first | (with_reducible first | exact HB.out | apply below_alloc | apply pw_below_drewN | apply below_drew1) | exact HB.out)⟩⟩
 case rest =>
  clear HC6
  try clear c1
  try clear p2
  try clear c11
  try clear c12
  try clear c12b0
  try clear c12b1
  try clear c13
  try clear c13b0
  try clear c13b1
  obtain ⟨kq, x53_5, rfl, HA, HJ5, HO_1, HB⟩ := hcut
  cases kq with
  | zero => exact absurd HA.out (by simp [planispherelaw08_head.j0])
  | succ kj5 =>
   have H := HA.out
   clear HA
   simp only [planispherelaw08_head.j0] at H
   by_cases c15 : x53_5 = true
   ·subst c15
    have H1 : (some false) = some r := by rw [if_pos rfl] at H; exact H
    clear H
    have H := H1
    clear H1
    obtain rfl := Option.some.inj H
    go_wp2
    go_ret
    exact ⟨by first | rfl | (simp [errW_none, errW_some] <;> rfl) | (simp [*, errW_none, errW_some] <;> rfl), by repeat (first | (with_reducible first | exact HB.out | apply below_alloc | apply pw_below_drewN | apply below_drew1) | exact HB.out)⟩
   ·replace c15 := Bool.eq_false_iff.mpr c15
    subst c15
    have H1 : (if 1 < (t101.length : Int) then (if (((rd_T31 t101 1).f0) == 1 && ((((rd_T31 t101 1).f1).toList) == ([119, 49] : List UInt8) && (((rd_T31 t101 1).f2) == 4))) = true then (if 2 < (t101.length : Int) then (if (((rd_T31 t101 2).f0) == 2 && ((((rd_T31 t101 2).f1).toList) == ([55] : List UInt8) && (((rd_T31 t101 2).f2) == 7))) = true then (if 3 < (t101.length : Int) then (if (((rd_T31 t101 3).f0) == 4 && ((((rd_T31 t101 3).f1).toList) == ([45] : List UInt8) && (((rd_T31 t101 3).f2) == 8))) = true then (if 4 < (t101.length : Int) then (planispherelaw08_head.j1 kj5 t107 t108 t112 t113 t117 t118 t122 t123 (((rd_T31 t101 4).f0) == 3 && ((((rd_T31 t101 4).f1).toList) == ([97, 34, 98] : List UInt8) && (((rd_T31 t101 4).f2) == 9)))) else (none)) else (planispherelaw08_head.j1 kj5 t107 t108 t112 t113 t117 t118 t122 t123 false)) else (none)) else (planispherelaw08_head.j1 kj5 t107 t108 t112 t113 t117 t118 t122 t123 false)) else (none)) else (planispherelaw08_head.j1 kj5 t107 t108 t112 t113 t117 t118 t122 t123 false)) else (none)) = some r := by rw [if_neg (show ¬ (false = true) by decide)] at H; exact H
    clear H
    have H := H1
    clear H1
    have HC16 := Aside0.mk H
    clear H
    go_upto_region 8 with (fail)
    go_cut [16] (fun v16 wc => ∃ (kq : Nat) (x16_15 : Bool), v16 = .bool x16_15 ∧ Aside0 (planispherelaw08_head.j1 kq t107 t108 t112 t113 t117 t118 t122 t123 x16_15 = some r) ∧ Aside0 (kq ≤ kj5) ∧ Aside0 (Below w.heap.size w wc))
    case first =>
     have H := HC16.out
     clear HC16
     by_cases c17 : 1 < (t101.length : Int)
     ·rw [if_pos c17] at H
      have c17b0 : decide (1 < (t101.length : Int)) = true := decide_eq_true c17
      have c17b1 : decide (1 < t101.length) = true := decide_eq_true (by omega)
      clear c17
      (first | rw [c17b0] | (simp only [i64_w, i32_w]; rw [c17b0]) | skip)
      by_cases c18 : (((rd_T31 t101 1).f0) == 1 && ((((rd_T31 t101 1).f1).toList) == ([119, 49] : List UInt8) && (((rd_T31 t101 1).f2) == 4))) = true
      ·rw [if_pos c18] at H
       have c18b0 : (((rd_T31 t101 1).f0) == 1 && ((((rd_T31 t101 1).f1).toList) == ([119, 49] : List UInt8) && (((rd_T31 t101 1).f2) == 4))) = true := c18
       (try (have c18b1 : decide (((rd_T31 t101 1).f0) = 1 && ((((rd_T31 t101 1).f1).toList) == ([119, 49] : List UInt8) && (((rd_T31 t101 1).f2) == 4))) = true := by simpa using c18))
       (try (have c18b2 : (((rd_T31 t101 1).f0) == 1 && ((((rd_T31 t101 1).f1).toList) == ([119, 49] : List UInt8) && (((rd_T31 t101 1).f2) == 4))) = true := by simpa using c18))
       clear c18
       by_cases c19 : 2 < (t101.length : Int)
       ·rw [if_pos c19] at H
        have c19b0 : decide (2 < (t101.length : Int)) = true := decide_eq_true c19
        have c19b1 : decide (2 < t101.length) = true := decide_eq_true (by omega)
        clear c19
        by_cases c20 : (((rd_T31 t101 2).f0) == 2 && ((((rd_T31 t101 2).f1).toList) == ([55] : List UInt8) && (((rd_T31 t101 2).f2) == 7))) = true
        ·rw [if_pos c20] at H
         have c20b0 : (((rd_T31 t101 2).f0) == 2 && ((((rd_T31 t101 2).f1).toList) == ([55] : List UInt8) && (((rd_T31 t101 2).f2) == 7))) = true := c20
         (try (have c20b1 : decide (((rd_T31 t101 2).f0) = 2 && ((((rd_T31 t101 2).f1).toList) == ([55] : List UInt8) && (((rd_T31 t101 2).f2) == 7))) = true := by simpa using c20))
         (try (have c20b2 : (((rd_T31 t101 2).f0) == 2 && ((((rd_T31 t101 2).f1).toList) == ([55] : List UInt8) && (((rd_T31 t101 2).f2) == 7))) = true := by simpa using c20))
         clear c20
         by_cases c21 : 3 < (t101.length : Int)
         ·rw [if_pos c21] at H
          have c21b0 : decide (3 < (t101.length : Int)) = true := decide_eq_true c21
          have c21b1 : decide (3 < t101.length) = true := decide_eq_true (by omega)
          clear c21
          by_cases c22 : (((rd_T31 t101 3).f0) == 4 && ((((rd_T31 t101 3).f1).toList) == ([45] : List UInt8) && (((rd_T31 t101 3).f2) == 8))) = true
          ·rw [if_pos c22] at H
           have c22b0 : (((rd_T31 t101 3).f0) == 4 && ((((rd_T31 t101 3).f1).toList) == ([45] : List UInt8) && (((rd_T31 t101 3).f2) == 8))) = true := c22
           (try (have c22b1 : decide (((rd_T31 t101 3).f0) = 4 && ((((rd_T31 t101 3).f1).toList) == ([45] : List UInt8) && (((rd_T31 t101 3).f2) == 8))) = true := by simpa using c22))
           (try (have c22b2 : (((rd_T31 t101 3).f0) == 4 && ((((rd_T31 t101 3).f1).toList) == ([45] : List UInt8) && (((rd_T31 t101 3).f2) == 8))) = true := by simpa using c22))
           clear c22
           by_cases c23 : 4 < (t101.length : Int)
           ·rw [if_pos c23] at H
            have c23b0 : decide (4 < (t101.length : Int)) = true := decide_eq_true c23
            have c23b1 : decide (4 < t101.length) = true := decide_eq_true (by omega)
            clear c23
            have H' := Aside0.mk H
            clear H
            obtain ⟨Ao24, co24, eo24⟩ := Kd.R_slice HO_1.out
            subst eo24
            have p126 : 0 ≤ (1 : Int) := (by omega)
            have q126 : 1 < (t101.length : Int) := of_decide_eq_true (by first | (with_reducible assumption) | assumption)
            obtain ⟨ad126, e126, hx126_0, hx126_1, hx126_2⟩ := at_T31 (Kd.R_reads' HO_1.out).2.2 1 p126 q126
            cases e126
            (try simp only [show (1 : Int).toNat = 1 from rfl, Nat.reduceMul, Nat.reduceEqDiff, Go.Addr.add, ↓reduceIte] at hx126_0)
            (try simp only [show (1 : Int).toNat = 1 from rfl, Nat.reduceMul, Nat.reduceEqDiff, Go.Addr.add, ↓reduceIte] at hx126_1)
            (try simp only [show (1 : Int).toNat = 1 from rfl, Nat.reduceMul, Nat.reduceEqDiff, Go.Addr.add, ↓reduceIte] at hx126_2)
            have qi126 : (1 < t101.length) = True := eq_true (by omega)
            (try rw [show ((1 : Int)).toNat = 1 from rfl] at hx126_0)
            (try rw [show 1 * 3 = 3 from rfl] at hx126_0)
            (try rw [show ((1 : Int)).toNat = 1 from rfl] at hx126_1)
            (try rw [show 1 * 3 = 3 from rfl] at hx126_1)
            (try rw [show ((1 : Int)).toNat = 1 from rfl] at hx126_2)
            (try rw [show 1 * 3 = 3 from rfl] at hx126_2)
            replace p126 := eq_true p126
            replace q126 := eq_true q126
            have p127 : 0 ≤ (2 : Int) := (by omega)
            have q127 : 2 < (t101.length : Int) := of_decide_eq_true (by first | (with_reducible assumption) | assumption)
            obtain ⟨ad127, e127, hx127_0, hx127_1, hx127_2⟩ := at_T31 (Kd.R_reads' HO_1.out).2.2 2 p127 q127
            obtain rfl : ad126 = ad127 := (by injection e127)
            (try simp only [show (2 : Int).toNat = 2 from rfl, Nat.reduceMul, Nat.reduceEqDiff, Go.Addr.add, ↓reduceIte] at hx127_0)
            (try simp only [show (2 : Int).toNat = 2 from rfl, Nat.reduceMul, Nat.reduceEqDiff, Go.Addr.add, ↓reduceIte] at hx127_1)
            (try simp only [show (2 : Int).toNat = 2 from rfl, Nat.reduceMul, Nat.reduceEqDiff, Go.Addr.add, ↓reduceIte] at hx127_2)
            have qi127 : (2 < t101.length) = True := eq_true (by omega)
            (try rw [show ((2 : Int)).toNat = 2 from rfl] at hx127_0)
            (try rw [show 2 * 3 = 6 from rfl] at hx127_0)
            (try rw [show ((2 : Int)).toNat = 2 from rfl] at hx127_1)
            (try rw [show 2 * 3 = 6 from rfl] at hx127_1)
            (try rw [show ((2 : Int)).toNat = 2 from rfl] at hx127_2)
            (try rw [show 2 * 3 = 6 from rfl] at hx127_2)
            replace p127 := eq_true p127
            replace q127 := eq_true q127
            have p128 : 0 ≤ (3 : Int) := (by omega)
            have q128 : 3 < (t101.length : Int) := of_decide_eq_true (by first | (with_reducible assumption) | assumption)
            obtain ⟨ad128, e128, hx128_0, hx128_1, hx128_2⟩ := at_T31 (Kd.R_reads' HO_1.out).2.2 3 p128 q128
            obtain rfl : ad126 = ad128 := (by injection e128)
            (try simp only [show (3 : Int).toNat = 3 from rfl, Nat.reduceMul, Nat.reduceEqDiff, Go.Addr.add, ↓reduceIte] at hx128_0)
            (try simp only [show (3 : Int).toNat = 3 from rfl, Nat.reduceMul, Nat.reduceEqDiff, Go.Addr.add, ↓reduceIte] at hx128_1)
            (try simp only [show (3 : Int).toNat = 3 from rfl, Nat.reduceMul, Nat.reduceEqDiff, Go.Addr.add, ↓reduceIte] at hx128_2)
            have qi128 : (3 < t101.length) = True := eq_true (by omega)
            (try rw [show ((3 : Int)).toNat = 3 from rfl] at hx128_0)
            (try rw [show 3 * 3 = 9 from rfl] at hx128_0)
            (try rw [show ((3 : Int)).toNat = 3 from rfl] at hx128_1)
            (try rw [show 3 * 3 = 9 from rfl] at hx128_1)
            (try rw [show ((3 : Int)).toNat = 3 from rfl] at hx128_2)
            (try rw [show 3 * 3 = 9 from rfl] at hx128_2)
            replace p128 := eq_true p128
            replace q128 := eq_true q128
            have p129 : 0 ≤ (4 : Int) := (by omega)
            have q129 : 4 < (t101.length : Int) := of_decide_eq_true (by first | (with_reducible assumption) | assumption)
            obtain ⟨ad129, e129, hx129_0, hx129_1, hx129_2⟩ := at_T31 (Kd.R_reads' HO_1.out).2.2 4 p129 q129
            obtain rfl : ad126 = ad129 := (by injection e129)
            (try simp only [show (4 : Int).toNat = 4 from rfl, Nat.reduceMul, Nat.reduceEqDiff, Go.Addr.add, ↓reduceIte] at hx129_0)
            (try simp only [show (4 : Int).toNat = 4 from rfl, Nat.reduceMul, Nat.reduceEqDiff, Go.Addr.add, ↓reduceIte] at hx129_1)
            (try simp only [show (4 : Int).toNat = 4 from rfl, Nat.reduceMul, Nat.reduceEqDiff, Go.Addr.add, ↓reduceIte] at hx129_2)
            have qi129 : (4 < t101.length) = True := eq_true (by omega)
            (try rw [show ((4 : Int)).toNat = 4 from rfl] at hx129_0)
            (try rw [show 4 * 3 = 12 from rfl] at hx129_0)
            (try rw [show ((4 : Int)).toNat = 4 from rfl] at hx129_1)
            (try rw [show 4 * 3 = 12 from rfl] at hx129_1)
            (try rw [show ((4 : Int)).toNat = 4 from rfl] at hx129_2)
            (try rw [show 4 * 3 = 12 from rfl] at hx129_2)
            replace p129 := eq_true p129
            replace q129 := eq_true q129
            go_wp2
            go_meet
            case rel => exact ⟨_, ((((rd_T31 t101 4).f0) == 3 && ((((rd_T31 t101 4).f1).toList) == ([97, 34, 98] : List UInt8) && (((rd_T31 t101 4).f2) == 9)))), (by first | rfl | (simp; done) | (simp [*]; done)), H', ⟨by have := HJ5.out; first | omega | exact Nat.le_refl _⟩, ⟨by repeat (first | (with_reducible first | exact HB.out | apply below_alloc | apply pw_below_drewN | apply below_drew1) | exact HB.out)⟩⟩
           ·rw [if_neg c23] at H
            exact absurd H (by simp)
          ·rw [if_neg c22] at H
           have c22b0 : (((rd_T31 t101 3).f0) == 4 && ((((rd_T31 t101 3).f1).toList) == ([45] : List UInt8) && (((rd_T31 t101 3).f2) == 8))) = false := by simpa using c22
           (try (have c22b1 : decide (((rd_T31 t101 3).f0) = 4 && ((((rd_T31 t101 3).f1).toList) == ([45] : List UInt8) && (((rd_T31 t101 3).f2) == 8))) = false := by simpa using c22))
           (try (have c22b2 : (((rd_T31 t101 3).f0) == 4 && ((((rd_T31 t101 3).f1).toList) == ([45] : List UInt8) && (((rd_T31 t101 3).f2) == 8))) = false := by simpa using c22))
           (try (have c22b3 : ¬ (((rd_T31 t101 3).f0) = 4 && ((((rd_T31 t101 3).f1).toList) == ([45] : List UInt8) && (((rd_T31 t101 3).f2) == 8))) := by simpa using c22))
           clear c22
           have H' := Aside0.mk H
           clear H
           obtain ⟨Ao25, co25, eo25⟩ := Kd.R_slice HO_1.out
           subst eo25
           have p126 : 0 ≤ (1 : Int) := (by omega)
           have q126 : 1 < (t101.length : Int) := of_decide_eq_true (by first | (with_reducible assumption) | assumption)
           obtain ⟨ad126, e126, hx126_0, hx126_1, hx126_2⟩ := at_T31 (Kd.R_reads' HO_1.out).2.2 1 p126 q126
           cases e126
           (try simp only [show (1 : Int).toNat = 1 from rfl, Nat.reduceMul, Nat.reduceEqDiff, Go.Addr.add, ↓reduceIte] at hx126_0)
           (try simp only [show (1 : Int).toNat = 1 from rfl, Nat.reduceMul, Nat.reduceEqDiff, Go.Addr.add, ↓reduceIte] at hx126_1)
           (try simp only [show (1 : Int).toNat = 1 from rfl, Nat.reduceMul, Nat.reduceEqDiff, Go.Addr.add, ↓reduceIte] at hx126_2)
           have qi126 : (1 < t101.length) = True := eq_true (by omega)
           (try rw [show ((1 : Int)).toNat = 1 from rfl] at hx126_0)
           (try rw [show 1 * 3 = 3 from rfl] at hx126_0)
           (try rw [show ((1 : Int)).toNat = 1 from rfl] at hx126_1)
           (try rw [show 1 * 3 = 3 from rfl] at hx126_1)
           (try rw [show ((1 : Int)).toNat = 1 from rfl] at hx126_2)
           (try rw [show 1 * 3 = 3 from rfl] at hx126_2)
           replace p126 := eq_true p126
           replace q126 := eq_true q126
           have p127 : 0 ≤ (2 : Int) := (by omega)
           have q127 : 2 < (t101.length : Int) := of_decide_eq_true (by first | (with_reducible assumption) | assumption)
           obtain ⟨ad127, e127, hx127_0, hx127_1, hx127_2⟩ := at_T31 (Kd.R_reads' HO_1.out).2.2 2 p127 q127
           obtain rfl : ad126 = ad127 := (by injection e127)
           (try simp only [show (2 : Int).toNat = 2 from rfl, Nat.reduceMul, Nat.reduceEqDiff, Go.Addr.add, ↓reduceIte] at hx127_0)
           (try simp only [show (2 : Int).toNat = 2 from rfl, Nat.reduceMul, Nat.reduceEqDiff, Go.Addr.add, ↓reduceIte] at hx127_1)
           (try simp only [show (2 : Int).toNat = 2 from rfl, Nat.reduceMul, Nat.reduceEqDiff, Go.Addr.add, ↓reduceIte] at hx127_2)
           have qi127 : (2 < t101.length) = True := eq_true (by omega)
           (try rw [show ((2 : Int)).toNat = 2 from rfl] at hx127_0)
           (try rw [show 2 * 3 = 6 from rfl] at hx127_0)
           (try rw [show ((2 : Int)).toNat = 2 from rfl] at hx127_1)
           (try rw [show 2 * 3 = 6 from rfl] at hx127_1)
           (try rw [show ((2 : Int)).toNat = 2 from rfl] at hx127_2)
           (try rw [show 2 * 3 = 6 from rfl] at hx127_2)
           replace p127 := eq_true p127
           replace q127 := eq_true q127
           have p128 : 0 ≤ (3 : Int) := (by omega)
           have q128 : 3 < (t101.length : Int) := of_decide_eq_true (by first | (with_reducible assumption) | assumption)
           obtain ⟨ad128, e128, hx128_0, hx128_1, hx128_2⟩ := at_T31 (Kd.R_reads' HO_1.out).2.2 3 p128 q128
           obtain rfl : ad126 = ad128 := (by injection e128)
           (try simp only [show (3 : Int).toNat = 3 from rfl, Nat.reduceMul, Nat.reduceEqDiff, Go.Addr.add, ↓reduceIte] at hx128_0)
           (try simp only [show (3 : Int).toNat = 3 from rfl, Nat.reduceMul, Nat.reduceEqDiff, Go.Addr.add, ↓reduceIte] at hx128_1)
           (try simp only [show (3 : Int).toNat = 3 from rfl, Nat.reduceMul, Nat.reduceEqDiff, Go.Addr.add, ↓reduceIte] at hx128_2)
           have qi128 : (3 < t101.length) = True := eq_true (by omega)
           (try rw [show ((3 : Int)).toNat = 3 from rfl] at hx128_0)
           (try rw [show 3 * 3 = 9 from rfl] at hx128_0)
           (try rw [show ((3 : Int)).toNat = 3 from rfl] at hx128_1)
           (try rw [show 3 * 3 = 9 from rfl] at hx128_1)
           (try rw [show ((3 : Int)).toNat = 3 from rfl] at hx128_2)
           (try rw [show 3 * 3 = 9 from rfl] at hx128_2)
           replace p128 := eq_true p128
           replace q128 := eq_true q128
           go_wp2
           go_meet
           case rel => exact ⟨_, (false), (by first | rfl | (simp; done) | (simp [*]; done)), H', ⟨by have := HJ5.out; first | omega | exact Nat.le_refl _⟩, ⟨by repeat (first | (with_reducible first | exact HB.out | apply below_alloc | apply pw_below_drewN | apply below_drew1) | exact HB.out)⟩⟩
         ·rw [if_neg c21] at H
          exact absurd H (by simp)
        ·rw [if_neg c20] at H
         have c20b0 : (((rd_T31 t101 2).f0) == 2 && ((((rd_T31 t101 2).f1).toList) == ([55] : List UInt8) && (((rd_T31 t101 2).f2) == 7))) = false := by simpa using c20
         (try (have c20b1 : decide (((rd_T31 t101 2).f0) = 2 && ((((rd_T31 t101 2).f1).toList) == ([55] : List UInt8) && (((rd_T31 t101 2).f2) == 7))) = false := by simpa using c20))
         (try (have c20b2 : (((rd_T31 t101 2).f0) == 2 && ((((rd_T31 t101 2).f1).toList) == ([55] : List UInt8) && (((rd_T31 t101 2).f2) == 7))) = false := by simpa using c20))
         (try (have c20b3 : ¬ (((rd_T31 t101 2).f0) = 2 && ((((rd_T31 t101 2).f1).toList) == ([55] : List UInt8) && (((rd_T31 t101 2).f2) == 7))) := by simpa using c20))
         clear c20
         have H' := Aside0.mk H
         clear H
         obtain ⟨Ao26, co26, eo26⟩ := Kd.R_slice HO_1.out
         subst eo26
         have p126 : 0 ≤ (1 : Int) := (by omega)
         have q126 : 1 < (t101.length : Int) := of_decide_eq_true (by first | (with_reducible assumption) | assumption)
         obtain ⟨ad126, e126, hx126_0, hx126_1, hx126_2⟩ := at_T31 (Kd.R_reads' HO_1.out).2.2 1 p126 q126
         cases e126
         (try simp only [show (1 : Int).toNat = 1 from rfl, Nat.reduceMul, Nat.reduceEqDiff, Go.Addr.add, ↓reduceIte] at hx126_0)
         (try simp only [show (1 : Int).toNat = 1 from rfl, Nat.reduceMul, Nat.reduceEqDiff, Go.Addr.add, ↓reduceIte] at hx126_1)
         (try simp only [show (1 : Int).toNat = 1 from rfl, Nat.reduceMul, Nat.reduceEqDiff, Go.Addr.add, ↓reduceIte] at hx126_2)
         have qi126 : (1 < t101.length) = True := eq_true (by omega)
         (try rw [show ((1 : Int)).toNat = 1 from rfl] at hx126_0)
         (try rw [show 1 * 3 = 3 from rfl] at hx126_0)
         (try rw [show ((1 : Int)).toNat = 1 from rfl] at hx126_1)
         (try rw [show 1 * 3 = 3 from rfl] at hx126_1)
         (try rw [show ((1 : Int)).toNat = 1 from rfl] at hx126_2)
         (try rw [show 1 * 3 = 3 from rfl] at hx126_2)
         replace p126 := eq_true p126
         replace q126 := eq_true q126
         have p127 : 0 ≤ (2 : Int) := (by omega)
         have q127 : 2 < (t101.length : Int) := of_decide_eq_true (by first | (with_reducible assumption) | assumption)
         obtain ⟨ad127, e127, hx127_0, hx127_1, hx127_2⟩ := at_T31 (Kd.R_reads' HO_1.out).2.2 2 p127 q127
         obtain rfl : ad126 = ad127 := (by injection e127)
         (try simp only [show (2 : Int).toNat = 2 from rfl, Nat.reduceMul, Nat.reduceEqDiff, Go.Addr.add, ↓reduceIte] at hx127_0)
         (try simp only [show (2 : Int).toNat = 2 from rfl, Nat.reduceMul, Nat.reduceEqDiff, Go.Addr.add, ↓reduceIte] at hx127_1)
         (try simp only [show (2 : Int).toNat = 2 from rfl, Nat.reduceMul, Nat.reduceEqDiff, Go.Addr.add, ↓reduceIte] at hx127_2)
         have qi127 : (2 < t101.length) = True := eq_true (by omega)
         (try rw [show ((2 : Int)).toNat = 2 from rfl] at hx127_0)
         (try rw [show 2 * 3 = 6 from rfl] at hx127_0)
         (try rw [show ((2 : Int)).toNat = 2 from rfl] at hx127_1)
         (try rw [show 2 * 3 = 6 from rfl] at hx127_1)
         (try rw [show ((2 : Int)).toNat = 2 from rfl] at hx127_2)
         (try rw [show 2 * 3 = 6 from rfl] at hx127_2)
         replace p127 := eq_true p127
         replace q127 := eq_true q127
         go_wp2
         go_meet
         case rel => exact ⟨_, (false), (by first | rfl | (simp; done) | (simp [*]; done)), H', ⟨by have := HJ5.out; first | omega | exact Nat.le_refl _⟩, ⟨by repeat (first | (with_reducible first | exact HB.out | apply below_alloc | apply pw_below_drewN | apply below_drew1) | exact HB.out)⟩⟩
       ·rw [if_neg c19] at H
        exact absurd H (by simp)
      ·rw [if_neg c18] at H
       have c18b0 : (((rd_T31 t101 1).f0) == 1 && ((((rd_T31 t101 1).f1).toList) == ([119, 49] : List UInt8) && (((rd_T31 t101 1).f2) == 4))) = false := by simpa using c18
       (try (have c18b1 : decide (((rd_T31 t101 1).f0) = 1 && ((((rd_T31 t101 1).f1).toList) == ([119, 49] : List UInt8) && (((rd_T31 t101 1).f2) == 4))) = false := by simpa using c18))
       (try (have c18b2 : (((rd_T31 t101 1).f0) == 1 && ((((rd_T31 t101 1).f1).toList) == ([119, 49] : List UInt8) && (((rd_T31 t101 1).f2) == 4))) = false := by simpa using c18))
       (try (have c18b3 : ¬ (((rd_T31 t101 1).f0) = 1 && ((((rd_T31 t101 1).f1).toList) == ([119, 49] : List UInt8) && (((rd_T31 t101 1).f2) == 4))) := by simpa using c18))
       clear c18
       have H' := Aside0.mk H
       clear H
       obtain ⟨Ao27, co27, eo27⟩ := Kd.R_slice HO_1.out
       subst eo27
       have p126 : 0 ≤ (1 : Int) := (by omega)
       have q126 : 1 < (t101.length : Int) := of_decide_eq_true (by first | (with_reducible assumption) | assumption)
       obtain ⟨ad126, e126, hx126_0, hx126_1, hx126_2⟩ := at_T31 (Kd.R_reads' HO_1.out).2.2 1 p126 q126
       cases e126
       (try simp only [show (1 : Int).toNat = 1 from rfl, Nat.reduceMul, Nat.reduceEqDiff, Go.Addr.add, ↓reduceIte] at hx126_0)
       (try simp only [show (1 : Int).toNat = 1 from rfl, Nat.reduceMul, Nat.reduceEqDiff, Go.Addr.add, ↓reduceIte] at hx126_1)
       (try simp only [show (1 : Int).toNat = 1 from rfl, Nat.reduceMul, Nat.reduceEqDiff, Go.Addr.add, ↓reduceIte] at hx126_2)
       have qi126 : (1 < t101.length) = True := eq_true (by omega)
       (try rw [show ((1 : Int)).toNat = 1 from rfl] at hx126_0)
       (try rw [show 1 * 3 = 3 from rfl] at hx126_0)
       (try rw [show ((1 : Int)).toNat = 1 from rfl] at hx126_1)
       (try rw [show 1 * 3 = 3 from rfl] at hx126_1)
       (try rw [show ((1 : Int)).toNat = 1 from rfl] at hx126_2)
       (try rw [show 1 * 3 = 3 from rfl] at hx126_2)
       replace p126 := eq_true p126
       replace q126 := eq_true q126
       go_wp2
       go_meet
       case rel => exact ⟨_, (false), (by first | rfl | (simp; done) | (simp [*]; done)), H', ⟨by have := HJ5.out; first | omega | exact Nat.le_refl _⟩, ⟨by repeat (first | (with_reducible first | exact HB.out | apply below_alloc | apply pw_below_drewN | apply below_drew1) | exact HB.out)⟩⟩
     ·rw [if_neg c17] at H
      exact absurd H (by simp)
    case rest =>
     clear HC16
     try clear c1
     try clear p1
     try clear q1
     try clear hx1
     try clear qi1
     try clear c2
     try clear p2
     try clear c11
     try clear c12
     try clear c12b0
     try clear c12b1
     try clear p12
     try clear q12
     try clear hx12
     try clear qi12
     try clear c13
     try clear c13b0
     try clear c13b1
     try clear c15
     try clear c17
     try clear c17b0
     try clear c17b1
     try clear c18
     try clear c18b0
     try clear c18b1
     try clear c18b2
     try clear c19
     try clear c19b0
     try clear c19b1
     try clear c20
     try clear c20b0
     try clear c20b1
     try clear c20b2
     try clear c21
     try clear c21b0
     try clear c21b1
     try clear c22
     try clear c22b0
     try clear c22b1
     try clear c22b2
     try clear c23
     try clear c23b0
     try clear c23b1
     try clear hx126_0
     try clear hx126_1
     try clear hx126_2
     try clear hx127_0
     try clear hx127_1
     try clear hx127_2
     try clear hx128_0
     try clear hx128_1
     try clear hx128_2
     try clear hx129_0
     try clear hx129_1
     try clear hx129_2
     try clear p126
     try clear p127
     try clear p128
     try clear p129
     try clear p2
     try clear q126
     try clear q127
     try clear q128
     try clear q129
     obtain ⟨kq, x16_15, rfl, HA, HJ15, HB⟩ := hcut
     cases kq with
     | zero => exact absurd HA.out (by simp [planispherelaw08_head.j1])
     | succ kj15 =>
      have H := HA.out
      clear HA
      simp only [planispherelaw08_head.j1] at H
      replace H := Option.bind_eq_some_iff.mp H
      obtain ⟨t130, A280, H⟩ := H
      replace H : (if t130 = true then ((lexer_Name.f (⟨#[49, 97]⟩ : ByteArray)).bind fun t131 => (if t131 = true then (if x16_15 = true then (some false) else (some false)) else ((lexer_Name.f (⟨#[]⟩ : ByteArray)).bind fun t132 => (if t132 = true then (if x16_15 = true then (some false) else (some false)) else ((lexer_Quote.f (⟨#[97, 10, 92]⟩ : ByteArray)).bind fun t133 => (if x16_15 = true then (if t133.toList = ([34, 97, 92, 110, 92, 92, 34] : List UInt8) then (if t107 = 3 then (if t108 = 2 then (if t112 = 4 then (if t113 = 0 then (if t117 = 3 then (if t118 = 2 then (if t122 = 2 then (some (t123 == 1)) else (some false)) else (some false)) else (some false)) else (some false)) else (some false)) else (some false)) else (some false)) else (some false)) else (some false))))))) else (if x16_15 = true then (some false) else (some false))) = some r := H
      have A28 := Aside0.mk A280
      clear A280
      by_cases c29 : t130 = true
      ·subst c29
       have H1 : ((lexer_Name.f (⟨#[49, 97]⟩ : ByteArray)).bind fun t131 => (if t131 = true then (if x16_15 = true then (some false) else (some false)) else ((lexer_Name.f (⟨#[]⟩ : ByteArray)).bind fun t132 => (if t132 = true then (if x16_15 = true then (some false) else (some false)) else ((lexer_Quote.f (⟨#[97, 10, 92]⟩ : ByteArray)).bind fun t133 => (if x16_15 = true then (if t133.toList = ([34, 97, 92, 110, 92, 92, 34] : List UInt8) then (if t107 = 3 then (if t108 = 2 then (if t112 = 4 then (if t113 = 0 then (if t117 = 3 then (if t118 = 2 then (if t122 = 2 then (some (t123 == 1)) else (some false)) else (some false)) else (some false)) else (some false)) else (some false)) else (some false)) else (some false)) else (some false)) else (some false))))))) = some r := by rw [if_pos rfl] at H; exact H
       clear H
       have H := H1
       clear H1
       replace H := Option.bind_eq_some_iff.mp H
       obtain ⟨t131, A300, H⟩ := H
       replace H : (if t131 = true then (if x16_15 = true then (some false) else (some false)) else ((lexer_Name.f (⟨#[]⟩ : ByteArray)).bind fun t132 => (if t132 = true then (if x16_15 = true then (some false) else (some false)) else ((lexer_Quote.f (⟨#[97, 10, 92]⟩ : ByteArray)).bind fun t133 => (if x16_15 = true then (if t133.toList = ([34, 97, 92, 110, 92, 92, 34] : List UInt8) then (if t107 = 3 then (if t108 = 2 then (if t112 = 4 then (if t113 = 0 then (if t117 = 3 then (if t118 = 2 then (if t122 = 2 then (some (t123 == 1)) else (some false)) else (some false)) else (some false)) else (some false)) else (some false)) else (some false)) else (some false)) else (some false)) else (some false)))))) = some r := H
       have A30 := Aside0.mk A300
       clear A300
       by_cases c31 : t131 = true
       ·subst c31
        have H1 : (if x16_15 = true then (some false) else (some false)) = some r := by rw [if_pos rfl] at H; exact H
        clear H
        have H := H1
        clear H1
        by_cases c32 : x16_15 = true
        ·subst c32
         have H1 : (some false) = some r := by rw [if_pos rfl] at H; exact H
         clear H
         have H := H1
         clear H1
         obtain rfl := Option.some.inj H
         go_wp2_with (first | ((with_reducible refine gate_callee (f := 15) rfl ?_); refine goesL_ (some 80) rfl rfl Try.func15 (by kernel_rfl) rfl #[.string (⟨#[97, 95, 49]⟩ : ByteArray)] rfl (by (try simp only [List.map_toArray, List.map_cons, List.map_nil]); first | done | rfl | (simp only [List.length_drop, List.length_take]; rfl)) ?_; (with_reducible refine (lexer_Name.calls (⟨#[97, 95, 49]⟩ : ByteArray) true _ A28.out).mono ?_); rintro e w33 ⟨rfl, hb⟩; refine ⟨_, rfl, ?_⟩; have n0_ := Aside0.mk (below_step HB.out hb); clear HB; have HB := n0_; clear n0_; (try clear hb); (try clear hb2); (try clear hk); (try clear hi)) | (go_at_call 15; (with_reducible refine (lexer_Name.calls (⟨#[49, 97]⟩ : ByteArray) true _ A30.out).mono ?_); rintro e w34 ⟨rfl, hb⟩; have n0_ := Aside0.mk (below_step HB.out hb); clear HB; have HB := n0_; clear n0_; (try clear hb); (try clear hb2); (try clear hk); (try clear hi)))
         go_ret
         exact ⟨by first | rfl | (simp [errW_none, errW_some] <;> rfl) | (simp [*, errW_none, errW_some] <;> rfl), by repeat (first | (with_reducible first | exact HB.out | apply below_alloc | apply pw_below_drewN | apply below_drew1) | exact HB.out)⟩
        ·replace c32 := Bool.eq_false_iff.mpr c32
         subst c32
         have H1 : (some false) = some r := by rw [if_neg (show ¬ (false = true) by decide)] at H; exact H
         clear H
         have H := H1
         clear H1
         obtain rfl := Option.some.inj H
         go_wp2_with (first | ((with_reducible refine gate_callee (f := 15) rfl ?_); refine goesL_ (some 80) rfl rfl Try.func15 (by kernel_rfl) rfl #[.string (⟨#[97, 95, 49]⟩ : ByteArray)] rfl (by (try simp only [List.map_toArray, List.map_cons, List.map_nil]); first | done | rfl | (simp only [List.length_drop, List.length_take]; rfl)) ?_; (with_reducible refine (lexer_Name.calls (⟨#[97, 95, 49]⟩ : ByteArray) true _ A28.out).mono ?_); rintro e w35 ⟨rfl, hb⟩; refine ⟨_, rfl, ?_⟩; have n0_ := Aside0.mk (below_step HB.out hb); clear HB; have HB := n0_; clear n0_; (try clear hb); (try clear hb2); (try clear hk); (try clear hi)) | (go_at_call 15; (with_reducible refine (lexer_Name.calls (⟨#[49, 97]⟩ : ByteArray) true _ A30.out).mono ?_); rintro e w36 ⟨rfl, hb⟩; have n0_ := Aside0.mk (below_step HB.out hb); clear HB; have HB := n0_; clear n0_; (try clear hb); (try clear hb2); (try clear hk); (try clear hi)))
         go_ret
         exact ⟨by first | rfl | (simp [errW_none, errW_some] <;> rfl) | (simp [*, errW_none, errW_some] <;> rfl), by repeat (first | (with_reducible first | exact HB.out | apply below_alloc | apply pw_below_drewN | apply below_drew1) | exact HB.out)⟩
       ·replace c31 := Bool.eq_false_iff.mpr c31
        subst c31
        have H1 : ((lexer_Name.f (⟨#[]⟩ : ByteArray)).bind fun t132 => (if t132 = true then (if x16_15 = true then (some false) else (some false)) else ((lexer_Quote.f (⟨#[97, 10, 92]⟩ : ByteArray)).bind fun t133 => (if x16_15 = true then (if t133.toList = ([34, 97, 92, 110, 92, 92, 34] : List UInt8) then (if t107 = 3 then (if t108 = 2 then (if t112 = 4 then (if t113 = 0 then (if t117 = 3 then (if t118 = 2 then (if t122 = 2 then (some (t123 == 1)) else (some false)) else (some false)) else (some false)) else (some false)) else (some false)) else (some false)) else (some false)) else (some false)) else (some false))))) = some r := by rw [if_neg (show ¬ (false = true) by decide)] at H; exact H
        clear H
        have H := H1
        clear H1
        replace H := Option.bind_eq_some_iff.mp H
        obtain ⟨t132, A370, H⟩ := H
        replace H : (if t132 = true then (if x16_15 = true then (some false) else (some false)) else ((lexer_Quote.f (⟨#[97, 10, 92]⟩ : ByteArray)).bind fun t133 => (if x16_15 = true then (if t133.toList = ([34, 97, 92, 110, 92, 92, 34] : List UInt8) then (if t107 = 3 then (if t108 = 2 then (if t112 = 4 then (if t113 = 0 then (if t117 = 3 then (if t118 = 2 then (if t122 = 2 then (some (t123 == 1)) else (some false)) else (some false)) else (some false)) else (some false)) else (some false)) else (some false)) else (some false)) else (some false)) else (some false)))) = some r := H
        have A37 := Aside0.mk A370
        clear A370
        by_cases c38 : t132 = true
        ·subst c38
         have H1 : (if x16_15 = true then (some false) else (some false)) = some r := by rw [if_pos rfl] at H; exact H
         clear H
         have H := H1
         clear H1
         by_cases c39 : x16_15 = true
         ·subst c39
          have H1 : (some false) = some r := by rw [if_pos rfl] at H; exact H
          clear H
          have H := H1
          clear H1
          obtain rfl := Option.some.inj H
          go_wp2_with (first | ((with_reducible refine gate_callee (f := 15) rfl ?_); refine goesL_ (some 80) rfl rfl Try.func15 (by kernel_rfl) rfl #[.string (⟨#[97, 95, 49]⟩ : ByteArray)] rfl (by (try simp only [List.map_toArray, List.map_cons, List.map_nil]); first | done | rfl | (simp only [List.length_drop, List.length_take]; rfl)) ?_; (with_reducible refine (lexer_Name.calls (⟨#[97, 95, 49]⟩ : ByteArray) true _ A28.out).mono ?_); rintro e w40 ⟨rfl, hb⟩; refine ⟨_, rfl, ?_⟩; have n0_ := Aside0.mk (below_step HB.out hb); clear HB; have HB := n0_; clear n0_; (try clear hb); (try clear hb2); (try clear hk); (try clear hi)) | (go_at_call 15; (with_reducible refine (lexer_Name.calls (⟨#[49, 97]⟩ : ByteArray) false _ A30.out).mono ?_); rintro e w41 ⟨rfl, hb⟩; have n0_ := Aside0.mk (below_step HB.out hb); clear HB; have HB := n0_; clear n0_; (try clear hb); (try clear hb2); (try clear hk); (try clear hi)) | (go_at_call 15; (with_reducible refine (lexer_Name.calls (⟨#[]⟩ : ByteArray) true _ A37.out).mono ?_); rintro e w42 ⟨rfl, hb⟩; have n0_ := Aside0.mk (below_step HB.out hb); clear HB; have HB := n0_; clear n0_; (try clear hb); (try clear hb2); (try clear hk); (try clear hi)))
          go_ret
          exact ⟨by first | rfl | (simp [errW_none, errW_some] <;> rfl) | (simp [*, errW_none, errW_some] <;> rfl), by repeat (first | (with_reducible first | exact HB.out | apply below_alloc | apply pw_below_drewN | apply below_drew1) | exact HB.out)⟩
         ·replace c39 := Bool.eq_false_iff.mpr c39
          subst c39
          have H1 : (some false) = some r := by rw [if_neg (show ¬ (false = true) by decide)] at H; exact H
          clear H
          have H := H1
          clear H1
          obtain rfl := Option.some.inj H
          go_wp2_with (first | ((with_reducible refine gate_callee (f := 15) rfl ?_); refine goesL_ (some 80) rfl rfl Try.func15 (by kernel_rfl) rfl #[.string (⟨#[97, 95, 49]⟩ : ByteArray)] rfl (by (try simp only [List.map_toArray, List.map_cons, List.map_nil]); first | done | rfl | (simp only [List.length_drop, List.length_take]; rfl)) ?_; (with_reducible refine (lexer_Name.calls (⟨#[97, 95, 49]⟩ : ByteArray) true _ A28.out).mono ?_); rintro e w43 ⟨rfl, hb⟩; refine ⟨_, rfl, ?_⟩; have n0_ := Aside0.mk (below_step HB.out hb); clear HB; have HB := n0_; clear n0_; (try clear hb); (try clear hb2); (try clear hk); (try clear hi)) | (go_at_call 15; (with_reducible refine (lexer_Name.calls (⟨#[49, 97]⟩ : ByteArray) false _ A30.out).mono ?_); rintro e w44 ⟨rfl, hb⟩; have n0_ := Aside0.mk (below_step HB.out hb); clear HB; have HB := n0_; clear n0_; (try clear hb); (try clear hb2); (try clear hk); (try clear hi)) | (go_at_call 15; (with_reducible refine (lexer_Name.calls (⟨#[]⟩ : ByteArray) true _ A37.out).mono ?_); rintro e w45 ⟨rfl, hb⟩; have n0_ := Aside0.mk (below_step HB.out hb); clear HB; have HB := n0_; clear n0_; (try clear hb); (try clear hb2); (try clear hk); (try clear hi)))
          go_ret
          exact ⟨by first | rfl | (simp [errW_none, errW_some] <;> rfl) | (simp [*, errW_none, errW_some] <;> rfl), by repeat (first | (with_reducible first | exact HB.out | apply below_alloc | apply pw_below_drewN | apply below_drew1) | exact HB.out)⟩
        ·replace c38 := Bool.eq_false_iff.mpr c38
         subst c38
         have H1 : ((lexer_Quote.f (⟨#[97, 10, 92]⟩ : ByteArray)).bind fun t133 => (if x16_15 = true then (if t133.toList = ([34, 97, 92, 110, 92, 92, 34] : List UInt8) then (if t107 = 3 then (if t108 = 2 then (if t112 = 4 then (if t113 = 0 then (if t117 = 3 then (if t118 = 2 then (if t122 = 2 then (some (t123 == 1)) else (some false)) else (some false)) else (some false)) else (some false)) else (some false)) else (some false)) else (some false)) else (some false)) else (some false))) = some r := by rw [if_neg (show ¬ (false = true) by decide)] at H; exact H
         clear H
         have H := H1
         clear H1
         replace H := Option.bind_eq_some_iff.mp H
         obtain ⟨t133, A460, H⟩ := H
         replace H : (if x16_15 = true then (if t133.toList = ([34, 97, 92, 110, 92, 92, 34] : List UInt8) then (if t107 = 3 then (if t108 = 2 then (if t112 = 4 then (if t113 = 0 then (if t117 = 3 then (if t118 = 2 then (if t122 = 2 then (some (t123 == 1)) else (some false)) else (some false)) else (some false)) else (some false)) else (some false)) else (some false)) else (some false)) else (some false)) else (some false)) = some r := H
         have A46 := Aside0.mk A460
         clear A460
         by_cases c47 : x16_15 = true
         ·subst c47
          have H1 : (if t133.toList = ([34, 97, 92, 110, 92, 92, 34] : List UInt8) then (if t107 = 3 then (if t108 = 2 then (if t112 = 4 then (if t113 = 0 then (if t117 = 3 then (if t118 = 2 then (if t122 = 2 then (some (t123 == 1)) else (some false)) else (some false)) else (some false)) else (some false)) else (some false)) else (some false)) else (some false)) else (some false)) = some r := by rw [if_pos rfl] at H; exact H
          clear H
          have H := H1
          clear H1
          by_cases c48 : t133.toList = ([34, 97, 92, 110, 92, 92, 34] : List UInt8)
          ·rw [if_pos c48] at H
           have c48b0 : (t133.toList == ([34, 97, 92, 110, 92, 92, 34] : List UInt8)) = true := beq_iff_eq.mpr c48
           have c48b1 : (t133.toList != ([34, 97, 92, 110, 92, 92, 34] : List UInt8)) = false := bne_eq_false_iff_eq.mpr c48
           clear c48
           by_cases c49 : t107 = 3
           ·rw [if_pos c49] at H
            have c49b0 : (t107 == 3) = true := beq_iff_eq.mpr c49
            have c49b1 : (t107 != 3) = false := bne_eq_false_iff_eq.mpr c49
            clear c49
            by_cases c50 : t108 = 2
            ·rw [if_pos c50] at H
             have c50b0 : (t108 == 2) = true := beq_iff_eq.mpr c50
             have c50b1 : (t108 != 2) = false := bne_eq_false_iff_eq.mpr c50
             clear c50
             by_cases c51 : t112 = 4
             ·rw [if_pos c51] at H
              have c51b0 : (t112 == 4) = true := beq_iff_eq.mpr c51
              have c51b1 : (t112 != 4) = false := bne_eq_false_iff_eq.mpr c51
              clear c51
              by_cases c52 : t113 = 0
              ·rw [if_pos c52] at H
               have c52b0 : (t113 == 0) = true := beq_iff_eq.mpr c52
               have c52b1 : (t113 != 0) = false := bne_eq_false_iff_eq.mpr c52
               clear c52
               by_cases c53 : t117 = 3
               ·rw [if_pos c53] at H
                have c53b0 : (t117 == 3) = true := beq_iff_eq.mpr c53
                have c53b1 : (t117 != 3) = false := bne_eq_false_iff_eq.mpr c53
                clear c53
                by_cases c54 : t118 = 2
                ·rw [if_pos c54] at H
                 have c54b0 : (t118 == 2) = true := beq_iff_eq.mpr c54
                 have c54b1 : (t118 != 2) = false := bne_eq_false_iff_eq.mpr c54
                 clear c54
                 by_cases c55 : t122 = 2
                 ·rw [if_pos c55] at H
                  have c55b0 : (t122 == 2) = true := beq_iff_eq.mpr c55
                  have c55b1 : (t122 != 2) = false := bne_eq_false_iff_eq.mpr c55
                  clear c55
                  obtain rfl := Option.some.inj H
                  go_wp2_with (first | ((with_reducible refine gate_callee (f := 15) rfl ?_); refine goesL_ (some 80) rfl rfl Try.func15 (by kernel_rfl) rfl #[.string (⟨#[97, 95, 49]⟩ : ByteArray)] rfl (by (try simp only [List.map_toArray, List.map_cons, List.map_nil]); first | done | rfl | (simp only [List.length_drop, List.length_take]; rfl)) ?_; (with_reducible refine (lexer_Name.calls (⟨#[97, 95, 49]⟩ : ByteArray) true _ A28.out).mono ?_); rintro e w56 ⟨rfl, hb⟩; refine ⟨_, rfl, ?_⟩; have n0_ := Aside0.mk (below_step HB.out hb); clear HB; have HB := n0_; clear n0_; (try clear hb); (try clear hb2); (try clear hk); (try clear hi)) | (go_at_call 15; (with_reducible refine (lexer_Name.calls (⟨#[49, 97]⟩ : ByteArray) false _ A30.out).mono ?_); rintro e w57 ⟨rfl, hb⟩; have n0_ := Aside0.mk (below_step HB.out hb); clear HB; have HB := n0_; clear n0_; (try clear hb); (try clear hb2); (try clear hk); (try clear hi)) | (go_at_call 15; (with_reducible refine (lexer_Name.calls (⟨#[]⟩ : ByteArray) false _ A37.out).mono ?_); rintro e w58 ⟨rfl, hb⟩; have n0_ := Aside0.mk (below_step HB.out hb); clear HB; have HB := n0_; clear n0_; (try clear hb); (try clear hb2); (try clear hk); (try clear hi)) | (go_at_call 17; (with_reducible refine (lexer_Quote.calls (⟨#[97, 10, 92]⟩ : ByteArray) t133 _ A46.out).mono ?_); rintro e w59 ⟨rfl, hb⟩; have n0_ := Aside0.mk (below_step HB.out hb); clear HB; have HB := n0_; clear n0_; (try clear hb); (try clear hb2); (try clear hk); (try clear hi)))
                  go_ret
                  exact ⟨by first | rfl | (simp [errW_none, errW_some] <;> rfl) | (simp [*, errW_none, errW_some] <;> rfl), by repeat (first | (with_reducible first | exact HB.out | apply below_alloc | apply pw_below_drewN | apply below_drew1) | exact HB.out)⟩
                 ·rw [if_neg c55] at H
                  have c55b0 : (t122 == 2) = false := beq_eq_false_iff_ne.mpr c55
                  have c55b1 : (t122 != 2) = true := bne_iff_ne.mpr c55
                  obtain rfl := Option.some.inj H
                  go_wp2_with (first | ((with_reducible refine gate_callee (f := 15) rfl ?_); refine goesL_ (some 80) rfl rfl Try.func15 (by kernel_rfl) rfl #[.string (⟨#[97, 95, 49]⟩ : ByteArray)] rfl (by (try simp only [List.map_toArray, List.map_cons, List.map_nil]); first | done | rfl | (simp only [List.length_drop, List.length_take]; rfl)) ?_; (with_reducible refine (lexer_Name.calls (⟨#[97, 95, 49]⟩ : ByteArray) true _ A28.out).mono ?_); rintro e w60 ⟨rfl, hb⟩; refine ⟨_, rfl, ?_⟩; have n0_ := Aside0.mk (below_step HB.out hb); clear HB; have HB := n0_; clear n0_; (try clear hb); (try clear hb2); (try clear hk); (try clear hi)) | (go_at_call 15; (with_reducible refine (lexer_Name.calls (⟨#[49, 97]⟩ : ByteArray) false _ A30.out).mono ?_); rintro e w61 ⟨rfl, hb⟩; have n0_ := Aside0.mk (below_step HB.out hb); clear HB; have HB := n0_; clear n0_; (try clear hb); (try clear hb2); (try clear hk); (try clear hi)) | (go_at_call 15; (with_reducible refine (lexer_Name.calls (⟨#[]⟩ : ByteArray) false _ A37.out).mono ?_); rintro e w62 ⟨rfl, hb⟩; have n0_ := Aside0.mk (below_step HB.out hb); clear HB; have HB := n0_; clear n0_; (try clear hb); (try clear hb2); (try clear hk); (try clear hi)) | (go_at_call 17; (with_reducible refine (lexer_Quote.calls (⟨#[97, 10, 92]⟩ : ByteArray) t133 _ A46.out).mono ?_); rintro e w63 ⟨rfl, hb⟩; have n0_ := Aside0.mk (below_step HB.out hb); clear HB; have HB := n0_; clear n0_; (try clear hb); (try clear hb2); (try clear hk); (try clear hi)))
                  go_ret
                  exact ⟨by first | rfl | (simp [errW_none, errW_some] <;> rfl) | (simp [*, errW_none, errW_some] <;> rfl), by repeat (first | (with_reducible first | exact HB.out | apply below_alloc | apply pw_below_drewN | apply below_drew1) | exact HB.out)⟩
                ·rw [if_neg c54] at H
                 have c54b0 : (t118 == 2) = false := beq_eq_false_iff_ne.mpr c54
                 have c54b1 : (t118 != 2) = true := bne_iff_ne.mpr c54
                 obtain rfl := Option.some.inj H
                 go_wp2_with (first | ((with_reducible refine gate_callee (f := 15) rfl ?_); refine goesL_ (some 80) rfl rfl Try.func15 (by kernel_rfl) rfl #[.string (⟨#[97, 95, 49]⟩ : ByteArray)] rfl (by (try simp only [List.map_toArray, List.map_cons, List.map_nil]); first | done | rfl | (simp only [List.length_drop, List.length_take]; rfl)) ?_; (with_reducible refine (lexer_Name.calls (⟨#[97, 95, 49]⟩ : ByteArray) true _ A28.out).mono ?_); rintro e w64 ⟨rfl, hb⟩; refine ⟨_, rfl, ?_⟩; have n0_ := Aside0.mk (below_step HB.out hb); clear HB; have HB := n0_; clear n0_; (try clear hb); (try clear hb2); (try clear hk); (try clear hi)) | (go_at_call 15; (with_reducible refine (lexer_Name.calls (⟨#[49, 97]⟩ : ByteArray) false _ A30.out).mono ?_); rintro e w65 ⟨rfl, hb⟩; have n0_ := Aside0.mk (below_step HB.out hb); clear HB; have HB := n0_; clear n0_; (try clear hb); (try clear hb2); (try clear hk); (try clear hi)) | (go_at_call 15; (with_reducible refine (lexer_Name.calls (⟨#[]⟩ : ByteArray) false _ A37.out).mono ?_); rintro e w66 ⟨rfl, hb⟩; have n0_ := Aside0.mk (below_step HB.out hb); clear HB; have HB := n0_; clear n0_; (try clear hb); (try clear hb2); (try clear hk); (try clear hi)) | (go_at_call 17; (with_reducible refine (lexer_Quote.calls (⟨#[97, 10, 92]⟩ : ByteArray) t133 _ A46.out).mono ?_); rintro e w67 ⟨rfl, hb⟩; have n0_ := Aside0.mk (below_step HB.out hb); clear HB; have HB := n0_; clear n0_; (try clear hb); (try clear hb2); (try clear hk); (try clear hi)))
                 go_ret
                 exact ⟨by first | rfl | (simp [errW_none, errW_some] <;> rfl) | (simp [*, errW_none, errW_some] <;> rfl), by repeat (first | (with_reducible first | exact HB.out | apply below_alloc | apply pw_below_drewN | apply below_drew1) | exact HB.out)⟩
               ·rw [if_neg c53] at H
                have c53b0 : (t117 == 3) = false := beq_eq_false_iff_ne.mpr c53
                have c53b1 : (t117 != 3) = true := bne_iff_ne.mpr c53
                obtain rfl := Option.some.inj H
                go_wp2_with (first | ((with_reducible refine gate_callee (f := 15) rfl ?_); refine goesL_ (some 80) rfl rfl Try.func15 (by kernel_rfl) rfl #[.string (⟨#[97, 95, 49]⟩ : ByteArray)] rfl (by (try simp only [List.map_toArray, List.map_cons, List.map_nil]); first | done | rfl | (simp only [List.length_drop, List.length_take]; rfl)) ?_; (with_reducible refine (lexer_Name.calls (⟨#[97, 95, 49]⟩ : ByteArray) true _ A28.out).mono ?_); rintro e w68 ⟨rfl, hb⟩; refine ⟨_, rfl, ?_⟩; have n0_ := Aside0.mk (below_step HB.out hb); clear HB; have HB := n0_; clear n0_; (try clear hb); (try clear hb2); (try clear hk); (try clear hi)) | (go_at_call 15; (with_reducible refine (lexer_Name.calls (⟨#[49, 97]⟩ : ByteArray) false _ A30.out).mono ?_); rintro e w69 ⟨rfl, hb⟩; have n0_ := Aside0.mk (below_step HB.out hb); clear HB; have HB := n0_; clear n0_; (try clear hb); (try clear hb2); (try clear hk); (try clear hi)) | (go_at_call 15; (with_reducible refine (lexer_Name.calls (⟨#[]⟩ : ByteArray) false _ A37.out).mono ?_); rintro e w70 ⟨rfl, hb⟩; have n0_ := Aside0.mk (below_step HB.out hb); clear HB; have HB := n0_; clear n0_; (try clear hb); (try clear hb2); (try clear hk); (try clear hi)) | (go_at_call 17; (with_reducible refine (lexer_Quote.calls (⟨#[97, 10, 92]⟩ : ByteArray) t133 _ A46.out).mono ?_); rintro e w71 ⟨rfl, hb⟩; have n0_ := Aside0.mk (below_step HB.out hb); clear HB; have HB := n0_; clear n0_; (try clear hb); (try clear hb2); (try clear hk); (try clear hi)))
                go_ret
                exact ⟨by first | rfl | (simp [errW_none, errW_some] <;> rfl) | (simp [*, errW_none, errW_some] <;> rfl), by repeat (first | (with_reducible first | exact HB.out | apply below_alloc | apply pw_below_drewN | apply below_drew1) | exact HB.out)⟩
              ·rw [if_neg c52] at H
               have c52b0 : (t113 == 0) = false := beq_eq_false_iff_ne.mpr c52
               have c52b1 : (t113 != 0) = true := bne_iff_ne.mpr c52
               obtain rfl := Option.some.inj H
               go_wp2_with (first | ((with_reducible refine gate_callee (f := 15) rfl ?_); refine goesL_ (some 80) rfl rfl Try.func15 (by kernel_rfl) rfl #[.string (⟨#[97, 95, 49]⟩ : ByteArray)] rfl (by (try simp only [List.map_toArray, List.map_cons, List.map_nil]); first | done | rfl | (simp only [List.length_drop, List.length_take]; rfl)) ?_; (with_reducible refine (lexer_Name.calls (⟨#[97, 95, 49]⟩ : ByteArray) true _ A28.out).mono ?_); rintro e w72 ⟨rfl, hb⟩; refine ⟨_, rfl, ?_⟩; have n0_ := Aside0.mk (below_step HB.out hb); clear HB; have HB := n0_; clear n0_; (try clear hb); (try clear hb2); (try clear hk); (try clear hi)) | (go_at_call 15; (with_reducible refine (lexer_Name.calls (⟨#[49, 97]⟩ : ByteArray) false _ A30.out).mono ?_); rintro e w73 ⟨rfl, hb⟩; have n0_ := Aside0.mk (below_step HB.out hb); clear HB; have HB := n0_; clear n0_; (try clear hb); (try clear hb2); (try clear hk); (try clear hi)) | (go_at_call 15; (with_reducible refine (lexer_Name.calls (⟨#[]⟩ : ByteArray) false _ A37.out).mono ?_); rintro e w74 ⟨rfl, hb⟩; have n0_ := Aside0.mk (below_step HB.out hb); clear HB; have HB := n0_; clear n0_; (try clear hb); (try clear hb2); (try clear hk); (try clear hi)) | (go_at_call 17; (with_reducible refine (lexer_Quote.calls (⟨#[97, 10, 92]⟩ : ByteArray) t133 _ A46.out).mono ?_); rintro e w75 ⟨rfl, hb⟩; have n0_ := Aside0.mk (below_step HB.out hb); clear HB; have HB := n0_; clear n0_; (try clear hb); (try clear hb2); (try clear hk); (try clear hi)))
               go_ret
               exact ⟨by first | rfl | (simp [errW_none, errW_some] <;> rfl) | (simp [*, errW_none, errW_some] <;> rfl), by repeat (first | (with_reducible first | exact HB.out | apply below_alloc | apply pw_below_drewN | apply below_drew1) | exact HB.out)⟩
             ·rw [if_neg c51] at H
              have c51b0 : (t112 == 4) = false := beq_eq_false_iff_ne.mpr c51
              have c51b1 : (t112 != 4) = true := bne_iff_ne.mpr c51
              obtain rfl := Option.some.inj H
              go_wp2_with (first | ((with_reducible refine gate_callee (f := 15) rfl ?_); refine goesL_ (some 80) rfl rfl Try.func15 (by kernel_rfl) rfl #[.string (⟨#[97, 95, 49]⟩ : ByteArray)] rfl (by (try simp only [List.map_toArray, List.map_cons, List.map_nil]); first | done | rfl | (simp only [List.length_drop, List.length_take]; rfl)) ?_; (with_reducible refine (lexer_Name.calls (⟨#[97, 95, 49]⟩ : ByteArray) true _ A28.out).mono ?_); rintro e w76 ⟨rfl, hb⟩; refine ⟨_, rfl, ?_⟩; have n0_ := Aside0.mk (below_step HB.out hb); clear HB; have HB := n0_; clear n0_; (try clear hb); (try clear hb2); (try clear hk); (try clear hi)) | (go_at_call 15; (with_reducible refine (lexer_Name.calls (⟨#[49, 97]⟩ : ByteArray) false _ A30.out).mono ?_); rintro e w77 ⟨rfl, hb⟩; have n0_ := Aside0.mk (below_step HB.out hb); clear HB; have HB := n0_; clear n0_; (try clear hb); (try clear hb2); (try clear hk); (try clear hi)) | (go_at_call 15; (with_reducible refine (lexer_Name.calls (⟨#[]⟩ : ByteArray) false _ A37.out).mono ?_); rintro e w78 ⟨rfl, hb⟩; have n0_ := Aside0.mk (below_step HB.out hb); clear HB; have HB := n0_; clear n0_; (try clear hb); (try clear hb2); (try clear hk); (try clear hi)) | (go_at_call 17; (with_reducible refine (lexer_Quote.calls (⟨#[97, 10, 92]⟩ : ByteArray) t133 _ A46.out).mono ?_); rintro e w79 ⟨rfl, hb⟩; have n0_ := Aside0.mk (below_step HB.out hb); clear HB; have HB := n0_; clear n0_; (try clear hb); (try clear hb2); (try clear hk); (try clear hi)))
              go_ret
              exact ⟨by first | rfl | (simp [errW_none, errW_some] <;> rfl) | (simp [*, errW_none, errW_some] <;> rfl), by repeat (first | (with_reducible first | exact HB.out | apply below_alloc | apply pw_below_drewN | apply below_drew1) | exact HB.out)⟩
            ·rw [if_neg c50] at H
             have c50b0 : (t108 == 2) = false := beq_eq_false_iff_ne.mpr c50
             have c50b1 : (t108 != 2) = true := bne_iff_ne.mpr c50
             obtain rfl := Option.some.inj H
             go_wp2_with (first | ((with_reducible refine gate_callee (f := 15) rfl ?_); refine goesL_ (some 80) rfl rfl Try.func15 (by kernel_rfl) rfl #[.string (⟨#[97, 95, 49]⟩ : ByteArray)] rfl (by (try simp only [List.map_toArray, List.map_cons, List.map_nil]); first | done | rfl | (simp only [List.length_drop, List.length_take]; rfl)) ?_; (with_reducible refine (lexer_Name.calls (⟨#[97, 95, 49]⟩ : ByteArray) true _ A28.out).mono ?_); rintro e w80 ⟨rfl, hb⟩; refine ⟨_, rfl, ?_⟩; have n0_ := Aside0.mk (below_step HB.out hb); clear HB; have HB := n0_; clear n0_; (try clear hb); (try clear hb2); (try clear hk); (try clear hi)) | (go_at_call 15; (with_reducible refine (lexer_Name.calls (⟨#[49, 97]⟩ : ByteArray) false _ A30.out).mono ?_); rintro e w81 ⟨rfl, hb⟩; have n0_ := Aside0.mk (below_step HB.out hb); clear HB; have HB := n0_; clear n0_; (try clear hb); (try clear hb2); (try clear hk); (try clear hi)) | (go_at_call 15; (with_reducible refine (lexer_Name.calls (⟨#[]⟩ : ByteArray) false _ A37.out).mono ?_); rintro e w82 ⟨rfl, hb⟩; have n0_ := Aside0.mk (below_step HB.out hb); clear HB; have HB := n0_; clear n0_; (try clear hb); (try clear hb2); (try clear hk); (try clear hi)) | (go_at_call 17; (with_reducible refine (lexer_Quote.calls (⟨#[97, 10, 92]⟩ : ByteArray) t133 _ A46.out).mono ?_); rintro e w83 ⟨rfl, hb⟩; have n0_ := Aside0.mk (below_step HB.out hb); clear HB; have HB := n0_; clear n0_; (try clear hb); (try clear hb2); (try clear hk); (try clear hi)))
             go_ret
             exact ⟨by first | rfl | (simp [errW_none, errW_some] <;> rfl) | (simp [*, errW_none, errW_some] <;> rfl), by repeat (first | (with_reducible first | exact HB.out | apply below_alloc | apply pw_below_drewN | apply below_drew1) | exact HB.out)⟩
           ·rw [if_neg c49] at H
            have c49b0 : (t107 == 3) = false := beq_eq_false_iff_ne.mpr c49
            have c49b1 : (t107 != 3) = true := bne_iff_ne.mpr c49
            obtain rfl := Option.some.inj H
            go_wp2_with (first | ((with_reducible refine gate_callee (f := 15) rfl ?_); refine goesL_ (some 80) rfl rfl Try.func15 (by kernel_rfl) rfl #[.string (⟨#[97, 95, 49]⟩ : ByteArray)] rfl (by (try simp only [List.map_toArray, List.map_cons, List.map_nil]); first | done | rfl | (simp only [List.length_drop, List.length_take]; rfl)) ?_; (with_reducible refine (lexer_Name.calls (⟨#[97, 95, 49]⟩ : ByteArray) true _ A28.out).mono ?_); rintro e w84 ⟨rfl, hb⟩; refine ⟨_, rfl, ?_⟩; have n0_ := Aside0.mk (below_step HB.out hb); clear HB; have HB := n0_; clear n0_; (try clear hb); (try clear hb2); (try clear hk); (try clear hi)) | (go_at_call 15; (with_reducible refine (lexer_Name.calls (⟨#[49, 97]⟩ : ByteArray) false _ A30.out).mono ?_); rintro e w85 ⟨rfl, hb⟩; have n0_ := Aside0.mk (below_step HB.out hb); clear HB; have HB := n0_; clear n0_; (try clear hb); (try clear hb2); (try clear hk); (try clear hi)) | (go_at_call 15; (with_reducible refine (lexer_Name.calls (⟨#[]⟩ : ByteArray) false _ A37.out).mono ?_); rintro e w86 ⟨rfl, hb⟩; have n0_ := Aside0.mk (below_step HB.out hb); clear HB; have HB := n0_; clear n0_; (try clear hb); (try clear hb2); (try clear hk); (try clear hi)) | (go_at_call 17; (with_reducible refine (lexer_Quote.calls (⟨#[97, 10, 92]⟩ : ByteArray) t133 _ A46.out).mono ?_); rintro e w87 ⟨rfl, hb⟩; have n0_ := Aside0.mk (below_step HB.out hb); clear HB; have HB := n0_; clear n0_; (try clear hb); (try clear hb2); (try clear hk); (try clear hi)))
            go_ret
            exact ⟨by first | rfl | (simp [errW_none, errW_some] <;> rfl) | (simp [*, errW_none, errW_some] <;> rfl), by repeat (first | (with_reducible first | exact HB.out | apply below_alloc | apply pw_below_drewN | apply below_drew1) | exact HB.out)⟩
          ·rw [if_neg c48] at H
           have c48b0 : (t133.toList == ([34, 97, 92, 110, 92, 92, 34] : List UInt8)) = false := beq_eq_false_iff_ne.mpr c48
           have c48b1 : (t133.toList != ([34, 97, 92, 110, 92, 92, 34] : List UInt8)) = true := bne_iff_ne.mpr c48
           obtain rfl := Option.some.inj H
           go_wp2_with (first | ((with_reducible refine gate_callee (f := 15) rfl ?_); refine goesL_ (some 80) rfl rfl Try.func15 (by kernel_rfl) rfl #[.string (⟨#[97, 95, 49]⟩ : ByteArray)] rfl (by (try simp only [List.map_toArray, List.map_cons, List.map_nil]); first | done | rfl | (simp only [List.length_drop, List.length_take]; rfl)) ?_; (with_reducible refine (lexer_Name.calls (⟨#[97, 95, 49]⟩ : ByteArray) true _ A28.out).mono ?_); rintro e w88 ⟨rfl, hb⟩; refine ⟨_, rfl, ?_⟩; have n0_ := Aside0.mk (below_step HB.out hb); clear HB; have HB := n0_; clear n0_; (try clear hb); (try clear hb2); (try clear hk); (try clear hi)) | (go_at_call 15; (with_reducible refine (lexer_Name.calls (⟨#[49, 97]⟩ : ByteArray) false _ A30.out).mono ?_); rintro e w89 ⟨rfl, hb⟩; have n0_ := Aside0.mk (below_step HB.out hb); clear HB; have HB := n0_; clear n0_; (try clear hb); (try clear hb2); (try clear hk); (try clear hi)) | (go_at_call 15; (with_reducible refine (lexer_Name.calls (⟨#[]⟩ : ByteArray) false _ A37.out).mono ?_); rintro e w90 ⟨rfl, hb⟩; have n0_ := Aside0.mk (below_step HB.out hb); clear HB; have HB := n0_; clear n0_; (try clear hb); (try clear hb2); (try clear hk); (try clear hi)) | (go_at_call 17; (with_reducible refine (lexer_Quote.calls (⟨#[97, 10, 92]⟩ : ByteArray) t133 _ A46.out).mono ?_); rintro e w91 ⟨rfl, hb⟩; have n0_ := Aside0.mk (below_step HB.out hb); clear HB; have HB := n0_; clear n0_; (try clear hb); (try clear hb2); (try clear hk); (try clear hi)))
           go_ret
           exact ⟨by first | rfl | (simp [errW_none, errW_some] <;> rfl) | (simp [*, errW_none, errW_some] <;> rfl), by repeat (first | (with_reducible first | exact HB.out | apply below_alloc | apply pw_below_drewN | apply below_drew1) | exact HB.out)⟩
         ·replace c47 := Bool.eq_false_iff.mpr c47
          subst c47
          have H1 : (some false) = some r := by rw [if_neg (show ¬ (false = true) by decide)] at H; exact H
          clear H
          have H := H1
          clear H1
          obtain rfl := Option.some.inj H
          go_wp2_with (first | ((with_reducible refine gate_callee (f := 15) rfl ?_); refine goesL_ (some 80) rfl rfl Try.func15 (by kernel_rfl) rfl #[.string (⟨#[97, 95, 49]⟩ : ByteArray)] rfl (by (try simp only [List.map_toArray, List.map_cons, List.map_nil]); first | done | rfl | (simp only [List.length_drop, List.length_take]; rfl)) ?_; (with_reducible refine (lexer_Name.calls (⟨#[97, 95, 49]⟩ : ByteArray) true _ A28.out).mono ?_); rintro e w92 ⟨rfl, hb⟩; refine ⟨_, rfl, ?_⟩; have n0_ := Aside0.mk (below_step HB.out hb); clear HB; have HB := n0_; clear n0_; (try clear hb); (try clear hb2); (try clear hk); (try clear hi)) | (go_at_call 15; (with_reducible refine (lexer_Name.calls (⟨#[49, 97]⟩ : ByteArray) false _ A30.out).mono ?_); rintro e w93 ⟨rfl, hb⟩; have n0_ := Aside0.mk (below_step HB.out hb); clear HB; have HB := n0_; clear n0_; (try clear hb); (try clear hb2); (try clear hk); (try clear hi)) | (go_at_call 15; (with_reducible refine (lexer_Name.calls (⟨#[]⟩ : ByteArray) false _ A37.out).mono ?_); rintro e w94 ⟨rfl, hb⟩; have n0_ := Aside0.mk (below_step HB.out hb); clear HB; have HB := n0_; clear n0_; (try clear hb); (try clear hb2); (try clear hk); (try clear hi)) | (go_at_call 17; (with_reducible refine (lexer_Quote.calls (⟨#[97, 10, 92]⟩ : ByteArray) t133 _ A46.out).mono ?_); rintro e w95 ⟨rfl, hb⟩; have n0_ := Aside0.mk (below_step HB.out hb); clear HB; have HB := n0_; clear n0_; (try clear hb); (try clear hb2); (try clear hk); (try clear hi)))
          go_ret
          exact ⟨by first | rfl | (simp [errW_none, errW_some] <;> rfl) | (simp [*, errW_none, errW_some] <;> rfl), by repeat (first | (with_reducible first | exact HB.out | apply below_alloc | apply pw_below_drewN | apply below_drew1) | exact HB.out)⟩
      ·replace c29 := Bool.eq_false_iff.mpr c29
       subst c29
       have H1 : (if x16_15 = true then (some false) else (some false)) = some r := by rw [if_neg (show ¬ (false = true) by decide)] at H; exact H
       clear H
       have H := H1
       clear H1
       by_cases c96 : x16_15 = true
       ·subst c96
        have H1 : (some false) = some r := by rw [if_pos rfl] at H; exact H
        clear H
        have H := H1
        clear H1
        obtain rfl := Option.some.inj H
        go_wp2_with (first | ((with_reducible refine gate_callee (f := 15) rfl ?_); refine goesL_ (some 80) rfl rfl Try.func15 (by kernel_rfl) rfl #[.string (⟨#[97, 95, 49]⟩ : ByteArray)] rfl (by (try simp only [List.map_toArray, List.map_cons, List.map_nil]); first | done | rfl | (simp only [List.length_drop, List.length_take]; rfl)) ?_; (with_reducible refine (lexer_Name.calls (⟨#[97, 95, 49]⟩ : ByteArray) false _ A28.out).mono ?_); rintro e w97 ⟨rfl, hb⟩; refine ⟨_, rfl, ?_⟩; have n0_ := Aside0.mk (below_step HB.out hb); clear HB; have HB := n0_; clear n0_; (try clear hb); (try clear hb2); (try clear hk); (try clear hi)))
        go_ret
        exact ⟨by first | rfl | (simp [errW_none, errW_some] <;> rfl) | (simp [*, errW_none, errW_some] <;> rfl), by repeat (first | (with_reducible first | exact HB.out | apply below_alloc | apply pw_below_drewN | apply below_drew1) | exact HB.out)⟩
       ·replace c96 := Bool.eq_false_iff.mpr c96
        subst c96
        have H1 : (some false) = some r := by rw [if_neg (show ¬ (false = true) by decide)] at H; exact H
        clear H
        have H := H1
        clear H1
        obtain rfl := Option.some.inj H
        go_wp2_with (first | ((with_reducible refine gate_callee (f := 15) rfl ?_); refine goesL_ (some 80) rfl rfl Try.func15 (by kernel_rfl) rfl #[.string (⟨#[97, 95, 49]⟩ : ByteArray)] rfl (by (try simp only [List.map_toArray, List.map_cons, List.map_nil]); first | done | rfl | (simp only [List.length_drop, List.length_take]; rfl)) ?_; (with_reducible refine (lexer_Name.calls (⟨#[97, 95, 49]⟩ : ByteArray) false _ A28.out).mono ?_); rintro e w98 ⟨rfl, hb⟩; refine ⟨_, rfl, ?_⟩; have n0_ := Aside0.mk (below_step HB.out hb); clear HB; have HB := n0_; clear n0_; (try clear hb); (try clear hb2); (try clear hk); (try clear hi)))
        go_ret
        exact ⟨by first | rfl | (simp [errW_none, errW_some] <;> rfl) | (simp [*, errW_none, errW_some] <;> rfl), by repeat (first | (with_reducible first | exact HB.out | apply below_alloc | apply pw_below_drewN | apply below_drew1) | exact HB.out)⟩

end Go.Proofs.Ytflocikkhpjicaa.P
