/- The statement GeomMatchesReference, out of the law's walk: whatever the input, the law's function answers true, and each argument reads as it read before. -/
import Derived.Test.YtgibndgllhompaaRows
import Derived.Test.YtgibndgllhompaaLawRefMatch
import Derived.WalkKit
import Derived.ProofKit
import Derived.OpenShut
import Derived.ShutString
import Derived.ChangeOld
import Derived.Below
import Derived.SizedLaws
import Derived.Lib.SmallJoins
import Derived.Carry
namespace Go.Proofs.Ytgibndgllhompaa.geomMatchesReference
open Go.ChangeShapes Go.WideShapes Go.ChangeAt Go.RowKit
open Go.ChangeMaps (open_string shut_string)
set_option linter.unusedVariables false
theorem own : ownKnob Try.prog.godebug = none := by kernel_rfl
theorem laidOut : laidOutB Try.prog = true := by kernel_rfl
theorem open_int1 {H : Type} {enc : TypeId × Value → H} {w : World} {base fuel : Nat} {spare : Bool} {held : Nat → Bool} {c : Value} {x : DataW H × List MemPlace} (h : DataW.trod enc Try.prog w base held spare fuel 3 [c] = some x) : ∃ n : Int, c = .int .i64 n ∧ (Lit.int .i64 n).wf = true := by
  obtain ⟨n, e, _, hw⟩ := DataW.trod_int Try.underlying3 h
  exact ⟨n, by simpa using e, hw⟩
theorem open_pt {H : Type} {enc : TypeId × Value → H} {w : World} {base fuel : Nat} {spare : Bool} {held : Nat → Bool} {c0 c1 : Value} {x : DataW H × List MemPlace} (h : DataW.trod enc Try.prog w base held spare fuel 23 [c0, c1] = some x) :
    ∃ a b : Int, c0 = .int .i64 a ∧ c1 = .int .i64 b ∧ (Lit.int .i64 a).wf = true ∧ (Lit.int .i64 b).wf = true := by
  have e1 : Try.prog.cellsOf 3 = 1 := by kernel_rfl
  obtain ⟨y0, y1, n, _, _, g0, g1⟩ := trod_struct2 Try.underlying23 h
  simp only [e1, List.drop_zero, List.take_succ_cons, List.take_zero, List.drop_succ_cons] at g0 g1
  obtain ⟨a, ea, wa⟩ := open_int1 g0
  obtain ⟨b, eb, wb⟩ := open_int1 g1
  exact ⟨a, b, ea, eb, wa, wb⟩
theorem open_seg {H : Type} {enc : TypeId × Value → H} {w : World} {base fuel : Nat} {spare : Bool} {held : Nat → Bool} {c0 c1 c2 c3 : Value} {x : DataW H × List MemPlace} (h : DataW.trod enc Try.prog w base held spare fuel 25 [c0, c1, c2, c3] = some x) :
    ∃ a b c d : Int, c0 = .int .i64 a ∧ c1 = .int .i64 b ∧ c2 = .int .i64 c ∧ c3 = .int .i64 d ∧ (Lit.int .i64 a).wf = true ∧ (Lit.int .i64 b).wf = true ∧ (Lit.int .i64 c).wf = true ∧ (Lit.int .i64 d).wf = true := by
  have e1 : Try.prog.cellsOf 23 = 2 := by kernel_rfl
  obtain ⟨y0, y1, n, _, _, g0, g1⟩ := trod_struct2 Try.underlying25 h
  simp only [e1, List.drop_zero, List.take_succ_cons, List.take_zero, List.drop_succ_cons] at g0 g1
  obtain ⟨a, b, ea, eb, wa, wb⟩ := open_pt g0
  obtain ⟨c, d, ec, ed, wc, wd⟩ := open_pt g1
  exact ⟨a, b, c, d, ea, eb, ec, ed, wa, wb, wc, wd⟩
set_option maxRecDepth 100000 in
theorem lifted (os : Os) (started : os.Started) (H : Type) (enc : TypeId × Value → H) :
    ReturnsInHanded {} Try.checked os 3 .any (Rows.geomMatchesReferenceSpec.pre6 enc Try.prog Try.f3 Rows.geomMatchesReferenceRow.domain false) (Rows.geomMatchesReferenceSpec.post enc Try.prog Try.f3 false true false false) := by
  refine returnsInHanded_of_change_sized (C := Try.checked) own started (by kernel_rfl) Try.func3
    (ChangeSpec.witness6 (enc := enc) (C := Try.checked) false ⟨#[], #[.agg #[.int .i64 0, .int .i64 0], .agg #[.int .i64 0, .int .i64 0], .agg #[.int .i64 0, .int .i64 0], .agg #[.int .i64 0, .int .i64 0, .int .i64 0, .int .i64 0], .agg #[.int .i64 0, .int .i64 0, .int .i64 0, .int .i64 0], .int .i64 0], []⟩ 8 (by kernel_rfl) (by kernel_rfl) (by kernel_rfl) (by kernel_rfl)) ?_
  intro W base args ds gs before hval0 hW hcnd hsz0 _
  have hsz : (DataW.weightsEach Try.prog (Try.f3.params.toList ++ Rows.geomMatchesReferenceSpec.plain.varTypes Try.prog) (ds ++ gs)).all (· ≤ reachBytes) = true := hsz0
  have hval : ∀ (j : Nat) t v, Try.f3.params[j]? = some t → args[j]? = some v → Value.okWide Try.prog W .any base t v := hval0
  have hW' := hW
  obtain ⟨p, q, hA0, hV, rfl, hfz, hnd⟩ := hW
  have hA : DataW.TrodAll enc Try.prog W 0 (fun _ => true) true Try.f3.params.toList args.toList ds p := hA0
  rw [Try.params3] at hA hval hsz
  obtain ⟨v0, vs0, d0, ds0, p0, q0, hargs, rfl, rfl, h0, r0⟩ := trodAll_cons hA
  obtain ⟨v1, vs1, d1, ds1, p1, q1, rfl, rfl, rfl, h1, r1⟩ := trodAll_cons r0
  obtain ⟨v2, vs2, d2, ds2, p2, q2, rfl, rfl, rfl, h2, r2⟩ := trodAll_cons r1
  obtain ⟨v3, vs3, d3, ds3, p3, q3, rfl, rfl, rfl, h3, r3⟩ := trodAll_cons r2
  obtain ⟨v4, vs4, d4, ds4, p4, q4, rfl, rfl, rfl, h4, r4⟩ := trodAll_cons r3
  obtain ⟨v5, vs5, d5, ds5, p5, q5, rfl, rfl, rfl, h5, r5⟩ := trodAll_cons r4
  obtain ⟨rfl, rfl, rfl⟩ := trodAll_nil r5
  obtain rfl : args = #[v0, v1, v2, v3, v4, v5] := by cases args; simp_all
  obtain ⟨rfl, rfl⟩ := trodVars_none hV
  have k0 := h0
  have lt0 : ∀ x ∈ p0, x.block < W.heap.size := by obtain ⟨m, hm⟩ := k0; exact DataW.trod_lt m _ _ _ hm
  obtain ⟨cs0, rfl, hsz0⟩ := okWide_struct Try.underlying23 (hval 0 23 v0 rfl rfl)
  obtain ⟨c0_0, c0_1, rfl⟩ := Joins.array2 (hsz0.trans (by kernel_rfl))
  obtain ⟨fu0, hf0⟩ := h0
  obtain ⟨a0_0, a0_1, rfl, rfl, w0_0, w0_1⟩ := open_pt (show DataW.trod enc Try.prog W 0 (fun _ => true) true fu0 23 [c0_0, c0_1] = some _ from by simpa [Value.cells] using hf0)
  have k1 := h1
  have lt1 : ∀ x ∈ p1, x.block < W.heap.size := by obtain ⟨m, hm⟩ := k1; exact DataW.trod_lt m _ _ _ hm
  obtain ⟨cs1, rfl, hsz1⟩ := okWide_struct Try.underlying23 (hval 1 23 v1 rfl rfl)
  obtain ⟨c1_0, c1_1, rfl⟩ := Joins.array2 (hsz1.trans (by kernel_rfl))
  obtain ⟨fu1, hf1⟩ := h1
  obtain ⟨a1_0, a1_1, rfl, rfl, w1_0, w1_1⟩ := open_pt (show DataW.trod enc Try.prog W 0 (fun _ => true) true fu1 23 [c1_0, c1_1] = some _ from by simpa [Value.cells] using hf1)
  have k2 := h2
  have lt2 : ∀ x ∈ p2, x.block < W.heap.size := by obtain ⟨m, hm⟩ := k2; exact DataW.trod_lt m _ _ _ hm
  obtain ⟨cs2, rfl, hsz2⟩ := okWide_struct Try.underlying23 (hval 2 23 v2 rfl rfl)
  obtain ⟨c2_0, c2_1, rfl⟩ := Joins.array2 (hsz2.trans (by kernel_rfl))
  obtain ⟨fu2, hf2⟩ := h2
  obtain ⟨a2_0, a2_1, rfl, rfl, w2_0, w2_1⟩ := open_pt (show DataW.trod enc Try.prog W 0 (fun _ => true) true fu2 23 [c2_0, c2_1] = some _ from by simpa [Value.cells] using hf2)
  have k3 := h3
  have lt3 : ∀ x ∈ p3, x.block < W.heap.size := by obtain ⟨m, hm⟩ := k3; exact DataW.trod_lt m _ _ _ hm
  obtain ⟨cs3, rfl, hsz3⟩ := okWide_struct Try.underlying25 (hval 3 25 v3 rfl rfl)
  obtain ⟨c3_0, c3_1, c3_2, c3_3, rfl⟩ := Joins.array4 (hsz3.trans (by kernel_rfl))
  obtain ⟨fu3, hf3⟩ := h3
  obtain ⟨a3_0, a3_1, a3_2, a3_3, rfl, rfl, rfl, rfl, w3_0, w3_1, w3_2, w3_3⟩ := open_seg (show DataW.trod enc Try.prog W 0 (fun _ => true) true fu3 25 [c3_0, c3_1, c3_2, c3_3] = some _ from by simpa [Value.cells] using hf3)
  have k4 := h4
  have lt4 : ∀ x ∈ p4, x.block < W.heap.size := by obtain ⟨m, hm⟩ := k4; exact DataW.trod_lt m _ _ _ hm
  obtain ⟨cs4, rfl, hsz4⟩ := okWide_struct Try.underlying25 (hval 4 25 v4 rfl rfl)
  obtain ⟨c4_0, c4_1, c4_2, c4_3, rfl⟩ := Joins.array4 (hsz4.trans (by kernel_rfl))
  obtain ⟨fu4, hf4⟩ := h4
  obtain ⟨a4_0, a4_1, a4_2, a4_3, rfl, rfl, rfl, rfl, w4_0, w4_1, w4_2, w4_3⟩ := open_seg (show DataW.trod enc Try.prog W 0 (fun _ => true) true fu4 25 [c4_0, c4_1, c4_2, c4_3] = some _ from by simpa [Value.cells] using hf4)
  obtain ⟨a5, rfl, rfl, rfl, w5⟩ := open_int Try.underlying3 (hval 5 3 v5 rfl rfl) h5
  clear hA0 hval0 hsz0 hsz
  refine (P.law_GeomMatchesReference a0_0 a0_1 a1_0 a1_1 a2_0 a2_1 a3_0 a3_1 a3_2 a3_3 a4_0 a4_1 a4_2 a4_3 a5 w0_0 w0_1 w1_0 w1_1 w2_0 w2_1 w3_0 w3_1 w3_2 w3_3 w4_0 w4_1 w4_2 w4_3 w5 W).mono fun e W' ⟨he, bel⟩ => ?_
  subst he
  exact ⟨_, rfl, _, _, _, [], _, [], hW', trodAll_mk1 (shut_bool Try.underlying4 _), (trodAll_cons_mk (Below.trod laidOut (by kernel_rfl) (of_decide_eq_true (by kernel_rfl)) k0 bel lt0) (trodAll_cons_mk (Below.trod laidOut (by kernel_rfl) (of_decide_eq_true (by kernel_rfl)) k1 bel lt1) (trodAll_cons_mk (Below.trod laidOut (by kernel_rfl) (of_decide_eq_true (by kernel_rfl)) k2 bel lt2) (trodAll_cons_mk (Below.trod laidOut (by kernel_rfl) (of_decide_eq_true (by kernel_rfl)) k3 bel lt3) (trodAll_cons_mk (Below.trod laidOut (by kernel_rfl) (of_decide_eq_true (by kernel_rfl)) k4 bel lt4) (trodAll_cons_mk (shut_int Try.underlying3 w5) trodAll_mk0)))))), rfl, bel.frame _, fun h => by cases h⟩
theorem over : Rows.geomMatchesReferenceRow.holds Try.pinned (OpenSpec.ofChange Rows.geomMatchesReferenceSpec) :=
  OpenClaim.holds_of_wide 3 Try.f3 rfl rfl rfl rfl rfl rfl rfl ⟨rfl, rfl, rfl, rfl, rfl⟩ rfl rfl rfl rfl rfl (by kernel_rfl) Try.func3 (by kernel_rfl)
    (of_decide_eq_true (by kernel_rfl)) (by unfold Func.isWrapper; first | (rw [if_pos (by decide +kernel)]; kernel_rfl) | (rw [if_neg (by decide +kernel)]; exact ⟨rfl, rfl⟩))
    (fun os started H enc _ => lifted os started H enc)
theorem proved : Rows.GeomMatchesReferenceSaid := over
end Go.Proofs.Ytgibndgllhompaa.geomMatchesReference
namespace Go.Proofs.Ytgibndgllhompaa
/-- The row, under a short name, for the claim. -/
theorem geomMatchesReference_holds : Rows.GeomMatchesReferenceSaid := geomMatchesReference.proved
#print axioms geomMatchesReference_holds
end Go.Proofs.Ytgibndgllhompaa
