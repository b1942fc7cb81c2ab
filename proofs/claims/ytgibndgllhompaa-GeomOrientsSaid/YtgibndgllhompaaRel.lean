/- A region whose order is open and in which the values hang on the order (new blocks): a relation J between what has come up, the values and the world; each operation is looked at once, in the frame as it stands in the text's order. -/
import Derived.Test.YtgibndgllhompaaReg
namespace Go.Proofs.Ytgibndgllhompaa.P
open Go
set_option linter.unusedVariables false
/-- One operation, in the frame 'c': it leaves some value 'v' in its temporary, and R v holds behind it. -/
def OneR (P : Program) (o : Oper) (c : Act) (R : Value → World → Prop) (w : World) : Prop := Oper.wp P o c w (fun x w' => ∃ v, x = c.put o.dst v ∧ R v w') (fun _ _ _ => False)
theorem oneR_at {P : Program} {o : Oper} {a c : Act} {R : Value → World → Prop} {w : World} (hlt : ∀ d, o.dst = some d → d < c.tmps.size) (he : execOp a.eval o = execOp c.eval o)
    {K : Act → World → Prop} {Q : Exit → Act → World → Prop} (h : OneR P o c R w) (hK : ∀ v w', R v w' → K (a.put o.dst v) w') : Oper.wp P o a w K Q := by
  unfold OneR Oper.wp at *
  rw [he]
  generalize (execOp c.eval o).run P w = r at *
  have inj : ∀ u v, c.put o.dst u = c.put o.dst v → a.put o.dst u = a.put o.dst v := by
    intro u v h
    cases hd : o.dst with
    | none => rfl
    | some d => rw [hd] at h; rw [put_inj (hlt d hd) h]
  cases r with
  | ok n w' =>
    cases n <;> simp only [Oper.upon] at h ⊢
    case value u => obtain ⟨v, e, hR⟩ := h; rw [inj _ _ e]; exact hK _ _ hR
    case skip => obtain ⟨v, e, hR⟩ := h; rw [inj _ _ e]; exact hK _ _ hR
    case defer d' =>
      obtain ⟨v, e, hR⟩ := h
      have e := congrArg (·.defers) e
      cases hd : o.dst <;> rw [hd] at e <;> simp [Act.put] at e
    case enter f args =>
      refine Calls.mono h fun e w'' he => ?_
      cases e with
      | returned u => have he : ∃ v, c.put o.dst u = c.put o.dst v ∧ R v w'' := he; obtain ⟨v, e, hR⟩ := he; show K (a.put o.dst u) w''; rw [inj _ _ e]; exact hK _ _ hR
      | panicked ch => exact False.elim he
      | outgrown => obtain ⟨_, _, z⟩ := (he : LetsOut _); exact False.elim z
    case row row args => exact Rows.mono h fun u w'' he => by obtain ⟨v, e, hR⟩ := he; rw [inj _ _ e]; exact hK _ _ hR
  | halt x w' =>
    cases x <;> simp only [Oper.upon] at h ⊢
def apartOk2 (ops : Array Oper) (n : Nat) : Bool :=
  (List.range ops.size).all fun i => match ops[i]? with
   | none => false
   | some o =>
     (match o.dst with | some d => decide (d < n) && ((List.range i).all fun j => ((ops[j]?).bind (·.dst)) != some d) | none => true)
     && o.after.all (fun e => decide (e.on < i))
     && (o.looksAt ops).all (fun t => (List.range ops.size).all fun j => ((ops[j]?).bind (·.dst)) != some t || o.after.any (fun e => e.on == j && Region.binds .any e))
     && (match o.op with | .select .. => false | _ => true)
theorem apartOk2_at {ops : Array Oper} {n : Nat} (h : apartOk2 ops n = true) {i : Nat} {o : Oper} (hi : ops[i]? = some o) :
    (∀ d, o.dst = some d → d < n ∧ ∀ j, j < i → dstOf ops j ≠ some d) ∧ (∀ e ∈ o.after, e.on < i) ∧ (∀ t ∈ o.looksAt ops, ∀ j, dstOf ops j = some t → ∃ e ∈ o.after, e.on = j ∧ Region.binds .any e = true) ∧ (∀ cs b, o.op ≠ .select cs b) := by
  have hlt : i < ops.size := (Array.getElem?_eq_some_iff.1 hi).1
  unfold apartOk2 at h
  have k := List.all_eq_true.1 h i (List.mem_range.2 hlt)
  simp only [hi, Bool.and_eq_true] at k
  obtain ⟨⟨⟨k1, k2⟩, k3⟩, k4⟩ := k
  refine ⟨?_, ?_, ?_, ?_⟩
  · intro d hd
    rw [hd] at k1
    simp only [Bool.and_eq_true, decide_eq_true_eq, List.all_eq_true, List.mem_range, bne_iff_ne, ne_eq] at k1
    exact ⟨k1.1, fun j hj => k1.2 j hj⟩
  · intro e he
    have := (Array.all_eq_true_iff_forall_mem.1 k2) e he
    simpa using this
  · intro t ht j hj
    have := List.all_eq_true.1 (List.all_eq_true.1 k3 t ht) j (List.mem_range.2 (by
      unfold dstOf at hj
      rcases Nat.lt_or_ge j ops.size with h | h
      · exact h
      · rw [Array.getElem?_eq_none h] at hj; simp at hj))
    unfold dstOf at hj
    rw [hj] at this
    simp only [bne_self_eq_false, Bool.false_or] at this
    obtain ⟨k, hk, hb⟩ := Array.any_eq_true.1 this
    simp only [Bool.and_eq_true, beq_iff_eq] at hb
    exact ⟨o.after[k], Array.getElem_mem hk, hb.1, hb.2⟩
  · intro cs b hz
    rw [hz] at k4
    simp at k4
theorem apart2_ne {ops : Array Oper} {n : Nat} (h : apartOk2 ops n = true) {i j : Nat} {d : Tmp} (hi : dstOf ops i = some d) (hne : j ≠ i) : dstOf ops j ≠ some d := by
  intro hj
  unfold dstOf at hi hj
  cases ho : ops[i]? with
  | none => rw [ho] at hi; simp at hi
  | some o =>
    cases ho' : ops[j]? with
    | none => rw [ho'] at hj; simp at hj
    | some o' =>
      rw [ho] at hi; rw [ho'] at hj
      simp only [Option.bind_some] at hi hj
      have f1 := ((apartOk2_at h ho).1 d hi).2
      have f2 := ((apartOk2_at h ho').1 d hj).2
      rcases Nat.lt_or_gt_of_ne hne with hl | hl
      · exact f1 j hl (by unfold dstOf; rw [ho']; simpa using hj)
      · exact f2 i hl (by unfold dstOf; rw [ho]; simpa using hi)
theorem Inv.none {ops : Array Oper} {vs : Nat → Value} {c0 a : Act} {L : Nat → Prop} {i : Nat} (h : Inv ops vs c0 L a) (hd : dstOf ops i = none) : Inv ops vs c0 (fun j => L j ∨ j = i) a :=
  ⟨h.size, h.defers, fun j d hj he => h.got j d (hj.resolve_right fun z => by rw [z, hd] at he; cases he) he, fun t ht => h.rest t fun j hj => ht j (.inl hj)⟩
theorem Inv.change {ops : Array Oper} {vs vs' : Nat → Value} {c0 a : Act} {L : Nat → Prop} (h : Inv ops vs c0 L a) (hv : ∀ j, L j → vs j = vs' j) : Inv ops vs' c0 L a :=
  ⟨h.size, h.defers, fun j d hj he => by rw [← hv j hj]; exact h.got j d hj he, h.rest⟩
theorem frs_inv2 {ops : Array Oper} {vs : Nat → Value} {c0 : Act} (hc : apartOk2 ops c0.tmps.size = true) : ∀ i, i ≤ ops.size → Inv ops vs c0 (fun j => j < i) (frs ops.toList vs i c0)
  | 0, _ => ⟨by simp [frs], by simp [frs], fun j d hj => absurd hj (Nat.not_lt_zero j), fun t _ => by simp [frs]⟩
  | i + 1, hi => by
    have ih := frs_inv2 (vs := vs) hc i (by omega)
    have ho : ops[i]? = some ops[i] := by simp
    rw [frs_succ i ops.toList vs c0 ops[i] (by simp)]
    cases hd : ops[i].dst with
    | none =>
      have hdo : dstOf ops i = none := by unfold dstOf; rw [ho]; exact hd
      exact (ih.none hdo).imp (fun j _ _ => by omega)
    | some d =>
      have hdo : dstOf ops i = some d := by unfold dstOf; rw [ho]; exact hd
      exact (ih.put hdo ((apartOk2_at hc ho).1 d hd).1 (fun j hj => apart2_ne hc hdo hj)).imp (fun j _ _ => by omega)
theorem all_listed2 {ops : Array Oper} {n : Nat} {listed : Array Bool} (hc : apartOk2 ops n = true) (hsz : listed.size = ops.size) (hr : Region.ready .any ops listed = []) : ∀ j, j < ops.size → listed.getD j false = true := by
  intro j
  induction j using Nat.strongRecOn with
  | ind j ih =>
    intro hj
    cases hb : listed.getD j false with
    | true => rfl
    | false =>
      have ho : ops[j]? = some ops[j] := by simp
      have hm : j ∈ Region.ready .any ops listed := mem_ready.2 ⟨by rw [← hb]; simp [hsz, hj], ops[j], ho, fun e he _ => by
        have := (apartOk2_at hc ho).2.1 e he
        exact ih e.on this (by omega)⟩
      rw [hr] at hm
      simp at hm
abbrev setL (L : Nat → Bool) (i : Nat) : Nat → Bool := fun j => if j = i then true else L j
abbrev setV (vs : Nat → Value) (i : Nat) (v : Value) : Nat → Value := fun j => if j = i then v else vs j
theorem rel_any {P : Program} {ops : Array Oper} {J : (Nat → Bool) → (Nat → Value) → World → Prop} {Q : Exit → Act → World → Prop} {c0 : Act} (hc : apartOk2 ops c0.tmps.size = true)
    (hstep : ∀ (L : Nat → Bool) (vs : Nat → Value) (w : World) (i : Nat) (o : Oper), ops[i]? = some o → L i = false → (∀ e ∈ o.after, Region.binds .any e = true → L e.on = true) → J L vs w →
      (Region.wanted o (yielded ops (frs ops.toList vs i c0).tmps) = true ∧ OneR P o (frs ops.toList vs i c0) (fun v w' => J (setL L i) (setV vs i v) w') w) ∨
      (Region.wanted o (yielded ops (frs ops.toList vs i c0).tmps) = false ∧ J (setL L i) (setV vs i undef) w))
    (hend : ∀ L vs w, (∀ j, j < ops.size → L j = true) → J L vs w → Q .normal (frs ops.toList vs ops.size c0) w) :
    ∀ (fuel : Nat) (listed : Array Bool) (a : Act) (w : World) (vs : Nat → Value), listed.size = ops.size → listed.toList.count false ≤ fuel → Inv ops vs c0 (fun j => listed.getD j false = true) a → J (fun j => listed.getD j false) vs w → wpAny P .any ops Q fuel listed a w := by
  have fin : ∀ (listed : Array Bool) (a : Act) (w : World) (vs : Nat → Value), listed.size = ops.size → Region.ready .any ops listed = [] → Inv ops vs c0 (fun j => listed.getD j false = true) a → J (fun j => listed.getD j false) vs w → Q .normal a w := by
    intro listed a w vs hsz hr hI hJ
    have hall := all_listed2 hc hsz hr
    have lt : ∀ j d, dstOf ops j = some d → j < ops.size := by
      intro j d hj
      unfold dstOf at hj
      rcases Nat.lt_or_ge j ops.size with h | h
      · exact h
      · rw [Array.getElem?_eq_none h] at hj; simp at hj
    rw [hI.whole (frs_inv2 hc ops.size (Nat.le_refl _)) (fun j d hj => hall j (lt j d hj)) (fun j d hj => lt j d hj)]
    exact hend _ _ _ hall hJ
  intro fuel
  induction fuel with
  | zero =>
    intro listed a w vs hsz hn hI hJ
    have hr : Region.ready .any ops listed = [] := by
      cases hr : Region.ready .any ops listed with
      | nil => rfl
      | cons j js =>
        have hj : j ∈ Region.ready .any ops listed := by rw [hr]; exact List.mem_cons_self
        have := count_set (mem_ready.1 hj).1
        omega
    exact ⟨hr, fin listed a w vs hsz hr hI hJ⟩
  | succ fuel ih =>
    intro listed a w vs hsz hn hI hJ
    refine ⟨fun hr => fin listed a w vs hsz hr hI hJ, fun i hi => ?_⟩
    obtain ⟨hu, o, ho, haf⟩ := mem_ready.1 hi
    obtain ⟨hdst, hlow, hlook, hsel⟩ := apartOk2_at hc ho
    have hsz' : i < ops.size := (Array.getElem?_eq_some_iff.1 ho).1
    have hui : listed.getD i false = false := by
      have : i < listed.size := by omega
      simpa [this] using hu
    have hF := frs_inv2 (vs := vs) hc i (Nat.le_of_lt hsz')
    obtain ⟨he, hw⟩ := look_same (ops := ops) (a := a) (c := frs ops.toList vs i c0) hsel fun t ht => hI.same hF fun j hj => by
      obtain ⟨e, hea, hej, hb⟩ := hlook t ht j hj
      exact ⟨hej ▸ haf e hea hb, hej ▸ hlow e hea⟩
    have hset : (fun j => (listed.setIfInBounds i true).getD j false) = setL (fun j => listed.getD j false) i := by
      funext j
      by_cases hji : j = i
      · subst hji
        have : j < listed.size := by omega
        simp [setL, this]
      · simp only [setL, if_neg hji]
        exact getD_set_ne false (fun z => hji z.symm)
    have hone := hstep (fun j => listed.getD j false) vs w i o ho hui haf hJ
    have next : ∀ v w', J (setL (fun j => listed.getD j false) i) (setV vs i v) w' → wpAny P .any ops Q fuel (listed.setIfInBounds i true) (a.put o.dst v) w' := by
      intro v w' hJ'
      refine ih _ _ _ (setV vs i v) (by simpa using hsz) (by have := count_set hu; omega) ?_ (by rw [hset]; exact hJ')
      have hch : Inv ops (setV vs i v) c0 (fun j => listed.getD j false = true) a := hI.change fun j hj => by
        simp only [setV]
        rw [if_neg]
        intro z
        rw [z, hui] at hj
        cases hj
      have hfin : ∀ (a' : Act), Inv ops (setV vs i v) c0 (fun j => listed.getD j false = true ∨ j = i) a' → Inv ops (setV vs i v) c0 (fun j => (listed.setIfInBounds i true).getD j false = true) a' := fun a' h => h.imp fun j e hj => by
        have h2 : (listed.setIfInBounds i true).getD j false = setL (fun j => listed.getD j false) i j := congrFun hset j
        rw [h2]
        simp only [setL]
        by_cases hji : j = i
        · simp [hji]
        · simp [hji]
      refine hfin _ ?_
      cases hd : o.dst with
      | none =>
        have hdo : dstOf ops i = none := by unfold dstOf; rw [ho]; exact hd
        exact hch.none hdo
      | some d =>
        have hdo : dstOf ops i = some d := by unfold dstOf; rw [ho]; exact hd
        have h1 := hch.put hdo (hdst d hd).1 (fun j hj => apart2_ne hc hdo hj)
        simp only [setV, if_true] at h1
        exact h1
    unfold wpOp
    simp only [ho]
    rw [hw]
    rcases hone with ⟨hwt, h⟩ | ⟨hwt, h⟩
    · rw [if_pos hwt]
      exact .inl (oneR_at (fun d hd => by rw [hF.size]; exact (hdst d hd).1) he h next)
    · rw [if_neg (by rw [hwt]; decide)]
      exact next undef w h
/-- THE REGION: whatever has come up, J holds of it. -/
theorem wp_region_rel {P : Program} {ops : Array Oper} {J : (Nat → Bool) → (Nat → Value) → World → Prop} {Q : Exit → Act → World → Prop} {c0 : Act} {w : World} {id : Nat} (hm : P.follows .mixedOrders = true) (hc : apartOk2 ops c0.tmps.size = true)
    (h0 : ∀ vs, J (fun _ => false) vs w.drew)
    (hstep : ∀ (L : Nat → Bool) (vs : Nat → Value) (w : World) (i : Nat) (o : Oper), ops[i]? = some o → L i = false → (∀ e ∈ o.after, Region.binds .any e = true → L e.on = true) → J L vs w →
      (Region.wanted o (yielded ops (frs ops.toList vs i c0).tmps) = true ∧ OneR P o (frs ops.toList vs i c0) (fun v w' => J (setL L i) (setV vs i v) w') w) ∨
      (Region.wanted o (yielded ops (frs ops.toList vs i c0).tmps) = false ∧ J (setL L i) (setV vs i undef) w))
    (hend : ∀ L vs w, (∀ j, j < ops.size → L j = true) → J L vs w → Q .normal (frs ops.toList vs ops.size c0) w) : (Code.region id ops true).wp P Q c0 w := by
  have hz : (fun j => (Array.replicate ops.size false).getD j false) = fun _ => false := by
    funext j
    simp only [Array.getD_eq_getD_getElem?, Array.getElem?_replicate]
    split <;> rfl
  refine wp_region_any hm (rel_any (J := J) hc hstep hend ops.size _ _ _ (fun _ => undef) (by simp) ?_ ?_ (by rw [hz]; exact h0 _))
  · have := @List.count_le_length Bool _ false (Array.replicate ops.size false).toList
    simp
  · refine ⟨rfl, rfl, fun j d hj _ => ?_, fun t _ => rfl⟩
    simp only [Array.getD_eq_getD_getElem?, Array.getElem?_replicate] at hj
    split at hj <;> simp at hj
/-- what has come up, each by itself -/
def Jt (S : World → Prop) (G : Nat → Value → World → Prop) (L : Nat → Bool) (vs : Nat → Value) (w : World) : Prop := S w ∧ ∀ j, L j = true → G j (vs j) w
theorem Jt.step {S : World → Prop} {G : Nat → Value → World → Prop} {L : Nat → Bool} {vs : Nat → Value} {w w' : World} {i : Nat} {v : Value} (h : Jt S G L vs w) (hS : S w') (hG : ∀ j u, G j u w → G j u w') (hv : G i v w') : Jt S G (setL L i) (setV vs i v) w' := by
  refine ⟨hS, fun j hj => ?_⟩
  by_cases e : j = i
  · subst e
    simp only [setV, if_true]
    exact hv
  · simp only [setL, if_neg e] at hj
    simp only [setV, if_neg e]
    exact hG j _ (h.2 j hj)
section
variable {P : Program} {o : Oper} {c : Act} {R : Value → World → Prop} {w w' : World} {v : Value}
theorem oneR_yield (hy : (execOp c.eval o).run P w = .ok (.value v) w') (h : R v w') : OneR P o c R w := by
  unfold OneR Oper.wp; rw [hy]; exact ⟨v, rfl, h⟩
theorem oneR_skip (hy : (execOp c.eval o).run P w = .ok .skip w') (h : R undef w') : OneR P o c R w := by
  unfold OneR Oper.wp; rw [hy]; exact ⟨undef, rfl, h⟩
theorem oneR_call {f : FuncId} {args : Array Value} (hr : (execOp c.eval o).run P w = .ok (.enter f args) w') (hcl : Calls P f args w' (fun e w'' => ∃ v, e = .returned v ∧ R v w'')) : OneR P o c R w := by
  unfold OneR Oper.wp; rw [hr]
  exact hcl.mono fun e w'' ⟨v, he, hR⟩ => by rw [he]; exact ⟨v, rfl, hR⟩
end
end Go.Proofs.Ytgibndgllhompaa.P
