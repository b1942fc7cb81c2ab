/- A region whose operations come up in an order that is left open: each operation is looked at ONCE, in the frame as it stands in the text's order, in every world that meets S. -/
import Derived.Deep.RegionHeld
namespace Go.Proofs.Ytgibndgllhompaa.P
open Go
set_option linter.unusedVariables false
/-- One operation, in the frame 'c': it leaves 'v' in its temporary, and S holds behind it. -/
def One (P : Program) (ops : Array Oper) (S : World → Prop) (o : Oper) (c : Act) (v : Value) : Prop :=
  if Region.wanted o (yielded ops c.tmps) = true then ∀ w, S w → ∀ K : Act → World → Prop, (∀ w', S w' → K (c.put o.dst v) w') → Oper.wp P o c w K (fun _ _ _ => False) else v = undef
/-- The operations in the text's order. -/
def Each (P : Program) (ops : Array Oper) (S : World → Prop) (Q : Act → World → Prop) : List Oper → Act → Prop
  | [], c => ∀ w, S w → Q c w
  | o :: os, c => ∃ v, One P ops S o c v ∧ Each P ops S Q os (c.put o.dst v)
/-- What the order may not touch: places are apart, an operation reads only what it waits for, and waits only for what stands above it. -/
def apartOk (ops : Array Oper) (n : Nat) : Bool :=
  (List.range ops.size).all fun i => match ops[i]? with
   | none => false
   | some o =>
     (match o.dst with | some d => decide (d < n) && ((List.range i).all fun j => ((ops[j]?).bind (·.dst)) != some d) | none => false)
     && o.after.all (fun e => decide (e.on < i))
     && (o.looksAt ops).all (fun t => (List.range ops.size).all fun j => ((ops[j]?).bind (·.dst)) != some t || o.after.any (fun e => e.on == j && Region.binds .any e))
     && (match o.op with | .select .. => false | _ => true)
def dstOf (ops : Array Oper) (j : Nat) : Option Tmp := (ops[j]?).bind (·.dst)
theorem put_inj {c : Act} {d : Tmp} {u v : Value} (hd : d < c.tmps.size) (h : c.put (some d) u = c.put (some d) v) : u = v := by
  have e := congrArg (fun x => x.tmps[d]?) h
  simpa [Act.put, hd] using e
theorem one_at {P : Program} {S : World → Prop} {o : Oper} {a c : Act} {v : Value} {w : World} {d : Tmp} (hd : o.dst = some d) (hlt : d < c.tmps.size) (he : execOp a.eval o = execOp c.eval o)
    {K : Act → World → Prop} {Q : Exit → Act → World → Prop} (h : Oper.wp P o c w (fun x w' => x = c.put o.dst v ∧ S w') (fun _ _ _ => False)) (hK : ∀ w', S w' → K (a.put o.dst v) w') : Oper.wp P o a w K Q := by
  unfold Oper.wp at *
  rw [he]
  generalize (execOp c.eval o).run P w = r at *
  have inj : ∀ u, c.put o.dst u = c.put o.dst v → u = v := fun u h => by rw [hd] at h; exact put_inj hlt h
  cases r with
  | ok n w' =>
    cases n <;> simp only [Oper.upon] at h ⊢
    case value u => rw [inj _ h.1]; exact hK _ h.2
    case skip => rw [inj _ h.1]; exact hK _ h.2
    case defer d' =>
      have e := congrArg (·.defers) h.1
      rw [hd] at e
      simp [Act.put] at e
    case enter f args =>
      refine Calls.mono h fun e w'' he => ?_
      cases e with
      | returned u => have he : c.put o.dst u = c.put o.dst v ∧ S w'' := he; show K (a.put o.dst u) w''; rw [inj _ he.1]; exact hK _ he.2
      | panicked ch => exact False.elim he
      | outgrown => obtain ⟨_, _, z⟩ := (he : LetsOut _); exact False.elim z
    case row row args => exact Rows.mono h fun u w'' he => by rw [inj _ he.1]; exact hK _ he.2
  | halt x w' =>
    cases x <;> simp only [Oper.upon] at h ⊢
structure Inv (ops : Array Oper) (vs : Nat → Value) (c0 : Act) (L : Nat → Prop) (a : Act) : Prop where
  size : a.tmps.size = c0.tmps.size
  defers : a.defers = c0.defers
  got : ∀ j d, L j → dstOf ops j = some d → a.tmps[d]? = some (vs j)
  rest : ∀ t, (∀ j, L j → dstOf ops j ≠ some t) → a.tmps[t]? = c0.tmps[t]?
theorem Inv.put {ops : Array Oper} {vs : Nat → Value} {c0 a : Act} {L : Nat → Prop} {i : Nat} {d : Tmp} (h : Inv ops vs c0 L a) (hd : dstOf ops i = some d) (hlt : d < c0.tmps.size) (hne : ∀ j, j ≠ i → dstOf ops j ≠ some d) :
    Inv ops vs c0 (fun j => L j ∨ j = i) (a.put (some d) (vs i)) := by
  refine ⟨by simpa [Act.put] using h.size, h.defers, fun j e hj he => ?_, fun t ht => ?_⟩
  · by_cases hji : j = i
    · subst hji
      rw [hd] at he
      cases he
      simp [Act.put, h.size, hlt]
    · have hed : d ≠ e := fun z => hne j hji (by rw [he, z])
      have := h.got j e (hj.resolve_right hji) he
      simpa [Act.put, Array.getElem?_setIfInBounds_ne hed] using this
  · have htd : d ≠ t := fun z => ht i (.inr rfl) (by rw [hd, z])
    have := h.rest t (fun j hj => ht j (.inl hj))
    simpa [Act.put, Array.getElem?_setIfInBounds_ne htd] using this
theorem Inv.same {ops : Array Oper} {vs : Nat → Value} {c0 a b : Act} {L M : Nat → Prop} (h : Inv ops vs c0 L a) (k : Inv ops vs c0 M b) {t : Tmp} (ht : ∀ j, dstOf ops j = some t → L j ∧ M j) : a.tmps[t]? = b.tmps[t]? := by
  by_cases hj : ∃ j, dstOf ops j = some t
  · obtain ⟨j, hj⟩ := hj
    rw [h.got j t (ht j hj).1 hj, k.got j t (ht j hj).2 hj]
  · rw [h.rest t (fun j _ z => hj ⟨j, z⟩), k.rest t (fun j _ z => hj ⟨j, z⟩)]
theorem Inv.whole {ops : Array Oper} {vs : Nat → Value} {c0 a b : Act} {L M : Nat → Prop} (h : Inv ops vs c0 L a) (k : Inv ops vs c0 M b) (hL : ∀ j d, dstOf ops j = some d → L j) (hM : ∀ j d, dstOf ops j = some d → M j) : a = b := by
  have e : a.tmps = b.tmps := by
    apply Array.ext (by rw [h.size, k.size])
    intro i h1 h2
    have := h.same k (t := i) (fun j hj => ⟨hL j _ hj, hM j _ hj⟩)
    simpa [h1, h2] using this
  have f := h.defers.trans k.defers.symm
  cases a; cases b; simp only at e f; rw [e, f]
/-- The frame in the text's order, behind the first i operations. -/
def frs : List Oper → (Nat → Value) → Nat → Act → Act
  | _, _, 0, c => c
  | [], _, _ + 1, c => c
  | o :: os, vs, i + 1, c => frs os (fun j => vs (j + 1)) i (c.put o.dst (vs 0))
theorem frs_succ : ∀ (i : Nat) (os : List Oper) (vs : Nat → Value) (c : Act) (o : Oper), os[i]? = some o → frs os vs (i + 1) c = (frs os vs i c).put o.dst (vs i)
  | 0, [], _, _, _, h => by simp at h
  | 0, x :: os, vs, c, o, h => by simp at h; subst h; simp [frs]
  | i + 1, [], _, _, _, h => by simp at h
  | i + 1, x :: os, vs, c, o, h => by
    have := frs_succ i os (fun j => vs (j + 1)) (c.put x.dst (vs 0)) o (by simpa using h)
    simpa [frs] using this
theorem each_vals {P : Program} {ops : Array Oper} {S : World → Prop} {Q : Act → World → Prop} : ∀ (os : List Oper) (c : Act), Each P ops S Q os c →
    ∃ vs : Nat → Value, (∀ i o, os[i]? = some o → One P ops S o (frs os vs i c) (vs i)) ∧ (∀ w, S w → Q (frs os vs os.length c) w)
  | [], c, h => ⟨fun _ => undef, fun i o hi => by simp at hi, fun w hw => (show ∀ w, S w → Q c w from h) w hw⟩
  | o :: os, c, h => by
    obtain ⟨v, h1, h2⟩ := h
    obtain ⟨vs, k1, k2⟩ := each_vals os _ h2
    refine ⟨fun | 0 => v | j + 1 => vs j, fun i o' hi => ?_, by simpa [frs] using k2⟩
    cases i with
    | zero => simp at hi; subst hi; simpa [frs] using h1
    | succ i => simpa [frs] using k1 i o' (by simpa using hi)
theorem apartOk_at {ops : Array Oper} {n : Nat} (h : apartOk ops n = true) {i : Nat} {o : Oper} (hi : ops[i]? = some o) :
    (∃ d, o.dst = some d ∧ d < n ∧ ∀ j, j < i → dstOf ops j ≠ some d) ∧ (∀ e ∈ o.after, e.on < i) ∧ (∀ t ∈ o.looksAt ops, ∀ j, dstOf ops j = some t → ∃ e ∈ o.after, e.on = j ∧ Region.binds .any e = true) ∧ (∀ cs b, o.op ≠ .select cs b) := by
  have hlt : i < ops.size := (Array.getElem?_eq_some_iff.1 hi).1
  unfold apartOk at h
  have k := List.all_eq_true.1 h i (List.mem_range.2 hlt)
  simp only [hi, Bool.and_eq_true] at k
  obtain ⟨⟨⟨k1, k2⟩, k3⟩, k4⟩ := k
  refine ⟨?_, ?_, ?_, ?_⟩
  · cases hd : o.dst with
    | none => rw [hd] at k1; simp at k1
    | some d =>
      rw [hd] at k1
      simp only [Bool.and_eq_true, decide_eq_true_eq, List.all_eq_true, List.mem_range, bne_iff_ne, ne_eq] at k1
      exact ⟨d, rfl, k1.1, fun j hj => k1.2 j hj⟩
  · intro e he
    have := (Array.all_eq_true_iff_forall_mem.1 k2) e he
    simpa using this
  · intro t ht j hj
    have := List.all_eq_true.1 (List.all_eq_true.1 k3 t ht) j (List.mem_range.2 (by
      unfold dstOf at hj
      rcases Nat.lt_or_ge j ops.size with h | h
      · exact h
      · rw [Array.getElem?_eq_none h] at hj; simp at hj))
    unfold dstOf at hj
    rw [hj] at this
    simp only [bne_self_eq_false, Bool.false_or] at this
    obtain ⟨k, hk, hb⟩ := Array.any_eq_true.1 this
    simp only [Bool.and_eq_true, beq_iff_eq] at hb
    exact ⟨o.after[k], Array.getElem_mem hk, hb.1, hb.2⟩
  · intro cs b hz
    rw [hz] at k4
    simp at k4
theorem apart_ne {ops : Array Oper} {n : Nat} (h : apartOk ops n = true) {i j : Nat} {d : Tmp} (hi : dstOf ops i = some d) (hne : j ≠ i) : dstOf ops j ≠ some d := by
  intro hj
  unfold dstOf at hi hj
  cases ho : ops[i]? with
  | none => rw [ho] at hi; simp at hi
  | some o =>
    cases ho' : ops[j]? with
    | none => rw [ho'] at hj; simp at hj
    | some o' =>
      obtain ⟨⟨d1, e1, _, f1⟩, _⟩ := apartOk_at h ho
      obtain ⟨⟨d2, e2, _, f2⟩, _⟩ := apartOk_at h ho'
      rw [ho] at hi; rw [ho'] at hj
      simp only [Option.bind_some] at hi hj
      rcases Nat.lt_or_gt_of_ne hne with hl | hl
      · exact f1 j hl (by unfold dstOf; rw [ho']; simp only [Option.bind_some]; rw [hj, ← hi, e1])
      · exact f2 i hl (by unfold dstOf; rw [ho]; simp only [Option.bind_some]; rw [hi, ← hj, e2])
theorem Inv.imp {ops : Array Oper} {vs : Nat → Value} {c0 a : Act} {L M : Nat → Prop} (h : Inv ops vs c0 L a) (hLM : ∀ j d, dstOf ops j = some d → (L j ↔ M j)) : Inv ops vs c0 M a :=
  ⟨h.size, h.defers, fun j d hj hd => h.got j d ((hLM j d hd).2 hj) hd, fun t ht => h.rest t (fun j hj hd => ht j ((hLM j t hd).1 hj) hd)⟩
theorem frs_inv {ops : Array Oper} {vs : Nat → Value} {c0 : Act} (hc : apartOk ops c0.tmps.size = true) : ∀ i, i ≤ ops.size → Inv ops vs c0 (fun j => j < i) (frs ops.toList vs i c0)
  | 0, _ => ⟨by simp [frs], by simp [frs], fun j d hj => absurd hj (Nat.not_lt_zero j), fun t _ => by simp [frs]⟩
  | i + 1, hi => by
    have ih := frs_inv (vs := vs) hc i (by omega)
    have ho : ops[i]? = some ops[i] := by simp
    obtain ⟨⟨d, hd, hlt, _⟩, _⟩ := apartOk_at hc ho
    rw [frs_succ i ops.toList vs c0 ops[i] (by simp), hd]
    have hdo : dstOf ops i = some d := by unfold dstOf; rw [ho]; exact hd
    exact (ih.put hdo hlt (fun j hj => apart_ne hc hdo hj)).imp (fun j _ _ => by omega)
theorem eval_same {a c : Act} {x : Operand} (h : ∀ t, x = .tmp t → a.tmps[t]? = c.tmps[t]?) : a.eval x = c.eval x := by
  cases x with
  | tmp t => simp only [Act.eval, Array.getD_eq_getD_getElem?]; rw [h t rfl]
  | _ => rfl
theorem look_same {ops : Array Oper} {a c : Act} {o : Oper} (hs : ∀ cs b, o.op ≠ .select cs b) (h : ∀ t ∈ o.looksAt ops, a.tmps[t]? = c.tmps[t]?) :
    execOp a.eval o = execOp c.eval o ∧ Region.wanted o (yielded ops a.tmps) = Region.wanted o (yielded ops c.tmps) := by
  refine ⟨execOp_congr o hs fun x hx => eval_same fun t hxt => h t (by subst hxt; exact List.mem_append_left _ (List.mem_filterMap.2 ⟨.tmp t, by simpa using hx, rfl⟩)), ?_⟩
  unfold Region.wanted
  cases hg : o.guard with
  | none => rfl
  | some gw =>
    obtain ⟨g, want⟩ := gw
    have hy : yielded ops a.tmps g = yielded ops c.tmps g := by
      unfold yielded
      cases ht : (ops[g]?).bind (·.dst) with
      | none => rfl
      | some t =>
        have := h t (by simp [Oper.looksAt, hg, ht])
        simp only [Option.bind_some, this]
    simp only [hy]
theorem all_listed {ops : Array Oper} {n : Nat} {listed : Array Bool} (hc : apartOk ops n = true) (hsz : listed.size = ops.size) (hr : Region.ready .any ops listed = []) : ∀ j, j < ops.size → listed.getD j false = true := by
  intro j
  induction j using Nat.strongRecOn with
  | ind j ih =>
    intro hj
    cases hb : listed.getD j false with
    | true => rfl
    | false =>
      have ho : ops[j]? = some ops[j] := by simp
      have hm : j ∈ Region.ready .any ops listed := mem_ready.2 ⟨by rw [← hb]; simp [hsz, hj], ops[j], ho, fun e he _ => by
        have := (apartOk_at hc ho).2.1 e he
        exact ih e.on this (by omega)⟩
      rw [hr] at hm
      simp at hm
theorem count_set {l : Array Bool} {i : Nat} (h : l.getD i true = false) : (l.setIfInBounds i true).toList.count false + 1 = l.toList.count false := by
  have hi : i < l.size := by
    rcases Nat.lt_or_ge i l.size with h' | h'
    · exact h'
    · simp [Array.getElem?_eq_none h'] at h
  have hv : l.toList[i]'(by simpa using hi) = false := by simpa [hi] using h
  rw [Array.toList_setIfInBounds, List.count_set (by simpa using hi), hv]
  have : 0 < l.toList.count false := List.count_pos_iff.2 (hv ▸ List.getElem_mem _)
  rw [if_pos (by rfl), if_neg (by simp)]
  omega
theorem each_any {P : Program} {ops : Array Oper} {S : World → Prop} {Q : Exit → Act → World → Prop} {vs : Nat → Value} {c0 : Act} (hc : apartOk ops c0.tmps.size = true)
    (h1 : ∀ i o, ops[i]? = some o → One P ops S o (frs ops.toList vs i c0) (vs i)) (h2 : ∀ w, S w → Q .normal (frs ops.toList vs ops.size c0) w) :
    ∀ (fuel : Nat) (listed : Array Bool) (a : Act) (w : World), listed.size = ops.size → listed.toList.count false ≤ fuel → Inv ops vs c0 (fun j => listed.getD j false = true) a → S w → wpAny P .any ops Q fuel listed a w := by
  have fin : ∀ (listed : Array Bool) (a : Act) (w : World), listed.size = ops.size → Region.ready .any ops listed = [] → Inv ops vs c0 (fun j => listed.getD j false = true) a → S w → Q .normal a w := by
    intro listed a w hsz hr hI hS
    have hall := all_listed hc hsz hr
    have lt : ∀ j d, dstOf ops j = some d → j < ops.size := by
      intro j d hj
      unfold dstOf at hj
      rcases Nat.lt_or_ge j ops.size with h | h
      · exact h
      · rw [Array.getElem?_eq_none h] at hj; simp at hj
    rw [hI.whole (frs_inv hc ops.size (Nat.le_refl _)) (fun j d hj => hall j (lt j d hj)) (fun j d hj => lt j d hj)]
    exact h2 w hS
  intro fuel
  induction fuel with
  | zero =>
    intro listed a w hsz hn hI hS
    have hr : Region.ready .any ops listed = [] := by
      cases hr : Region.ready .any ops listed with
      | nil => rfl
      | cons j js =>
        have hj : j ∈ Region.ready .any ops listed := by rw [hr]; exact List.mem_cons_self
        have := count_set (mem_ready.1 hj).1
        omega
    exact ⟨hr, fin listed a w hsz hr hI hS⟩
  | succ fuel ih =>
    intro listed a w hsz hn hI hS
    refine ⟨fun hr => fin listed a w hsz hr hI hS, fun i hi => ?_⟩
    obtain ⟨hu, o, ho, haf⟩ := mem_ready.1 hi
    obtain ⟨⟨d, hd, hlt, _⟩, hlow, hlook, hsel⟩ := apartOk_at hc ho
    have hsz' : i < ops.size := (Array.getElem?_eq_some_iff.1 ho).1
    have hF := frs_inv (vs := vs) hc i (Nat.le_of_lt hsz')
    obtain ⟨he, hw⟩ := look_same (ops := ops) (a := a) (c := frs ops.toList vs i c0) hsel fun t ht => hI.same hF fun j hj => by
      obtain ⟨e, hea, hej, hb⟩ := hlook t ht j hj
      exact ⟨hej ▸ haf e hea hb, hej ▸ hlow e hea⟩
    have hdo : dstOf ops i = some d := by unfold dstOf; rw [ho]; exact hd
    have next : ∀ w', S w' → wpAny P .any ops Q fuel (listed.setIfInBounds i true) (a.put o.dst (vs i)) w' := by
      intro w' hS'
      refine ih _ _ _ (by simpa using hsz) (by have := count_set hu; omega) ?_ hS'
      rw [hd]
      refine (hI.put hdo hlt (fun j hj => apart_ne hc hdo hj)).imp fun j e hj => ?_
      by_cases hji : j = i
      · subst hji
        have : j < listed.size := by omega
        simp [this]
      · rw [getD_set_ne false (fun z => hji z.symm)]
        exact ⟨fun h => h.resolve_right hji, fun h => .inl h⟩
    have hone := h1 i o ho
    unfold wpOp
    simp only [ho]
    rw [hw]
    unfold One at hone
    split at hone
    · rename_i hwt
      rw [if_pos hwt]
      exact .inl (one_at hd (by rw [hF.size]; exact hlt) he (hone w hS _ fun w' hS' => ⟨rfl, hS'⟩) next)
    · rename_i hwt
      rw [if_neg hwt, ← hone]
      exact next w hS
/-- THE REGION: each operation once, in the text's order. -/
theorem wp_region_each {P : Program} {ops : Array Oper} {S : World → Prop} {Q : Exit → Act → World → Prop} {c0 : Act} {w : World} {id : Nat} (hm : P.follows .mixedOrders = true) (hc : apartOk ops c0.tmps.size = true) (hS : S w.drew)
    (h : Each P ops S (fun a w => Q .normal a w) ops.toList c0) : (Code.region id ops true).wp P Q c0 w := by
  obtain ⟨vs, h1, h2⟩ := each_vals _ _ h
  refine wp_region_any hm (each_any hc (fun i o ho => h1 i o (by simpa using ho)) (by simpa using h2) ops.size _ _ _ (by simp) ?_ ?_ hS)
  · have := @List.count_le_length Bool _ false (Array.replicate ops.size false).toList
    simp
  · refine ⟨rfl, rfl, fun j d hj _ => ?_, fun t _ => rfl⟩
    simp only [Array.getD_eq_getD_getElem?, Array.getElem?_replicate] at hj
    split at hj <;> simp at hj
section
variable {P : Program} {ops : Array Oper} {S : World → Prop} {Q : Act → World → Prop} {o : Oper} {os : List Oper} {c : Act} {v : Value}
theorem each_skip (hw : Region.wanted o (yielded ops c.tmps) = false) (h : Each P ops S Q os (c.put o.dst undef)) : Each P ops S Q (o :: os) c :=
  ⟨undef, by unfold One; rw [hw]; rfl, h⟩
theorem each_yield (hw : Region.wanted o (yielded ops c.tmps) = true) (hy : ∀ w, S w → (execOp c.eval o).run P w = .ok (.value v) w) (h : Each P ops S Q os (c.put o.dst v)) : Each P ops S Q (o :: os) c :=
  ⟨v, by unfold One; rw [if_pos hw]; intro w hS K hK; unfold Oper.wp; rw [hy w hS]; exact hK w hS, h⟩
theorem each_call {f : FuncId} {args : Array Value} (hw : Region.wanted o (yielded ops c.tmps) = true) (hr : ∀ w, S w → (execOp c.eval o).run P w = .ok (.enter f args) w)
    (hcl : ∀ w, S w → Calls P f args w (fun e w' => e = .returned v ∧ S w')) (h : Each P ops S Q os (c.put o.dst v)) : Each P ops S Q (o :: os) c :=
  ⟨v, by unfold One; rw [if_pos hw]; intro w hS K hK; unfold Oper.wp; rw [hr w hS]; exact (hcl w hS).mono (fun e w' he => by rw [he.1]; exact hK w' he.2), h⟩
theorem each_done (h : ∀ w, S w → Q c w) : Each P ops S Q [] c := h
end
end Go.Proofs.Ytgibndgllhompaa.P
