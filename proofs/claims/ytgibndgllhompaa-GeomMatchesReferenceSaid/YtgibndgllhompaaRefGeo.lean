/- What the printed functions of geom's reference answer: Orient, Compare, On, Meets, Distance, Near, Root: the same as geom's own. -/
import Derived.Test.YtgibndgllhompaaSemRef
import Derived.Test.YtgibndgllhompaaPx12
import Derived.Test.YtgibndgllhompaaPx13
import Derived.Test.YtgibndgllhompaaPx14
import Derived.Test.YtgibndgllhompaaPx15
namespace Go.Proofs.Ytgibndgllhompaa.P
open Go.RowKit Go.Proofs.YtgibndgllhompaaW.PrintWords Go.Proofs.YtgibndgllhompaaW.PrintLast Go.Proofs.YtgibndgllhompaaW.PrintMore Go.Proofs.Ytgibndgllhompaa.Geo
set_option linter.unusedVariables false
set_option linter.unusedSimpArgs false
theorem ris_sem (p : Pt) : planisphereref03_Is.f p.x p.y = some (decide (Nr p)) := by
  unfold planisphereref03_Is.f Nr
  by_cases h1 : p.x ≥ -2097152 <;> by_cases h2 : p.x ≤ 2097152 <;> by_cases h3 : p.y ≥ -2097152 <;> simp [h1, h2, h3] <;> omega
theorem rseg_sem (a b : Pt) : planisphereref03_Segment.f a.x a.y b.x b.y = some (decide (Nr a ∧ Nr b)) := by
  unfold planisphereref03_Segment.f
  rw [ris_sem, ris_sem, Option.bind_some]
  by_cases h : Nr a
  · rw [if_pos (decide_eq_true h), Option.bind_some]; simp [h]
  · rw [if_neg (by simp [h])]; simp [h]
theorem rcross_sem {a b c : Pt} (ha : Nr a) (hb : Nr b) (hc : Nr c) : planisphereref03_cross.f a.x a.y b.x b.y c.x c.y = some (cr a b c) := by
  unfold Nr at ha hb hc
  have h1 := prod_bd (x := b.x - a.x) (y := c.y - a.y) (by omega) (by omega)
  have h2 := prod_bd (x := b.y - a.y) (y := c.x - a.x) (by omega) (by omega)
  unfold planisphereref03_cross.f cr
  rw [w64 (x := b.x - a.x) (by omega) (by omega), w64 (x := c.y - a.y) (by omega) (by omega), w64 (x := b.y - a.y) (by omega) (by omega), w64 (x := c.x - a.x) (by omega) (by omega)]
  rw [w64 (x := (b.x - a.x) * (c.y - a.y)) (by omega) (by omega), w64 (x := (b.y - a.y) * (c.x - a.x)) (by omega) (by omega), w64 (by omega) (by omega)]
theorem rsign_sem (n : Int) : planisphereref03_sign.f n = some (sg n) := by
  unfold planisphereref03_sign.f sg
  by_cases h : n < 0
  · rw [if_pos h, if_pos h]
  · rw [if_neg h, if_neg h]
    by_cases h2 : n > 0
    · rw [if_pos h2, if_pos h2]
    · rw [if_neg h2, if_neg h2]
theorem rorient_sem (k : Nat) (hk : 1 ≤ k) (a b c : Pt) : planisphereref03_Orient.f k a.x a.y b.x b.y c.x c.y = some (orient a b c) := by
  obtain ⟨k, rfl⟩ : ∃ m, k = m + 1 := ⟨k - 1, by omega⟩
  unfold planisphereref03_Orient.f orient
  rw [ris_sem, ris_sem, ris_sem, Option.bind_some]
  by_cases ha : Nr a
  · rw [if_pos (decide_eq_true ha), Option.bind_some]
    by_cases hb : Nr b
    · rw [if_pos (decide_eq_true hb), Option.bind_some]
      by_cases hc : Nr c
      · rw [if_pos ⟨ha, hb, hc⟩, decide_eq_true hc]
        simp only [planisphereref03_Orient.j0]
        rw [if_neg (by decide), rcross_sem ha hb hc, Option.bind_some, rsign_sem, Option.bind_some]
      · rw [if_neg (fun h => hc h.2.2), decide_eq_false hc]
        simp only [planisphereref03_Orient.j0]
        rw [if_pos (by decide)]
    · rw [if_neg (by simp [hb]), if_neg (fun h => hb h.2.1)]
      simp only [planisphereref03_Orient.j0]
      rw [if_pos trivial]
  · rw [if_neg (by simp [ha]), if_neg (fun h => ha h.1)]
    simp only [planisphereref03_Orient.j0]
    rw [if_pos trivial]
theorem rcmp_sem (k : Nat) (hk : 1 ≤ k) (a b : Pt) : planisphereref03_Compare.f k a.x a.y b.x b.y = some (cmpv a b) := by
  obtain ⟨k, rfl⟩ : ∃ m, k = m + 1 := ⟨k - 1, by omega⟩
  unfold planisphereref03_Compare.f cmpv
  simp only [planisphereref03_Compare.j0]
  by_cases h1 : a.x < b.x
  · simp [h1]
  · rw [if_neg h1, if_neg h1]
    by_cases h2 : a.x = b.x
    · rw [if_pos h2, if_neg (show ¬ a.x > b.x by omega)]
      by_cases h3 : a.y < b.y
      · rw [if_pos (decide_eq_true h3), if_pos h3]
      · rw [if_neg (by simpa using h3), if_neg h3]
        by_cases h4 : a.y = b.y
        · rw [if_pos (by simp [h2, h4]), if_neg (by omega)]
        · rw [if_neg (by simp [h4]), if_pos (by omega)]
    · rw [if_neg h2, if_neg (by decide), if_neg (by simp [h2]), if_pos (by omega)]
theorem mn_eq (x y : Int) : mn x y = min x y := by unfold mn; omega
theorem mx_eq (x y : Int) : mx x y = max x y := by unfold mx; omega
theorem ron_sem (a b p : Pt) : planisphereref03_On.f a.x a.y b.x b.y p.x p.y = some (decide ((Nr a ∧ Nr b ∧ Nr p) ∧ On a b p)) := by
  unfold planisphereref03_On.f
  rw [rseg_sem, ris_sem, Option.bind_some]
  by_cases h : Nr a ∧ Nr b
  · rw [if_pos (decide_eq_true h), Option.bind_some]
    by_cases hp : Nr p
    · rw [if_pos (decide_eq_true hp), rcross_sem h.1 h.2 hp, Option.bind_some, mn_eq, mx_eq, mn_eq, mx_eq]
      have hall : Nr a ∧ Nr b ∧ Nr p := ⟨h.1, h.2, hp⟩
      have e : (decide ((Nr a ∧ Nr b ∧ Nr p) ∧ On a b p)) = decide (On a b p) := by simp [hall]
      rw [e]
      have hon : On a b p ↔ cr a b p = 0 ∧ min a.x b.x ≤ p.x ∧ p.x ≤ max a.x b.x ∧ min a.y b.y ≤ p.y ∧ p.y ≤ max a.y b.y := Iff.rfl
      by_cases h1 : p.x ≥ min a.x b.x
      · rw [if_pos h1]
        by_cases h2 : p.x ≤ max a.x b.x
        · rw [if_pos h2]
          by_cases h3 : p.y ≥ min a.y b.y
          · rw [if_pos h3]
            by_cases h4 : p.y ≤ max a.y b.y
            · rw [if_pos h4]
              congr 1
              rw [Bool.eq_iff_iff, beq_iff_eq, decide_eq_true_iff, hon]
              exact ⟨fun z => ⟨z, h1, h2, h3, h4⟩, fun z => z.1⟩
            · rw [if_neg h4, decide_eq_false (fun z => h4 (hon.1 z).2.2.2.2)]
          · rw [if_neg h3, decide_eq_false (fun z => h3 (hon.1 z).2.2.2.1)]
        · rw [if_neg h2, decide_eq_false (fun z => h2 (hon.1 z).2.2.1)]
      · rw [if_neg h1, decide_eq_false (fun z => h1 (hon.1 z).2.1)]
    · rw [if_neg (by simp [hp]), decide_eq_false (fun z => hp z.1.2.2)]
  · rw [if_neg (by simpa using h), decide_eq_false (fun z => h ⟨z.1.1, z.1.2.1⟩)]
theorem rdist_sem (a b : Pt) : planisphereref03_Distance.f a.x a.y b.x b.y = some (distv a b) := by
  unfold planisphereref03_Distance.f distv
  rw [ris_sem, ris_sem, Option.bind_some]
  by_cases ha : Nr a
  · rw [if_pos (decide_eq_true ha), Option.bind_some]
    by_cases hb : Nr b
    · rw [if_pos (decide_eq_true hb), if_pos ⟨ha, hb⟩]
      unfold Nr at ha hb
      have h1 := prod_bd (x := a.x - b.x) (y := a.x - b.x) (by omega) (by omega)
      have h2 := prod_bd (x := a.y - b.y) (y := a.y - b.y) (by omega) (by omega)
      rw [w64 (x := a.x - b.x) (by omega) (by omega), w64 (x := a.y - b.y) (by omega) (by omega)]
      rw [w64 (x := (a.x - b.x) * (a.x - b.x)) (by omega) (by omega), w64 (x := (a.y - b.y) * (a.y - b.y)) (by omega) (by omega), w64 (by omega) (by omega)]
      unfold dist
      congr 1
      grind
    · rw [if_neg (by simp [hb]), if_neg (fun h => hb h.2)]
  · rw [if_neg (by simp [ha]), if_neg (fun h => ha h.1)]
theorem rnear_sem (k : Nat) (hk : 301 ≤ k) (a b p : Pt) : planisphereref03_Near.f k a.x a.y b.x b.y p.x p.y = some (nearv a b p) := by
  obtain ⟨k, rfl⟩ : ∃ m, k = m + 1 := ⟨k - 1, by omega⟩
  unfold planisphereref03_Near.f nearv
  rw [rseg_sem, ris_sem, Option.bind_some]
  by_cases h : Nr a ∧ Nr b
  · rw [if_pos (decide_eq_true h), Option.bind_some]
    by_cases hp : Nr p
    · rw [decide_eq_true hp, if_pos ⟨h.1, h.2, hp⟩]
      simp only [planisphereref03_Near.j0]
      rw [if_neg (by decide), rdist_sem, rdist_sem, rdist_sem, rcross_sem h.1 h.2 hp]
      simp only [Option.bind_some]
      obtain ⟨ha, hb⟩ := h
      have d1 : distv a b = dist a b := by unfold distv; rw [if_pos ⟨ha, hb⟩]
      have d2 : distv a p = dist a p := by unfold distv; rw [if_pos ⟨ha, hp⟩]
      have d3 : distv b p = dist b p := by unfold distv; rw [if_pos ⟨hb, hp⟩]
      rw [d1, d2, d3]
      have bV := dist_bd ha hb
      have bD := dist_bd ha hp
      have hsq := cr_sq_le a b p
      have hA := ha; have hB := hb; have hP := hp
      unfold Nr at hA hB hP
      have h1 := prod_bd (x := p.x - a.x) (y := b.x - a.x) (by omega) (by omega)
      have h2 := prod_bd (x := p.y - a.y) (y := b.y - a.y) (by omega) (by omega)
      have c1 := prod_bd (x := b.x - a.x) (y := p.y - a.y) (by omega) (by omega)
      have c2 := prod_bd (x := b.y - a.y) (y := p.x - a.x) (by omega) (by omega)
      have hal : (p.x - a.x) * (b.x - a.x) + (p.y - a.y) * (b.y - a.y) = along a b p := by unfold along; grind
      rw [w64 (x := p.x - a.x) (by omega) (by omega), w64 (x := b.x - a.x) (by omega) (by omega), w64 (x := p.y - a.y) (by omega) (by omega), w64 (x := b.y - a.y) (by omega) (by omega)]
      rw [w64 (x := (p.x - a.x) * (b.x - a.x)) (by omega) (by omega), w64 (x := (p.y - a.y) * (b.y - a.y)) (by omega) (by omega), w64 (x := (p.x - a.x) * (b.x - a.x) + (p.y - a.y) * (b.y - a.y)) (by omega) (by omega), hal]
      unfold near0
      by_cases e1 : along a b p ≤ 0
      · rw [if_pos e1, if_pos e1]
      · rw [if_neg e1, if_neg e1]
        by_cases e2 : along a b p ≥ dist a b
        · rw [if_pos e2, if_pos e2]
        · rw [if_neg e2, if_neg e2]
          have hc : -35184372088832 ≤ cr a b p ∧ cr a b p ≤ 35184372088832 := by unfold cr; omega
          rw [w64 (x := -cr a b p) (by omega) (by omega), mx_eq]
          have hm : max (cr a b p) (-cr a b p) * max (cr a b p) (-cr a b p) = cr a b p * cr a b p := by
            rcases Int.le_total 0 (cr a b p) with z | z
            · rw [show max (cr a b p) (-cr a b p) = cr a b p by omega]
            · rw [show max (cr a b p) (-cr a b p) = -cr a b p by omega]; grind
          rw [times_sem k (by omega) _ (dist a b) (dist a p) (by omega) (by omega) (by omega) (by omega) (by rw [hm, Int.mul_comm (dist a p)]; exact hsq) (by omega), hm]
          rfl
    · rw [decide_eq_false hp, if_neg (fun z => hp z.2.2)]
      simp only [planisphereref03_Near.j0]
      rw [if_pos (by decide)]
  · rw [if_neg (by simpa using h), if_neg (fun z => h ⟨z.1, z.2.1⟩)]
    simp only [planisphereref03_Near.j0]
    rw [if_pos trivial]
theorem rroot_sem (k : Nat) (hk : 33 ≤ k) (n : Int) (h1 : -9223372036854775808 ≤ n) (h2 : n ≤ 9223372036854775807) : planisphereref03_Root.f k n = some (rootv n) := by
  obtain ⟨t, e, h⟩ := refroot_sem k hk n h1 h2
  rw [e]
  have hv := rootv_ok n h1 h2
  congr 1
  rcases h with ⟨h, h'⟩ | ⟨h, a1, a2, a3⟩
  · rcases hv with ⟨_, z⟩ | ⟨z, _⟩
    · rw [h', z]
    · omega
  · rcases hv with ⟨z, _⟩ | ⟨_, b1, b2, b3⟩
    · omega
    · exact sq_uniq a1 b1 a2 a3 b2 b3
/-! ### Meets -/
def toP (p : Pt) : S23 := ⟨p.x, p.y⟩
theorem rd_pts (xs : List Pt) (i : Nat) (p : Pt) (h : xs[i]? = some p) : rd_T23 (xs.map toP) (i : Int) = toP p := by
  unfold rd_T23
  rw [List.getD_eq_getElem?_getD]
  simp [h]
theorem wn1 (i : Nat) (h : i ≤ 1000000) : wrap64 ((i : Int) + 1) = ((i + 1 : Nat) : Int) := by rw [w64 (by omega) (by omega)]; omega
/-- the ends that are on both segments, each once -/
def cstep (a b c d : Pt) (l : List Pt) (e : Pt) : List Pt := if e ∈ l then l else if On a b e ∧ On c d e then l ++ [e] else l
theorem cstep_len (a b c d : Pt) (l : List Pt) (e : Pt) : (cstep a b c d l e).length ≤ l.length + 1 := by
  unfold cstep; split
  · omega
  · split <;> simp
/-- what the number of common ends means -/
def fin (a b c d : Pt) (l : List Pt) : Int :=
  if l.length > 1 then 5 else match l with
    | p :: _ => if (p = a ∨ p = b) ∧ (p = c ∨ p = d) then 1 else 2
    | [] => if Cross a b c d then 3 else 0
theorem rend_sem (a b p : Pt) : planisphereref03_end.f a.x a.y b.x b.y p.x p.y = some (decide (p = a ∨ p = b)) := by
  unfold planisphereref03_end.f
  by_cases h : p = a
  · rw [if_pos ((eq_pt p a).2 h)]; simp [h]
  · rw [if_neg (fun z => h ((eq_pt p a).1 z))]
    congr 1
    rw [Bool.eq_iff_iff, eq_pt, decide_eq_true_iff]
    exact ⟨.inr, fun z => z.resolve_left h⟩
theorem rmeets_end (a b c d : Pt) (ha : Nr a) (hb : Nr b) (hc : Nr c) (hd : Nr d) (k : Nat) (es l : List Pt) (hl : l.length ≤ 4) :
    planisphereref03_Meets.l0 (k + 2) (es.map toP) (l.map toP) 4 a.x a.y b.x b.y c.x c.y d.x d.y = some (fin a b c d l) := by
  simp only [planisphereref03_Meets.l0]
  rw [if_neg (by decide), List.length_map]
  unfold fin
  by_cases h1 : l.length > 1
  · rw [if_pos (by omega), if_pos h1]
  · rw [if_neg (by omega), if_neg h1]
    cases l with
    | nil =>
      rw [if_neg (by decide)]
      simp only
      have o1 : orient a b c = sg (cr a b c) := by unfold orient; rw [if_pos ⟨ha, hb, hc⟩]
      have o2 : orient a b d = sg (cr a b d) := by unfold orient; rw [if_pos ⟨ha, hb, hd⟩]
      have o3 : orient c d a = sg (cr c d a) := by unfold orient; rw [if_pos ⟨hc, hd, ha⟩]
      have o4 : orient c d b = sg (cr c d b) := by unfold orient; rw [if_pos ⟨hc, hd, hb⟩]
      rw [rorient_sem (k + 1) (by omega) a b c, rorient_sem (k + 1) (by omega) a b d, rorient_sem (k + 1) (by omega) c d a, rorient_sem (k + 1) (by omega) c d b, o1, o2, o3, o4]
      simp only [Option.bind_some, wsg]
      have hx : Cross a b c d ↔ Opp (cr a b c) (cr a b d) ∧ Opp (cr c d a) (cr c d b) := Iff.rfl
      by_cases e1 : sg (cr a b c) * sg (cr a b d) < 0
      · rw [if_pos e1]
        by_cases e2 : sg (cr c d a) * sg (cr c d b) < 0
        · rw [if_pos e2, if_pos (hx.2 ⟨(sg_mul _ _).2.1.1 e1, (sg_mul _ _).2.1.1 e2⟩)]
        · rw [if_neg e2, if_neg (fun z => e2 ((sg_mul _ _).2.1.2 (hx.1 z).2))]
      · rw [if_neg e1, if_neg (fun z => e1 ((sg_mul _ _).2.1.2 (hx.1 z).1))]
    | cons p l =>
      have hn : l = [] := by simp only [List.length_cons] at h1; exact List.length_eq_zero_iff.1 (by omega)
      subst hn
      rw [if_pos (by rfl), if_pos (by simp)]
      have hr : rd_T23 ([p].map toP) (0 : Int) = toP p := rd_pts [p] 0 p rfl
      rw [hr]
      have e1 := rend_sem a b p
      have e2 := rend_sem c d p
      show (planisphereref03_end.f a.x a.y b.x b.y p.x p.y).bind _ = _
      rw [e1, Option.bind_some]
      simp only
      by_cases z1 : p = a ∨ p = b
      · rw [if_pos (decide_eq_true z1)]
        show (planisphereref03_end.f c.x c.y d.x d.y p.x p.y).bind _ = _
        rw [e2, Option.bind_some]
        by_cases z2 : p = c ∨ p = d
        · rw [if_pos (decide_eq_true z2), if_pos ⟨z1, z2⟩]
        · rw [if_neg (by simpa using z2), if_neg (fun z => z2 z.2)]
      · rw [if_neg (by simpa using z1), if_neg (fun z => z1 z.1)]
theorem rmeets_l1 (a b c d : Pt) (ha : Nr a) (hb : Nr b) (hc : Nr c) (hd : Nr d) (es l : List Pt) (i : Nat) (e : Pt) (he : es[i]? = some e) (hne : Nr e) (hi : i < 4) (hlen : es.length = 4) (hl : l.length ≤ 4) (m : Nat) (r : Int) :
    ∀ (n j k : Nat) (fl : Bool), l.length - j = n → j ≤ l.length → n + m + 1 ≤ k →
      (∀ k', m ≤ k' → planisphereref03_Meets.l0 k' (es.map toP) ((if fl = true ∨ e ∈ l.drop j then l else if On a b e ∧ On c d e then l ++ [e] else l).map toP) ((i + 1 : Nat) : Int) a.x a.y b.x b.y c.x c.y d.x d.y = some r) →
      planisphereref03_Meets.l1 k (es.map toP) (l.map toP) (i : Int) fl (j : Int) a.x a.y b.x b.y c.x c.y d.x d.y = some r
  | 0, j, k, fl, hn, hj, hk, hr => by
    obtain ⟨k, rfl⟩ : ∃ m, k = m + 1 := ⟨k - 1, by omega⟩
    rw [List.drop_eq_nil_of_le (by omega)] at hr
    simp only [planisphereref03_Meets.l1]
    rw [if_neg (by rw [List.length_map]; omega), wn1 i (by omega)]
    cases fl with
    | true =>
      rw [if_pos rfl]
      have := hr k (by omega)
      rw [if_pos (.inl rfl)] at this
      exact this
    | false =>
      rw [if_neg (by decide), if_pos (by omega), if_pos (by rw [List.length_map, hlen]; omega), rd_pts es i e he]
      have h2 := hr k (by omega)
      rw [if_neg (by simp)] at h2
      have o1 : planisphereref03_On.f a.x a.y b.x b.y (toP e).f0 (toP e).f1 = some (decide ((Nr a ∧ Nr b ∧ Nr e) ∧ On a b e)) := ron_sem a b e
      have o2 : planisphereref03_On.f c.x c.y d.x d.y (toP e).f0 (toP e).f1 = some (decide ((Nr c ∧ Nr d ∧ Nr e) ∧ On c d e)) := ron_sem c d e
      rw [o1, Option.bind_some]
      by_cases z1 : On a b e
      · rw [if_pos (decide_eq_true ⟨⟨ha, hb, hne⟩, z1⟩), o2, Option.bind_some]
        by_cases z2 : On c d e
        · rw [if_pos (decide_eq_true ⟨⟨hc, hd, hne⟩, z2⟩), if_pos (by rw [List.length_map]; omega)]
          rw [if_pos ⟨z1, z2⟩, List.map_append] at h2
          exact h2
        · rw [if_neg (by simp [z2])]
          rw [if_neg (fun z => z2 z.2)] at h2
          exact h2
      · rw [if_neg (by simp [z1])]
        rw [if_neg (fun z => z1 z.1)] at h2
        exact h2
  | n + 1, j, k, fl, hn, hj, hk, hr => by
    obtain ⟨k, rfl⟩ : ∃ m, k = m + 1 := ⟨k - 1, by omega⟩
    obtain ⟨q, hq⟩ : ∃ q, l[j]? = some q := ⟨_, List.getElem?_eq_getElem (by omega)⟩
    have hdr : l.drop j = q :: l.drop (j + 1) := by
      obtain ⟨h1, h2⟩ := List.getElem?_eq_some_iff.1 hq
      rw [← h2]; exact List.drop_eq_getElem_cons h1
    simp only [planisphereref03_Meets.l1]
    rw [if_pos (by rw [List.length_map]; omega), wn1 j (by omega)]
    cases fl with
    | true =>
      rw [if_pos rfl]
      exact rmeets_l1 a b c d ha hb hc hd es l i e he hne hi hlen hl m r n (j + 1) k true (by omega) (by omega) (by omega) (fun k' hk' => by
        have := hr k' hk'
        rw [if_pos (.inl rfl)] at this ⊢
        exact this)
    | false =>
      rw [if_neg (by decide), if_pos (by omega), if_pos (by omega), if_pos (by rw [List.length_map, hlen]; omega), rd_pts es i e he, rd_pts l j q hq]
      refine rmeets_l1 a b c d ha hb hc hd es l i e he hne hi hlen hl m r n (j + 1) k _ (by omega) (by omega) (by omega) (fun k' hk' => ?_)
      have h2 := hr k' hk'
      have hb : (((toP q).f0 == (toP e).f0 && ((toP q).f1 == (toP e).f1)) = true ∨ e ∈ l.drop (j + 1)) ↔ (false = true ∨ e ∈ l.drop j) := by
        rw [hdr, List.mem_cons]
        have : ((toP q).f0 == (toP e).f0 && ((toP q).f1 == (toP e).f1)) = true ↔ q = e := eq_pt q e
        rw [this]
        constructor
        · rintro (z | z)
          · exact .inr (.inl z.symm)
          · exact .inr (.inr z)
        · rintro (z | z | z)
          · cases z
          · exact .inl z.symm
          · exact .inr z
      simp only [hb]
      exact h2
theorem rmeets_l0 (a b c d : Pt) (ha : Nr a) (hb : Nr b) (hc : Nr c) (hd : Nr d) (es : List Pt) (hes : ∀ e ∈ es, Nr e) (hlen : es.length = 4) : ∀ (n i k : Nat) (l : List Pt), 4 - i = n → i ≤ 4 → l.length ≤ i → 8 * n + 2 ≤ k →
    planisphereref03_Meets.l0 k (es.map toP) (l.map toP) (i : Int) a.x a.y b.x b.y c.x c.y d.x d.y = some (fin a b c d ((es.drop i).foldl (cstep a b c d) l))
  | 0, i, k, l, hn, hi, hl, hk => by
    obtain ⟨k, rfl⟩ : ∃ m, k = m + 2 := ⟨k - 2, by omega⟩
    obtain rfl : i = 4 := by omega
    rw [List.drop_eq_nil_of_le (by omega)]
    exact rmeets_end a b c d ha hb hc hd k es l (by omega)
  | n + 1, i, k, l, hn, hi, hl, hk => by
    obtain ⟨k, rfl⟩ : ∃ m, k = m + 1 := ⟨k - 1, by omega⟩
    obtain ⟨e, he⟩ : ∃ q, es[i]? = some q := ⟨_, List.getElem?_eq_getElem (by omega)⟩
    have hdr : es.drop i = e :: es.drop (i + 1) := by
      obtain ⟨h1, h2⟩ := List.getElem?_eq_some_iff.1 he
      rw [← h2]; exact List.drop_eq_getElem_cons h1
    simp only [planisphereref03_Meets.l0]
    rw [if_pos (by omega), hdr, List.foldl_cons]
    refine rmeets_l1 a b c d ha hb hc hd es l i e he (hes e (List.mem_of_getElem? he)) (by omega) hlen (by omega) (8 * n + 2) _ l.length 0 k false (by omega) (by omega) (by omega) (fun k' hk' => ?_)
    have := cstep_len a b c d l e
    have ih := rmeets_l0 a b c d ha hb hc hd es hes hlen n (i + 1) k' (cstep a b c d l e) (by omega) (by omega) (by omega) hk'
    unfold cstep at ih
    rw [List.drop_zero]
    by_cases z : e ∈ l
    · rw [if_pos (.inr z)]; rw [if_pos z] at ih; unfold cstep; rw [if_pos z]; exact ih
    · rw [if_neg (by simpa using z)]; rw [if_neg z] at ih; unfold cstep; rw [if_neg z]; exact ih
/-! the plain law -/
theorem cm_mem (a b c d : Pt) : ∀ (es l : List Pt) (p : Pt), p ∈ es.foldl (cstep a b c d) l ↔ p ∈ l ∨ (p ∈ es ∧ On a b p ∧ On c d p)
  | [], l, p => by simp
  | e :: es, l, p => by
    rw [List.foldl_cons, cm_mem a b c d es]
    unfold cstep
    by_cases z : e ∈ l
    · rw [if_pos z, List.mem_cons]
      constructor
      · rintro (h | h)
        · exact .inl h
        · exact .inr ⟨.inr h.1, h.2⟩
      · rintro (h | ⟨rfl | h, h2⟩)
        · exact .inl h
        · exact .inl z
        · exact .inr ⟨h, h2⟩
    · rw [if_neg z, List.mem_cons]
      by_cases y : On a b e ∧ On c d e
      · rw [if_pos y, List.mem_append, List.mem_singleton]
        constructor
        · rintro ((h | rfl) | h)
          · exact .inl h
          · exact .inr ⟨.inl rfl, y⟩
          · exact .inr ⟨.inr h.1, h.2⟩
        · rintro (h | ⟨rfl | h, h2⟩)
          · exact .inl (.inl h)
          · exact .inl (.inr rfl)
          · exact .inr ⟨h, h2⟩
      · rw [if_neg y]
        constructor
        · rintro (h | h)
          · exact .inl h
          · exact .inr ⟨.inr h.1, h.2⟩
        · rintro (h | ⟨rfl | h, h2⟩)
          · exact .inl h
          · exact absurd h2 y
          · exact .inr ⟨h, h2⟩
theorem cm_nodup (a b c d : Pt) : ∀ (es l : List Pt), l.Nodup → (es.foldl (cstep a b c d) l).Nodup
  | [], l, h => h
  | e :: es, l, h => by
    rw [List.foldl_cons]
    refine cm_nodup a b c d es _ ?_
    unfold cstep
    by_cases z : e ∈ l
    · rw [if_pos z]; exact h
    · rw [if_neg z]
      split
      · rw [List.nodup_append]
        refine ⟨h, by simp, fun x hx y hy e' => ?_⟩
        simp at hy
        subst hy e'
        exact z hx
      · exact h
theorem fin_ok (a b c d : Pt) (hs : ¬ Same a b c d) : fin a b c d ([a, b, c, d].foldl (cstep a b c d) []) = meets a b c d := by
  have hm := cm_mem a b c d [a, b, c, d] []
  have hn := cm_nodup a b c d [a, b, c, d] [] List.nodup_nil
  generalize [a, b, c, d].foldl (cstep a b c d) [] = l at hm hn
  have hm' : ∀ p, p ∈ l ↔ ((p = a ∨ p = b ∨ p = c ∨ p = d) ∧ On a b p ∧ On c d p) := fun p => by rw [hm p]; simp
  clear hm
  have a1 := on_a a b; have a2 := on_b a b; have a3 := on_a c d; have a4 := on_b c d
  have ma : a ∈ l ↔ On c d a := by rw [hm']; simp [a1]
  have mb : b ∈ l ↔ On c d b := by rw [hm']; simp [a2]
  have mc : c ∈ l ↔ On a b c := by rw [hm']; simp [a3]
  have md : d ∈ l ↔ On a b d := by rw [hm']; simp [a4]
  have hsub : ∀ p ∈ l, p = a ∨ p = b ∨ p = c ∨ p = d := fun p hp => ((hm' p).1 hp).1
  unfold meets
  rw [if_neg hs]
  have hT : Two a b c d ↔ (a ∈ l ∧ b ∈ l ∧ a ≠ b) ∨ (a ∈ l ∧ c ∈ l ∧ a ≠ c) ∨ (a ∈ l ∧ d ∈ l ∧ a ≠ d) ∨ (b ∈ l ∧ c ∈ l ∧ b ≠ c) ∨ (b ∈ l ∧ d ∈ l ∧ b ≠ d) ∨ (c ∈ l ∧ d ∈ l ∧ c ≠ d) := by rw [ma, mb, mc, md]; exact Iff.rfl
  have hS : Some a b c d ↔ a ∈ l ∨ b ∈ l ∨ c ∈ l ∨ d ∈ l := by rw [ma, mb, mc, md]; exact Iff.rfl
  have hB : Both a b c d ↔ a = c ∨ a = d ∨ b = c ∨ b = d := Iff.rfl
  unfold fin
  match l, hn, hsub with
  | [], _, _ =>
    rw [if_neg (show ¬ Two a b c d by rw [hT]; simp), if_neg (show ¬ Some a b c d by rw [hS]; simp)]
    simp
  | [p], _, hsub =>
    have hp := hsub p (by simp)
    simp only [List.mem_singleton] at hT hS ma mb mc md
    rw [if_neg (show ¬ [p].length > 1 by simp), if_neg (show ¬ Two a b c d by rw [hT]; grind), if_pos (show Some a b c d by rw [hS]; grind)]
    simp only
    have hpm := (hm' p).1 (by simp)
    by_cases z : (p = a ∨ p = b) ∧ (p = c ∨ p = d)
    · rw [if_pos z, if_pos (show Both a b c d by rw [hB]; grind)]
    · rw [if_neg z, if_neg ?_]
      intro y
      apply z
      rcases hB.1 y with y | y | y | y
      · have := ma.2 (by rw [y]; exact a3); grind
      · have := ma.2 (by rw [y]; exact a4); grind
      · have := mb.2 (by rw [y]; exact a3); grind
      · have := mb.2 (by rw [y]; exact a4); grind
  | p :: q :: l, hn, hsub =>
    have hpq : p ≠ q := by
      rw [List.nodup_cons] at hn
      exact fun e => hn.1 (by rw [e]; simp)
    have hp := hsub p (by simp)
    have hq := hsub q (by simp)
    rw [if_pos (show (p :: q :: l).length > 1 by simp), if_pos ?_]
    rw [hT]
    clear hT hS hB ma mb mc md hm' a1 a2 a3 a4 hs
    have pm : p ∈ p :: q :: l := by simp
    have qm : q ∈ p :: q :: l := by simp
    generalize p :: q :: l = L at pm qm ⊢
    rcases hp with rfl | rfl | rfl | rfl <;> rcases hq with rfl | rfl | rfl | rfl <;> first | exact absurd rfl hpq | grind
theorem rmeets_sem (k : Nat) (hk : 40 ≤ k) (a b c d : Pt) : planisphereref03_Meets.f k a.x a.y b.x b.y c.x c.y d.x d.y = some (meetv a b c d) := by
  obtain ⟨k, rfl⟩ : ∃ m, k = m + 2 := ⟨k - 2, by omega⟩
  unfold planisphereref03_Meets.f meetv
  rw [rseg_sem, rseg_sem, Option.bind_some]
  by_cases h : Nr a ∧ Nr b
  · rw [if_pos (decide_eq_true h), Option.bind_some]
    by_cases h2 : Nr c ∧ Nr d
    · rw [if_pos ⟨h.1, h.2, h2.1, h2.2⟩, decide_eq_true h2]
      simp only [planisphereref03_Meets.j0]
      rw [if_neg (by decide)]
      have hes : ∀ e ∈ [a, b, c, d], Nr e := by
        intro e he
        simp only [List.mem_cons, List.not_mem_nil, or_false] at he
        rcases he with rfl | rfl | rfl | rfl
        · exact h.1
        · exact h.2
        · exact h2.1
        · exact h2.2
      have main := rmeets_l0 a b c d h.1 h.2 h2.1 h2.2 [a, b, c, d] hes rfl 4 0 k [] rfl (by omega) (by simp) (by omega)
      have hj : ∀ fl : Bool, (fl = true ↔ Same a b c d) → planisphereref03_Meets.j1 (k + 1) fl a.x a.y b.x b.y c.x c.y d.x d.y = some (meets a b c d) := by
        intro fl hfl
        simp only [planisphereref03_Meets.j1]
        by_cases z : Same a b c d
        · rw [if_pos (hfl.2 z)]; unfold meets; rw [if_pos z]
        · rw [if_neg (fun y => z (hfl.1 y)), ← fin_ok a b c d z]
          exact main
      have e1 : ((a.x == c.x && (a.y == c.y)) && ((b.x == d.x && (b.y == d.y)))) = true ↔ (a = c ∧ b = d) := by rw [Bool.and_eq_true, eq_pt, eq_pt]
      by_cases z1 : a = c ∧ b = d
      · rw [if_pos (e1.2 z1)]
        exact hj true ⟨fun _ => .inl z1, fun _ => rfl⟩
      · rw [if_neg (fun y => z1 (e1.1 y))]
        by_cases z2 : a = d
        · rw [if_pos ((eq_pt a d).2 z2)]
          have hbc : (b.x == c.x && (b.y == c.y)) = true ↔ Same a b c d := by
            rw [eq_pt]
            exact ⟨fun y => Or.inr ⟨z2, y⟩, fun y => Or.elim y (fun w => absurd w z1) (fun w => w.2)⟩
          exact hj _ hbc
        · rw [if_neg (fun y => z2 ((eq_pt a d).1 y))]
          exact hj false ⟨fun y => (by cases y), fun y => Or.elim y (fun w => absurd w z1) (fun w => absurd w.1 z2)⟩
    · rw [if_neg (fun z => h2 ⟨z.2.2.1, z.2.2.2⟩), decide_eq_false h2]
      simp only [planisphereref03_Meets.j0]
      rw [if_pos (by decide)]
  · rw [if_neg (by simpa using h), if_neg (fun z => h ⟨z.1, z.2.1⟩)]
    simp only [planisphereref03_Meets.j0]
    rw [if_pos trivial]
/-! ### as contracts -/
theorem rorient_calls (a b c : Pt) (v : Int) (hv : Hid (orient a b c = v)) (W : World) :
    Calls Try.prog 12 #[.agg #[.int .i64 a.x, .int .i64 a.y], .agg #[.int .i64 b.x, .int .i64 b.y], .agg #[.int .i64 c.x, .int .i64 c.y]] W fun e w' => e = .returned (.int .i64 v) ∧ Below W.heap.size W w' :=
  planisphereref03_Orient.calls 1 _ _ _ _ _ _ _ W (by rw [rorient_sem 1 (by omega), hv.out])
theorem rcompare_calls (a b : Pt) (v : Int) (hv : Hid (cmpv a b = v)) (W : World) :
    Calls Try.prog 14 #[.agg #[.int .i64 a.x, .int .i64 a.y], .agg #[.int .i64 b.x, .int .i64 b.y]] W fun e w' => e = .returned (.int .i64 v) ∧ Below W.heap.size W w' :=
  planisphereref03_Compare.calls 1 _ _ _ _ _ W (by rw [rcmp_sem 1 (by omega), hv.out])
theorem ron_calls (a b p : Pt) (v : Bool) (hv : Hid (decide ((Nr a ∧ Nr b ∧ Nr p) ∧ On a b p) = v)) (W : World) :
    Calls Try.prog 16 #[.agg #[.int .i64 a.x, .int .i64 a.y, .int .i64 b.x, .int .i64 b.y], .agg #[.int .i64 p.x, .int .i64 p.y]] W fun e w' => e = .returned (.bool v) ∧ Below W.heap.size W w' :=
  planisphereref03_On.calls _ _ _ _ _ _ _ W (by rw [ron_sem, hv.out])
theorem rmeets_calls (a b c d : Pt) (v : Int) (hv : Hid (meetv a b c d = v)) (W : World) :
    Calls Try.prog 18 #[.agg #[.int .i64 a.x, .int .i64 a.y, .int .i64 b.x, .int .i64 b.y], .agg #[.int .i64 c.x, .int .i64 c.y, .int .i64 d.x, .int .i64 d.y]] W fun e w' => e = .returned (.int .i64 v) ∧ Below W.heap.size W w' :=
  planisphereref03_Meets.calls 40 _ _ _ _ _ _ _ _ _ W (by rw [rmeets_sem 40 (by omega), hv.out])
theorem rdistance_calls (a b : Pt) (v : Int) (hv : Hid (distv a b = v)) (W : World) :
    Calls Try.prog 20 #[.agg #[.int .i64 a.x, .int .i64 a.y], .agg #[.int .i64 b.x, .int .i64 b.y]] W fun e w' => e = .returned (.int .i64 v) ∧ Below W.heap.size W w' :=
  planisphereref03_Distance.calls _ _ _ _ _ W (by rw [rdist_sem, hv.out])
theorem rnear_calls (a b p : Pt) (v : Int) (hv : Hid (nearv a b p = v)) (W : World) :
    Calls Try.prog 22 #[.agg #[.int .i64 a.x, .int .i64 a.y, .int .i64 b.x, .int .i64 b.y], .agg #[.int .i64 p.x, .int .i64 p.y]] W fun e w' => e = .returned (.int .i64 v) ∧ Below W.heap.size W w' :=
  planisphereref03_Near.calls 400 _ _ _ _ _ _ _ W (by rw [rnear_sem 400 (by omega), hv.out])
theorem rroot_calls (n v : Int) (h1 : -9223372036854775808 ≤ n) (h2 : n ≤ 9223372036854775807) (hv : Hid (rootv n = v)) (W : World) :
    Calls Try.prog 24 #[.int .i64 n] W fun e w' => e = .returned (.int .i64 v) ∧ Below W.heap.size W w' :=
  (planisphereref03_Root.calls 33 _ _ W (by rw [rroot_sem 33 (by omega) n h1 h2, hv.out])).mono fun e w' ⟨he, hd⟩ => ⟨he, hd.below⟩
end Go.Proofs.Ytgibndgllhompaa.P
