/- What the printed functions of package geom answer, in plain words: near, Orient, Compare, On, Meets, Distance. -/
import Derived.Test.YtgibndgllhompaaPx3
import Derived.Test.YtgibndgllhompaaPx4
import Derived.Test.YtgibndgllhompaaPx5
import Derived.Test.YtgibndgllhompaaPx6
import Derived.Test.YtgibndgllhompaaGeo
namespace Go.Proofs.Ytgibndgllhompaa.P
open Go.RowKit Go.Proofs.YtgibndgllhompaaW.PrintWords Go.Proofs.YtgibndgllhompaaW.PrintLast Go.Proofs.YtgibndgllhompaaW.PrintMore Go.Proofs.Ytgibndgllhompaa.Geo
set_option linter.unusedVariables false
set_option linter.unusedSimpArgs false

theorem dot_sem {p q r s : Int} (hp : -4194304 ≤ p ∧ p ≤ 4194304) (hq : -4194304 ≤ q ∧ q ≤ 4194304) (hr : -4194304 ≤ r ∧ r ≤ 4194304) (hs : -4194304 ≤ s ∧ s ≤ 4194304) : geom_vector_dot.f p q r s = some (p * r + q * s) := by
  have h1 := prod_bd hp hr
  have h2 := prod_bd hq hs
  unfold geom_vector_dot.f; rw [w64 (x := p * r) (by omega) (by omega), w64 (x := q * s) (by omega) (by omega), w64 (by omega) (by omega)]
/-! ### Meets -/
theorem eq_pt (a b : Pt) : ((a.x == b.x && (a.y == b.y)) = true) ↔ a = b := by rw [beq_pt, decide_eq_true_iff]
theorem lex_dec (a b : Pt) : cmpv a b > 0 ↔ ¬ LexLe a b := by
  have := cmpv_le a b
  exact ⟨fun h k => absurd (this.2 k) (by omega), fun h => Int.not_le.1 (fun k => h (this.1 k))⟩
theorem cmpv_neg (a b : Pt) : cmpv a b < 0 ↔ ¬ LexLe b a := by
  rcases cmpv_cases a b with ⟨e, h, k⟩ | ⟨e, rfl⟩ | ⟨e, h, k⟩
  · simp [e, k]
  · simp [e]; unfold LexLe; omega
  · simp [e, k]
theorem online_tail (k : Nat) (low high : Pt) : geom_online.j2 (k + 1) low.x low.y high.x high.y = some (if ¬ LexLe high low then 5 else if low = high then 1 else 0) := by
  simp only [geom_online.j2, cmp_sem, Option.bind_some]
  rcases cmpv_cases low high with ⟨e, h, h'⟩ | ⟨e, rfl⟩ | ⟨e, h, h'⟩
  · rw [if_pos e, if_pos h']
  · rw [e, if_neg (by omega), if_pos rfl, if_neg (fun z => z (by unfold LexLe; omega)), if_pos rfl]
  · rw [e, if_neg (by omega), if_neg (by omega), if_neg (fun z => z h'), if_neg (by rintro rfl; exact h h')]
theorem online0_eq {a b c d low high : Pt} (e1 : (if ¬ LexLe c a then c else a) = low) (e2 : (if ¬ LexLe b d then d else b) = high) : online0 a b c d = if ¬ LexLe high low then 5 else if low = high then 1 else 0 := by
  subst e1 e2; rfl
/-- both are no points -/
theorem online_proper (k : Nat) (hk : 8 ≤ k) (a b c d : Pt) (hab : a ≠ b) (hcd : c ≠ d) : geom_online.f k a.x a.y b.x b.y c.x c.y d.x d.y = some (online0 a b c d) := by
  obtain ⟨k, rfl⟩ : ∃ m, k = m + 3 := ⟨k - 3, by omega⟩
  unfold geom_online.f
  rw [if_neg (fun h => hcd ((eq_pt c d).1 h))]
  simp only [geom_online.j0]
  rw [if_neg (fun h => hab ((eq_pt a b).1 h)), cmp_sem, Option.bind_some]
  simp only [lex_dec]
  by_cases h1 : LexLe c a
  · rw [if_neg (fun z => z h1)]
    simp only [geom_online.j1, cmp_sem, Option.bind_some, cmpv_neg]
    by_cases h2 : LexLe b d
    · rw [if_neg (fun z => z h2), online_tail, online0_eq (if_neg (fun z => z h1)) (if_neg (fun z => z h2))]
    · rw [if_pos h2, online_tail, online0_eq (if_neg (fun z => z h1)) (if_pos h2)]
  · rw [if_pos h1]
    simp only [geom_online.j1, cmp_sem, Option.bind_some, cmpv_neg]
    by_cases h2 : LexLe b d
    · rw [if_neg (fun z => z h2), online_tail, online0_eq (if_pos h1) (if_neg (fun z => z h2))]
    · rw [if_pos h2, online_tail, online0_eq (if_pos h1) (if_pos h2)]
/-- one is a point -/
theorem online_point0 (k : Nat) (hk : 6 ≤ k) (p c d : Pt) (hp : Nr p) (hc : Nr c) (hd : Nr d) :
    geom_online.j0 k p.x p.y p.x p.y c.x c.y d.x d.y = some (point0 p c d) := by
  obtain ⟨k, rfl⟩ : ∃ m, k = m + 1 := ⟨k - 1, by omega⟩
  simp only [geom_online.j0]
  rw [if_pos ((eq_pt p p).2 rfl), on_sem k (by omega), Option.bind_some]
  by_cases h : On c d p
  · have e : point0 p c d = if p = c ∨ p = d then 1 else 2 := by unfold point0; rw [if_neg (show ¬ ¬ On c d p from fun z => z h)]
    rw [if_pos (by simpa using ⟨⟨hc, hd, hp⟩, h⟩), e]
    simp only [eq_pt]
    by_cases h1 : p = c
    · rw [if_pos h1, if_pos (.inl h1)]
    · rw [if_neg h1]
      by_cases h2 : p = d
      · rw [if_pos h2, if_pos (.inr h2)]
      · rw [if_neg h2, if_neg (fun z => z.elim h1 h2)]
  · have e : point0 p c d = 0 := by unfold point0; rw [if_pos h]
    rw [if_neg (by simp [h]), e]
theorem online_point (k : Nat) (hk : 6 ≤ k) (a b c d : Pt) (ha : Nr a) (hb : Nr b) (hc : Nr c) (hd : Nr d) (h : a = b ∨ c = d) (hne : ¬ (a = c ∧ b = d)) :
    geom_online.f k a.x a.y b.x b.y c.x c.y d.x d.y = some (meets a b c d) := by
  unfold geom_online.f
  by_cases h1 : c = d
  · subst h1
    rw [if_pos ((eq_pt c c).2 rfl), online_point0 k hk c a b hc ha hb, (point_ok (p := c) (c := a) (d := b) (fun z => hne ⟨z.1.symm, z.2.symm⟩)).2]
  · rw [if_neg (fun z => h1 ((eq_pt c d).1 z))]
    have h := h.resolve_right h1
    subst h
    rw [online_point0 k hk a c d ha hc hd, (point_ok (p := a) (c := c) (d := d) hne).1]

theorem sg_bd (n : Int) : -1 ≤ sg n ∧ sg n ≤ 1 := by unfold sg; split <;> (try split) <;> omega
theorem wsg (m n : Int) : wrap64 (sg m * sg n) = sg m * sg n := by
  have h := sg_bd m
  have h' := sg_bd n
  have : -1 ≤ sg m * sg n ∧ sg m * sg n ≤ 1 := by
    rcases (show sg m = -1 ∨ sg m = 0 ∨ sg m = 1 by omega) with e | e | e <;> rw [e] <;> omega
  exact w64 (by omega) (by omega)
theorem meets_tail2 (k : Nat) (u v s t : Int) (b : Bool) : geom_Meets.j2 (k + 1) (sg u) (sg v) (sg s) (sg t) b = some (if b = true then 3 else if sg u * sg v = 0 ∧ sg s * sg t = 0 then 1 else 2) := by
  simp only [geom_Meets.j2, wsg]
  by_cases h : b = true
  · rw [if_pos h, if_pos h]
  · rw [if_neg h, if_neg h]
    by_cases h1 : sg u * sg v = 0 <;> by_cases h2 : sg s * sg t = 0 <;> simp [h1, h2]
theorem meets_tail1 (k : Nat) (u v s t : Int) (b : Bool) : geom_Meets.j1 (k + 2) (sg u) (sg v) (sg s) (sg t) b = some (if b = true then 0 else if sg u * sg v < 0 ∧ sg s * sg t < 0 then 3 else if sg u * sg v = 0 ∧ sg s * sg t = 0 then 1 else 2) := by
  simp only [geom_Meets.j1, wsg]
  by_cases h : b = true
  · rw [if_pos h, if_pos h]
  · rw [if_neg h, if_neg h, meets_tail2, meets_tail2]
    by_cases h1 : sg u * sg v < 0 <;> by_cases h2 : sg s * sg t < 0 <;> simp [h1, h2]
theorem meets_tail0 (k : Nat) (hk : 7 ≤ k) (a b c d : Pt) (ha : Nr a) (hb : Nr b) (hc : Nr c) (hd : Nr d) : geom_Meets.j0 k a.x a.y b.x b.y c.x c.y d.x d.y = some (gen0 (sg (cr a b c)) (sg (cr a b d)) (sg (cr c d a)) (sg (cr c d b))) := by
  obtain ⟨k, rfl⟩ : ∃ m, k = m + 3 := ⟨k - 3, by omega⟩
  have o1 : orient a b c = sg (cr a b c) := by unfold orient; rw [if_pos ⟨ha, hb, hc⟩]
  have o2 : orient a b d = sg (cr a b d) := by unfold orient; rw [if_pos ⟨ha, hb, hd⟩]
  have o3 : orient c d a = sg (cr c d a) := by unfold orient; rw [if_pos ⟨hc, hd, ha⟩]
  have o4 : orient c d b = sg (cr c d b) := by unfold orient; rw [if_pos ⟨hc, hd, hb⟩]
  simp only [geom_Meets.j0, orient_sem (k + 2) (by omega), Option.bind_some, o1, o2, o3, o4, wsg]
  unfold gen0
  rw [meets_tail1, meets_tail1]
  by_cases h1 : sg (cr a b c) * sg (cr a b d) > 0
  · simp [h1]
  · rw [if_neg h1]
    by_cases h2 : sg (cr c d a) * sg (cr c d b) > 0 <;> simp [h1, h2]

def meetv (a b c d : Pt) : Int := if Nr a ∧ Nr b ∧ Nr c ∧ Nr d then meets a b c d else 0
theorem meets_back (a b c d : Pt) : meets b a c d = meets a b c d ∧ meets a b d c = meets a b c d ∧ meets c d a b = meets a b c d := by
  have o1 : ∀ p, On b a p ↔ On a b p := fun p => on_comm
  have o2 : ∀ p, On d c p ↔ On c d p := fun p => on_comm
  have s1 : cr b a c = - cr a b c := cr_swap a b c
  have s2 : cr b a d = - cr a b d := cr_swap a b d
  have s3 : cr d c a = - cr c d a := cr_swap c d a
  have s4 : cr d c b = - cr c d b := cr_swap c d b
  refine ⟨?_, ?_, ?_⟩
  · have h1 : Same b a c d ↔ Same a b c d := by unfold Same; grind
    have h2 : Two b a c d ↔ Two a b c d := by unfold Two; grind
    have h3 : Some b a c d ↔ Some a b c d := by unfold Some; grind
    have h4 : Both b a c d ↔ Both a b c d := by unfold Both; grind
    have h5 : Cross b a c d ↔ Cross a b c d := by unfold Cross Opp; omega
    unfold meets; simp only [h1, h2, h3, h4, h5]
  · have h1 : Same a b d c ↔ Same a b c d := by unfold Same; grind
    have h2 : Two a b d c ↔ Two a b c d := by unfold Two; grind
    have h3 : Some a b d c ↔ Some a b c d := by unfold Some; grind
    have h4 : Both a b d c ↔ Both a b c d := by unfold Both; grind
    have h5 : Cross a b d c ↔ Cross a b c d := by unfold Cross Opp; omega
    unfold meets; simp only [h1, h2, h3, h4, h5]
  · have h1 : Same c d a b ↔ Same a b c d := by unfold Same; grind
    have h2 : Two c d a b ↔ Two a b c d := by unfold Two; grind
    have h3 : Some c d a b ↔ Some a b c d := by unfold Some; grind
    have h4 : Both c d a b ↔ Both a b c d := by unfold Both; grind
    have h5 : Cross c d a b ↔ Cross a b c d := by unfold Cross Opp; omega
    unfold meets; simp only [h1, h2, h3, h4, h5]
theorem meets_lohi (a b c d : Pt) : meets (lo a b) (hi a b) (lo c d) (hi c d) = meets a b c d := by
  have k := meets_back a b c d
  have k2 := meets_back b a c d
  rcases lohi a b with ⟨_, e, f⟩ | ⟨_, _, e, f⟩ <;> rcases lohi c d with ⟨_, e', f'⟩ | ⟨_, _, e', f'⟩ <;> rw [e, f, e', f']
  · exact k.2.1
  · exact k.1
  · rw [k2.2.1]; exact k.1
theorem meets_same {a b : Pt} : meets a b a b = 4 := by unfold meets; rw [if_pos (show Same a b a b from .inl ⟨rfl, rfl⟩)]
theorem meets_sem (k : Nat) (hk : 8 ≤ k) (a b c d : Pt) : geom_Meets.f k a.x a.y b.x b.y c.x c.y d.x d.y = some (meetv a b c d) := by
  unfold geom_Meets.f
  rw [near4 k (by omega) a b c d, Option.bind_some]
  unfold meetv
  by_cases h : Nr a ∧ Nr b ∧ Nr c ∧ Nr d
  · rw [if_pos (by simpa using h), if_pos h, sorted_sem, Option.bind_some, sorted_sem, Option.bind_some]
    obtain ⟨ha, hb, hc, hd⟩ := h
    have l1 := lo_nr ha hb
    have l2 := lo_nr hc hd
    have s1 := lo_le a b
    have s2 := lo_le c d
    rw [← meets_lohi]
    generalize lo a b = p at *
    generalize hi a b = q at *
    generalize lo c d = r at *
    generalize hi c d = s at *
    simp only
    by_cases e : p = r ∧ q = s
    · obtain ⟨rfl, rfl⟩ := e
      rw [if_pos (by simp), meets_same]
    · rw [if_neg (by rw [Bool.and_eq_true, eq_pt, eq_pt]; exact e)]
      by_cases hp : p = q
      · rw [if_pos ((eq_pt p q).2 hp), online_point k (by omega) p q r s l1.1 l1.2 l2.1 l2.2 (.inl hp) e]; rfl
      · rw [if_neg (fun z => hp ((eq_pt p q).1 z))]
        by_cases hr : r = s
        · rw [if_pos ((eq_pt r s).2 hr), online_point k (by omega) p q r s l1.1 l1.2 l2.1 l2.2 (.inr hr) e]; rfl
        · rw [if_neg (fun z => hr ((eq_pt r s).1 z))]
          have o1 : orient p q r = sg (cr p q r) := by unfold orient; rw [if_pos ⟨l1.1, l1.2, l2.1⟩]
          have o2 : orient p q s = sg (cr p q s) := by unfold orient; rw [if_pos ⟨l1.1, l1.2, l2.2⟩]
          rw [orient_sem k (by omega), orient_sem k (by omega), o1, o2]
          simp only [Option.bind_some, sg_zero_iff]
          have T := meets_tail0 k (by omega) p q r s l1.1 l1.2 l2.1 l2.2
          by_cases c1 : cr p q r = 0
          · rw [if_pos c1]
            by_cases c2 : cr p q s = 0
            · rw [if_pos c2, online_proper k (by omega) p q r s hp hr, Option.bind_some, online0_ok s1 s2 hp hr e c1 c2]
            · rw [if_neg c2, T, gen_ok hp hr (fun z => c2 z.2)]
          · rw [if_neg c1, T, gen_ok hp hr (fun z => c1 z.1)]
  · rw [if_neg (by simpa using h), if_neg h]

/-! ### Distance -/
def dist (a b : Pt) : Int := (b.x - a.x) * (b.x - a.x) + (b.y - a.y) * (b.y - a.y)
def distv (a b : Pt) : Int := if Nr a ∧ Nr b then dist a b else 0
theorem distance_sem (k : Nat) (hk : 3 ≤ k) (a b : Pt) : geom_Distance.f k a.x a.y b.x b.y = some (distv a b) := by
  unfold geom_Distance.f
  rw [near2 k hk a b, Option.bind_some]
  unfold distv
  by_cases h : Nr a ∧ Nr b
  · rw [if_pos (by simpa using h), if_pos h, to_sem h.1 h.2]
    obtain ⟨h1, h2⟩ := h
    unfold Nr at h1 h2
    simp only [Option.bind_some]
    rw [dot_sem (by omega) (by omega) (by omega) (by omega)]
    rfl
  · rw [if_neg (by simpa using h), if_neg h]
end Go.Proofs.Ytgibndgllhompaa.P
