/- Plain geometry of points and segments: when a point lies on a segment, and how two segments meet (no program in sight). -/
set_option linter.unusedSimpArgs false
set_option linter.unusedVariables false
namespace Go.Proofs.Ytgibndgllhompaa.Geo
structure Pt where
  x : Int
  y : Int
deriving DecidableEq

def cr (a b c : Pt) : Int := (b.x - a.x) * (c.y - a.y) - (b.y - a.y) * (c.x - a.x)
def sg (n : Int) : Int := if n < 0 then -1 else if n > 0 then 1 else 0
def LexLe (a b : Pt) : Prop := a.x < b.x ∨ (a.x = b.x ∧ a.y ≤ b.y)
instance (a b : Pt) : Decidable (LexLe a b) := by unfold LexLe; infer_instance
def Box (a b p : Pt) : Prop := min a.x b.x ≤ p.x ∧ p.x ≤ max a.x b.x ∧ min a.y b.y ≤ p.y ∧ p.y ≤ max a.y b.y
instance (a b p : Pt) : Decidable (Box a b p) := by unfold Box; infer_instance
def On (a b p : Pt) : Prop := cr a b p = 0 ∧ Box a b p
instance (a b p : Pt) : Decidable (On a b p) := by unfold On; infer_instance

theorem Pt.ext' {a b : Pt} (h : a.x = b.x) (k : a.y = b.y) : a = b := by cases a; cases b; simp_all
theorem nn_of_mul {a b c : Int} (h : a * b = c) (ha : 0 < a) (hc : 0 ≤ c) : 0 ≤ b := by
  subst h; exact Int.nonneg_of_mul_nonneg_right hc ha
theorem pos_of_mul {a b c : Int} (h : a * b = c) (ha : 0 < a) (hc : 0 < c) : 0 < b := by
  subst h
  rcases Int.lt_or_le 0 b with hb | hb
  · exact hb
  · have := Int.mul_nonneg (Int.le_of_lt ha) (show 0 ≤ -b by omega)
    rw [Int.mul_neg] at this
    omega

theorem on_comm {a b p : Pt} : On a b p ↔ On b a p := by
  unfold On Box cr; constructor <;> (rintro ⟨h, k⟩; refine ⟨by grind, by omega⟩)

/-- convex combination -/
theorem on_conv {a b p : Pt} (h : On a b p) (hne : a ≠ b) : ∃ l m : Int, 0 ≤ l ∧ 0 ≤ m ∧ 0 < l + m ∧ (l + m) * p.x = l * a.x + m * b.x ∧ (l + m) * p.y = l * a.y + m * b.y ∧ (l = 0 → p = b) ∧ (m = 0 → p = a) := by
  obtain ⟨h, h1, h2, h3, h4⟩ := h
  unfold cr at h
  by_cases hx : a.x = b.x
  · have hy : a.y ≠ b.y := fun e => hne (Pt.ext' hx e)
    have hpx : p.x = a.x := by omega
    by_cases hl : a.y ≤ b.y
    · exact ⟨b.y - p.y, p.y - a.y, by omega, by omega, by omega, by grind, by grind, fun e => Pt.ext' (by omega) (by omega), fun e => Pt.ext' (by omega) (by omega)⟩
    · exact ⟨p.y - b.y, a.y - p.y, by omega, by omega, by omega, by grind, by grind, fun e => Pt.ext' (by omega) (by omega), fun e => Pt.ext' (by omega) (by omega)⟩
  · have key : ∀ (e : p.x = a.x ∨ p.x = b.x), (p.x = a.x → p = a) ∧ (p.x = b.x → p = b) := by
      intro _
      constructor
      · intro e; refine Pt.ext' e ?_
        have : (b.x - a.x) * (p.y - a.y) = 0 := by grind
        rcases Int.mul_eq_zero.1 this with h | h <;> omega
      · intro e; refine Pt.ext' e ?_
        have : (b.x - a.x) * (p.y - b.y) = 0 := by grind
        rcases Int.mul_eq_zero.1 this with h | h <;> omega
    by_cases hl : a.x ≤ b.x
    · exact ⟨b.x - p.x, p.x - a.x, by omega, by omega, by omega, by grind, by grind, fun e => (key (.inr (by omega))).2 (by omega), fun e => (key (.inl (by omega))).1 (by omega)⟩
    · exact ⟨p.x - b.x, a.x - p.x, by omega, by omega, by omega, by grind, by grind, fun e => (key (.inr (by omega))).2 (by omega), fun e => (key (.inl (by omega))).1 (by omega)⟩

theorem cr_conv {a b p s t : Pt} {l m : Int} (h1 : (l + m) * p.x = l * a.x + m * b.x) (h2 : (l + m) * p.y = l * a.y + m * b.y) : (l + m) * cr s t p = l * cr s t a + m * cr s t b := by
  unfold cr; grind

theorem box_y {a b p : Pt} (h : a.x < b.x) (h1 : cr a b p = 0) (h2 : a.x ≤ p.x) (h3 : p.x ≤ b.x) : min a.y b.y ≤ p.y ∧ p.y ≤ max a.y b.y := by
  unfold cr at h1
  have e : (b.x-a.x)*(p.y-a.y) = (b.y-a.y)*(p.x-a.x) := by omega
  have e2 : (b.x-a.x)*(b.y-p.y) = (b.y-a.y)*(b.x-p.x) := by grind
  have e' : (b.x-a.x)*(a.y-p.y) = (a.y-b.y)*(p.x-a.x) := by grind
  have e2' : (b.x-a.x)*(p.y-b.y) = (a.y-b.y)*(b.x-p.x) := by grind
  rcases Int.le_total a.y b.y with h4 | h4
  · have p1 := nn_of_mul e (by omega) (Int.mul_nonneg (by omega) (by omega))
    have p2 := nn_of_mul e2 (by omega) (Int.mul_nonneg (by omega) (by omega))
    omega
  · have p1 := nn_of_mul e' (by omega) (Int.mul_nonneg (by omega) (by omega))
    have p2 := nn_of_mul e2' (by omega) (Int.mul_nonneg (by omega) (by omega))
    omega

theorem on_sorted {a b p : Pt} (hs : LexLe a b) : (cr a b p = 0 ∧ LexLe a p ∧ LexLe p b ∧ (a ≠ b ∨ p = a)) ↔ On a b p := by
  unfold LexLe at hs
  constructor
  · rintro ⟨h, h1, h2, h3⟩
    refine ⟨h, ?_⟩
    unfold LexLe at h1 h2
    rcases hs with hx | ⟨hx, hy⟩
    · have := box_y hx h (by omega) (by omega)
      exact ⟨by omega, by omega, this⟩
    · rcases h3 with h3 | rfl
      · exact ⟨by omega, by omega, by omega, by omega⟩
      · exact ⟨by omega, by omega, by omega, by omega⟩
  · rintro ⟨h, h1, h2, h3, h4⟩
    refine ⟨h, ?_, ?_, ?_⟩
    · unfold LexLe
      by_cases hx : a.x < p.x
      · exact .inl hx
      · refine .inr ⟨by omega, ?_⟩
        rcases hs with hs | hs
        · have hpx : p.x = a.x := by omega
          unfold cr at h
          have : (b.x - a.x) * (p.y - a.y) = 0 := by grind
          rcases Int.mul_eq_zero.1 this with h | h <;> omega
        · omega
    · unfold LexLe
      by_cases hx : p.x < b.x
      · exact .inl hx
      · refine .inr ⟨by omega, ?_⟩
        rcases hs with hs | hs
        · have hpx : p.x = b.x := by omega
          unfold cr at h
          have : (b.x - a.x) * (p.y - b.y) = 0 := by grind
          rcases Int.mul_eq_zero.1 this with h | h <;> omega
        · omega
    · by_cases e : a = b
      · subst e; exact .inr (Pt.ext' (by omega) (by omega))
      · exact .inl e

/-! ### two segments -/
def Same (a b c d : Pt) : Prop := (a = c ∧ b = d) ∨ (a = d ∧ b = c)
def Two (a b c d : Pt) : Prop := (On c d a ∧ On c d b ∧ a ≠ b) ∨ (On c d a ∧ On a b c ∧ a ≠ c) ∨ (On c d a ∧ On a b d ∧ a ≠ d) ∨ (On c d b ∧ On a b c ∧ b ≠ c) ∨ (On c d b ∧ On a b d ∧ b ≠ d) ∨ (On a b c ∧ On a b d ∧ c ≠ d)
def Some (a b c d : Pt) : Prop := On c d a ∨ On c d b ∨ On a b c ∨ On a b d
def Both (a b c d : Pt) : Prop := a = c ∨ a = d ∨ b = c ∨ b = d
def Opp (m n : Int) : Prop := (m < 0 ∧ 0 < n) ∨ (0 < m ∧ n < 0)
def Cross (a b c d : Pt) : Prop := Opp (cr a b c) (cr a b d) ∧ Opp (cr c d a) (cr c d b)
instance (a b c d : Pt) : Decidable (Same a b c d) := by unfold Same; infer_instance
instance (a b c d : Pt) : Decidable (Two a b c d) := by unfold Two; infer_instance
instance (a b c d : Pt) : Decidable (Some a b c d) := by unfold Some; infer_instance
instance (a b c d : Pt) : Decidable (Both a b c d) := by unfold Both; infer_instance
instance (m n : Int) : Decidable (Opp m n) := by unfold Opp; infer_instance
instance (a b c d : Pt) : Decidable (Cross a b c d) := by unfold Cross; infer_instance
def meets (a b c d : Pt) : Int :=
  if Same a b c d then 4 else if Two a b c d then 5 else if Some a b c d then (if Both a b c d then 1 else 2) else if Cross a b c d then 3 else 0

theorem on_a (a b : Pt) : On a b a := ⟨by unfold cr; grind, by unfold Box; omega⟩
theorem on_b (a b : Pt) : On a b b := ⟨by unfold cr; grind, by unfold Box; omega⟩
theorem on_self {a p : Pt} (h : On a a p) : p = a := by obtain ⟨_, h⟩ := h; unfold Box at h; exact Pt.ext' (by omega) (by omega)
theorem cr_swap (a b c : Pt) : cr b a c = - cr a b c := by unfold cr; grind
theorem cr_cyc (a b c : Pt) : cr a b c = cr b c a := by unfold cr; grind

theorem par (ux uy vx vy wx wy : Int) (hu : ux ≠ 0 ∨ uy ≠ 0) (h1 : ux * vy - uy * vx = 0) (h2 : ux * wy - uy * wx = 0) : vx * wy - vy * wx = 0 := by
  have e1 : ux * (vx * wy - vy * wx) = 0 := by grind
  have e2 : uy * (vx * wy - vy * wx) = 0 := by grind
  rcases hu with h | h
  · rcases Int.mul_eq_zero.1 e1 with e | e
    · exact absurd e h
    · exact e
  · rcases Int.mul_eq_zero.1 e2 with e | e
    · exact absurd e h
    · exact e
theorem ne_vec {a b : Pt} (h : a ≠ b) : b.x - a.x ≠ 0 ∨ b.y - a.y ≠ 0 := by
  by_cases hx : b.x - a.x = 0
  · exact .inr fun hy => h (Pt.ext' (by omega) (by omega))
  · exact .inl hx
/-- three points on the line of two different ones -/
theorem line3 {a b p q r : Pt} (hab : a ≠ b) (h1 : cr a b p = 0) (h2 : cr a b q = 0) (h3 : cr a b r = 0) : cr p q r = 0 := by
  have k1 := par _ _ _ _ _ _ (ne_vec hab) h1 h2
  have k2 := par _ _ _ _ _ _ (ne_vec hab) h1 h3
  have k3 := par _ _ _ _ _ _ (ne_vec hab) h2 h3
  unfold cr; grind
/-- two different common points: all on one line -/
theorem all_line {a b c d p q : Pt} (hpq : p ≠ q) (h1 : On a b p) (h2 : On a b q) (h3 : On c d p) (h4 : On c d q) : a ≠ b ∧ c ≠ d ∧ cr a b c = 0 ∧ cr a b d = 0 ∧ cr c d a = 0 ∧ cr c d b = 0 := by
  have k : ∀ {a b : Pt}, On a b p → On a b q → a ≠ b := by
    rintro a b h1 h2 rfl
    exact hpq ((on_self h1).trans (on_self h2).symm)
  have hab := k h1 h2
  have hcd := k h3 h4
  have ka := line3 hab h1.1 h2.1 (on_a a b).1
  have kb := line3 hab h1.1 h2.1 (on_b a b).1
  have kc := line3 hcd h3.1 h4.1 (on_a c d).1
  have kd := line3 hcd h3.1 h4.1 (on_b c d).1
  exact ⟨hab, hcd, line3 hpq ka kb kc, line3 hpq ka kb kd, line3 hpq kc kd ka, line3 hpq kc kd kb⟩

theorem lex_total (a b : Pt) : LexLe a b ∨ LexLe b a := by unfold LexLe; omega
theorem lex_trans {a b c : Pt} (h : LexLe a b) (k : LexLe b c) : LexLe a c := by unfold LexLe at *; omega
theorem lex_anti {a b : Pt} (h : LexLe a b) (k : LexLe b a) : a = b := by unfold LexLe at *; exact Pt.ext' (by omega) (by omega)

/-- sorted, different ends, all on one line: 'on' goes by the order -/
theorem on_line {a b p : Pt} (hs : LexLe a b) (hab : a ≠ b) (h : cr a b p = 0) : On a b p ↔ LexLe a p ∧ LexLe p b := by
  rw [← on_sorted hs]; simp [h, hab]

def online0 (a b c d : Pt) : Int :=   -- a is not b, c is not d
  let low := if ¬ LexLe c a then c else a
  let high := if ¬ LexLe b d then d else b
  if ¬ LexLe high low then 5 else if low = high then 1 else 0
def key (N : Int) (p : Pt) : Int := p.x * N + p.y
theorem key_lt {N : Int} {p q : Pt} (h : p.x < q.x) (hp : -N < 2 * p.y ∧ 2 * p.y < N) (hq : -N < 2 * q.y ∧ 2 * q.y < N) : key N p < key N q := by
  unfold key
  have : (p.x + 1) * N ≤ q.x * N := Int.mul_le_mul_of_nonneg_right (by omega) (by omega)
  rw [Int.add_mul] at this
  omega
theorem key_ok {N : Int} {p q : Pt} (hp : -N < 2 * p.y ∧ 2 * p.y < N) (hq : -N < 2 * q.y ∧ 2 * q.y < N) : (LexLe p q ↔ key N p ≤ key N q) ∧ (p = q ↔ key N p = key N q) := by
  have h1 := @key_lt N p q
  have h2 := @key_lt N q p
  unfold LexLe
  rcases Int.lt_trichotomy p.x q.x with h | h | h
  · have := h1 h hp hq
    exact ⟨by omega, fun e => by subst e; omega, fun e => by omega⟩
  · have e : key N p - key N q = p.y - q.y := by unfold key; rw [h]; omega
    exact ⟨by omega, fun e' => by subst e'; rfl, fun e' => Pt.ext' h (by omega)⟩
  · have := h2 h hq hp
    exact ⟨by omega, fun e => by subst e; omega, fun e => by omega⟩
theorem keys (a b c d : Pt) : ∃ f : Pt → Int, ∀ p q, (p = a ∨ p = b ∨ p = c ∨ p = d) → (q = a ∨ q = b ∨ q = c ∨ q = d) → (LexLe p q ↔ f p ≤ f q) ∧ (p = q ↔ f p = f q) := by
  refine ⟨key (2 * (a.y.natAbs + b.y.natAbs + c.y.natAbs + d.y.natAbs) + 1), fun p q hp hq => key_ok ?_ ?_⟩
  · rcases hp with rfl | rfl | rfl | rfl <;> omega
  · rcases hq with rfl | rfl | rfl | rfl <;> omega

theorem online0_ok {a b c d : Pt} (hs : LexLe a b) (ht : LexLe c d) (hab : a ≠ b) (hcd : c ≠ d) (hne : ¬ (a = c ∧ b = d)) (h1 : cr a b c = 0) (h2 : cr a b d = 0) : online0 a b c d = meets a b c d := by
  have ka := line3 hab h1 h2 (on_a a b).1
  have kb := line3 hab h1 h2 (on_b a b).1
  obtain ⟨f, hf⟩ := keys a b c d
  have hl : ∀ p q, (p = a ∨ p = b ∨ p = c ∨ p = d) → (q = a ∨ q = b ∨ q = c ∨ q = d) → (LexLe p q ↔ f p ≤ f q) := fun p q hp hq => (hf p q hp hq).1
  have he : ∀ p q, (p = a ∨ p = b ∨ p = c ∨ p = d) → (q = a ∨ q = b ∨ q = c ∨ q = d) → (p = q ↔ f p = f q) := fun p q hp hq => (hf p q hp hq).2
  have A : a = a ∨ a = b ∨ a = c ∨ a = d := .inl rfl
  have B : b = a ∨ b = b ∨ b = c ∨ b = d := .inr (.inl rfl)
  have C : c = a ∨ c = b ∨ c = c ∨ c = d := .inr (.inr (.inl rfl))
  have D : d = a ∨ d = b ∨ d = c ∨ d = d := .inr (.inr (.inr rfl))
  unfold online0 meets Same Two Some Both Cross
  simp only [on_line hs hab h1, on_line hs hab h2, on_line ht hcd ka, on_line ht hcd kb, h1, h2, Opp]
  rw [hl _ _ A B] at hs
  rw [hl _ _ C D] at ht
  rw [ne_eq, he _ _ A B] at hab
  rw [ne_eq, he _ _ C D] at hcd
  rw [he _ _ A C, he _ _ B D] at hne
  simp only [hl _ _ C A, hl _ _ B D, ne_eq, he _ _ A B, he _ _ A C, he _ _ A D, he _ _ B C, he _ _ B D, he _ _ C D, hl _ _ A C, hl _ _ A D, hl _ _ C B, hl _ _ D B]
  by_cases q1 : f c ≤ f a <;> by_cases q2 : f b ≤ f d
  · simp only [q1, q2, not_true_eq_false, not_false_eq_true, if_true, if_false, hl _ _ B A, he _ _ A B]
    grind
  · simp only [q1, q2, not_true_eq_false, not_false_eq_true, if_true, if_false, hl _ _ D A, he _ _ A D]
    grind
  · simp only [q1, q2, not_true_eq_false, not_false_eq_true, if_true, if_false, hl _ _ B C, he _ _ C B]
    grind
  · simp only [q1, q2, not_true_eq_false, not_false_eq_true, if_true, if_false, hl _ _ D C, he _ _ C D]
    grind

/-- one of the two is a point, and they are not the same -/
def point0 (p c d : Pt) : Int := if ¬ On c d p then 0 else if p = c ∨ p = d then 1 else 2
theorem point_ok {p c d : Pt} (hne : ¬ (p = c ∧ p = d)) : point0 p c d = meets p p c d ∧ point0 p c d = meets c d p p := by
  have hc : On p p c ↔ c = p := ⟨on_self, fun h => h ▸ on_a _ _⟩
  have hd : On p p d ↔ d = p := ⟨on_self, fun h => h ▸ on_a _ _⟩
  have h1 : p = c → On c d p := fun h => h ▸ on_a _ _
  have h2 : p = d → On c d p := fun h => h ▸ on_b _ _
  have z : ∀ q, cr p p q = 0 := by intro q; unfold cr; grind
  unfold point0 meets Same Two Some Both Cross
  simp only [hc, hd, z, Opp]
  constructor <;> grind

/-- a point of t lies on the line of s, and t's ends are not on different sides of it: it is an end of t, or t lies on the line -/
theorem on_side {a b c d p : Pt} (hp : On c d p) (h0 : cr a b p = 0) (hs : ¬ Opp (cr a b c) (cr a b d)) : (p = c ∧ cr a b c = 0) ∨ (p = d ∧ cr a b d = 0) ∨ (cr a b c = 0 ∧ cr a b d = 0) := by
  by_cases hcd : c = d
  · subst hcd
    have := on_self hp
    subst this
    exact .inl ⟨rfl, h0⟩
  · obtain ⟨l, m, hl, hm, hlm, hx, hy, e1, e2⟩ := on_conv hp hcd
    have e := cr_conv (s := a) (t := b) hx hy
    rw [h0, Int.mul_zero] at e
    unfold Opp at hs
    generalize cr a b c = u at *
    generalize cr a b d = v at *
    by_cases hl0 : l = 0
    · have hv : v = 0 := by
        subst hl0
        have : m * v = 0 := by omega
        rcases Int.mul_eq_zero.1 this with h | h
        · omega
        · exact h
      exact .inr (.inl ⟨e1 hl0, hv⟩)
    · by_cases hm0 : m = 0
      · have hu : u = 0 := by
          subst hm0
          have : l * u = 0 := by omega
          rcases Int.mul_eq_zero.1 this with h | h
          · omega
          · exact h
        exact .inl ⟨e2 hm0, hu⟩
      · refine .inr (.inr ?_)
        have P : ∀ {x y : Int}, 0 < x → 0 < y → 0 < x * y := Int.mul_pos
        have N : ∀ {x y : Int}, 0 < x → y < 0 → x * y < 0 := fun h k => Int.mul_neg_of_pos_of_neg h k
        rcases Int.lt_trichotomy u 0 with hu | hu | hu <;> rcases Int.lt_trichotomy v 0 with hv | hv | hv
        · have := N (x := l) (by omega) hu; have := N (x := m) (by omega) hv; omega
        · have := N (x := l) (by omega) hu; subst hv; omega
        · omega
        · have := N (x := m) (by omega) hv; subst hu; omega
        · exact ⟨hu, hv⟩
        · have := P (x := m) (by omega) hv; subst hu; omega
        · omega
        · have := P (x := l) (by omega) hu; subst hv; omega
        · have := P (x := l) (by omega) hu; have := P (x := m) (by omega) hv; omega

/-- c on the line of ab, a and b on different sides of cd: c is on ab -/
theorem on_opp {a b c d : Pt} (h0 : cr a b c = 0) (ho : Opp (cr c d a) (cr c d b)) : On a b c := by
  refine ⟨h0, ?_⟩
  have ex : (c.x - a.x) * (cr c d b - cr c d a) = - cr c d a * (b.x - a.x) := by unfold cr at *; grind
  have ey : (c.y - a.y) * (cr c d b - cr c d a) = - cr c d a * (b.y - a.y) := by unfold cr at *; grind
  unfold Opp at ho
  generalize cr c d a = u at *
  generalize cr c d b = v at *
  have K : ∀ {w z : Int}, w * (v - u) = - u * z → (0 ≤ z → 0 ≤ w ∧ w ≤ z) ∧ (z ≤ 0 → z ≤ w ∧ w ≤ 0) := by
    intro w z h
    have h2 : (z - w) * (v - u) = v * z := by grind
    have M : ∀ {s t : Int}, 0 ≤ s → 0 ≤ t → 0 ≤ s * t := Int.mul_nonneg
    rcases ho with ⟨h3, h4⟩ | ⟨h3, h4⟩
    · constructor
      · intro hz
        have g1 := nn_of_mul (a := v - u) (b := w) (c := -u * z) (by grind) (by omega) (M (by omega) hz)
        have g2 := nn_of_mul (a := v - u) (b := z - w) (c := v * z) (by grind) (by omega) (M (by omega) hz)
        omega
      · intro hz
        have g1 := nn_of_mul (a := v - u) (b := -w) (c := -u * -z) (by grind) (by omega) (M (by omega) (by omega))
        have g2 := nn_of_mul (a := v - u) (b := w - z) (c := v * -z) (by grind) (by omega) (M (by omega) (by omega))
        omega
    · constructor
      · intro hz
        have g1 := nn_of_mul (a := u - v) (b := w) (c := u * z) (by grind) (by omega) (M (by omega) hz)
        have g2 := nn_of_mul (a := u - v) (b := z - w) (c := -v * z) (by grind) (by omega) (M (by omega) hz)
        omega
      · intro hz
        have g1 := nn_of_mul (a := u - v) (b := -w) (c := u * -z) (by grind) (by omega) (M (by omega) (by omega))
        have g2 := nn_of_mul (a := u - v) (b := w - z) (c := -v * -z) (by grind) (by omega) (M (by omega) (by omega))
        omega
  have kx := K ex
  have ky := K ey
  unfold Box
  rcases Int.le_total 0 (b.x - a.x) with h | h <;> rcases Int.le_total 0 (b.y - a.y) with h' | h' <;> (have := kx.1; have := kx.2; have := ky.1; have := ky.2; omega)

/-- c on line ab, a on line cd, not one line: a = c -/
theorem same_end {a b c d : Pt} (h1 : cr a b c = 0) (h2 : cr c d a = 0) (h3 : cr a b d ≠ 0) : a = c := by
  have ex : (c.x - a.x) * cr a b d = 0 := by unfold cr at *; grind
  have ey : (c.y - a.y) * cr a b d = 0 := by unfold cr at *; grind
  refine Pt.ext' ?_ ?_
  · rcases Int.mul_eq_zero.1 ex with h | h <;> omega
  · rcases Int.mul_eq_zero.1 ey with h | h <;> omega

theorem sg_neg {u : Int} (h : u < 0) : sg u = -1 := by unfold sg; rw [if_pos h]
theorem sg_pos {u : Int} (h : 0 < u) : sg u = 1 := by unfold sg; rw [if_neg (by omega), if_pos h]
theorem sg_zero : sg 0 = 0 := rfl
theorem sg_mul (u v : Int) : (0 < sg u * sg v ↔ ((u < 0 ∧ v < 0) ∨ (0 < u ∧ 0 < v))) ∧ (sg u * sg v < 0 ↔ Opp u v) ∧ (sg u * sg v = 0 ↔ (u = 0 ∨ v = 0)) := by
  unfold Opp
  rcases Int.lt_trichotomy u 0 with h | h | h <;> rcases Int.lt_trichotomy v 0 with k | k | k
  all_goals first | rw [sg_neg h] | rw [sg_pos h] | (subst h; rw [sg_zero])
  all_goals first | rw [sg_neg k] | rw [sg_pos k] | (subst k; rw [sg_zero])
  all_goals omega
def gen0 (A B C D : Int) : Int := if A * B > 0 ∨ C * D > 0 then 0 else if A * B < 0 ∧ C * D < 0 then 3 else if A * B = 0 ∧ C * D = 0 then 1 else 2
theorem gen_ok {a b c d : Pt} (hab : a ≠ b) (hcd : c ≠ d) (hl : ¬ (cr a b c = 0 ∧ cr a b d = 0)) : gen0 (sg (cr a b c)) (sg (cr a b d)) (sg (cr c d a)) (sg (cr c d b)) = meets a b c d := by
  have hl2 : ¬ (cr c d a = 0 ∧ cr c d b = 0) := fun h => hl ⟨line3 hcd h.1 h.2 (on_a c d).1, line3 hcd h.1 h.2 (on_b c d).1⟩
  have two : ¬ Two a b c d := by
    have oa := on_a a b
    have ob := on_b a b
    have oc := on_a c d
    have od := on_b c d
    unfold Two
    rintro (⟨h1, h2, h3⟩ | ⟨h1, h2, h3⟩ | ⟨h1, h2, h3⟩ | ⟨h1, h2, h3⟩ | ⟨h1, h2, h3⟩ | ⟨h1, h2, h3⟩)
    · have := all_line h3 oa ob h1 h2; exact hl ⟨this.2.2.1, this.2.2.2.1⟩
    · have := all_line h3 oa h2 h1 oc; exact hl ⟨this.2.2.1, this.2.2.2.1⟩
    · have := all_line h3 oa h2 h1 od; exact hl ⟨this.2.2.1, this.2.2.2.1⟩
    · have := all_line h3 ob h2 h1 oc; exact hl ⟨this.2.2.1, this.2.2.2.1⟩
    · have := all_line h3 ob h2 h1 od; exact hl ⟨this.2.2.1, this.2.2.2.1⟩
    · have := all_line h3 h1 h2 oc od; exact hl ⟨this.2.2.1, this.2.2.2.1⟩
  have same : ¬ Same a b c d := by
    rintro (⟨rfl, rfl⟩ | ⟨rfl, rfl⟩)
    · exact hl ⟨(on_a a b).1, (on_b a b).1⟩
    · exact hl ⟨(on_b a b).1, (on_a a b).1⟩
  have hcr : ∀ x y z w : Pt, On x y z → cr x y z = 0 := fun _ _ _ _ h => h.1
  -- what is common lies on no strict side
  have S1 : On c d a → Opp (cr a b c) (cr a b d) ∨ (a = c ∧ cr a b c = 0) ∨ (a = d ∧ cr a b d = 0) := by
    intro h
    by_cases o : Opp (cr a b c) (cr a b d)
    · exact .inl o
    · rcases on_side h (on_a a b).1 o with h | h | h
      · exact .inr (.inl h)
      · exact .inr (.inr h)
      · exact absurd h hl
  have S2 : On c d b → Opp (cr a b c) (cr a b d) ∨ (b = c ∧ cr a b c = 0) ∨ (b = d ∧ cr a b d = 0) := by
    intro h
    by_cases o : Opp (cr a b c) (cr a b d)
    · exact .inl o
    · rcases on_side h (on_b a b).1 o with h | h | h
      · exact .inr (.inl h)
      · exact .inr (.inr h)
      · exact absurd h hl
  have S3 : On a b c → Opp (cr c d a) (cr c d b) ∨ (c = a ∧ cr c d a = 0) ∨ (c = b ∧ cr c d b = 0) := by
    intro h
    by_cases o : Opp (cr c d a) (cr c d b)
    · exact .inl o
    · rcases on_side h (on_a c d).1 o with h | h | h
      · exact .inr (.inl h)
      · exact .inr (.inr h)
      · exact absurd h hl2
  have S4 : On a b d → Opp (cr c d a) (cr c d b) ∨ (d = a ∧ cr c d a = 0) ∨ (d = b ∧ cr c d b = 0) := by
    intro h
    by_cases o : Opp (cr c d a) (cr c d b)
    · exact .inl o
    · rcases on_side h (on_b c d).1 o with h | h | h
      · exact .inr (.inl h)
      · exact .inr (.inr h)
      · exact absurd h hl2
  -- on the line and between
  have O1 : cr c d a = 0 → Opp (cr a b c) (cr a b d) → On c d a := fun h o => on_opp h o
  have O2 : cr c d b = 0 → Opp (cr a b c) (cr a b d) → On c d b := fun h o => on_opp (d := a) h (by
    unfold Opp at *; rw [cr_swap a b c, cr_swap a b d]; omega)
  have O3 : cr a b c = 0 → Opp (cr c d a) (cr c d b) → On a b c := fun h o => on_opp h o
  have O4 : cr a b d = 0 → Opp (cr c d a) (cr c d b) → On a b d := fun h o => on_opp (d := c) h (by
    unfold Opp at *; rw [cr_swap c d a, cr_swap c d b]; omega)
  -- ends that meet
  have E1 : cr a b c = 0 → cr c d a = 0 → a = c := fun h k => same_end h k (fun e => hl ⟨h, e⟩)
  have E2 : cr a b c = 0 → cr c d b = 0 → b = c := fun h k => same_end (b := a) (by rw [cr_swap]; omega) k (fun e => hl ⟨h, by rw [cr_swap] at e; omega⟩)
  have E3 : cr a b d = 0 → cr c d a = 0 → a = d := fun h k => same_end (d := c) h (by rw [cr_swap]; omega) (fun e => hl ⟨e, h⟩)
  have E4 : cr a b d = 0 → cr c d b = 0 → b = d := fun h k => same_end (b := a) (d := c) (by rw [cr_swap]; omega) (by rw [cr_swap]; omega) (fun e => hl ⟨by rw [cr_swap] at e; omega, h⟩)
  have F1 : a = c → On c d a := fun e => e ▸ on_a _ _
  have F2 : a = d → On c d a := fun e => e ▸ on_b _ _
  have F3 : b = c → On c d b := fun e => e ▸ on_a _ _
  have F4 : b = d → On c d b := fun e => e ▸ on_b _ _
  have Z1 : On c d a → cr c d a = 0 := fun h => h.1
  have Z2 : On c d b → cr c d b = 0 := fun h => h.1
  have Z3 : On a b c → cr a b c = 0 := fun h => h.1
  have Z4 : On a b d → cr a b d = 0 := fun h => h.1
  have G1 := sg_mul (cr a b c) (cr a b d)
  have G2 := sg_mul (cr c d a) (cr c d b)
  have H1 : a = c → cr a b c = 0 ∧ cr c d a = 0 := fun e => ⟨by rw [← e]; exact (on_a a b).1, by rw [e]; exact (on_a c d).1⟩
  have H2 : a = d → cr a b d = 0 ∧ cr c d a = 0 := fun e => ⟨by rw [← e]; exact (on_a a b).1, by rw [e]; exact (on_b c d).1⟩
  have H3 : b = c → cr a b c = 0 ∧ cr c d b = 0 := fun e => ⟨by rw [← e]; exact (on_b a b).1, by rw [e]; exact (on_a c d).1⟩
  have H4 : b = d → cr a b d = 0 ∧ cr c d b = 0 := fun e => ⟨by rw [← e]; exact (on_b a b).1, by rw [e]; exact (on_b c d).1⟩
  unfold gen0 meets
  rw [if_neg same, if_neg two]
  generalize sg (cr a b c) * sg (cr a b d) = X at *
  generalize sg (cr c d a) * sg (cr c d b) = Y at *
  have K1 : (X > 0 ∨ Y > 0) → ¬ Some a b c d ∧ ¬ Cross a b c d := by
    unfold Some Cross Opp at *
    intro h
    refine ⟨?_, by omega⟩
    rintro (k | k | k | k)
    · have := Z1 k; have := S1 k; grind
    · have := Z2 k; have := S2 k; grind
    · have := Z3 k; have := S3 k; grind
    · have := Z4 k; have := S4 k; grind
  have K2 : (X < 0 ∧ Y < 0) → ¬ Some a b c d ∧ Cross a b c d := by
    unfold Some Cross
    intro h
    have h1 := G1.2.1.1 h.1
    have h2 := G2.2.1.1 h.2
    refine ⟨?_, h1, h2⟩
    unfold Opp at h1 h2
    rintro (k | k | k | k)
    · have := Z1 k; omega
    · have := Z2 k; omega
    · have := Z3 k; omega
    · have := Z4 k; omega
  have K3 : (X = 0 ∧ Y = 0) → Some a b c d ∧ Both a b c d := by
    unfold Some Both
    intro h
    have h1 := G1.2.2.1 h.1
    have h2 := G2.2.2.1 h.2
    grind
  have K4 : (X = 0 ∧ Y < 0 ∨ X < 0 ∧ Y = 0) → Some a b c d ∧ ¬ Both a b c d := by
    rintro (⟨h1, h2⟩ | ⟨h1, h2⟩)
    · have h1 := G1.2.2.1 h1
      have h2 := G2.2.1.1 h2
      refine ⟨?_, ?_⟩
      · unfold Some; grind
      · unfold Both Opp at *
        rintro (k | k | k | k)
        · have := H1 k; omega
        · have := H2 k; omega
        · have := H3 k; omega
        · have := H4 k; omega
    · have h1 := G1.2.1.1 h1
      have h2 := G2.2.2.1 h2
      refine ⟨?_, ?_⟩
      · unfold Some; grind
      · unfold Both Opp at *
        rintro (k | k | k | k)
        · have := H1 k; omega
        · have := H2 k; omega
        · have := H3 k; omega
        · have := H4 k; omega
  by_cases p1 : X > 0 ∨ Y > 0
  · rw [if_pos p1, if_neg (K1 p1).1, if_neg (K1 p1).2]
  · rw [if_neg p1]
    by_cases p2 : X < 0 ∧ Y < 0
    · rw [if_pos p2, if_neg (K2 p2).1, if_pos (K2 p2).2]
    · rw [if_neg p2]
      by_cases p3 : X = 0 ∧ Y = 0
      · rw [if_pos p3, if_pos (K3 p3).1, if_pos (K3 p3).2]
      · have := K4 (by omega)
        rw [if_neg p3, if_pos this.1, if_neg this.2]
end Go.Proofs.Ytgibndgllhompaa.Geo
