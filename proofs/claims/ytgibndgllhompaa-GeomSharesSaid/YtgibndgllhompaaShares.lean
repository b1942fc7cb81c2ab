/- Points that two segments share: plain laws. -/
import Derived.Test.YtgibndgllhompaaGeo
namespace Go.Proofs.Ytgibndgllhompaa.Geo
theorem some_swap {a b c d : Pt} (h : Some b a c d) : Some a b c d := by
  rcases h with h | h | h | h
  · exact .inr (.inl h)
  · exact .inl h
  · exact .inr (.inr (.inl (on_comm.1 h)))
  · exact .inr (.inr (.inr (on_comm.1 h)))
theorem some_swap2 {a b c d : Pt} (h : Some a b d c) : Some a b c d := by
  rcases h with h | h | h | h
  · exact .inl (on_comm.1 h)
  · exact .inr (.inl (on_comm.1 h))
  · exact .inr (.inr (.inr h))
  · exact .inr (.inr (.inl h))
theorem two_swap {a b c d : Pt} (h : Two b a c d) : Two a b c d := by
  rcases h with ⟨h, k, n⟩ | ⟨h, k, n⟩ | ⟨h, k, n⟩ | ⟨h, k, n⟩ | ⟨h, k, n⟩ | ⟨h, k, n⟩
  · exact .inl ⟨k, h, Ne.symm n⟩
  · exact .inr (.inr (.inr (.inl ⟨h, on_comm.1 k, n⟩)))
  · exact .inr (.inr (.inr (.inr (.inl ⟨h, on_comm.1 k, n⟩))))
  · exact .inr (.inl ⟨h, on_comm.1 k, n⟩)
  · exact .inr (.inr (.inl ⟨h, on_comm.1 k, n⟩))
  · exact .inr (.inr (.inr (.inr (.inr ⟨on_comm.1 h, on_comm.1 k, n⟩))))
theorem two_swap2 {a b c d : Pt} (h : Two a b d c) : Two a b c d := by
  rcases h with ⟨h, k, n⟩ | ⟨h, k, n⟩ | ⟨h, k, n⟩ | ⟨h, k, n⟩ | ⟨h, k, n⟩ | ⟨h, k, n⟩
  · exact .inl ⟨on_comm.1 h, on_comm.1 k, n⟩
  · exact .inr (.inr (.inl ⟨on_comm.1 h, k, n⟩))
  · exact .inr (.inl ⟨on_comm.1 h, k, n⟩)
  · exact .inr (.inr (.inr (.inr (.inl ⟨on_comm.1 h, k, n⟩))))
  · exact .inr (.inr (.inr (.inl ⟨on_comm.1 h, k, n⟩)))
  · exact .inr (.inr (.inr (.inr (.inr ⟨k, h, Ne.symm n⟩))))
theorem some_sorted {a b c d p : Pt} (hs : LexLe a b) (ht : LexLe c d) (hab : a ≠ b) (hcd : c ≠ d) (h1 : cr a b c = 0) (h2 : cr a b d = 0) (hp : On a b p) (hq : On c d p) : Some a b c d := by
  have ka := line3 hab h1 h2 (on_a a b).1
  obtain ⟨p1, p2⟩ := (on_line hs hab hp.1).1 hp
  obtain ⟨q1, q2⟩ := (on_line ht hcd hq.1).1 hq
  rcases lex_total a c with h | h
  · exact .inr (.inr (.inl ((on_line hs hab h1).2 ⟨h, lex_trans q1 p2⟩)))
  · exact .inl ((on_line ht hcd ka).2 ⟨h, lex_trans p1 q2⟩)
theorem some_line {a b c d p : Pt} (hab : a ≠ b) (hcd : c ≠ d) (h1 : cr a b c = 0) (h2 : cr a b d = 0) (hp : On a b p) (hq : On c d p) : Some a b c d := by
  have k1 : cr b a c = 0 := by rw [cr_swap, h1]; rfl
  have k2 : cr b a d = 0 := by rw [cr_swap, h2]; rfl
  rcases lex_total a b with s | s <;> rcases lex_total c d with t | t
  · exact some_sorted s t hab hcd h1 h2 hp hq
  · exact some_swap2 (some_sorted s t hab hcd.symm h2 h1 hp (on_comm.1 hq))
  · exact some_swap (some_sorted s t hab.symm hcd k1 k2 (on_comm.1 hp) hq)
  · exact some_swap (some_swap2 (some_sorted s t hab.symm hcd.symm k2 k1 (on_comm.1 hp) (on_comm.1 hq)))
theorem shares_one {a b c d p : Pt} (h1 : On a b p) (h2 : On c d p) : Some a b c d ∨ Cross a b c d := by
  by_cases hab : a = b
  · subst hab; rw [on_self h1] at h2; exact .inl (.inl h2)
  by_cases hcd : c = d
  · subst hcd; rw [on_self h2] at h1; exact .inl (.inr (.inr (.inl h1)))
  by_cases o1 : Opp (cr a b c) (cr a b d)
  · by_cases o2 : Opp (cr c d a) (cr c d b)
    · exact .inr ⟨o1, o2⟩
    · left
      rcases on_side h1 h2.1 o2 with ⟨e, _⟩ | ⟨e, _⟩ | ⟨k1, k2⟩
      · rw [e] at h2; exact .inl h2
      · rw [e] at h2; exact .inr (.inl h2)
      · exact some_line hab hcd (line3 hcd k1 k2 (on_a c d).1) (line3 hcd k1 k2 (on_b c d).1) h1 h2
  · left
    rcases on_side h2 h1.1 o1 with ⟨e, _⟩ | ⟨e, _⟩ | ⟨k1, k2⟩
    · rw [e] at h1; exact .inr (.inr (.inl h1))
    · rw [e] at h1; exact .inr (.inr (.inr h1))
    · exact some_line hab hcd k1 k2 h1 h2
theorem two_sorted {a b c d p q : Pt} (hs : LexLe a b) (ht : LexLe c d) (hab : a ≠ b) (hcd : c ≠ d) (h1 : cr a b c = 0) (h2 : cr a b d = 0) (hpq : p ≠ q) (hp : On a b p) (hq : On c d p) (kp : On a b q) (kq : On c d q) : Two a b c d := by
  have ka := line3 hab h1 h2 (on_a a b).1
  have kb := line3 hab h1 h2 (on_b a b).1
  obtain ⟨p1, p2⟩ := (on_line hs hab hp.1).1 hp
  obtain ⟨q1, q2⟩ := (on_line ht hcd hq.1).1 hq
  obtain ⟨p3, p4⟩ := (on_line hs hab kp.1).1 kp
  obtain ⟨q3, q4⟩ := (on_line ht hcd kq.1).1 kq
  have two : ∀ l, LexLe l p → LexLe p l → LexLe l q → LexLe q l → False := fun l x1 x2 x3 x4 => hpq ((lex_anti x2 x1).trans (lex_anti x3 x4))
  rcases lex_total a c with h | h <;> rcases lex_total b d with k | k
  · refine .inr (.inr (.inr (.inl ⟨(on_line ht hcd kb).2 ⟨lex_trans q1 p2, k⟩, (on_line hs hab h1).2 ⟨h, lex_trans q1 p2⟩, ?_⟩)))
    rintro rfl; exact two _ q1 p2 q3 p4
  · exact .inr (.inr (.inr (.inr (.inr ⟨(on_line hs hab h1).2 ⟨h, lex_trans ht k⟩, (on_line hs hab h2).2 ⟨lex_trans h ht, k⟩, hcd⟩))))
  · exact .inl ⟨(on_line ht hcd ka).2 ⟨h, lex_trans hs k⟩, (on_line ht hcd kb).2 ⟨lex_trans h hs, k⟩, hab⟩
  · refine .inr (.inr (.inl ⟨(on_line ht hcd ka).2 ⟨h, lex_trans p1 q2⟩, (on_line hs hab h2).2 ⟨lex_trans p1 q2, k⟩, ?_⟩))
    rintro rfl; exact two _ p1 q2 p3 q4
theorem shares_two {a b c d p q : Pt} (hpq : p ≠ q) (hp : On a b p) (hq : On c d p) (kp : On a b q) (kq : On c d q) : Two a b c d := by
  obtain ⟨hab, hcd, h1, h2, _, _⟩ := all_line hpq hp kp hq kq
  have k1 : cr b a c = 0 := by rw [cr_swap, h1]; rfl
  have k2 : cr b a d = 0 := by rw [cr_swap, h2]; rfl
  rcases lex_total a b with s | s <;> rcases lex_total c d with t | t
  · exact two_sorted s t hab hcd h1 h2 hpq hp hq kp kq
  · exact two_swap2 (two_sorted s t hab hcd.symm h2 h1 hpq hp (on_comm.1 hq) kp (on_comm.1 kq))
  · exact two_swap (two_sorted s t hab.symm hcd k1 k2 hpq (on_comm.1 hp) hq (on_comm.1 kp) kq)
  · exact two_swap (two_swap2 (two_sorted s t hab.symm hcd.symm k2 k1 hpq (on_comm.1 hp) (on_comm.1 hq) (on_comm.1 kp) (on_comm.1 kq)))
theorem cross_some {a b c d : Pt} (h : Cross a b c d) : ¬ Some a b c d := by
  obtain ⟨h1, h2⟩ := h
  unfold Opp at h1 h2
  rintro (k | k | k | k) <;> have := k.1 <;> omega
theorem two_some {a b c d : Pt} (h : Two a b c d) : Some a b c d := by
  rcases h with ⟨h, k, n⟩ | ⟨h, k, n⟩ | ⟨h, k, n⟩ | ⟨h, k, n⟩ | ⟨h, k, n⟩ | ⟨h, k, n⟩
  · exact .inl h
  · exact .inl h
  · exact .inl h
  · exact .inr (.inl h)
  · exact .inr (.inl h)
  · exact .inr (.inr (.inl h))
theorem same_some {a b c d : Pt} (h : Same a b c d) : Some a b c d := by
  rcases h with ⟨rfl, rfl⟩ | ⟨rfl, rfl⟩
  · exact .inl (on_a _ _)
  · exact .inl (on_b _ _)
theorem meets_some (a b c d : Pt) : Some a b c d ↔ (meets a b c d ≠ 0 ∧ meets a b c d ≠ 3) := by
  unfold meets
  by_cases h1 : Same a b c d
  · rw [if_pos h1]; exact ⟨fun _ => by omega, fun _ => same_some h1⟩
  rw [if_neg h1]
  by_cases h2 : Two a b c d
  · rw [if_pos h2]; exact ⟨fun _ => by omega, fun _ => two_some h2⟩
  rw [if_neg h2]
  by_cases h3 : Some a b c d
  · rw [if_pos h3]; refine ⟨fun _ => ?_, fun _ => h3⟩; split <;> omega
  rw [if_neg h3]
  refine ⟨fun h => absurd h h3, ?_⟩
  split <;> omega
theorem meets_cross (a b c d : Pt) : meets a b c d = 3 ↔ Cross a b c d := by
  constructor
  · intro h
    unfold meets at h
    split at h
    · omega
    split at h
    · omega
    split at h
    · split at h <;> omega
    split at h
    · assumption
    · omega
  · intro h
    have k := cross_some h
    unfold meets
    rw [if_neg (fun z => k (same_some z)), if_neg (fun z => k (two_some z)), if_neg k, if_pos h]
theorem meets_two {a b c d : Pt} (h : Two a b c d) : meets a b c d = 4 ∨ meets a b c d = 5 := by
  unfold meets
  by_cases h1 : Same a b c d
  · rw [if_pos h1]; exact .inl rfl
  · rw [if_neg h1, if_pos h]; exact .inr rfl
theorem meets_one {a b c d : Pt} (h : Some a b c d ∨ Cross a b c d) : meets a b c d ≠ 0 := by
  rcases h with h | h
  · exact ((meets_some a b c d).1 h).1
  · rw [(meets_cross a b c d).2 h]; omega
end Go.Proofs.Ytgibndgllhompaa.Geo
