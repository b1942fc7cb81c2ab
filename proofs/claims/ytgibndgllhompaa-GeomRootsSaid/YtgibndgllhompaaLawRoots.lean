/- The law GeomRoots: roots of squares and of somewhat greater numbers; roots do not decrease. -/
import Derived.Test.YtgibndgllhompaaHead
import Derived.OpenShut
namespace Go.Proofs.Ytgibndgllhompaa.P
open Go.RowKit Go.Proofs.YtgibndgllhompaaW.PrintWords Go.Proofs.YtgibndgllhompaaW.PrintLast Go.Proofs.YtgibndgllhompaaW.PrintMore Go.Proofs.Ytgibndgllhompaa.Geo
set_option linter.unusedVariables false
set_option linter.unusedSimpArgs false
theorem root_eq {n t : Int} (h0 : 0 ≤ t) (h1 : t * t ≤ n) (h2 : n < (t + 1) * (t + 1)) (h3 : n ≤ 9223372036854775807) : rootv n = t := by
  have hn : 0 ≤ n := Int.le_trans (sq_nonneg t) h1
  have h := (rootv_ok n (by omega) h3).resolve_left (by omega)
  exact sq_uniq h.2.1 h0 h.2.2.1 h.2.2.2 h1 h2
theorem root_mono {m n : Int} (h : m ≤ n) (h0 : 0 ≤ m) (h3 : n ≤ 9223372036854775807) : rootv m ≤ rootv n := by
  have h1 := (rootv_ok m (by omega) (by omega)).resolve_left (by omega)
  have h2 := (rootv_ok n (by omega) h3).resolve_left (by omega)
  rcases Int.lt_or_le (rootv n) (rootv m) with c | c
  · have : (rootv n + 1) * (rootv n + 1) ≤ rootv m * rootv m := Int.mul_le_mul (by omega) (by omega) (by omega) (by omega)
    omega
  · exact c
theorem wf_i64 {n : Int} (h : (Lit.int .i64 n).wf = true) : -9223372036854775808 ≤ n ∧ n ≤ 9223372036854775807 := bounds_i64 h
set_option maxHeartbeats 1000000 in
theorem roots_out (a b : Int) (w : World) (ha1 : -9223372036854775808 ≤ a) (ha2 : a ≤ 9223372036854775807) (hb1 : -9223372036854775808 ≤ b) (hb2 : b ≤ 9223372036854775807)
    (h : a < 0 ∨ b < 0 ∨ a > 1073741824 ∨ b > 1073741824) :
    Calls Try.prog 9 #[.int .i64 a, .int .i64 b] w fun e w' => e = .returned (.bool true) ∧ Below w.heap.size w w' := by
  have HB := Aside0.mk (Below.refl w.heap.size w)
  by_cases c : a < 0
  · have HR : Hid (rootv a = 0) := Lib.hid ((rootv_ok a ha1 ha2).elim (fun z => z.2) (fun z => absurd z.1 (by omega)))
    go_enter Try.func9, Try.ntmps9
    go_wp2_with (first | (go_at_call 10; (with_reducible refine (head_calls _).mono ?_); rintro e Wn_ ⟨rfl, hb⟩; have n_ := Aside0.mk (below_step HB.out hb); clear HB; have HB := n_; clear n_ hb) | (go_at_call 23; (with_reducible refine (root_calls a 0 (by omega) (by omega) HR _).mono ?_); rintro e Wn_ ⟨rfl, hb⟩; have n_ := Aside0.mk (below_step HB.out hb); clear HB; have HB := n_; clear n_ hb))
    all_goals go_ret
    all_goals exact ⟨rfl, HB.out⟩
  · have ca : 0 ≤ a := by omega
    by_cases c1 : b < 0
    · go_enter Try.func9, Try.ntmps9
      go_wp2_with (first | (go_at_call 10; (with_reducible refine (head_calls _).mono ?_); rintro e Wn_ ⟨rfl, hb⟩; have n_ := Aside0.mk (below_step HB.out hb); clear HB; have HB := n_; clear n_ hb))
      all_goals go_ret
      all_goals exact ⟨rfl, HB.out⟩
    · by_cases c2 : a > 1073741824
      · go_enter Try.func9, Try.ntmps9
        go_wp2_with (first | (go_at_call 10; (with_reducible refine (head_calls _).mono ?_); rintro e Wn_ ⟨rfl, hb⟩; have n_ := Aside0.mk (below_step HB.out hb); clear HB; have HB := n_; clear n_ hb))
        all_goals go_ret
        all_goals exact ⟨rfl, HB.out⟩
      · have c3 : b > 1073741824 := by omega
        go_enter Try.func9, Try.ntmps9
        go_wp2_with (first | (go_at_call 10; (with_reducible refine (head_calls _).mono ?_); rintro e Wn_ ⟨rfl, hb⟩; have n_ := Aside0.mk (below_step HB.out hb); clear HB; have HB := n_; clear n_ hb))
        all_goals go_ret
        all_goals exact ⟨rfl, HB.out⟩
set_option maxHeartbeats 1000000 in
theorem roots_in (a b : Int) (w : World) (ha1 : 0 ≤ a) (ha2 : a ≤ 1073741824) (hb1 : 0 ≤ b) (hb2 : b ≤ 1073741824) :
    Calls Try.prog 9 #[.int .i64 a, .int .i64 b] w fun e w' => e = .returned (.bool true) ∧ Below w.heap.size w w' := by
  have HB := Aside0.mk (Below.refl w.heap.size w)
  have m0 : 0 ≤ b % (2 * a + 1) := Int.emod_nonneg b (by omega)
  have m1 : b % (2 * a + 1) ≤ 2 * a := by have := Int.emod_lt_of_pos b (show 0 < 2 * a + 1 by omega); omega
  have s0 : 0 ≤ a * a := sq_nonneg a
  have s1 : a * a ≤ 1152921504606846976 := Int.mul_le_mul ha2 ha2 ha1 (by omega)
  have se : (a + 1) * (a + 1) = a * a + 2 * a + 1 := by grind
  have H1 : Hid (rootv (a * a) = a) := Lib.hid (root_eq ha1 (by omega) (by omega) (by omega))
  have H2 : Hid (rootv (a * a + b % (2 * a + 1)) = a) := Lib.hid (root_eq ha1 (by omega) (by omega) (by omega))
  clear se
  obtain ⟨u, H3⟩ : ∃ u, Hid (rootv a = u) := ⟨_, Lib.hid rfl⟩
  obtain ⟨v, H4⟩ : ∃ v, Hid (rootv b = v) := ⟨_, Lib.hid rfl⟩
  by_cases c : a > b
  · go_enter Try.func9, Try.ntmps9
    go_wp2_with (first | (go_at_call 10; (with_reducible refine (head_calls _).mono ?_); rintro e Wn_ ⟨rfl, hb⟩; have n_ := Aside0.mk (below_step HB.out hb); clear HB; have HB := n_; clear n_ hb) | (go_at_call 23; (with_reducible refine (root_calls (a * a) a (by omega) (by omega) H1 _).mono ?_); rintro e Wn_ ⟨rfl, hb⟩; have n_ := Aside0.mk (below_step HB.out hb); clear HB; have HB := n_; clear n_ hb) | (go_at_call 23; (with_reducible refine (root_calls (a * a + b % (2 * a + 1)) a (by omega) (by omega) H2 _).mono ?_); rintro e Wn_ ⟨rfl, hb⟩; have n_ := Aside0.mk (below_step HB.out hb); clear HB; have HB := n_; clear n_ hb))
    all_goals go_ret
    all_goals exact ⟨rfl, HB.out⟩
  · have cuv : u ≤ v := by rw [← H3.out, ← H4.out]; exact root_mono (by omega) ha1 (by omega)
    go_enter Try.func9, Try.ntmps9
    go_wp2_with (first | (go_at_call 10; (with_reducible refine (head_calls _).mono ?_); rintro e Wn_ ⟨rfl, hb⟩; have n_ := Aside0.mk (below_step HB.out hb); clear HB; have HB := n_; clear n_ hb) | (go_at_call 23; (with_reducible refine (root_calls (a * a) a (by omega) (by omega) H1 _).mono ?_); rintro e Wn_ ⟨rfl, hb⟩; have n_ := Aside0.mk (below_step HB.out hb); clear HB; have HB := n_; clear n_ hb) | (go_at_call 23; (with_reducible refine (root_calls (a * a + b % (2 * a + 1)) a (by omega) (by omega) H2 _).mono ?_); rintro e Wn_ ⟨rfl, hb⟩; have n_ := Aside0.mk (below_step HB.out hb); clear HB; have HB := n_; clear n_ hb) | (go_at_call 23; (with_reducible refine (root_calls a u (by omega) (by omega) H3 _).mono ?_); rintro e Wn_ ⟨rfl, hb⟩; have n_ := Aside0.mk (below_step HB.out hb); clear HB; have HB := n_; clear n_ hb) | (go_at_call 23; (with_reducible refine (root_calls b v (by omega) (by omega) H4 _).mono ?_); rintro e Wn_ ⟨rfl, hb⟩; have n_ := Aside0.mk (below_step HB.out hb); clear HB; have HB := n_; clear n_ hb))
    all_goals go_ret
    all_goals exact ⟨rfl, HB.out⟩
theorem law_GeomRoots (a b : Int) (ha : (Lit.int .i64 a).wf = true) (hb : (Lit.int .i64 b).wf = true) (w : World) :
    Calls Try.prog 9 #[.int .i64 a, .int .i64 b] w fun e w' => e = .returned (.bool true) ∧ Below w.heap.size w w' := by
  have ha := wf_i64 ha
  have hb := wf_i64 hb
  by_cases h : a < 0 ∨ b < 0 ∨ a > 1073741824 ∨ b > 1073741824
  · exact roots_out a b w ha.1 ha.2 hb.1 hb.2 h
  · exact roots_in a b w (by omega) (by omega) (by omega) (by omega)
end Go.Proofs.Ytgibndgllhompaa.P
