/- Two texts with a line between: the tokens of both, or the error of the one that has one. -/
import Derived.Test.YtflocikkhpjicaaLexHead
import Derived.Test.YtflocikkhpjicaaLexSame
import Derived.Test.YtflocikkhpjicaaPx14
namespace Go.Proofs.Ytflocikkhpjicaa.Pure
open Go.RowKit Go.Proofs.Ytflocikkhpjicaa.P Go.Proofs.YtflocikkhpjicaaW.PrintWords Go.Proofs.YtflocikkhpjicaaW.PrintLast
open Go.Proofs.Ytflocikkhpjicaa
set_option linter.unusedVariables false
theorem lex_of {s : ByteArray} {l : List UInt8} (h : s.data.toList = l) {xs : List Lx.Fd} {e : Nat} {p : Int} (hx : Lx.lexS l = (xs, e, p)) : lexer_Lex.f s = some (xs.map toS, (e : Int), p) := by
  unfold lexer_Lex.f lexR; rw [h, hx]
theorem wadd (a b : Nat) (h : a + b ≤ 281474976710656) : wrap64 ((a : Int) + (b : Int)) = ((a + b : Nat) : Int) := by unfold wrap64; omega
/-- the answers of the three calls, all without an error -/
theorem parts_clean (k : Nat) (a0 a1 : ByteArray) (X Y Z : List S31) (e0 e1 e2 p0 p1 p2 : Int) (s1 : a0.size + 1 ≤ 9223372036854775807) (s2 : (a0 ++ (⟨#[10]⟩ : ByteArray)).size + a1.size ≤ 9223372036854775807)
    (L0 : lexer_Lex.f a0 = some (X, e0, p0)) (L1 : lexer_Lex.f a1 = some (Y, e1, p1)) (L2 : lexer_Lex.f ((a0 ++ (⟨#[10]⟩ : ByteArray)) ++ a1) = some (Z, e2, p2)) (h0 : e0 = 0) (h1 : e1 = 0) (h2 : e2 = 0)
    (hl : (Z.length : Int) = wrap64 ((X.length : Int) + (Y.length : Int))) (hl0 : (0 : Int) ≤ (X.length : Int)) (hl2 : (X.length : Int) ≤ (Z.length : Int)) (n : Int) (hn : wrap64 ((a0.size : Int) + 1) = n)
    (S1 : planisphereref08_Same.f k X 0 (Z.take X.length) = some true) (S2 : planisphereref08_Same.f k Y n (Z.drop X.length) = some true) :
    planispherelaw08_LexerParts.j0 (k + 1) a0 a1 true false = some true := by
  simp only [planispherelaw08_LexerParts.j0]
  rw [if_neg (by decide), L0]
  simp only [Option.bind_some]
  rw [L1]
  simp only [Option.bind_some]
  rw [if_pos s1, if_pos s2, L2]
  simp only [Option.bind_some]
  rw [if_pos h0, if_pos h1, if_pos trivial, if_pos h2, if_pos hl, if_pos hl0, if_pos hl2, Int.toNat_natCast, S1, hn]
  simp only [Option.bind_some]
  rw [if_pos trivial, S2]
  rfl
theorem sizes_ok (a0 a1 : ByteArray) (l0 l1 : List UInt8) (z0 : a0.size = l0.length) (z1 : a1.size = l1.length) (h0 : l0.length ≤ 1500) (h1 : l1.length ≤ 1500) : a0.size + 1 ≤ 9223372036854775807 ∧ (a0 ++ (⟨#[10]⟩ : ByteArray)).size + a1.size ≤ 9223372036854775807 := by
  have hz : (⟨#[10]⟩ : ByteArray).size = 1 := rfl
  refine ⟨?_, ?_⟩
  · rw [z0]; omega
  · rw [ByteArray.size_append, hz, z0, z1]; omega
theorem parts_j0 (k : Nat) (hk : 5000 < k) (a0 a1 : ByteArray) (h0 : a0.size ≤ 1500) (h1 : a1.size ≤ 1500) : planispherelaw08_LexerParts.j0 (k + 1) a0 a1 true false = some true := by
  obtain ⟨l0, hl0⟩ : ∃ l, a0.data.toList = l := ⟨_, rfl⟩
  obtain ⟨l1, hl1⟩ : ∃ l, a1.data.toList = l := ⟨_, rfl⟩
  have z0 : a0.size = l0.length := by rw [size_list, hl0]
  have z1 : a1.size = l1.length := by rw [size_list, hl1]
  rw [z0] at h0; rw [z1] at h1
  have hc1 : (⟨#[10]⟩ : ByteArray).data.toList = [10] := rfl
  have hcat : ((a0 ++ (⟨#[10]⟩ : ByteArray)) ++ a1).data.toList = l0 ++ 10 :: l1 := by rw [append_list, append_list, hl0, hc1, hl1]; simp
  have n0 := Lx.founds_length 0 l0
  have n1 := Lx.founds_length 0 l1
  rcases Lx.lexS_short (l := l0) (Nat.le_trans h0 (by decide)) with ⟨c0, e0⟩ | ⟨pre, x, q1, q2, q3, e0⟩
  · have hf : Lx.founds 0 (l0 ++ 10 :: l1) = Lx.founds 0 l0 ++ (Lx.founds 0 l1).map (Lx.shift (l0.length + 1)) := by
      rw [Lx.founds_line _ l0 l1 0 (Nat.le_refl _) c0, Nat.zero_add, Lx.founds_10]
      have := Lx.founds_shift (l0.length + 1) 0 l1
      rw [Nat.zero_add] at this
      rw [this]
    have L0 := lex_of hl0 e0
    rcases Lx.lexS_short (l := l1) (Nat.le_trans h1 (by decide)) with ⟨c1, e1⟩ | ⟨pre, x, q1, q2, q3, e1⟩
    · have L1 := lex_of hl1 e1
      have e2 : Lx.lexS (l0 ++ 10 :: l1) = (Lx.founds 0 l0 ++ (Lx.founds 0 l1).map (Lx.shift (l0.length + 1)), 0, 0) := by
        rw [← hf]
        refine Lx.lexS_clean (by rw [List.length_append, List.length_cons]; omega) (by rw [hf, List.length_append, List.length_map]; omega) fun x hx => ?_
        rw [hf] at hx
        rcases List.mem_append.1 hx with hx | hx
        · exact c0 x hx
        · obtain ⟨y, hy, rfl⟩ := List.mem_map.1 hx
          exact c1 y hy
      have L2 := lex_of hcat e2
      obtain ⟨xs, hxs⟩ : ∃ xs, Lx.founds 0 l0 = xs := ⟨_, rfl⟩
      obtain ⟨ys, hys⟩ : ∃ ys, Lx.founds 0 l1 = ys := ⟨_, rfl⟩
      have px : ∀ x ∈ xs, x.pos < l0.length := fun x hx => by have := (founds_pos _ l0 0 x (Nat.le_refl _) (by rw [hxs]; exact hx)).2; omega
      have py : ∀ x ∈ ys, x.pos < l1.length := fun x hx => by have := (founds_pos _ l1 0 x (Nat.le_refl _) (by rw [hys]; exact hx)).2; omega
      rw [hxs] at L0; rw [hys] at L1; rw [hxs, hys] at L2
      rw [hxs] at n0; rw [hys] at n1
      have hm : (xs ++ ys.map (Lx.shift (l0.length + 1))).map toS = xs.map toS ++ (ys.map (Lx.shift (l0.length + 1))).map toS := List.map_append ..
      have hk1 : ((xs ++ ys.map (Lx.shift (l0.length + 1))).map toS).length = xs.length + ys.length := by simp
      have hk2 : (xs.map toS).length = xs.length := by simp
      have hk3 : (ys.map toS).length = ys.length := by simp
      have ht : ((xs ++ ys.map (Lx.shift (l0.length + 1))).map toS).take xs.length = (xs.map (Lx.shift 0)).map toS := by rw [hm, map_shift0]; exact List.take_left' hk2
      have hd : ((xs ++ ys.map (Lx.shift (l0.length + 1))).map toS).drop xs.length = (ys.map (Lx.shift (l0.length + 1))).map toS := by rw [hm]; exact List.drop_left' hk2
      have hS1 := same_true xs 0 (by omega) (fun x hx => by have := px x hx; omega) k (by omega)
      have hS2 := same_true ys (l0.length + 1) (by omega) (fun x hx => by have := py x hx; omega) k (by omega)
      refine parts_clean k a0 a1 _ _ _ _ _ _ _ _ _ (sizes_ok a0 a1 l0 l1 z0 z1 h0 h1).1 (sizes_ok a0 a1 l0 l1 z0 z1 h0 h1).2 L0 L1 L2 rfl rfl rfl ?_ ?_ ?_ ((l0.length + 1 : Nat) : Int) (by rw [z0]; exact wn _ (Nat.le_trans h0 (by decide))) ?_ ?_
      · rw [hk1, hk2, hk3]; exact (wadd _ _ (by omega)).symm
      · exact Int.natCast_nonneg _
      · rw [hk1, hk2]; omega
      · rw [hk2, ht]; exact hS1
      · rw [hk2, hd]; exact hS2
    · have L1 := lex_of hl1 e1
      have pp := founds_pos _ l1 0 x (Nat.le_refl _) (by rw [q1]; simp)
      have hlp : pre.length ≤ l1.length := by rw [q1, List.length_append] at n1; simp only [List.length_cons, List.length_nil] at n1; omega
      have e2 : Lx.lexS (l0 ++ 10 :: l1) = ([], x.err, ((x.pos + (l0.length + 1) : Nat) : Int)) := by
        refine Lx.lexS_err (pre := Lx.founds 0 l0 ++ pre.map (Lx.shift (l0.length + 1))) (x := Lx.shift (l0.length + 1) x) (by rw [List.length_append, List.length_cons]; omega) ?_ ?_ ?_ q3
        · rw [List.length_append, List.length_map]; omega
        · rw [hf, q1, List.map_append, List.append_assoc]; rfl
        · intro y hy
          rcases List.mem_append.1 hy with hy | hy
          · exact c0 y hy
          · obtain ⟨z, hz, rfl⟩ := List.mem_map.1 hy
            exact q2 z hz
      have L2 := lex_of hcat e2
      simp only [planispherelaw08_LexerParts.j0]
      rw [if_neg (by decide), L0, L1]
      simp only [Option.bind_some]
      rw [if_pos (sizes_ok a0 a1 l0 l1 z0 z1 h0 h1).1, if_pos (sizes_ok a0 a1 l0 l1 z0 z1 h0 h1).2, L2]
      simp only [Option.bind_some]
      rw [if_pos (by rfl), if_neg (by omega), if_pos trivial, if_pos trivial, z0]
      rw [wadd _ _ (by omega), wn _ (by omega), Nat.add_assoc, beq_self_eq_true]
  · have L0 := lex_of hl0 e0
    have hnc : ¬ Lx.Clean 0 l0 := fun h => q3 (h x (by rw [q1]; simp))
    have hn2 := Lx.not_clean_line _ l0 l1 0 (Nat.le_refl _) hnc
    obtain ⟨b1, b2, b3, L1⟩ : ∃ b1 b2 b3, lexer_Lex.f a1 = some (b1, b2, b3) := ⟨_, _, _, rfl⟩
    rcases Lx.lexS_short (l := l0 ++ 10 :: l1) (by rw [List.length_append, List.length_cons]; omega) with ⟨c1, e2⟩ | ⟨pre', x', q1', q2', q3', e2⟩
    · exact absurd c1 hn2
    · have L2 := lex_of hcat e2
      simp only [planispherelaw08_LexerParts.j0]
      rw [if_neg (by decide), L0, L1]
      simp only [Option.bind_some]
      rw [if_pos (sizes_ok a0 a1 l0 l1 z0 z1 h0 h1).1, if_pos (sizes_ok a0 a1 l0 l1 z0 z1 h0 h1).2, L2]
      simp only [Option.bind_some]
      rw [if_neg (by omega), if_pos trivial]
      have : ((x'.err : Int) != 0) = true := by rw [bne_iff_ne]; omega
      rw [this]
theorem LexerParts : planispherelaw08_LexerParts.Pure := by
  intro a0 a1 h0 h1
  refine ⟨10000, ?_⟩
  unfold planispherelaw08_LexerParts.f
  rw [head_true 9998]
  simp only [Option.bind_some]
  by_cases c0 : (a0.size : Int) > 1500
  · rw [if_pos c0]; rfl
  · rw [if_neg c0]
    by_cases c1 : (a1.size : Int) > 1500
    · rw [decide_eq_true c1]; rfl
    · rw [decide_eq_false c1]
      exact parts_j0 9999 (by decide) a0 a1 (by omega) (by omega)
end Go.Proofs.Ytflocikkhpjicaa.Pure
