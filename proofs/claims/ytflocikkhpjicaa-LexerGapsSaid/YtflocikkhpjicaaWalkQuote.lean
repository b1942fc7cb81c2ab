/- What lexer.Quote answers. -/
import Derived.Test.YtflocikkhpjicaaWalkName
namespace Go.Proofs.Ytflocikkhpjicaa.P
open Go.RowKit Go.Proofs.YtflocikkhpjicaaW.PrintWords Go.Proofs.YtflocikkhpjicaaW.PrintLast Go.Proofs.YtflocikkhpjicaaW.PrintMore
set_option linter.unusedVariables false
set_option linter.unusedSimpArgs false
theorem byte_is {s : ByteArray} {x : Int} {c : UInt8} (h : bt s x = (c.toNat : Int)) (k : Nat) (hk : k < 256) : (bt s x == (k : Int)) = decide (c = UInt8.ofNat k) := by
  rw [h, Bool.eq_iff_iff]
  simp only [beq_iff_eq, decide_eq_true_eq]
  constructor
  · intro e
    have : c.toNat = k := by omega
    rw [← this]; simp
  · rintro rfl
    simp; omega
theorem esc_step {l : List UInt8} {k : Nat} {c : UInt8} (h : l[k]? = some c) : Lib.byteCells (34 :: (l.take (k + 1)).flatMap Lx.esc) = Lib.byteCells (34 :: (l.take k).flatMap Lx.esc) ++ Lib.byteCells (Lx.esc c) := by
  rw [← Lib.byteCells_append, List.take_add_one, h]
  simp
theorem size_esc : (⟨#[92, 110]⟩ : ByteArray).size = 2 := rfl
theorem ret_string {a b : ByteArray} (h : a = b) : Ending.returned (.string a) = .returned (.string b) := by rw [h]
set_option maxHeartbeats 1000000 in
set_option maxRecDepth 100000 in
theorem quote_any (s : ByteArray) (w : World) (hs : s.size ≤ 1099511627776) : Calls Try.prog 17 #[.string s] w fun e w' => e = .returned (.string ⟨(Lx.quote s.data.toList).toArray⟩) ∧ Below w.heap.size w w' := by
  go_enter Try.func17, Try.ntmps17
  have hI0 := Lib.fresh_isBuilder 55 5 w
  have hB0 : Below w.heap.size w (w.alloc (.cells #[.pointer none, .slice none 0 0] 55)) := (Below.refl _ w).alloc (Nat.le_refl _) _
  have HI := Aside0.mk hI0
  have HB := Aside0.mk hB0
  clear hI0 hB0
  go_wp2_with (go_at_call 30; refine (call_WriteByte w.heap.size w.heap.size _ _ _ HI.out (by simp) HB.out.size).mono ?_; rintro e w2 ⟨rfl, hI2, hB2⟩; have n0_ := Aside0.mk (Or.inr hI2 : Lib.IsBuilder 55 5 w.heap.size w.heap.size ([] ++ [.int .u8 34]) w2); have n1_ := Aside0.mk (HB.out.trans hB2); clear HI HB hI2 hB2; have HI := n0_; have HB := n1_; clear n0_ n1_)
  go_loopw [4, 5, 9] (fun _ _ i wr => ∃ x : Int, i = .int .i64 x ∧ Aside0 (0 ≤ x ∧ x ≤ s.size) ∧ Aside0 (Lib.IsBuilder 55 5 w.heap.size w.heap.size (Lib.byteCells (34 :: (s.data.toList.take x.toNat).flatMap Lx.esc)) wr) ∧ Aside0 (Below w.heap.size w wr)) (fun _ _ i _ => s.size - (intOf i).toNat)
  case atStart => exact ⟨0, rfl, ⟨by omega, by omega⟩, HI, HB⟩
  case round =>
    obtain ⟨x, rfl, hX, hI, hB⟩ := hrel
    clear HI HB
    have HI := hI
    have HB := hB
    clear hI hB
    by_cases hlt : x < s.size
    · obtain ⟨c, hcl, hb⟩ := byte_at s x hX.out.1 hlt
      have HC := Aside0.mk hcl
      have HBT := Aside0.mk hb
      have p5 := eq_true hX.out.1
      have q5 := eq_true hlt
      have hx5 := bt_at s x
      have p6 : decide (x < s.size) = true := decide_eq_true hlt
      have hl1 := List.length_take_le' x.toNat s.data.toList
      have hl2 : s.data.toList.length = s.size := by simp
      have hl3 := Lx.escs_le (s.data.toList.take x.toNat)
      have HL : Aside0 (((s.data.toList.take x.toNat).flatMap Lx.esc).length ≤ 2 * s.size) := ⟨by omega⟩
      clear hl1 hl2 hl3
      clear hb hcl hlt
      go_wp2_with (first
        | (go_at_call 30; refine (call_WriteByte w.heap.size w.heap.size _ _ _ HI.out (by have h_ := HL.out; simp only [Lib.byteCells_length, List.length_append, List.length_cons, List.length_nil, size_esc]; omega) HB.out.size).mono ?_; rintro e w2 ⟨rfl, hI2, hB2⟩; have n0_ := Aside0.mk (show Lib.IsBuilder 55 5 w.heap.size w.heap.size _ w2 from Or.inr hI2); have n1_ := Aside0.mk (HB.out.trans hB2); clear HI HB hI2 hB2; have HI := n0_; have HB := n1_; clear n0_ n1_)
        | (go_at_call 31; refine (call_WriteString w.heap.size w.heap.size _ _ _ HI.out (by have h_ := HL.out; simp only [Lib.byteCells_length, List.length_append, List.length_cons, List.length_nil, size_esc]; omega) HB.out.size).mono ?_; rintro e w2 ⟨rfl, hI2, hB2⟩; have n0_ := Aside0.mk (show Lib.IsBuilder 55 5 w.heap.size w.heap.size _ w2 from Or.inr hI2); have n1_ := Aside0.mk (HB.out.trans hB2); clear HI HB hI2 hB2; have HI := n0_; have HB := n1_; clear n0_ n1_))
      all_goals
        have t10 : (bt s x == 10) = decide (c = 10) := byte_is HBT.out 10 (by omega)
        have t34 : (bt s x == 34) = decide (c = 34) := byte_is HBT.out 34 (by omega)
        have t92 : (bt s x == 92) = decide (c = 92) := byte_is HBT.out 92 (by omega)
        go_roundw
        case rel =>
          have hw : wrap64 (x + 1) = x + 1 := by have := hX.out; unfold wrap64; omega
          refine ⟨x + 1, by rw [hw], ⟨by have := hX.out; have := of_eq_true q5; omega⟩, ⟨?_⟩, HB⟩
          rw [show (x + 1).toNat = x.toNat + 1 by have := hX.out; omega, esc_step HC.out]
          have hI := HI.out
          try rw [HBT.out] at hI
          by_cases e10 : c = 10
          · subst e10
            first
            | exact hI
            | (exfalso; clear hI HI HB HBT HC; grind)
          · by_cases e2 : c = 34 ∨ c = 92
            · rw [show Lx.esc c = [92, c] by unfold Lx.esc; rw [if_neg e10, if_pos e2]]
              first
              | (rw [List.append_assoc] at hI; exact hI)
              | (exfalso; clear hI HI HB HBT HC; grind)
            · rw [show Lx.esc c = [c] by unfold Lx.esc; rw [if_neg e10, if_neg e2]]
              first
              | exact hI
              | (exfalso; clear hI HI HB HBT HC; grind)
        case measure =>
          have hw : wrap64 (x + 1) = x + 1 := by have := hX.out; unfold wrap64; omega
          have := of_eq_true q5
          have := hX.out
          simp only [intOf, hw]
          omega
    · have p6 : decide (x < s.size) = false := decide_eq_false hlt
      have hl2 : s.data.toList.length = s.size := by simp
      have hx : s.data.toList.take x.toNat = s.data.toList := List.take_of_length_le (by have := hX.out; omega)
      rw [hx] at HI
      have hl3 := Lx.escs_le s.data.toList
      have HL : Aside0 ((s.data.toList.flatMap Lx.esc).length ≤ 2 * s.size) := ⟨by omega⟩
      have HE : Aside0 (∀ w', Lib.IsBuilder 55 5 w.heap.size w.heap.size (Lib.byteCells (34 :: s.data.toList.flatMap Lx.esc) ++ [.int .u8 34]) w' → Lib.IsBuilder 55 5 w.heap.size w.heap.size (Lib.byteCells (Lx.quote s.data.toList)) w') := ⟨fun w' h => by
        rw [show Lx.quote s.data.toList = 34 :: s.data.toList.flatMap Lx.esc ++ [34] from rfl, Lib.byteCells_append]; exact h⟩
      clear hl2 hl3 hx hlt
      go_wp2_with (first
        | (go_at_call 30; refine (call_WriteByte w.heap.size w.heap.size _ _ _ HI.out (by have h_ := HL.out; simp only [Lib.byteCells_length, List.length_cons]; omega) HB.out.size).mono ?_; rintro e w2 ⟨rfl, hI2, hB2⟩; have n0_ := Aside0.mk (HE.out _ (Or.inr hI2)); have n1_ := Aside0.mk (HB.out.trans hB2); clear HI HB hI2 hB2; have HI := n0_; have HB := n1_; clear n0_ n1_)
        | (go_at_call 32; refine (call_String w.heap.size w.heap.size _ _ HI.out HB.out.size).mono ?_; rintro e w2 ⟨rfl, hB2⟩; have n1_ := Aside0.mk (HB.out.trans hB2); clear HB hB2; have HB := n1_; clear n1_))
      go_ret
      exact ⟨rfl, HB.out⟩
end Go.Proofs.Ytflocikkhpjicaa.P
