/- What lexer.unquoted answers. -/
import Derived.Test.YtflocikkhpjicaaWalkQuote
namespace Go.Proofs.Ytflocikkhpjicaa.P
open Go.RowKit Go.Proofs.YtflocikkhpjicaaW.PrintWords Go.Proofs.YtflocikkhpjicaaW.PrintLast Go.Proofs.YtflocikkhpjicaaW.PrintMore
set_option linter.unusedVariables false
set_option linter.unusedSimpArgs false
/-- the text and the length -/
def unqt (l : List UInt8) : List UInt8 := match Lx.str (l.drop 1) with | none => [] | some r => r.1
def unqn (l : List UInt8) : Nat := match Lx.str (l.drop 1) with | none => 0 | some r => r.2 + 1
theorem unq_none {l : List UInt8} (h : Lx.str (l.drop 1) = none) : unqt l = [] ∧ unqn l = 0 := by unfold unqt unqn; rw [h]; exact ⟨rfl, rfl⟩
theorem unq_some {l t : List UInt8} {n : Nat} (h : Lx.str (l.drop 1) = some (t, n)) : unqt l = t ∧ unqn l = n + 1 := by unfold unqt unqn; rw [h]; exact ⟨rfl, rfl⟩
theorem call_idx3 (d k : Int) (w : World) (h : Lib.indexByte [92, 34, 110] d.toNat.toUInt8 = k) :
    Calls Try.prog 39 #[.string ⟨#[92, 34, 110]⟩, .int .u8 d] w fun e w' => e = .returned (.int .i64 k) ∧ w = w' := by
  subst h; exact call_IndexByte _ d w
theorem idx3 {s : ByteArray} {x : Int} {d : UInt8} (hb : bt s x = (d.toNat : Int)) : Lib.indexByte [92, 34, 110] (bt s x).toNat.toUInt8 = if d = 92 then 0 else if d = 34 then 1 else if d = 110 then 2 else -1 := by
  have : ∀ k : Fin 256, Lib.indexByte [92, 34, 110] (UInt8.ofNat k.1) = if UInt8.ofNat k.1 = 92 then 0 else if UInt8.ofNat k.1 = 34 then 1 else if UInt8.ofNat k.1 = 110 then 2 else -1 := by decide +kernel
  rw [hb]
  have := Lx.all_bytes (p := fun d => Lib.indexByte [92, 34, 110] d = if d = 92 then 0 else if d = 34 then 1 else if d = 110 then 2 else -1) this d
  simpa using this
theorem ret_sn {a b : ByteArray} {m n : Int} (h : a = b) (k : m = n) : Ending.returned (.tuple #[.string a, .int .i64 m]) = .returned (.tuple #[.string b, .int .i64 n]) := by rw [h, k]
theorem len_list (s : ByteArray) : s.data.toList.length = s.size := by simp
theorem em3 (d : UInt8) : d = 92 ∨ d = 34 ∨ d = 110 ∨ (d ≠ 92 ∧ d ≠ 34 ∧ d ≠ 110) := by
  by_cases h1 : d = 92
  · exact .inl h1
  · by_cases h2 : d = 34
    · exact .inr (.inl h2)
    · by_cases h3 : d = 110
      · exact .inr (.inr (.inl h3))
      · exact .inr (.inr (.inr ⟨h1, h2, h3⟩))
set_option maxHeartbeats 4000000 in
set_option maxRecDepth 100000 in
theorem unquoted_any (s : ByteArray) (w : World) (hs : s.size ≤ 1099511627776) : Calls Try.prog 35 #[.string s] w fun e w' => e = .returned (.tuple #[.string ⟨(unqt s.data.toList).toArray⟩, .int .i64 (unqn s.data.toList)]) ∧ Below w.heap.size w w' := by
  go_enter Try.func35, Try.ntmps35
  have hI0 := Lib.fresh_isBuilder 55 5 w
  have hB0 : Below w.heap.size w (w.alloc (.cells #[.pointer none, .slice none 0 0] 55)) := (Below.refl _ w).alloc (Nat.le_refl _) _
  have HI := Aside0.mk hI0
  have HB := Aside0.mk hB0
  clear hI0 hB0
  go_wp2
  go_loopw [5, 6, 7] (fun i _ _ wr => ∃ (x : Int) (acc : List UInt8), i = .int .i64 x ∧ Aside0 (1 ≤ x ∧ x ≤ s.size + 1) ∧ Aside0 (Lib.IsBuilder 55 5 w.heap.size w.heap.size (Lib.byteCells acc) wr) ∧ Aside0 (Below w.heap.size w wr) ∧ Aside0 (Lx.StrTo s.data.toList x.toNat acc)) (fun i _ _ _ => s.size + 1 - (intOf i).toNat)
  case atStart => exact ⟨1, [], rfl, ⟨by omega, by omega⟩, HI, HB, ⟨Lx.strTo_one _⟩⟩
  case round =>
    obtain ⟨x, acc, rfl, hX, hI, hB, HS⟩ := hrel
    clear HI HB
    have HI := hI
    have HB := hB
    clear hI hB
    by_cases hlt : x < s.size
    · obtain ⟨c, hcl, hb⟩ := byte_at s x (by have := hX.out; omega) hlt
      have HC := Aside0.mk hcl
      have HBT := Aside0.mk hb
      have p5 := eq_true (show (0 : Int) ≤ x by have := hX.out; omega)
      have q5 := eq_true hlt
      have hx5 := bt_at s x
      have p6 : decide (x < s.size) = true := decide_eq_true hlt
      have hw1 : wrap64 (x + 1) = x + 1 := by have := hX.out; unfold wrap64; omega
      have hw2 : wrap64 (x + 1 + 1) = x + 2 := by have := hX.out; unfold wrap64; omega
      have t34 : (bt s x == 34) = decide (c = 34) := byte_is hb 34 (by omega)
      have t10 : (bt s x == 10) = decide (c = 10) := byte_is hb 10 (by omega)
      have t92 : (bt s x == 92) = decide (c = 92) := byte_is hb 92 (by omega)
      have HL : Aside0 (acc.length ≤ x.toNat) := ⟨HS.out.2.1⟩
      by_cases e34 : c = 34
      · rw [decide_eq_true e34] at t34
        subst e34
        have hr := unq_some (Lx.strTo_quote HS.out hcl)
        have HR := Aside0.mk hr
        clear hb hcl hlt hr t10 t92
        go_wp2_with (go_at_call 32; refine (call_String w.heap.size w.heap.size _ _ HI.out HB.out.size).mono ?_; rintro e w2 ⟨rfl, hB2⟩; have n1_ := Aside0.mk (HB.out.trans hB2); clear HB hB2; have HB := n1_; clear n1_)
        go_ret2
        exact ⟨ret_sn (by rw [HR.out.1]) (by rw [HR.out.2]; have := hX.out; first | omega | (rw [hw1]; omega)), HB.out⟩
      · rw [decide_eq_false e34] at t34
        by_cases e10 : c = 10
        · rw [decide_eq_true e10] at t10
          subst e10
          have hr := unq_none (Lx.strTo_line HS.out hcl)
          have HR := Aside0.mk hr
          clear hb hcl hlt hr t92
          go_wp2
          go_ret2
          exact ⟨ret_sn (by rw [HR.out.1]) (by rw [HR.out.2]; rfl), HB.out⟩
        · rw [decide_eq_false e10] at t10
          by_cases e92 : c = 92
          · rw [decide_eq_true e92] at t92
            subst e92
            by_cases hlt2 : x + 1 < s.size
            · obtain ⟨d, hdl, hd⟩ := byte_at s (x + 1) (by have := hX.out; omega) hlt2
              have p7 := eq_true (show (0 : Int) ≤ x + 1 by have := hX.out; omega)
              have q7 := eq_true hlt2
              have hx7 := bt_at s (x + 1)
              have p8 : decide (x + 1 < s.size) = true := decide_eq_true hlt2
              have HD := Aside0.mk hdl
              rcases em3 d with rfl | rfl | rfl | hn
              · have hk : Lib.indexByte [92, 34, 110] (bt s (x + 1)).toNat.toUInt8 = 0 := (idx3 hd).trans (by decide)
                have HK := Aside0.mk hk
                clear hb hcl hlt hlt2 hdl hd hk
                go_wp2_with (first
                  | (go_at_call 39; refine (call_idx3 _ _ _ HK.out).mono ?_; rintro e w2 ⟨rfl, rfl⟩)
                  | (go_at_call 30; refine (call_WriteByte w.heap.size w.heap.size _ _ _ HI.out (by have h_ := HL.out; have h2_ := hX.out; simp only [Lib.byteCells_length]; omega) HB.out.size).mono ?_; rintro e w2 ⟨rfl, hI2, hB2⟩; have n0_ := Aside0.mk (show Lib.IsBuilder 55 5 w.heap.size w.heap.size _ w2 from Or.inr hI2); have n1_ := Aside0.mk (HB.out.trans hB2); clear HI HB hI2 hB2; have HI := n0_; have HB := n1_; clear n0_ n1_))
                go_roundw
                case rel =>
                  refine ⟨x + 2, acc ++ [92], by rw [hw2], ⟨by have := hX.out; have := of_eq_true q7; omega⟩, ⟨by rw [Lib.byteCells_append]; exact HI.out⟩, HB, ⟨?_⟩⟩
                  rw [show (x + 2).toNat = x.toNat + 2 by have := hX.out; omega]
                  have hD := HD.out
                  rw [show (x + 1).toNat = x.toNat + 1 by have := hX.out; omega] at hD
                  exact Lx.strTo_esc HS.out HC.out hD (by decide)
                case measure =>
                  have := of_eq_true q7
                  have := hX.out
                  simp only [intOf, hw2]
                  omega
              · have hk : Lib.indexByte [92, 34, 110] (bt s (x + 1)).toNat.toUInt8 = 1 := (idx3 hd).trans (by decide)
                have HK := Aside0.mk hk
                clear hb hcl hlt hlt2 hdl hd hk
                go_wp2_with (first
                  | (go_at_call 39; refine (call_idx3 _ _ _ HK.out).mono ?_; rintro e w2 ⟨rfl, rfl⟩)
                  | (go_at_call 30; refine (call_WriteByte w.heap.size w.heap.size _ _ _ HI.out (by have h_ := HL.out; have h2_ := hX.out; simp only [Lib.byteCells_length]; omega) HB.out.size).mono ?_; rintro e w2 ⟨rfl, hI2, hB2⟩; have n0_ := Aside0.mk (show Lib.IsBuilder 55 5 w.heap.size w.heap.size _ w2 from Or.inr hI2); have n1_ := Aside0.mk (HB.out.trans hB2); clear HI HB hI2 hB2; have HI := n0_; have HB := n1_; clear n0_ n1_))
                go_roundw
                case rel =>
                  refine ⟨x + 2, acc ++ [34], by rw [hw2], ⟨by have := hX.out; have := of_eq_true q7; omega⟩, ⟨by rw [Lib.byteCells_append]; exact HI.out⟩, HB, ⟨?_⟩⟩
                  rw [show (x + 2).toNat = x.toNat + 2 by have := hX.out; omega]
                  have hD := HD.out
                  rw [show (x + 1).toNat = x.toNat + 1 by have := hX.out; omega] at hD
                  exact Lx.strTo_esc HS.out HC.out hD (by decide)
                case measure =>
                  have := of_eq_true q7
                  have := hX.out
                  simp only [intOf, hw2]
                  omega
              · have hk : Lib.indexByte [92, 34, 110] (bt s (x + 1)).toNat.toUInt8 = 2 := (idx3 hd).trans (by decide)
                have HK := Aside0.mk hk
                clear hb hcl hlt hlt2 hdl hd hk
                go_wp2_with (first
                  | (go_at_call 39; refine (call_idx3 _ _ _ HK.out).mono ?_; rintro e w2 ⟨rfl, rfl⟩)
                  | (go_at_call 30; refine (call_WriteByte w.heap.size w.heap.size _ _ _ HI.out (by have h_ := HL.out; have h2_ := hX.out; simp only [Lib.byteCells_length]; omega) HB.out.size).mono ?_; rintro e w2 ⟨rfl, hI2, hB2⟩; have n0_ := Aside0.mk (show Lib.IsBuilder 55 5 w.heap.size w.heap.size _ w2 from Or.inr hI2); have n1_ := Aside0.mk (HB.out.trans hB2); clear HI HB hI2 hB2; have HI := n0_; have HB := n1_; clear n0_ n1_))
                go_roundw
                case rel =>
                  refine ⟨x + 2, acc ++ [10], by rw [hw2], ⟨by have := hX.out; have := of_eq_true q7; omega⟩, ⟨by rw [Lib.byteCells_append]; exact HI.out⟩, HB, ⟨?_⟩⟩
                  rw [show (x + 2).toNat = x.toNat + 2 by have := hX.out; omega]
                  have hD := HD.out
                  rw [show (x + 1).toNat = x.toNat + 1 by have := hX.out; omega] at hD
                  exact Lx.strTo_esc HS.out HC.out hD (by decide)
                case measure =>
                  have := of_eq_true q7
                  have := hX.out
                  simp only [intOf, hw2]
                  omega
              · have hk : Lib.indexByte [92, 34, 110] (bt s (x + 1)).toNat.toUInt8 = -1 := by rw [idx3 hd, if_neg hn.1, if_neg hn.2.1, if_neg hn.2.2]
                have HK := Aside0.mk hk
                rw [show (x + 1).toNat = x.toNat + 1 by have := hX.out; omega] at hdl
                have hr := unq_none (Lx.strTo_other HS.out hcl hdl hn.1 hn.2.1 hn.2.2)
                have HR := Aside0.mk hr
                clear hb hcl hlt hlt2 hdl hd hk hr hn
                go_wp2_with (go_at_call 39; refine (call_idx3 _ _ _ HK.out).mono ?_; rintro e w2 ⟨rfl, rfl⟩)
                go_ret2
                exact ⟨ret_sn (by rw [HR.out.1]) (by rw [HR.out.2]; rfl), HB.out⟩
            · have p8 : decide (x + 1 < s.size) = false := decide_eq_false hlt2
              have hr := unq_none (Lx.strTo_last HS.out hcl (by rw [len_list]; have := hX.out; omega))
              have HR := Aside0.mk hr
              clear hb hcl hlt hlt2 hr
              go_wp2
              go_ret2
              exact ⟨ret_sn (by rw [HR.out.1]) (by rw [HR.out.2]; rfl), HB.out⟩
          · rw [decide_eq_false e92] at t92
            clear hb hcl hlt
            go_wp2_with (go_at_call 30; refine (call_WriteByte w.heap.size w.heap.size _ _ _ HI.out (by have h_ := HL.out; have h2_ := hX.out; simp only [Lib.byteCells_length]; omega) HB.out.size).mono ?_; rintro e w2 ⟨rfl, hI2, hB2⟩; have n0_ := Aside0.mk (show Lib.IsBuilder 55 5 w.heap.size w.heap.size _ w2 from Or.inr hI2); have n1_ := Aside0.mk (HB.out.trans hB2); clear HI HB hI2 hB2; have HI := n0_; have HB := n1_; clear n0_ n1_)
            go_roundw
            case rel =>
              refine ⟨x + 1, acc ++ [c], by rw [hw1], ⟨by have := hX.out; have := of_eq_true q5; omega⟩, ⟨by rw [Lib.byteCells_append]; have hI := HI.out; rw [HBT.out] at hI; exact hI⟩, HB, ⟨?_⟩⟩
              rw [show (x + 1).toNat = x.toNat + 1 by have := hX.out; omega]
              exact Lx.strTo_byte HS.out HC.out e34 e10 e92
            case measure =>
              have := of_eq_true q5
              have := hX.out
              simp only [intOf, hw1]
              omega
    · have p6 : decide (x < s.size) = false := decide_eq_false hlt
      have hr := unq_none (Lx.strTo_end HS.out (by rw [len_list]; have := hX.out; omega))
      have HR := Aside0.mk hr
      clear hlt hr
      go_wp2
      go_ret2
      exact ⟨ret_sn (by rw [HR.out.1]) (by rw [HR.out.2]; rfl), HB.out⟩
end Go.Proofs.Ytflocikkhpjicaa.P
