/- What the iterator of lexer.tokens does: it hands out the found things of its text, one after the other. -/
import Derived.Test.YtflocikkhpjicaaWalkStr
import Derived.Test.YtflocikkhpjicaaLexToks
import Derived.Test.YtflocikkhpjicaaScopeIn
import Derived.RangeFuncNested
import Derived.RangeFuncBound
import Derived.RangeFuncCalls
import Derived.RangeFuncLeaves
import Derived.Shelf.Abstract
import Derived.Shelf.RegionOpen
import Derived.OwnWalkIn
import Derived.TacticsInMore
import Derived.LoopNIn
import Derived.LoopIn
import Derived.RegionTactic
import Derived.BigRegion
namespace Go.Proofs.Ytflocikkhpjicaa.P
open Go.RowKit Go.Proofs.YtflocikkhpjicaaW.PrintWords Go.Proofs.YtflocikkhpjicaaW.PrintLast Go.Proofs.YtflocikkhpjicaaW.PrintMore
set_option linter.unusedVariables false
set_option linter.unusedSimpArgs false
set_option maxHeartbeats 1000000 in
set_option maxRecDepth 100000 in
theorem at_any (s : ByteArray) (i : Int) (gt gc : Nat) (w : World) (h0 : 0 ≤ i) (hs : s.size ≤ 1099511627776) (ht : w.heap[gt]? = some (.cells #[.string s] 9 (0, 0))) (hc : w.heap[gc]? = some (.cells classRow 49 (0, 0))) :
    Calls Try.prog 33 #[.int .i64 i, .pointer (some ⟨gt, 0, none⟩), .pointer (some ⟨gc, 0, none⟩)] w fun e w' => e = .returned (.int .u8 (Lx.clsAt s.data.toList i.toNat)) ∧ w = w' := by
  have ht0 : w.cell? ⟨gt, 0, none⟩ = some (.string s) := (cell_of_row _ _ _ _ _ _ ht).trans rfl
  have hu := Try.underlying49
  by_cases hlt : i < s.size
  · obtain ⟨c, hcl, hb⟩ := byte_at s i h0 hlt
    have hv : Lx.clsAt s.data.toList i.toNat = Lx.cls c := by unfold Lx.clsAt; rw [hcl]
    rw [hv]
    have hc1 : w.cell? ⟨gc, (bt s i).toNat, none⟩ = some (.int .u8 (Lx.cls c)) := by
      rw [cell_of_row _ _ _ _ _ _ hc, hb]
      have := c.toNat_lt
      simp [classRow, this]
    have hl1 : 0 ≤ bt s i := by rw [hb]; omega
    have hl2 : bt s i < 256 := by rw [hb]; have := c.toNat_lt; omega
    have p5 := eq_true h0
    have q5 := eq_true hlt
    have hx5 := bt_at s i
    have p6 : decide (i < s.size) = true := decide_eq_true hlt
    have p7 : decide ((s.size : Int) ≤ i) = false := decide_eq_false (by omega)
    clear hb hcl hv h0 hlt ht hc
    go_enter Try.func33, Try.ntmps33
    go_wp2
    go_ret
    exact ⟨rfl, rfl⟩
  · have hv : Lx.clsAt s.data.toList i.toNat = 0 := by unfold Lx.clsAt; rw [List.getElem?_eq_none (by rw [len_list]; omega)]
    rw [hv]
    have p7 : decide ((s.size : Int) ≤ i) = true := decide_eq_true (by omega)
    clear hlt hv ht hc
    go_enter Try.func33, Try.ntmps33
    go_wp2
    go_ret
    exact ⟨rfl, rfl⟩
theorem ext_text (s : ByteArray) (k n : Nat) : (⟨((s.data.toList.drop k).take n).toArray⟩ : ByteArray) = s.extract k (k + n) := by
  apply ByteArray.ext
  apply Array.ext'
  simp
theorem ext_rest (s : ByteArray) (k : Nat) : (s.extract k s.size).data.toList = s.data.toList.drop k := by
  simp
  exact List.take_of_length_le (by simp)
theorem ext_rest_le (s : ByteArray) (k : Nat) : (s.extract k s.size).size ≤ s.size := by simp
/-- what the body of a loop over tokens keeps: every block but its own variable b and rows of tokens -/
def KeepT (b : Nat) (w w' : World) : Prop := ∀ k cs T, k ≠ b → T ≠ 31 → w.heap[k]? = some (.cells cs T (0, 0)) → w'.heap[k]? = some (.cells cs T (0, 0))
def encF (x : Lx.Fd) : Array Value := #[.agg #[.int .i64 x.kind, .string ⟨x.text.toArray⟩, .int .i64 x.pos, .int .i64 x.err]]
theorem call_at {s : ByteArray} {i : Int} {gt gc : Nat} {w : World} (v : Int) (hv : (Lx.clsAt s.data.toList i.toNat : Int) = v) (h0 : 0 ≤ i) (hs : s.size ≤ 1099511627776) (ht : w.heap[gt]? = some (.cells #[.string s] 9 (0, 0))) (hc : w.heap[gc]? = some (.cells classRow 49 (0, 0))) :
    Calls Try.prog 33 #[.int .i64 i, .pointer (some ⟨gt, 0, none⟩), .pointer (some ⟨gc, 0, none⟩)] w fun e w' => e = .returned (.int .u8 v) ∧ w = w' := by
  subst hv; exact at_any s i gt gc w h0 hs ht hc
set_option maxHeartbeats 4000000 in
set_option maxRecDepth 100000 in
theorem iter_any (l : Nat) (s : ByteArray) (gt gc ga b n : Nat) (J Jx : List Lx.Fd → World → Prop) (w : World) (hs : s.size ≤ 1099511627776)
    (ht : w.heap[gt]? = some (.cells #[.string s] 9 (0, 0))) (hc : w.heap[gc]? = some (.cells classRow 49 (0, 0))) (ha : w.heap[ga]? = some (.cells #[.func (.func 33) #[] #[.pointer (some ⟨gt, 0, none⟩), .pointer (some ⟨gc, 0, none⟩)]] 62 (0, 0)))
    (hbt : gt ≠ b) (hbc : gc ≠ b) (hba : ga ≠ b) (hb : b < w.heap.size) (hJ : AbidesFrom w.heap.size J) (h0 : J [] w)
    (hY : ∀ pre x W1, J pre W1 → pre.length < (Lx.founds 0 s.data.toList).length → YieldAt Fence.wide n Try.prog l (encF x) W1 fun e W' =>
      (e = .returned (.bool true) ∧ J (pre ++ [x]) W' ∧ KeepT b W1 W') ∨ (e = .returned (.bool false) ∧ Jx (pre ++ [x]) W')) :
    Calls Try.prog 34 #[.func (.yield l) #[] #[], .pointer (some ⟨gt, 0, none⟩), .pointer (some ⟨ga, 0, none⟩)] w fun e W' => (∃ v, e = .returned v) ∧
      ((∃ xs, xs = Lx.founds 0 s.data.toList ∧ J xs W') ∨ (∃ pre, pre <+: Lx.founds 0 s.data.toList ∧ Jx pre W')) := by
  have HT := Aside0.mk ht
  have HC := Aside0.mk hc
  have HA := Aside0.mk ha
  have HJ0 := Aside0.mk h0
  have HY := Aside0.mk hY
  have HJ := Aside0.mk hJ
  have HN := Aside0.mk (And.intro hbt (And.intro hbc (And.intro hba hb)))
  clear ht hc ha h0 hY hJ hbt hbc hba hb
  go_enter Try.func34, Try.ntmps34
  go_wp2
  refine wp_scope_straight ?_
  go_wp2
  refine wp_label ?_
  go_wp2
  go_loopw [4] (fun i wr => ∃ (x : Int) (pre : List Lx.Fd), i = .int .i64 x ∧ Aside0 (0 ≤ x ∧ x ≤ s.size) ∧ Aside0 (Lx.Read s.data.toList x.toNat pre) ∧ Aside0 (J pre wr) ∧ Aside0 (w.heap.size ≤ wr.heap.size) ∧ Aside0 (wr.heap[gt]? = some (.cells #[.string s] 9 (0, 0))) ∧ Aside0 (wr.heap[gc]? = some (.cells classRow 49 (0, 0))) ∧ Aside0 (wr.heap[ga]? = some (.cells #[.func (.func 33) #[] #[.pointer (some ⟨gt, 0, none⟩), .pointer (some ⟨gc, 0, none⟩)]] 62 (0, 0)))) (fun i _ => s.size + 1 - (intOf i).toNat)
  case atStart => exact ⟨0, [], rfl, ⟨by omega, by omega⟩, ⟨Lx.read_zero _⟩, HJ0, ⟨Nat.le_refl _⟩, HT, HC, HA⟩
  case round =>
    obtain ⟨x, pre, rfl, hX, HR, HJp, HS, hT, hC, hA⟩ := hrel
    clear HT HC HA HJ0
    have HT := hT
    have HC := hC
    have HA := hA
    clear hT hC hA
    by_cases hlt : x < s.size
    · obtain ⟨c, hcl, hbx⟩ := byte_at s x hX.out.1 hlt
      have hcv : Lx.clsAt s.data.toList x.toNat = Lx.cls c := by unfold Lx.clsAt; rw [hcl]
      have hct : wr.cell? ⟨gt, 0, none⟩ = some (.string s) := (blk_cell HT.out 0).trans rfl
      have p6 : decide (x < s.size) = true := decide_eq_true hlt
      have hu := Try.underlying45
      have hu2 := Try.underlying31
      have HCL := Aside0.mk hcl
      have HCV := Aside0.mk hcv
      have HLT := Aside0.mk hlt
      clear hcl hcv hlt hbx
      go_upto_region 4 with ((with_reducible refine gate_dst (N := 6) rfl ?_); refine box_event ?hg (N := 6) ?hd (cs := #[.int .i64 0, .string (⟨#[]⟩ : ByteArray), .int .i64 0, .int .i64 0]) (t := 45) ?hr ?_; (case hd => rfl); (case hg => rfl); (case hr => first | (go_simp; done) | (go_simp; rfl)); intro gf hg w1 hbox hb1; have HG := Aside0.mk hg; have HF := Aside0.mk hbox; have HB1 := Aside0.mk hb1; clear hg hbox hb1; have hz0 : w1.cell? ⟨gf, 0, none⟩ = some (.int .i64 0) := (blk_cell HF.out 0).trans rfl; have hz1 : w1.cell? ⟨gf, 1, none⟩ = some (.string (⟨#[]⟩ : ByteArray)) := (blk_cell HF.out 1).trans rfl; have hz2 : w1.cell? ⟨gf, 2, none⟩ = some (.int .i64 0) := (blk_cell HF.out 2).trans rfl; have hz3 : w1.cell? ⟨gf, 3, none⟩ = some (.int .i64 0) := (blk_cell HF.out 3).trans rfl; have hf0 := blk_frozen HF.out 0; have hf1 := blk_frozen HF.out 1; have hf2 := blk_frozen HF.out 2; have hf3 := blk_frozen HF.out 3)
      have hF4 : ((((w1.setCell ⟨gf, 0, none⟩ (.int .i64 0)).setCell ⟨gf, 1, none⟩ (.string ⟨#[]⟩)).setCell ⟨gf, 2, none⟩ (.int .i64 x)).setCell ⟨gf, 3, none⟩ (.int .i64 3)).heap[gf]? = some (.cells #[.int .i64 0, .string ⟨#[]⟩, .int .i64 x, .int .i64 3] 45 (0, 0)) :=
        blk_put (blk_put (blk_put (blk_put HF.out 0 _ rfl) 1 _ rfl) 2 _ rfl) 3 _ rfl
      have hgf : wr.heap.size ≤ gf := Nat.le_of_eq HG.out.symm
      have hB4 : Below wr.heap.size wr ((((w1.setCell ⟨gf, 0, none⟩ (.int .i64 0)).setCell ⟨gf, 1, none⟩ (.string ⟨#[]⟩)).setCell ⟨gf, 2, none⟩ (.int .i64 x)).setCell ⟨gf, 3, none⟩ (.int .i64 3)) := below_set (below_set (below_set (below_set HB1.out hgf) hgf) hgf) hgf
      generalize ((((w1.setCell ⟨gf, 0, none⟩ (.int .i64 0)).setCell ⟨gf, 1, none⟩ (.string ⟨#[]⟩)).setCell ⟨gf, 2, none⟩ (.int .i64 x)).setCell ⟨gf, 3, none⟩ (.int .i64 3)) = W4 at hF4 hB4 ⊢
      clear hz0 hz1 hz2 hz3 hf0 hf1 hf2 hf3 HF HB1 hct
      have HT4 := Aside0.mk (blk_below HT.out hB4)
      have HC4 := Aside0.mk (blk_below HC.out hB4)
      have HA4 := Aside0.mk (blk_below HA.out hB4)
      have HF := Aside0.mk hF4
      have HB := Aside0.mk hB4
      have HGF := Aside0.mk hgf
      have HJJ : Aside0 (∀ W', Below wr.heap.size wr W' → J pre W') := ⟨fun W' hb => HJ.out _ _ _ none HJp.out ⟨hb.os, hb.tape, hb.output, hb.size, fun k hk _ => hb.block k hk⟩ (fun r e => by cases e)⟩
      have hct : W4.cell? ⟨gt, 0, none⟩ = some (.string s) := (blk_cell HT4.out 0).trans rfl
      have hca : W4.cell? ⟨ga, 0, none⟩ = some (.func (.func 33) #[] #[.pointer (some ⟨gt, 0, none⟩), .pointer (some ⟨gc, 0, none⟩)]) := (blk_cell HA4.out 0).trans rfl
      clear hF4 hB4 hgf
      obtain ⟨v, hv⟩ : ∃ v : Nat, Lx.cls c = v := ⟨_, rfl⟩
      have hv7 := Lx.cls_le c
      have HV := Aside0.mk hv
      have HX0 : Aside0 (((Lx.clsAt s.data.toList x.toNat : Nat) : Int) = v) := ⟨by rw [HCV.out, hv]⟩
      have hw1 : wrap64 (x + 1) = x + 1 := by have := hX.out; have := HLT.out; unfold wrap64; omega
      rw [hv] at hv7
      clear hv
      have hcs : v = 1 ∨ v = 2 ∨ v = 3 ∨ v = 4 ∨ v = 6 ∨ v = 7 ∨ (v = 0 ∨ v = 5) := by omega
      clear hv7
      rcases hcs with rfl | rfl | rfl | rfl | rfl | rfl | hcs
      · -- a blank
        go_wp2_with (go_at_call 33; refine (call_at _ HX0.out hX.out.1 hs HT4.out HC4.out).mono ?_; rintro e w' ⟨rfl, rfl⟩)
        go_roundw
        case rel =>
          have hp := Lx.piece1 HCL.out HV.out
          have hr := Lx.read_gap HR.out HCL.out (by rw [hp]) (by rw [hp])
          rw [hp] at hr
          refine ⟨x + 1, pre, by rw [hw1], ⟨by have := hX.out; have := HLT.out; omega⟩, ⟨?_⟩, ⟨HJJ.out _ HB.out⟩, ⟨Nat.le_trans HS.out HB.out.size⟩, HT4, HC4, HA4⟩
          rw [show (x + 1).toNat = x.toNat + 1 by have := hX.out; omega]
          exact hr
        case measure =>
          have := hX.out
          have := HLT.out
          simp only [intOf, hw1]
          omega
      · -- a comment
        go_wp2_with (go_at_call 33; refine (call_at _ HX0.out hX.out.1 hs HT4.out HC4.out).mono ?_; rintro e w' ⟨rfl, rfl⟩)
        go_loop [4] (fun i => ∃ y : Int, i = .int .i64 y ∧ Aside0 (x ≤ y ∧ y ≤ s.size) ∧ Aside0 (y.toNat + Lx.span Lx.notLine (s.data.toList.drop y.toNat) = x.toNat + Lx.span Lx.notLine (s.data.toList.drop x.toNat))) (fun i => s.size - (intOf i).toNat)
        case atStart => exact ⟨x, rfl, ⟨by have := HLT.out; omega⟩, ⟨rfl⟩⟩
        case round =>
          obtain ⟨y, rfl, hY, hSp⟩ := hrel
          by_cases hly : y < s.size
          · obtain ⟨d, hdl, hd⟩ := byte_at s y (by have := hX.out; have := hY.out; omega) hly
            have HDL := Aside0.mk hdl
            have HLY := Aside0.mk hly
            have p7 := eq_true (show (0 : Int) ≤ y by have := hX.out; have := hY.out; omega)
            have q7 := eq_true hly
            have hx7 := bt_at s y
            have p8 : decide (y < s.size) = true := decide_eq_true hly
            have t10 : (bt s y == 10) = decide (d = 10) := byte_is hd 10 (by omega)
            have hw2 : wrap64 (y + 1) = y + 1 := by have := hX.out; have := hY.out; unfold wrap64; omega
            by_cases d10 : d = 10
            · rw [decide_eq_true d10] at t10
              have t10n : (bt s y != 10) = false := by rw [bne, t10]; rfl
              have hst : Lx.span Lx.notLine (s.data.toList.drop y.toNat) = 0 := Lx.span_stop HDL.out (by rw [d10]; decide)
              clear hdl hd hly
              go_wp2
              go_roundw
              case rel =>
                have hp := Lx.piece2 HCL.out HV.out
                have hr := Lx.read_gap HR.out HCL.out (by rw [hp]) (by rw [hp])
                rw [hp] at hr
                have he : x.toNat + Lx.span Lx.notLine (s.data.toList.drop x.toNat) = y.toNat := by rw [← hSp.out, hst]; rfl
                refine ⟨y, pre, rfl, ⟨by have := hX.out; have := hY.out; omega⟩, ⟨by rw [← he]; exact hr⟩, ⟨HJJ.out _ HB.out⟩, ⟨Nat.le_trans HS.out HB.out.size⟩, HT4, HC4, HA4⟩
              case measure =>
                have hn := Lx.span_pos (p := Lx.notLine) (s.data.toList.drop (x.toNat + 1)) (c := c) (by rw [(Lx.cls_hash c).2 HV.out]; decide)
                rw [← Lx.drop_cons HCL.out] at hn
                have he : x.toNat + Lx.span Lx.notLine (s.data.toList.drop x.toNat) = y.toNat := by rw [← hSp.out, hst]; rfl
                have := hX.out
                have := hY.out
                simp only [intOf]
                omega
            · rw [decide_eq_false d10] at t10
              have t10n : (bt s y != 10) = true := by rw [bne, t10]; rfl
              clear hdl hd hly
              go_wp2
              go_round
              case rel =>
                have hst := Lx.span_step (p := Lx.notLine) HDL.out (by simpa [Lx.notLine] using d10)
                refine ⟨y + 1, by rw [hw2], ⟨by have := hY.out; have := HLY.out; omega⟩, ⟨?_⟩⟩
                rw [show (y + 1).toNat = y.toNat + 1 by have := hX.out; have := hY.out; omega, ← hSp.out, hst]
              case measure =>
                have := hX.out
                have := hY.out
                have := HLY.out
                simp only [intOf, hw2]
                omega
          · have p8 : decide (y < s.size) = false := decide_eq_false hly
            have hst : Lx.span Lx.notLine (s.data.toList.drop y.toNat) = 0 := Lx.span_end (by rw [len_list]; have := hX.out; have := hY.out; omega)
            clear hly
            go_wp2
            go_roundw
            case rel =>
              have hp := Lx.piece2 HCL.out HV.out
              have hr := Lx.read_gap HR.out HCL.out (by rw [hp]) (by rw [hp])
              rw [hp] at hr
              have he : x.toNat + Lx.span Lx.notLine (s.data.toList.drop x.toNat) = y.toNat := by rw [← hSp.out, hst]; rfl
              refine ⟨y, pre, rfl, ⟨by have := hX.out; have := hY.out; omega⟩, ⟨by rw [← he]; exact hr⟩, ⟨HJJ.out _ HB.out⟩, ⟨Nat.le_trans HS.out HB.out.size⟩, HT4, HC4, HA4⟩
            case measure =>
              have hn := Lx.span_pos (p := Lx.notLine) (s.data.toList.drop (x.toNat + 1)) (c := c) (by rw [(Lx.cls_hash c).2 HV.out]; decide)
              rw [← Lx.drop_cons HCL.out] at hn
              have he : x.toNat + Lx.span Lx.notLine (s.data.toList.drop x.toNat) = y.toNat := by rw [← hSp.out, hst]; rfl
              have := hX.out
              have := hY.out
              simp only [intOf]
              omega
      · -- a name
        as_aux_lemma =>
        go_upto_region 11 with (go_at_call 33; refine (call_at _ HX0.out hX.out.1 hs HT4.out HC4.out).mono ?_; rintro e w' ⟨rfl, rfl⟩)
        have HX2 : Aside0 (((Lx.clsAt s.data.toList x.toNat : Nat) : Int) = Lx.clsAt s.data.toList x.toNat) := ⟨rfl⟩
        go_wp2_with (go_at_call 33; refine (call_at _ HX2.out hX.out.1 hs HT4.out HC4.out).mono ?_; rintro e w' ⟨rfl, rfl⟩)
        go_loop [4, 7] (fun i c_ => ∃ (y : Int) (u : Nat), i = .int .i64 y ∧ c_ = .int .u8 u ∧ Aside0 (x ≤ y ∧ y ≤ s.size) ∧ Aside0 (Lx.clsAt s.data.toList y.toNat = u) ∧ Aside0 (y.toNat + Lx.span Lx.word (s.data.toList.drop y.toNat) = x.toNat + Lx.span Lx.word (s.data.toList.drop x.toNat))) (fun i _ => s.size - (intOf i).toNat)
        case atStart => exact ⟨x, _, rfl, rfl, ⟨by have := HLT.out; omega⟩, ⟨rfl⟩, ⟨rfl⟩⟩
        case round =>
          obtain ⟨y, u, rfl, rfl, hY, hU, hSp⟩ := hrel
          have hw2 : wrap64 (y + 1) = y + 1 := by have := hX.out; have := hY.out; unfold wrap64; omega
          by_cases hu3 : u = 3 ∨ u = 4 ∨ u = 5
          · obtain ⟨hly, d, hdl, hdv⟩ := Lx.word_at (by rw [hU.out]; exact hu3)
            have HST := Aside0.mk (Lx.span_step (p := Lx.word) hdl hdv)
            have HLY : Aside0 (y < s.size) := ⟨by rw [len_list] at hly; have := hX.out; have := hY.out; omega⟩
            have HU2 : Aside0 (((Lx.clsAt s.data.toList (y + 1).toNat : Nat) : Int) = Lx.clsAt s.data.toList (y + 1).toNat) := ⟨rfl⟩
            clear hly hdl hdv
            rcases hu3 with rfl | rfl | rfl
            all_goals
              go_wp2_with (go_at_call 33; refine (call_at _ HU2.out (by have := hX.out; have := hY.out; omega) hs HT4.out HC4.out).mono ?_; rintro e w' ⟨rfl, rfl⟩)
              go_round
              case rel =>
                refine ⟨y + 1, _, rfl, rfl, ⟨by have := hY.out; have := HLY.out; omega⟩, ⟨rfl⟩, ⟨?_⟩⟩
                rw [show (y + 1).toNat = y.toNat + 1 by have := hX.out; have := hY.out; omega, ← hSp.out, HST.out]
              case measure =>
                have := hX.out
                have := hY.out
                have := HLY.out
                simp only [intOf]
                omega
          · have hst := Lx.word_no (by rw [hU.out]; exact hu3)
            have HE : Aside0 (x.toNat + Lx.span Lx.word (s.data.toList.drop x.toNat) = y.toNat) := ⟨by rw [← hSp.out, hst]; rfl⟩
            have n3 : (((u : Nat) : Int) == 3) = false := by rw [beq_eq_false_iff_ne]; omega
            have n4 : (((u : Nat) : Int) == 4) = false := by rw [beq_eq_false_iff_ne]; omega
            have n5 : (((u : Nat) : Int) == 5) = false := by rw [beq_eq_false_iff_ne]; omega
            clear hst hu3
            have g1 := eq_true (show (0 : Int) ≤ x by have := hX.out; omega)
            have g2 := eq_true (show x ≤ y by have := hY.out; omega)
            have g3 := eq_true (show y ≤ s.size by have := hY.out; omega)
            have hc0 : W4.cell? ⟨gf, 0, none⟩ = some (.int .i64 0) := (blk_cell HF.out 0).trans rfl
            have hc1 : W4.cell? ⟨gf, 1, none⟩ = some (.string ⟨#[]⟩) := (blk_cell HF.out 1).trans rfl
            have hc2 : W4.cell? ⟨gf, 2, none⟩ = some (.int .i64 x) := (blk_cell HF.out 2).trans rfl
            have hc3 : W4.cell? ⟨gf, 3, none⟩ = some (.int .i64 3) := (blk_cell HF.out 3).trans rfl
            have hf0 := blk_frozen HF.out 0
            have hf1 := blk_frozen HF.out 1
            have hf2 := blk_frozen HF.out 2
            have hf3 := blk_frozen HF.out 3
            have hne : gt ≠ gf := fun e => by have := blk_lt HT.out; have := HGF.out; omega
            have hne2 : ga ≠ gf := fun e => by have := blk_lt HA.out; have := HGF.out; omega
            have hw3 : wrap64 (y - x) = y - x := by have := hX.out; have := hY.out; unfold wrap64; omega
            have hxt : (⟨((s.data.toList.drop x.toNat).take (Lx.span Lx.word (s.data.toList.drop x.toNat))).toArray⟩ : ByteArray) = s.extract x.toNat y.toNat := by rw [← HE.out]; exact ext_text s _ _
            have HXT := Aside0.mk hxt
            clear hxt
            by_cases hlen : y - x > 24
            · have hd1 : decide (24 < y - x) = true := decide_eq_true hlen
              have HLEN : Aside0 (Lx.span Lx.word (s.data.toList.drop x.toNat) > 24) := ⟨by have := HE.out; have := hX.out; omega⟩
              clear hlen
              go_wp2
              go_region
              go_upto_region 33 with (fail)
              have hF5 : (((((W4.setCell ⟨gf, 0, none⟩ (.int .i64 1)).setCell ⟨gf, 1, none⟩ (.string (s.extract x.toNat y.toNat))).setCell ⟨gf, 3, none⟩ (.int .i64 0)).setCell ⟨gf, 3, none⟩ (.int .i64 2)).drew).heap[gf]? = some (.cells #[.int .i64 1, .string (s.extract x.toNat y.toNat), .int .i64 x, .int .i64 2] 45 (0, 0)) := blk_drew (blk_put (blk_put (blk_put (blk_put HF.out 0 _ rfl) 1 _ rfl) 3 _ rfl) 3 _ rfl)
              have hB5 : Below wr.heap.size wr (((((W4.setCell ⟨gf, 0, none⟩ (.int .i64 1)).setCell ⟨gf, 1, none⟩ (.string (s.extract x.toNat y.toNat))).setCell ⟨gf, 3, none⟩ (.int .i64 0)).setCell ⟨gf, 3, none⟩ (.int .i64 2)).drew) := below_drew1 (below_set (below_set (below_set (below_set HB.out HGF.out) HGF.out) HGF.out) HGF.out)
              generalize (((((W4.setCell ⟨gf, 0, none⟩ (.int .i64 1)).setCell ⟨gf, 1, none⟩ (.string (s.extract x.toNat y.toNat))).setCell ⟨gf, 3, none⟩ (.int .i64 0)).setCell ⟨gf, 3, none⟩ (.int .i64 2)).drew) = W6 at hF5 hB5 ⊢
              have HF6 := Aside0.mk hF5
              have HB6 := Aside0.mk hB5
              have HT6 := Aside0.mk (blk_below HT.out hB5)
              have HC6 := Aside0.mk (blk_below HC.out hB5)
              have HA6 := Aside0.mk (blk_below HA.out hB5)
              (try clear hc0 hc1 hc2 hc3)
              (try clear hf0 hf1 hf2 hf3)
              (try clear hct hca)
              clear hF5 hB5
              have hp := (Lx.piece3 HCL.out HV.out).trans (by rw [if_pos HLEN.out] : _ = Lx.Pc.mk 1 ((s.data.toList.drop x.toNat).take (Lx.span Lx.word (s.data.toList.drop x.toNat))) 2 (Lx.span Lx.word (s.data.toList.drop x.toNat)))
              have hfd := Lx.read_err HR.out HCL.out (by rw [hp]; exact Nat.succ_ne_zero _)
              rw [hp] at hfd
              obtain ⟨fn, tmps, assign, body, hy, hRd⟩ := HY.out pre ⟨1, ((s.data.toList.drop x.toNat).take (Lx.span Lx.word (s.data.toList.drop x.toNat))), x.toNat, 2⟩ _ (HJJ.out _ HB6.out) (by rw [hfd, List.length_append]; exact Nat.lt_succ_self _)
              have HFD := Aside0.mk hfd
              clear hfd hp
              have hc0 : W6.cell? ⟨gf, 0, none⟩ = some (.int .i64 1) := (blk_cell HF6.out 0).trans rfl
              have hc1 : W6.cell? ⟨gf, 1, none⟩ = some (.string (s.extract x.toNat y.toNat)) := (blk_cell HF6.out 1).trans rfl
              have hc2 : W6.cell? ⟨gf, 2, none⟩ = some (.int .i64 x) := (blk_cell HF6.out 2).trans rfl
              have hc3 : W6.cell? ⟨gf, 3, none⟩ = some (.int .i64 2) := (blk_cell HF6.out 3).trans rfl
              have hy2 : (Instr.yield l #[.agg #[.int .i64 1, .string (s.extract x.toNat y.toNat), .int .i64 x, .int .i64 2]]).run Try.prog W6 = .ok (.round l fn tmps assign body) W6 := by
                have h := hy
                dsimp only [encF] at h
                rw [show ((x.toNat : Nat) : Int) = x by have := hX.out; omega, HXT.out] at h
                exact h
              clear hy
              refine (wpIn_wide (n := n + 1)).1 ?_
              gi_wp2
              refine hRd.mono ?_
              clear hRd hy2 hc0 hc1 hc2 hc3
              rintro e W5 (⟨rfl, hJ5, hk5⟩ | ⟨rfl, hJx5⟩)
              · have hF5 := hk5 gf _ _ (by have := HGF.out; have := HS.out; have := HN.out; omega) (by decide) HF6.out
                have hc3 : W5.cell? ⟨gf, 3, none⟩ = some (.int .i64 2) := (blk_cell hF5 3).trans rfl
                have HJ5 := Aside0.mk hJ5
                clear hk5 hF5 hJ5
                gi_wp2
                go_wp2
                rw [Exit.noGoto_ret]
                refine bodyPost_ret (results_none rfl _ _ _) rfl ?_
                exact ⟨⟨_, rfl⟩, .inl ⟨_, HFD.out.symm, HJ5.out⟩⟩
              · have HJX := Aside0.mk hJx5
                clear hJx5
                gi_wp2
                go_wp2
                rw [Exit.noGoto_ret]
                refine bodyPost_ret (results_none rfl _ _ _) rfl ?_
                exact ⟨⟨_, rfl⟩, .inr ⟨_, by rw [HFD.out]; exact List.prefix_refl _, HJX.out⟩⟩
            · have hd1 : decide (24 < y - x) = false := decide_eq_false hlen
              have HLEN : Aside0 (¬ Lx.span Lx.word (s.data.toList.drop x.toNat) > 24) := ⟨by have := HE.out; have := hX.out; omega⟩
              have HPOS : Aside0 (x < y) := ⟨by
                have hn := Lx.span_pos (p := Lx.word) (s.data.toList.drop (x.toNat + 1)) (c := c) ((Lx.cls_word c).2 (.inl HV.out))
                rw [← Lx.drop_cons HCL.out] at hn
                have := HE.out; have := hX.out; omega⟩
              clear hlen
              go_wp2
              go_region
              go_upto_region 33 with (fail)
              have hF5 : ((((W4.setCell ⟨gf, 0, none⟩ (.int .i64 1)).setCell ⟨gf, 1, none⟩ (.string (s.extract x.toNat y.toNat))).setCell ⟨gf, 3, none⟩ (.int .i64 0)).drew).heap[gf]? = some (.cells #[.int .i64 1, .string (s.extract x.toNat y.toNat), .int .i64 x, .int .i64 0] 45 (0, 0)) := blk_drew (blk_put (blk_put (blk_put HF.out 0 _ rfl) 1 _ rfl) 3 _ rfl)
              have hB5 : Below wr.heap.size wr ((((W4.setCell ⟨gf, 0, none⟩ (.int .i64 1)).setCell ⟨gf, 1, none⟩ (.string (s.extract x.toNat y.toNat))).setCell ⟨gf, 3, none⟩ (.int .i64 0)).drew) := below_drew1 (below_set (below_set (below_set HB.out HGF.out) HGF.out) HGF.out)
              generalize ((((W4.setCell ⟨gf, 0, none⟩ (.int .i64 1)).setCell ⟨gf, 1, none⟩ (.string (s.extract x.toNat y.toNat))).setCell ⟨gf, 3, none⟩ (.int .i64 0)).drew) = W6 at hF5 hB5 ⊢
              have HF6 := Aside0.mk hF5
              have HB6 := Aside0.mk hB5
              have HT6 := Aside0.mk (blk_below HT.out hB5)
              have HC6 := Aside0.mk (blk_below HC.out hB5)
              have HA6 := Aside0.mk (blk_below HA.out hB5)
              (try clear hc0 hc1 hc2 hc3)
              (try clear hf0 hf1 hf2 hf3)
              (try clear hct hca)
              clear hF5 hB5
              have hp := (Lx.piece3 HCL.out HV.out).trans (by rw [if_neg HLEN.out] : _ = Lx.Pc.mk 1 ((s.data.toList.drop x.toNat).take (Lx.span Lx.word (s.data.toList.drop x.toNat))) 0 (Lx.span Lx.word (s.data.toList.drop x.toNat)))
              have hr := Lx.read_tok HR.out HCL.out (by rw [hp]) (by rw [hp]; exact Nat.succ_ne_zero _)
              rw [hp] at hr
              have hyn : x.toNat + Lx.span Lx.word (s.data.toList.drop x.toNat) = y.toNat := HE.out
              simp only [hyn] at hr
              have hfl := (Lx.read_prefix hr).length_le
              rw [List.length_append] at hfl
              obtain ⟨fn, tmps, assign, body, hy, hRd⟩ := HY.out pre ⟨1, ((s.data.toList.drop x.toNat).take (Lx.span Lx.word (s.data.toList.drop x.toNat))), x.toNat, 0⟩ _ (HJJ.out _ HB6.out) (Nat.lt_of_lt_of_le (Nat.lt_succ_self _) hfl)
              have HRD := Aside0.mk hr
              clear hfl hr hp hyn
              have hc0 : W6.cell? ⟨gf, 0, none⟩ = some (.int .i64 1) := (blk_cell HF6.out 0).trans rfl
              have hc1 : W6.cell? ⟨gf, 1, none⟩ = some (.string (s.extract x.toNat y.toNat)) := (blk_cell HF6.out 1).trans rfl
              have hc2 : W6.cell? ⟨gf, 2, none⟩ = some (.int .i64 x) := (blk_cell HF6.out 2).trans rfl
              have hc3 : W6.cell? ⟨gf, 3, none⟩ = some (.int .i64 0) := (blk_cell HF6.out 3).trans rfl
              have hy2 : (Instr.yield l #[.agg #[.int .i64 1, .string (s.extract x.toNat y.toNat), .int .i64 x, .int .i64 0]]).run Try.prog W6 = .ok (.round l fn tmps assign body) W6 := by
                have h := hy
                dsimp only [encF] at h
                rw [show ((x.toNat : Nat) : Int) = x by have := hX.out; omega, HXT.out] at h
                exact h
              clear hy
              refine (wpIn_wide (n := n + 1)).1 ?_
              gi_wp2
              refine hRd.mono ?_
              clear hRd hy2 hc0 hc1 hc2 hc3
              rintro e W5 (⟨rfl, hJ5, hk5⟩ | ⟨rfl, hJx5⟩)
              · have hF5 := hk5 gf _ _ (by have := HGF.out; have := HS.out; have := HN.out; omega) (by decide) HF6.out
                have hc3 : W5.cell? ⟨gf, 3, none⟩ = some (.int .i64 0) := (blk_cell hF5 3).trans rfl
                have HJ5 := Aside0.mk hJ5
                have HT5 := Aside0.mk (hk5 gt _ _ HN.out.1 (by decide) HT6.out)
                have HC5 := Aside0.mk (hk5 gc _ _ HN.out.2.1 (by decide) HC6.out)
                have HA5 := Aside0.mk (hk5 ga _ _ HN.out.2.2.1 (by decide) HA6.out)
                have HS5 : Aside0 (w.heap.size ≤ W5.heap.size) := ⟨by have := blk_lt hF5; have := HGF.out; have := HS.out; omega⟩
                clear hk5 hF5 hJ5
                gi_wp2
                go_wp2
                go_roundw
                case rel => exact ⟨y, _, rfl, ⟨by have := hX.out; have := hY.out; omega⟩, HRD, HJ5, HS5, HT5, HC5, HA5⟩
                case measure =>
                  have := hX.out
                  have := HLT.out
                  have hb_ : x < y ∧ y ≤ s.size := ⟨HPOS.out, hY.out.2⟩
                  simp only [intOf]
                  omega
              · have HJX := Aside0.mk hJx5
                clear hJx5
                gi_wp2
                go_wp2
                rw [Exit.noGoto_ret]
                refine bodyPost_ret (results_none rfl _ _ _) rfl ?_
                exact ⟨⟨_, rfl⟩, .inr ⟨_, Lx.read_prefix HRD.out, HJX.out⟩⟩
      · -- a number
        as_aux_lemma =>
        go_upto_region 19 with (go_at_call 33; refine (call_at _ HX0.out hX.out.1 hs HT4.out HC4.out).mono ?_; rintro e w' ⟨rfl, rfl⟩)
        go_loop [4] (fun i => ∃ (y : Int), i = .int .i64 y ∧ Aside0 (x ≤ y ∧ y ≤ s.size) ∧ Aside0 (y.toNat + Lx.span Lx.digit (s.data.toList.drop y.toNat) = x.toNat + Lx.span Lx.digit (s.data.toList.drop x.toNat))) (fun i => s.size - (intOf i).toNat)
        case atStart => exact ⟨x, rfl, ⟨by have := HLT.out; omega⟩, ⟨rfl⟩⟩
        case round =>
          obtain ⟨y, rfl, hY, hSp⟩ := hrel
          have hw2 : wrap64 (y + 1) = y + 1 := by have := hX.out; have := hY.out; unfold wrap64; omega
          obtain ⟨u, hu⟩ : ∃ u, Lx.clsAt s.data.toList y.toNat = u := ⟨_, rfl⟩
          have HU2 : Aside0 (((Lx.clsAt s.data.toList y.toNat : Nat) : Int) = u) := ⟨by rw [hu]⟩
          have HU := Aside0.mk hu
          clear hu
          by_cases hu4 : u = 4
          · subst hu4
            obtain ⟨hly, d, hdl, hdv⟩ := Lx.digit_at HU.out
            have HST := Aside0.mk (Lx.span_step (p := Lx.digit) hdl hdv)
            have HLY : Aside0 (y < s.size) := ⟨by rw [len_list] at hly; have := hX.out; have := hY.out; omega⟩
            clear hly hdl hdv
            go_wp2_with (go_at_call 33; refine (call_at _ HU2.out (by have := hX.out; have := hY.out; omega) hs HT4.out HC4.out).mono ?_; rintro e w' ⟨rfl, rfl⟩)
            go_round
            case rel =>
              refine ⟨y + 1, by first | rfl | rw [hw2], ⟨by have := hY.out; have := HLY.out; omega⟩, ⟨?_⟩⟩
              rw [show (y + 1).toNat = y.toNat + 1 by have := hX.out; have := hY.out; omega, ← hSp.out, HST.out]
            case measure =>
              have := hX.out
              have := hY.out
              have := HLY.out
              first | (simp only [intOf, hw2]; omega) | (simp only [intOf]; omega)
          · have hst := Lx.digit_no (by rw [HU.out]; exact hu4)
            have HE : Aside0 (x.toNat + Lx.span Lx.digit (s.data.toList.drop x.toNat) = y.toNat) := ⟨by rw [← hSp.out, hst]; rfl⟩
            have n4 : (((u : Nat) : Int) == 4) = false := by rw [beq_eq_false_iff_ne]; omega
            have HPOS : Aside0 (x < y) := ⟨by
              have hn := Lx.span_pos (p := Lx.digit) (s.data.toList.drop (x.toNat + 1)) (c := c) ((Lx.cls_digit c).2 HV.out)
              rw [← Lx.drop_cons HCL.out] at hn
              have := HE.out; have := hX.out; omega⟩
            have HWA : Aside0 (Lx.wordAt (s.data.toList.drop x.toNat) (Lx.span Lx.digit (s.data.toList.drop x.toNat)) = true ↔ u = 3 ∨ u = 5) := ⟨by rw [Lx.wordAt_iff, HE.out, HU.out]⟩
            clear hst hu4
            have g1 := eq_true (show (0 : Int) ≤ x by have := hX.out; omega)
            have g2 := eq_true (show x ≤ y by have := hY.out; omega)
            have g3 := eq_true (show y ≤ s.size by have := hY.out; omega)
            have hc0 : W4.cell? ⟨gf, 0, none⟩ = some (.int .i64 0) := (blk_cell HF.out 0).trans rfl
            have hc1 : W4.cell? ⟨gf, 1, none⟩ = some (.string ⟨#[]⟩) := (blk_cell HF.out 1).trans rfl
            have hc2 : W4.cell? ⟨gf, 2, none⟩ = some (.int .i64 x) := (blk_cell HF.out 2).trans rfl
            have hc3 : W4.cell? ⟨gf, 3, none⟩ = some (.int .i64 3) := (blk_cell HF.out 3).trans rfl
            have hf0 := blk_frozen HF.out 0
            have hf1 := blk_frozen HF.out 1
            have hf2 := blk_frozen HF.out 2
            have hf3 := blk_frozen HF.out 3
            have hne : gt ≠ gf := fun e => by have := blk_lt HT.out; have := HGF.out; omega
            have hne2 : ga ≠ gf := fun e => by have := blk_lt HA.out; have := HGF.out; omega
            have hw3 : wrap64 (y - x) = y - x := by have := hX.out; have := hY.out; unfold wrap64; omega
            have hxt : (⟨((s.data.toList.drop x.toNat).take (Lx.span Lx.digit (s.data.toList.drop x.toNat))).toArray⟩ : ByteArray) = s.extract x.toNat y.toNat := by rw [← HE.out]; exact ext_text s _ _
            have HXT := Aside0.mk hxt
            clear hxt
            have hk7 : (y - x > 7) ∨ (¬ (y - x > 7) ∧ u = 3) ∨ (¬ (y - x > 7) ∧ u = 5) ∨ (¬ (y - x > 7) ∧ u ≠ 3 ∧ u ≠ 5) := by omega
            rcases hk7 with hlen | ⟨hlen, rfl⟩ | ⟨hlen, rfl⟩ | ⟨hlen, hu3, hu5⟩
            · have hd1 : decide (7 < y - x) = true := decide_eq_true hlen
              have HLEN : Aside0 (Lx.span Lx.digit (s.data.toList.drop x.toNat) > 7) := ⟨by have := HE.out; have := hX.out; omega⟩
              clear hlen
              go_wp2_with (go_at_call 33; refine (call_at _ HU2.out (by have := hX.out; have := hY.out; omega) hs HT4.out HC4.out).mono ?_; rintro e w' ⟨rfl, rfl⟩)
              go_region
              have hT6_ : ((((W4.setCell ⟨gf, 0, none⟩ (.int .i64 2)).setCell ⟨gf, 1, none⟩ (.string (s.extract x.toNat y.toNat))).setCell ⟨gf, 3, none⟩ (.int .i64 0)).drew).heap[gt]? = some (.cells #[.string s] 9 (0, 0)) := blk_below HT.out (below_drew1 (below_set (below_set (below_set HB.out HGF.out) HGF.out) HGF.out))
              have hC6_ : ((((W4.setCell ⟨gf, 0, none⟩ (.int .i64 2)).setCell ⟨gf, 1, none⟩ (.string (s.extract x.toNat y.toNat))).setCell ⟨gf, 3, none⟩ (.int .i64 0)).drew).heap[gc]? = some (.cells classRow 49 (0, 0)) := blk_below HC.out (below_drew1 (below_set (below_set (below_set HB.out HGF.out) HGF.out) HGF.out))
              have HT6_ := Aside0.mk hT6_
              have HC6_ := Aside0.mk hC6_
              clear hT6_ hC6_
              go_upto_region 33 with (go_at_call 33; refine (call_at _ HU2.out (by have := hX.out; have := hY.out; omega) hs HT6_.out HC6_.out).mono ?_; rintro e w' ⟨rfl, rfl⟩)
              have hF5 : (((((W4.setCell ⟨gf, 0, none⟩ (.int .i64 2)).setCell ⟨gf, 1, none⟩ (.string (s.extract x.toNat y.toNat))).setCell ⟨gf, 3, none⟩ (.int .i64 0)).setCell ⟨gf, 3, none⟩ (.int .i64 4)).drew).heap[gf]? = some (.cells #[.int .i64 2, .string (s.extract x.toNat y.toNat), .int .i64 x, .int .i64 4] 45 (0, 0)) := blk_drew (blk_put (blk_put (blk_put (blk_put HF.out 0 _ rfl) 1 _ rfl) 3 _ rfl) 3 _ rfl)
              have hB5 : Below wr.heap.size wr (((((W4.setCell ⟨gf, 0, none⟩ (.int .i64 2)).setCell ⟨gf, 1, none⟩ (.string (s.extract x.toNat y.toNat))).setCell ⟨gf, 3, none⟩ (.int .i64 0)).setCell ⟨gf, 3, none⟩ (.int .i64 4)).drew) := below_drew1 (below_set (below_set (below_set (below_set HB.out HGF.out) HGF.out) HGF.out) HGF.out)
              generalize (((((W4.setCell ⟨gf, 0, none⟩ (.int .i64 2)).setCell ⟨gf, 1, none⟩ (.string (s.extract x.toNat y.toNat))).setCell ⟨gf, 3, none⟩ (.int .i64 0)).setCell ⟨gf, 3, none⟩ (.int .i64 4)).drew) = W6 at hF5 hB5 ⊢
              have HF6 := Aside0.mk hF5
              have HB6 := Aside0.mk hB5
              have HT6 := Aside0.mk (blk_below HT.out hB5)
              have HC6 := Aside0.mk (blk_below HC.out hB5)
              have HA6 := Aside0.mk (blk_below HA.out hB5)
              (try clear hc0 hc1 hc2 hc3)
              (try clear hf0 hf1 hf2 hf3)
              (try clear hct hca)
              clear hF5 hB5
              have hp := (Lx.piece4 HCL.out HV.out).trans (by rw [if_pos (.inl HLEN.out)] : _ = Lx.Pc.mk 2 ((s.data.toList.drop x.toNat).take (Lx.span Lx.digit (s.data.toList.drop x.toNat))) 4 (Lx.span Lx.digit (s.data.toList.drop x.toNat)))
              have hfd := Lx.read_err HR.out HCL.out (by rw [hp]; exact Nat.succ_ne_zero _)
              rw [hp] at hfd
              obtain ⟨fn, tmps, assign, body, hy, hRd⟩ := HY.out pre ⟨2, ((s.data.toList.drop x.toNat).take (Lx.span Lx.digit (s.data.toList.drop x.toNat))), x.toNat, 4⟩ _ (HJJ.out _ HB6.out) (by rw [hfd, List.length_append]; exact Nat.lt_succ_self _)
              have HFD := Aside0.mk hfd
              clear hfd hp
              have hc0 : W6.cell? ⟨gf, 0, none⟩ = some (.int .i64 2) := (blk_cell HF6.out 0).trans rfl
              have hc1 : W6.cell? ⟨gf, 1, none⟩ = some (.string (s.extract x.toNat y.toNat)) := (blk_cell HF6.out 1).trans rfl
              have hc2 : W6.cell? ⟨gf, 2, none⟩ = some (.int .i64 x) := (blk_cell HF6.out 2).trans rfl
              have hc3 : W6.cell? ⟨gf, 3, none⟩ = some (.int .i64 4) := (blk_cell HF6.out 3).trans rfl
              have hy2 : (Instr.yield l #[.agg #[.int .i64 2, .string (s.extract x.toNat y.toNat), .int .i64 x, .int .i64 4]]).run Try.prog W6 = .ok (.round l fn tmps assign body) W6 := by
                have h := hy
                dsimp only [encF] at h
                rw [show ((x.toNat : Nat) : Int) = x by have := hX.out; omega, HXT.out] at h
                exact h
              clear hy
              refine (wpIn_wide (n := n + 1)).1 ?_
              gi_wp2
              refine hRd.mono ?_
              clear hRd hy2 hc0 hc1 hc2 hc3
              rintro e W5 (⟨rfl, hJ5, hk5⟩ | ⟨rfl, hJx5⟩)
              · have hF5 := hk5 gf _ _ (by have := HGF.out; have := HS.out; have := HN.out; omega) (by decide) HF6.out
                have hc3 : W5.cell? ⟨gf, 3, none⟩ = some (.int .i64 4) := (blk_cell hF5 3).trans rfl
                have HJ5 := Aside0.mk hJ5
                clear hk5 hF5 hJ5
                gi_wp2
                go_wp2
                rw [Exit.noGoto_ret]
                refine bodyPost_ret (results_none rfl _ _ _) rfl ?_
                exact ⟨⟨_, rfl⟩, .inl ⟨_, HFD.out.symm, HJ5.out⟩⟩
              · have HJX := Aside0.mk hJx5
                clear hJx5
                gi_wp2
                go_wp2
                rw [Exit.noGoto_ret]
                refine bodyPost_ret (results_none rfl _ _ _) rfl ?_
                exact ⟨⟨_, rfl⟩, .inr ⟨_, by rw [HFD.out]; exact List.prefix_refl _, HJX.out⟩⟩
            · have hd1 : decide (7 < y - x) = false := decide_eq_false hlen
              have HLEN : Aside0 (Lx.wordAt (s.data.toList.drop x.toNat) (Lx.span Lx.digit (s.data.toList.drop x.toNat)) = true) := ⟨HWA.out.2 (.inl rfl)⟩
              clear hlen
              go_wp2_with (go_at_call 33; refine (call_at _ HU2.out (by have := hX.out; have := hY.out; omega) hs HT4.out HC4.out).mono ?_; rintro e w' ⟨rfl, rfl⟩)
              go_region
              have hT6_ : ((((W4.setCell ⟨gf, 0, none⟩ (.int .i64 2)).setCell ⟨gf, 1, none⟩ (.string (s.extract x.toNat y.toNat))).setCell ⟨gf, 3, none⟩ (.int .i64 0)).drew).heap[gt]? = some (.cells #[.string s] 9 (0, 0)) := blk_below HT.out (below_drew1 (below_set (below_set (below_set HB.out HGF.out) HGF.out) HGF.out))
              have hC6_ : ((((W4.setCell ⟨gf, 0, none⟩ (.int .i64 2)).setCell ⟨gf, 1, none⟩ (.string (s.extract x.toNat y.toNat))).setCell ⟨gf, 3, none⟩ (.int .i64 0)).drew).heap[gc]? = some (.cells classRow 49 (0, 0)) := blk_below HC.out (below_drew1 (below_set (below_set (below_set HB.out HGF.out) HGF.out) HGF.out))
              have HT6_ := Aside0.mk hT6_
              have HC6_ := Aside0.mk hC6_
              clear hT6_ hC6_
              go_upto_region 33 with (go_at_call 33; refine (call_at _ HU2.out (by have := hX.out; have := hY.out; omega) hs HT6_.out HC6_.out).mono ?_; rintro e w' ⟨rfl, rfl⟩)
              have hF5 : (((((W4.setCell ⟨gf, 0, none⟩ (.int .i64 2)).setCell ⟨gf, 1, none⟩ (.string (s.extract x.toNat y.toNat))).setCell ⟨gf, 3, none⟩ (.int .i64 0)).setCell ⟨gf, 3, none⟩ (.int .i64 4)).drew).heap[gf]? = some (.cells #[.int .i64 2, .string (s.extract x.toNat y.toNat), .int .i64 x, .int .i64 4] 45 (0, 0)) := blk_drew (blk_put (blk_put (blk_put (blk_put HF.out 0 _ rfl) 1 _ rfl) 3 _ rfl) 3 _ rfl)
              have hB5 : Below wr.heap.size wr (((((W4.setCell ⟨gf, 0, none⟩ (.int .i64 2)).setCell ⟨gf, 1, none⟩ (.string (s.extract x.toNat y.toNat))).setCell ⟨gf, 3, none⟩ (.int .i64 0)).setCell ⟨gf, 3, none⟩ (.int .i64 4)).drew) := below_drew1 (below_set (below_set (below_set (below_set HB.out HGF.out) HGF.out) HGF.out) HGF.out)
              generalize (((((W4.setCell ⟨gf, 0, none⟩ (.int .i64 2)).setCell ⟨gf, 1, none⟩ (.string (s.extract x.toNat y.toNat))).setCell ⟨gf, 3, none⟩ (.int .i64 0)).setCell ⟨gf, 3, none⟩ (.int .i64 4)).drew) = W6 at hF5 hB5 ⊢
              have HF6 := Aside0.mk hF5
              have HB6 := Aside0.mk hB5
              have HT6 := Aside0.mk (blk_below HT.out hB5)
              have HC6 := Aside0.mk (blk_below HC.out hB5)
              have HA6 := Aside0.mk (blk_below HA.out hB5)
              (try clear hc0 hc1 hc2 hc3)
              (try clear hf0 hf1 hf2 hf3)
              (try clear hct hca)
              clear hF5 hB5
              have hp := (Lx.piece4 HCL.out HV.out).trans (by rw [if_pos (.inr HLEN.out)] : _ = Lx.Pc.mk 2 ((s.data.toList.drop x.toNat).take (Lx.span Lx.digit (s.data.toList.drop x.toNat))) 4 (Lx.span Lx.digit (s.data.toList.drop x.toNat)))
              have hfd := Lx.read_err HR.out HCL.out (by rw [hp]; exact Nat.succ_ne_zero _)
              rw [hp] at hfd
              obtain ⟨fn, tmps, assign, body, hy, hRd⟩ := HY.out pre ⟨2, ((s.data.toList.drop x.toNat).take (Lx.span Lx.digit (s.data.toList.drop x.toNat))), x.toNat, 4⟩ _ (HJJ.out _ HB6.out) (by rw [hfd, List.length_append]; exact Nat.lt_succ_self _)
              have HFD := Aside0.mk hfd
              clear hfd hp
              have hc0 : W6.cell? ⟨gf, 0, none⟩ = some (.int .i64 2) := (blk_cell HF6.out 0).trans rfl
              have hc1 : W6.cell? ⟨gf, 1, none⟩ = some (.string (s.extract x.toNat y.toNat)) := (blk_cell HF6.out 1).trans rfl
              have hc2 : W6.cell? ⟨gf, 2, none⟩ = some (.int .i64 x) := (blk_cell HF6.out 2).trans rfl
              have hc3 : W6.cell? ⟨gf, 3, none⟩ = some (.int .i64 4) := (blk_cell HF6.out 3).trans rfl
              have hy2 : (Instr.yield l #[.agg #[.int .i64 2, .string (s.extract x.toNat y.toNat), .int .i64 x, .int .i64 4]]).run Try.prog W6 = .ok (.round l fn tmps assign body) W6 := by
                have h := hy
                dsimp only [encF] at h
                rw [show ((x.toNat : Nat) : Int) = x by have := hX.out; omega, HXT.out] at h
                exact h
              clear hy
              refine (wpIn_wide (n := n + 1)).1 ?_
              gi_wp2
              refine hRd.mono ?_
              clear hRd hy2 hc0 hc1 hc2 hc3
              rintro e W5 (⟨rfl, hJ5, hk5⟩ | ⟨rfl, hJx5⟩)
              · have hF5 := hk5 gf _ _ (by have := HGF.out; have := HS.out; have := HN.out; omega) (by decide) HF6.out
                have hc3 : W5.cell? ⟨gf, 3, none⟩ = some (.int .i64 4) := (blk_cell hF5 3).trans rfl
                have HJ5 := Aside0.mk hJ5
                clear hk5 hF5 hJ5
                gi_wp2
                go_wp2
                rw [Exit.noGoto_ret]
                refine bodyPost_ret (results_none rfl _ _ _) rfl ?_
                exact ⟨⟨_, rfl⟩, .inl ⟨_, HFD.out.symm, HJ5.out⟩⟩
              · have HJX := Aside0.mk hJx5
                clear hJx5
                gi_wp2
                go_wp2
                rw [Exit.noGoto_ret]
                refine bodyPost_ret (results_none rfl _ _ _) rfl ?_
                exact ⟨⟨_, rfl⟩, .inr ⟨_, by rw [HFD.out]; exact List.prefix_refl _, HJX.out⟩⟩
            · have hd1 : decide (7 < y - x) = false := decide_eq_false hlen
              have HLEN : Aside0 (Lx.wordAt (s.data.toList.drop x.toNat) (Lx.span Lx.digit (s.data.toList.drop x.toNat)) = true) := ⟨HWA.out.2 (.inr rfl)⟩
              clear hlen
              go_wp2_with (go_at_call 33; refine (call_at _ HU2.out (by have := hX.out; have := hY.out; omega) hs HT4.out HC4.out).mono ?_; rintro e w' ⟨rfl, rfl⟩)
              go_region
              have hT6_ : ((((W4.setCell ⟨gf, 0, none⟩ (.int .i64 2)).setCell ⟨gf, 1, none⟩ (.string (s.extract x.toNat y.toNat))).setCell ⟨gf, 3, none⟩ (.int .i64 0)).drew).heap[gt]? = some (.cells #[.string s] 9 (0, 0)) := blk_below HT.out (below_drew1 (below_set (below_set (below_set HB.out HGF.out) HGF.out) HGF.out))
              have hC6_ : ((((W4.setCell ⟨gf, 0, none⟩ (.int .i64 2)).setCell ⟨gf, 1, none⟩ (.string (s.extract x.toNat y.toNat))).setCell ⟨gf, 3, none⟩ (.int .i64 0)).drew).heap[gc]? = some (.cells classRow 49 (0, 0)) := blk_below HC.out (below_drew1 (below_set (below_set (below_set HB.out HGF.out) HGF.out) HGF.out))
              have HT6_ := Aside0.mk hT6_
              have HC6_ := Aside0.mk hC6_
              clear hT6_ hC6_
              go_upto_region 33 with (go_at_call 33; refine (call_at _ HU2.out (by have := hX.out; have := hY.out; omega) hs HT6_.out HC6_.out).mono ?_; rintro e w' ⟨rfl, rfl⟩)
              have hF5 : (((((W4.setCell ⟨gf, 0, none⟩ (.int .i64 2)).setCell ⟨gf, 1, none⟩ (.string (s.extract x.toNat y.toNat))).setCell ⟨gf, 3, none⟩ (.int .i64 0)).setCell ⟨gf, 3, none⟩ (.int .i64 4)).drew).heap[gf]? = some (.cells #[.int .i64 2, .string (s.extract x.toNat y.toNat), .int .i64 x, .int .i64 4] 45 (0, 0)) := blk_drew (blk_put (blk_put (blk_put (blk_put HF.out 0 _ rfl) 1 _ rfl) 3 _ rfl) 3 _ rfl)
              have hB5 : Below wr.heap.size wr (((((W4.setCell ⟨gf, 0, none⟩ (.int .i64 2)).setCell ⟨gf, 1, none⟩ (.string (s.extract x.toNat y.toNat))).setCell ⟨gf, 3, none⟩ (.int .i64 0)).setCell ⟨gf, 3, none⟩ (.int .i64 4)).drew) := below_drew1 (below_set (below_set (below_set (below_set HB.out HGF.out) HGF.out) HGF.out) HGF.out)
              generalize (((((W4.setCell ⟨gf, 0, none⟩ (.int .i64 2)).setCell ⟨gf, 1, none⟩ (.string (s.extract x.toNat y.toNat))).setCell ⟨gf, 3, none⟩ (.int .i64 0)).setCell ⟨gf, 3, none⟩ (.int .i64 4)).drew) = W6 at hF5 hB5 ⊢
              have HF6 := Aside0.mk hF5
              have HB6 := Aside0.mk hB5
              have HT6 := Aside0.mk (blk_below HT.out hB5)
              have HC6 := Aside0.mk (blk_below HC.out hB5)
              have HA6 := Aside0.mk (blk_below HA.out hB5)
              (try clear hc0 hc1 hc2 hc3)
              (try clear hf0 hf1 hf2 hf3)
              (try clear hct hca)
              clear hF5 hB5
              have hp := (Lx.piece4 HCL.out HV.out).trans (by rw [if_pos (.inr HLEN.out)] : _ = Lx.Pc.mk 2 ((s.data.toList.drop x.toNat).take (Lx.span Lx.digit (s.data.toList.drop x.toNat))) 4 (Lx.span Lx.digit (s.data.toList.drop x.toNat)))
              have hfd := Lx.read_err HR.out HCL.out (by rw [hp]; exact Nat.succ_ne_zero _)
              rw [hp] at hfd
              obtain ⟨fn, tmps, assign, body, hy, hRd⟩ := HY.out pre ⟨2, ((s.data.toList.drop x.toNat).take (Lx.span Lx.digit (s.data.toList.drop x.toNat))), x.toNat, 4⟩ _ (HJJ.out _ HB6.out) (by rw [hfd, List.length_append]; exact Nat.lt_succ_self _)
              have HFD := Aside0.mk hfd
              clear hfd hp
              have hc0 : W6.cell? ⟨gf, 0, none⟩ = some (.int .i64 2) := (blk_cell HF6.out 0).trans rfl
              have hc1 : W6.cell? ⟨gf, 1, none⟩ = some (.string (s.extract x.toNat y.toNat)) := (blk_cell HF6.out 1).trans rfl
              have hc2 : W6.cell? ⟨gf, 2, none⟩ = some (.int .i64 x) := (blk_cell HF6.out 2).trans rfl
              have hc3 : W6.cell? ⟨gf, 3, none⟩ = some (.int .i64 4) := (blk_cell HF6.out 3).trans rfl
              have hy2 : (Instr.yield l #[.agg #[.int .i64 2, .string (s.extract x.toNat y.toNat), .int .i64 x, .int .i64 4]]).run Try.prog W6 = .ok (.round l fn tmps assign body) W6 := by
                have h := hy
                dsimp only [encF] at h
                rw [show ((x.toNat : Nat) : Int) = x by have := hX.out; omega, HXT.out] at h
                exact h
              clear hy
              refine (wpIn_wide (n := n + 1)).1 ?_
              gi_wp2
              refine hRd.mono ?_
              clear hRd hy2 hc0 hc1 hc2 hc3
              rintro e W5 (⟨rfl, hJ5, hk5⟩ | ⟨rfl, hJx5⟩)
              · have hF5 := hk5 gf _ _ (by have := HGF.out; have := HS.out; have := HN.out; omega) (by decide) HF6.out
                have hc3 : W5.cell? ⟨gf, 3, none⟩ = some (.int .i64 4) := (blk_cell hF5 3).trans rfl
                have HJ5 := Aside0.mk hJ5
                clear hk5 hF5 hJ5
                gi_wp2
                go_wp2
                rw [Exit.noGoto_ret]
                refine bodyPost_ret (results_none rfl _ _ _) rfl ?_
                exact ⟨⟨_, rfl⟩, .inl ⟨_, HFD.out.symm, HJ5.out⟩⟩
              · have HJX := Aside0.mk hJx5
                clear hJx5
                gi_wp2
                go_wp2
                rw [Exit.noGoto_ret]
                refine bodyPost_ret (results_none rfl _ _ _) rfl ?_
                exact ⟨⟨_, rfl⟩, .inr ⟨_, by rw [HFD.out]; exact List.prefix_refl _, HJX.out⟩⟩
            · have hd1 : decide (7 < y - x) = false := decide_eq_false hlen
              have n3 : (((u : Nat) : Int) == 3) = false := by rw [beq_eq_false_iff_ne]; omega
              have n5 : (((u : Nat) : Int) == 5) = false := by rw [beq_eq_false_iff_ne]; omega
              have HLEN : Aside0 (¬ (Lx.span Lx.digit (s.data.toList.drop x.toNat) > 7 ∨ Lx.wordAt (s.data.toList.drop x.toNat) (Lx.span Lx.digit (s.data.toList.drop x.toNat)) = true)) := ⟨by have := HE.out; have := hX.out; have := HWA.out; rintro (h | h); (· omega); (· rcases this.1 h with h | h <;> contradiction)⟩
              clear hu3 hu5
              clear hlen
              go_wp2_with (go_at_call 33; refine (call_at _ HU2.out (by have := hX.out; have := hY.out; omega) hs HT4.out HC4.out).mono ?_; rintro e w' ⟨rfl, rfl⟩)
              go_region
              have hT6_ : ((((W4.setCell ⟨gf, 0, none⟩ (.int .i64 2)).setCell ⟨gf, 1, none⟩ (.string (s.extract x.toNat y.toNat))).setCell ⟨gf, 3, none⟩ (.int .i64 0)).drew).heap[gt]? = some (.cells #[.string s] 9 (0, 0)) := blk_below HT.out (below_drew1 (below_set (below_set (below_set HB.out HGF.out) HGF.out) HGF.out))
              have hC6_ : ((((W4.setCell ⟨gf, 0, none⟩ (.int .i64 2)).setCell ⟨gf, 1, none⟩ (.string (s.extract x.toNat y.toNat))).setCell ⟨gf, 3, none⟩ (.int .i64 0)).drew).heap[gc]? = some (.cells classRow 49 (0, 0)) := blk_below HC.out (below_drew1 (below_set (below_set (below_set HB.out HGF.out) HGF.out) HGF.out))
              have HT6_ := Aside0.mk hT6_
              have HC6_ := Aside0.mk hC6_
              clear hT6_ hC6_
              go_upto_region 33 with (go_at_call 33; refine (call_at _ HU2.out (by have := hX.out; have := hY.out; omega) hs HT6_.out HC6_.out).mono ?_; rintro e w' ⟨rfl, rfl⟩)
              have hF5 : ((((W4.setCell ⟨gf, 0, none⟩ (.int .i64 2)).setCell ⟨gf, 1, none⟩ (.string (s.extract x.toNat y.toNat))).setCell ⟨gf, 3, none⟩ (.int .i64 0)).drew).heap[gf]? = some (.cells #[.int .i64 2, .string (s.extract x.toNat y.toNat), .int .i64 x, .int .i64 0] 45 (0, 0)) := blk_drew (blk_put (blk_put (blk_put HF.out 0 _ rfl) 1 _ rfl) 3 _ rfl)
              have hB5 : Below wr.heap.size wr ((((W4.setCell ⟨gf, 0, none⟩ (.int .i64 2)).setCell ⟨gf, 1, none⟩ (.string (s.extract x.toNat y.toNat))).setCell ⟨gf, 3, none⟩ (.int .i64 0)).drew) := below_drew1 (below_set (below_set (below_set HB.out HGF.out) HGF.out) HGF.out)
              generalize ((((W4.setCell ⟨gf, 0, none⟩ (.int .i64 2)).setCell ⟨gf, 1, none⟩ (.string (s.extract x.toNat y.toNat))).setCell ⟨gf, 3, none⟩ (.int .i64 0)).drew) = W6 at hF5 hB5 ⊢
              have HF6 := Aside0.mk hF5
              have HB6 := Aside0.mk hB5
              have HT6 := Aside0.mk (blk_below HT.out hB5)
              have HC6 := Aside0.mk (blk_below HC.out hB5)
              have HA6 := Aside0.mk (blk_below HA.out hB5)
              (try clear hc0 hc1 hc2 hc3)
              (try clear hf0 hf1 hf2 hf3)
              (try clear hct hca)
              clear hF5 hB5
              have hp := (Lx.piece4 HCL.out HV.out).trans (by rw [if_neg HLEN.out] : _ = Lx.Pc.mk 2 ((s.data.toList.drop x.toNat).take (Lx.span Lx.digit (s.data.toList.drop x.toNat))) 0 (Lx.span Lx.digit (s.data.toList.drop x.toNat)))
              have hr := Lx.read_tok HR.out HCL.out (by rw [hp]) (by rw [hp]; exact Nat.succ_ne_zero _)
              rw [hp] at hr
              have hyn : x.toNat + Lx.span Lx.digit (s.data.toList.drop x.toNat) = y.toNat := HE.out
              simp only [hyn] at hr
              have hfl := (Lx.read_prefix hr).length_le
              rw [List.length_append] at hfl
              obtain ⟨fn, tmps, assign, body, hy, hRd⟩ := HY.out pre ⟨2, ((s.data.toList.drop x.toNat).take (Lx.span Lx.digit (s.data.toList.drop x.toNat))), x.toNat, 0⟩ _ (HJJ.out _ HB6.out) (Nat.lt_of_lt_of_le (Nat.lt_succ_self _) hfl)
              have HRD := Aside0.mk hr
              clear hfl hr hp hyn
              have hc0 : W6.cell? ⟨gf, 0, none⟩ = some (.int .i64 2) := (blk_cell HF6.out 0).trans rfl
              have hc1 : W6.cell? ⟨gf, 1, none⟩ = some (.string (s.extract x.toNat y.toNat)) := (blk_cell HF6.out 1).trans rfl
              have hc2 : W6.cell? ⟨gf, 2, none⟩ = some (.int .i64 x) := (blk_cell HF6.out 2).trans rfl
              have hc3 : W6.cell? ⟨gf, 3, none⟩ = some (.int .i64 0) := (blk_cell HF6.out 3).trans rfl
              have hy2 : (Instr.yield l #[.agg #[.int .i64 2, .string (s.extract x.toNat y.toNat), .int .i64 x, .int .i64 0]]).run Try.prog W6 = .ok (.round l fn tmps assign body) W6 := by
                have h := hy
                dsimp only [encF] at h
                rw [show ((x.toNat : Nat) : Int) = x by have := hX.out; omega, HXT.out] at h
                exact h
              clear hy
              refine (wpIn_wide (n := n + 1)).1 ?_
              gi_wp2
              refine hRd.mono ?_
              clear hRd hy2 hc0 hc1 hc2 hc3
              rintro e W5 (⟨rfl, hJ5, hk5⟩ | ⟨rfl, hJx5⟩)
              · have hF5 := hk5 gf _ _ (by have := HGF.out; have := HS.out; have := HN.out; omega) (by decide) HF6.out
                have hc3 : W5.cell? ⟨gf, 3, none⟩ = some (.int .i64 0) := (blk_cell hF5 3).trans rfl
                have HJ5 := Aside0.mk hJ5
                have HT5 := Aside0.mk (hk5 gt _ _ HN.out.1 (by decide) HT6.out)
                have HC5 := Aside0.mk (hk5 gc _ _ HN.out.2.1 (by decide) HC6.out)
                have HA5 := Aside0.mk (hk5 ga _ _ HN.out.2.2.1 (by decide) HA6.out)
                have HS5 : Aside0 (w.heap.size ≤ W5.heap.size) := ⟨by have := blk_lt hF5; have := HGF.out; have := HS.out; omega⟩
                clear hk5 hF5 hJ5
                gi_wp2
                go_wp2
                go_roundw
                case rel => exact ⟨y, _, rfl, ⟨by have := hX.out; have := hY.out; omega⟩, HRD, HJ5, HS5, HT5, HC5, HA5⟩
                case measure =>
                  have := hX.out
                  have := HLT.out
                  have hb_ : x < y ∧ y ≤ s.size := ⟨HPOS.out, hY.out.2⟩
                  simp only [intOf]
                  omega
              · have HJX := Aside0.mk hJx5
                clear hJx5
                gi_wp2
                go_wp2
                rw [Exit.noGoto_ret]
                refine bodyPost_ret (results_none rfl _ _ _) rfl ?_
                exact ⟨⟨_, rfl⟩, .inr ⟨_, Lx.read_prefix HRD.out, HJX.out⟩⟩
      · -- a symbol
        as_aux_lemma =>
        obtain ⟨y, hyx⟩ : ∃ y : Int, y = x + 1 := ⟨_, rfl⟩
        have hY : Aside0 (x ≤ y ∧ y ≤ s.size) := ⟨by have := HLT.out; omega⟩
        have HYX := Aside0.mk hyx
        have hw5 : wrap64 (x + 1) = y := by rw [hw1, hyx]
        have hxt : (⟨([c] : List UInt8).toArray⟩ : ByteArray) = s.extract x.toNat y.toNat := by
          have h := ext_text s x.toNat 1
          rw [Lx.drop_cons HCL.out] at h
          rw [show y.toNat = x.toNat + 1 by have := hX.out; omega]
          exact h
        have HXT := Aside0.mk hxt
        clear hxt hw1
        have g1 := eq_true (show (0 : Int) ≤ x by have := hX.out; omega)
        have g2 := eq_true (show x ≤ y by have := hY.out; omega)
        have g3 := eq_true (show y ≤ s.size by have := hY.out; omega)
        have hc0 : W4.cell? ⟨gf, 0, none⟩ = some (.int .i64 0) := (blk_cell HF.out 0).trans rfl
        have hc1 : W4.cell? ⟨gf, 1, none⟩ = some (.string ⟨#[]⟩) := (blk_cell HF.out 1).trans rfl
        have hc2 : W4.cell? ⟨gf, 2, none⟩ = some (.int .i64 x) := (blk_cell HF.out 2).trans rfl
        have hc3 : W4.cell? ⟨gf, 3, none⟩ = some (.int .i64 3) := (blk_cell HF.out 3).trans rfl
        have hf0 := blk_frozen HF.out 0
        have hf1 := blk_frozen HF.out 1
        have hf2 := blk_frozen HF.out 2
        have hf3 := blk_frozen HF.out 3
        have hne : gt ≠ gf := fun e => by have := blk_lt HT.out; have := HGF.out; omega
        have hne2 : ga ≠ gf := fun e => by have := blk_lt HA.out; have := HGF.out; omega
        clear hyx
        go_wp2_with (go_at_call 33; refine (call_at _ HX0.out hX.out.1 hs HT4.out HC4.out).mono ?_; rintro e w' ⟨rfl, rfl⟩)
        go_region
        go_upto_region 33 with (fail)
        have hF5 : ((((W4.setCell ⟨gf, 0, none⟩ (.int .i64 4)).setCell ⟨gf, 1, none⟩ (.string (s.extract x.toNat y.toNat))).setCell ⟨gf, 3, none⟩ (.int .i64 0)).drew).heap[gf]? = some (.cells #[.int .i64 4, .string (s.extract x.toNat y.toNat), .int .i64 x, .int .i64 0] 45 (0, 0)) := blk_drew (blk_put (blk_put (blk_put HF.out 0 _ rfl) 1 _ rfl) 3 _ rfl)
        have hB5 : Below wr.heap.size wr ((((W4.setCell ⟨gf, 0, none⟩ (.int .i64 4)).setCell ⟨gf, 1, none⟩ (.string (s.extract x.toNat y.toNat))).setCell ⟨gf, 3, none⟩ (.int .i64 0)).drew) := below_drew1 (below_set (below_set (below_set HB.out HGF.out) HGF.out) HGF.out)
        generalize ((((W4.setCell ⟨gf, 0, none⟩ (.int .i64 4)).setCell ⟨gf, 1, none⟩ (.string (s.extract x.toNat y.toNat))).setCell ⟨gf, 3, none⟩ (.int .i64 0)).drew) = W6 at hF5 hB5 ⊢
        have HF6 := Aside0.mk hF5
        have HB6 := Aside0.mk hB5
        have HT6 := Aside0.mk (blk_below HT.out hB5)
        have HC6 := Aside0.mk (blk_below HC.out hB5)
        have HA6 := Aside0.mk (blk_below HA.out hB5)
        (try clear hc0 hc1 hc2 hc3)
        (try clear hf0 hf1 hf2 hf3)
        (try clear hct hca)
        clear hF5 hB5
        have hp := Lx.piece6 HCL.out HV.out
        have hr := Lx.read_tok HR.out HCL.out (by rw [hp]) (by rw [hp]; exact Nat.succ_ne_zero _)
        rw [hp] at hr
        have hyn : x.toNat + 1 = y.toNat := by have := HYX.out; have := hX.out; omega
        simp only [hyn] at hr
        have hfl := (Lx.read_prefix hr).length_le
        rw [List.length_append] at hfl
        obtain ⟨fn, tmps, assign, body, hy, hRd⟩ := HY.out pre ⟨4, [c], x.toNat, 0⟩ _ (HJJ.out _ HB6.out) (Nat.lt_of_lt_of_le (Nat.lt_succ_self _) hfl)
        have HRD := Aside0.mk hr
        clear hfl hr hp hyn
        have hc0 : W6.cell? ⟨gf, 0, none⟩ = some (.int .i64 4) := (blk_cell HF6.out 0).trans rfl
        have hc1 : W6.cell? ⟨gf, 1, none⟩ = some (.string (s.extract x.toNat y.toNat)) := (blk_cell HF6.out 1).trans rfl
        have hc2 : W6.cell? ⟨gf, 2, none⟩ = some (.int .i64 x) := (blk_cell HF6.out 2).trans rfl
        have hc3 : W6.cell? ⟨gf, 3, none⟩ = some (.int .i64 0) := (blk_cell HF6.out 3).trans rfl
        have hy2 : (Instr.yield l #[.agg #[.int .i64 4, .string (s.extract x.toNat y.toNat), .int .i64 x, .int .i64 0]]).run Try.prog W6 = .ok (.round l fn tmps assign body) W6 := by
          have h := hy
          dsimp only [encF] at h
          rw [show ((x.toNat : Nat) : Int) = x by have := hX.out; omega, HXT.out] at h
          exact h
        clear hy
        refine (wpIn_wide (n := n + 1)).1 ?_
        gi_wp2
        refine hRd.mono ?_
        clear hRd hy2 hc0 hc1 hc2 hc3
        rintro e W5 (⟨rfl, hJ5, hk5⟩ | ⟨rfl, hJx5⟩)
        · have hF5 := hk5 gf _ _ (by have := HGF.out; have := HS.out; have := HN.out; omega) (by decide) HF6.out
          have hc3 : W5.cell? ⟨gf, 3, none⟩ = some (.int .i64 0) := (blk_cell hF5 3).trans rfl
          have HJ5 := Aside0.mk hJ5
          have HT5 := Aside0.mk (hk5 gt _ _ HN.out.1 (by decide) HT6.out)
          have HC5 := Aside0.mk (hk5 gc _ _ HN.out.2.1 (by decide) HC6.out)
          have HA5 := Aside0.mk (hk5 ga _ _ HN.out.2.2.1 (by decide) HA6.out)
          have HS5 : Aside0 (w.heap.size ≤ W5.heap.size) := ⟨by have := blk_lt hF5; have := HGF.out; have := HS.out; omega⟩
          clear hk5 hF5 hJ5
          gi_wp2
          go_wp2
          go_roundw
          case rel => exact ⟨y, _, rfl, ⟨by have := hX.out; have := hY.out; omega⟩, HRD, HJ5, HS5, HT5, HC5, HA5⟩
          case measure =>
            have := hX.out
            have := HLT.out
            have hb_ : x < y ∧ y ≤ s.size := ⟨by have := HYX.out; omega, hY.out.2⟩
            simp only [intOf]
            omega
        · have HJX := Aside0.mk hJx5
          clear hJx5
          gi_wp2
          go_wp2
          rw [Exit.noGoto_ret]
          refine bodyPost_ret (results_none rfl _ _ _) rfl ?_
          exact ⟨⟨_, rfl⟩, .inr ⟨_, Lx.read_prefix HRD.out, HJX.out⟩⟩
      · -- a string
        as_aux_lemma =>
        have g1 := eq_true (show (0 : Int) ≤ x by have := hX.out; omega)
        have g2 := eq_true (show x ≤ s.size by have := hX.out; omega)
        cases hst : Lx.str (s.data.toList.drop (x.toNat + 1)) with
        | none =>
          have HU1 : Aside0 (unqt (s.data.toList.drop x.toNat) = []) := ⟨(unq_none (by rw [List.drop_drop]; exact hst)).1⟩
          have HU2 : Aside0 (unqn (s.data.toList.drop x.toNat) = 0) := ⟨(unq_none (by rw [List.drop_drop]; exact hst)).2⟩
          have HST := Aside0.mk hst
          have hw6 : wrap64 (x + ((0 : Nat) : Int)) = x := by have := hX.out; have := HLT.out; unfold wrap64; omega
          have hw7 : wrap64 x = x := by have := hX.out; have := HLT.out; unfold wrap64; omega
          clear hst
          go_upto_region 33 with (first | (go_at_call 33; refine (call_at _ HX0.out hX.out.1 hs HT4.out HC4.out).mono ?_; rintro e w' ⟨rfl, rfl⟩) | (go_at_call 35; refine (unquoted_any _ _ (by have := ext_rest_le s x.toNat; omega)).mono ?_; rintro e W7 ⟨rfl, hb7⟩; rw [ext_rest, HU1.out, HU2.out]; have HB7 := Aside0.mk (HB.out.trans (hb7.mono HB.out.size)); have HF7 := Aside0.mk (blk_below HF.out hb7); clear hb7; have hc0 : W7.cell? ⟨gf, 0, none⟩ = some (.int .i64 0) := (blk_cell HF7.out 0).trans rfl; have hc1 : W7.cell? ⟨gf, 1, none⟩ = some (.string ⟨#[]⟩) := (blk_cell HF7.out 1).trans rfl; have hc2 : W7.cell? ⟨gf, 2, none⟩ = some (.int .i64 x) := (blk_cell HF7.out 2).trans rfl; have hc3 : W7.cell? ⟨gf, 3, none⟩ = some (.int .i64 3) := (blk_cell HF7.out 3).trans rfl; have hf0 := blk_frozen HF7.out 0; have hf1 := blk_frozen HF7.out 1; have hf2 := blk_frozen HF7.out 2; have hf3 := blk_frozen HF7.out 3))
          have HF6 := HF7
          have HB6 := HB7
          have HT6 := Aside0.mk (blk_below HT.out HB7.out)
          have HC6 := Aside0.mk (blk_below HC.out HB7.out)
          have HA6 := Aside0.mk (blk_below HA.out HB7.out)
          generalize W7 = W6 at HF6 HB6 HT6 HC6 HA6 ⊢
          (try clear hc0 hc1 hc2 hc3)
          (try clear hf0 hf1 hf2 hf3)
          (try clear hct hca)
          have hp := (Lx.piece7 HCL.out HV.out).trans (by rw [HST.out] : _ = Lx.Pc.mk 0 [] 3 0)
          have hfd := Lx.read_err HR.out HCL.out (by rw [hp]; exact Nat.succ_ne_zero _)
          rw [hp] at hfd
          obtain ⟨fn, tmps, assign, body, hy, hRd⟩ := HY.out pre ⟨0, [], x.toNat, 3⟩ _ (HJJ.out _ HB6.out) (by rw [hfd, List.length_append]; exact Nat.lt_succ_self _)
          have HFD := Aside0.mk hfd
          clear hfd hp
          have hc0 : W6.cell? ⟨gf, 0, none⟩ = some (.int .i64 0) := (blk_cell HF6.out 0).trans rfl
          have hc1 : W6.cell? ⟨gf, 1, none⟩ = some (.string ⟨#[]⟩) := (blk_cell HF6.out 1).trans rfl
          have hc2 : W6.cell? ⟨gf, 2, none⟩ = some (.int .i64 x) := (blk_cell HF6.out 2).trans rfl
          have hc3 : W6.cell? ⟨gf, 3, none⟩ = some (.int .i64 3) := (blk_cell HF6.out 3).trans rfl
          have hy2 : (Instr.yield l #[.agg #[.int .i64 0, .string ⟨#[]⟩, .int .i64 x, .int .i64 3]]).run Try.prog W6 = .ok (.round l fn tmps assign body) W6 := by
            have h := hy
            dsimp only [encF] at h
            rw [show ((x.toNat : Nat) : Int) = x by have := hX.out; omega] at h
            exact h
          clear hy
          refine (wpIn_wide (n := n + 1)).1 ?_
          gi_wp2
          refine hRd.mono ?_
          clear hRd hy2 hc0 hc1 hc2 hc3
          rintro e W5 (⟨rfl, hJ5, hk5⟩ | ⟨rfl, hJx5⟩)
          · have hF5 := hk5 gf _ _ (by have := HGF.out; have := HS.out; have := HN.out; omega) (by decide) HF6.out
            have hc3 : W5.cell? ⟨gf, 3, none⟩ = some (.int .i64 3) := (blk_cell hF5 3).trans rfl
            have HJ5 := Aside0.mk hJ5
            clear hk5 hF5 hJ5
            gi_wp2
            go_wp2
            rw [Exit.noGoto_ret]
            refine bodyPost_ret (results_none rfl _ _ _) rfl ?_
            exact ⟨⟨_, rfl⟩, .inl ⟨_, HFD.out.symm, HJ5.out⟩⟩
          · have HJX := Aside0.mk hJx5
            clear hJx5
            gi_wp2
            go_wp2
            rw [Exit.noGoto_ret]
            refine bodyPost_ret (results_none rfl _ _ _) rfl ?_
            exact ⟨⟨_, rfl⟩, .inr ⟨_, by rw [HFD.out]; exact List.prefix_refl _, HJX.out⟩⟩
        | some r =>
          obtain ⟨tx, m⟩ := r
          have HU1 : Aside0 (unqt (s.data.toList.drop x.toNat) = tx) := ⟨(unq_some (by rw [List.drop_drop]; exact hst)).1⟩
          have HU2 : Aside0 (unqn (s.data.toList.drop x.toNat) = m + 1) := ⟨(unq_some (by rw [List.drop_drop]; exact hst)).2⟩
          have HST := Aside0.mk hst
          have hm := Lx.str_pos hst
          rw [List.length_drop, len_list] at hm
          have HM := Aside0.mk hm
          obtain ⟨y, hyx⟩ : ∃ y : Int, y = x + ((m + 1 : Nat) : Int) := ⟨_, rfl⟩
          have HYX := Aside0.mk hyx
          have hY : Aside0 (x ≤ y ∧ y ≤ s.size) := ⟨by have := HLT.out; have := hX.out; omega⟩
          have hw6 : wrap64 (x + ((m + 1 : Nat) : Int)) = y := by have := hX.out; have := hY.out; unfold wrap64; omega
          have hw7 : wrap64 (x + ((m : Int) + 1)) = y := by have := hX.out; have := hY.out; unfold wrap64; omega
          have hd1 : decide ((0 : Int) < ((m + 1 : Nat) : Int)) = true := decide_eq_true (by omega)
          have hd2 : decide ((0 : Int) < (m : Int) + 1) = true := decide_eq_true (by omega)
          clear hst hm hyx
          go_upto_region 33 with (first | (go_at_call 33; refine (call_at _ HX0.out hX.out.1 hs HT4.out HC4.out).mono ?_; rintro e w' ⟨rfl, rfl⟩) | (go_at_call 35; refine (unquoted_any _ _ (by have := ext_rest_le s x.toNat; omega)).mono ?_; rintro e W7 ⟨rfl, hb7⟩; rw [ext_rest, HU1.out, HU2.out]; have HB7 := Aside0.mk (HB.out.trans (hb7.mono HB.out.size)); have HF7 := Aside0.mk (blk_below HF.out hb7); clear hb7; have hc0 : W7.cell? ⟨gf, 0, none⟩ = some (.int .i64 0) := (blk_cell HF7.out 0).trans rfl; have hc1 : W7.cell? ⟨gf, 1, none⟩ = some (.string ⟨#[]⟩) := (blk_cell HF7.out 1).trans rfl; have hc2 : W7.cell? ⟨gf, 2, none⟩ = some (.int .i64 x) := (blk_cell HF7.out 2).trans rfl; have hc3 : W7.cell? ⟨gf, 3, none⟩ = some (.int .i64 3) := (blk_cell HF7.out 3).trans rfl; have hf0 := blk_frozen HF7.out 0; have hf1 := blk_frozen HF7.out 1; have hf2 := blk_frozen HF7.out 2; have hf3 := blk_frozen HF7.out 3))
          have hF5 : (((W7.setCell ⟨gf, 0, none⟩ (.int .i64 3)).setCell ⟨gf, 1, none⟩ (.string ⟨tx.toArray⟩)).setCell ⟨gf, 3, none⟩ (.int .i64 0)).heap[gf]? = some (.cells #[.int .i64 3, .string ⟨tx.toArray⟩, .int .i64 x, .int .i64 0] 45 (0, 0)) := blk_put (blk_put (blk_put HF7.out 0 _ rfl) 1 _ rfl) 3 _ rfl
          have hB5 : Below wr.heap.size wr (((W7.setCell ⟨gf, 0, none⟩ (.int .i64 3)).setCell ⟨gf, 1, none⟩ (.string ⟨tx.toArray⟩)).setCell ⟨gf, 3, none⟩ (.int .i64 0)) := below_set (below_set (below_set HB7.out HGF.out) HGF.out) HGF.out
          generalize (((W7.setCell ⟨gf, 0, none⟩ (.int .i64 3)).setCell ⟨gf, 1, none⟩ (.string ⟨tx.toArray⟩)).setCell ⟨gf, 3, none⟩ (.int .i64 0)) = W6 at hF5 hB5 ⊢
          have HF6 := Aside0.mk hF5
          have HB6 := Aside0.mk hB5
          have HT6 := Aside0.mk (blk_below HT.out hB5)
          have HC6 := Aside0.mk (blk_below HC.out hB5)
          have HA6 := Aside0.mk (blk_below HA.out hB5)
          (try clear hc0 hc1 hc2 hc3)
          (try clear hf0 hf1 hf2 hf3)
          (try clear hct hca)
          clear hF5 hB5
          have hp := (Lx.piece7 HCL.out HV.out).trans (by rw [HST.out] : _ = Lx.Pc.mk 3 tx 0 (m + 1))
          have hr := Lx.read_tok HR.out HCL.out (by rw [hp]) (by rw [hp]; exact Nat.succ_ne_zero _)
          rw [hp] at hr
          have hyn : x.toNat + (m + 1) = y.toNat := by have := HYX.out; have := hX.out; omega
          simp only [hyn] at hr
          have hfl := (Lx.read_prefix hr).length_le
          rw [List.length_append] at hfl
          obtain ⟨fn, tmps, assign, body, hy, hRd⟩ := HY.out pre ⟨3, tx, x.toNat, 0⟩ _ (HJJ.out _ HB6.out) (Nat.lt_of_lt_of_le (Nat.lt_succ_self _) hfl)
          have HRD := Aside0.mk hr
          clear hfl hr hp hyn
          have hc0 : W6.cell? ⟨gf, 0, none⟩ = some (.int .i64 3) := (blk_cell HF6.out 0).trans rfl
          have hc1 : W6.cell? ⟨gf, 1, none⟩ = some (.string ⟨tx.toArray⟩) := (blk_cell HF6.out 1).trans rfl
          have hc2 : W6.cell? ⟨gf, 2, none⟩ = some (.int .i64 x) := (blk_cell HF6.out 2).trans rfl
          have hc3 : W6.cell? ⟨gf, 3, none⟩ = some (.int .i64 0) := (blk_cell HF6.out 3).trans rfl
          have hy2 : (Instr.yield l #[.agg #[.int .i64 3, .string ⟨tx.toArray⟩, .int .i64 x, .int .i64 0]]).run Try.prog W6 = .ok (.round l fn tmps assign body) W6 := by
            have h := hy
            dsimp only [encF] at h
            rw [show ((x.toNat : Nat) : Int) = x by have := hX.out; omega] at h
            exact h
          clear hy
          refine (wpIn_wide (n := n + 1)).1 ?_
          gi_wp2
          refine hRd.mono ?_
          clear hRd hy2 hc0 hc1 hc2 hc3
          rintro e W5 (⟨rfl, hJ5, hk5⟩ | ⟨rfl, hJx5⟩)
          · have hF5 := hk5 gf _ _ (by have := HGF.out; have := HS.out; have := HN.out; omega) (by decide) HF6.out
            have hc3 : W5.cell? ⟨gf, 3, none⟩ = some (.int .i64 0) := (blk_cell hF5 3).trans rfl
            have HJ5 := Aside0.mk hJ5
            have HT5 := Aside0.mk (hk5 gt _ _ HN.out.1 (by decide) HT6.out)
            have HC5 := Aside0.mk (hk5 gc _ _ HN.out.2.1 (by decide) HC6.out)
            have HA5 := Aside0.mk (hk5 ga _ _ HN.out.2.2.1 (by decide) HA6.out)
            have HS5 : Aside0 (w.heap.size ≤ W5.heap.size) := ⟨by have := blk_lt hF5; have := HGF.out; have := HS.out; omega⟩
            clear hk5 hF5 hJ5
            gi_wp2
            go_wp2
            go_roundw
            case rel => exact ⟨y, _, rfl, ⟨by have := hX.out; have := hY.out; omega⟩, HRD, HJ5, HS5, HT5, HC5, HA5⟩
            case measure =>
              have := hX.out
              have := HLT.out
              have hb_ : x < y ∧ y ≤ s.size := ⟨by have := HYX.out; omega, hY.out.2⟩
              simp only [intOf]
              omega
          · have HJX := Aside0.mk hJx5
            clear hJx5
            gi_wp2
            go_wp2
            rw [Exit.noGoto_ret]
            refine bodyPost_ret (results_none rfl _ _ _) rfl ?_
            exact ⟨⟨_, rfl⟩, .inr ⟨_, Lx.read_prefix HRD.out, HJX.out⟩⟩
      · -- no token
        as_aux_lemma =>
        rcases hcs with rfl | rfl
        all_goals
          go_upto_region 33 with (go_at_call 33; refine (call_at _ HX0.out hX.out.1 hs HT4.out HC4.out).mono ?_; rintro e w' ⟨rfl, rfl⟩)
          have HF6 := HF
          have HB6 := HB
          have HT6 := HT4
          have HC6 := HC4
          have HA6 := HA4
          generalize W4 = W6 at HF6 HB6 HT6 HC6 HA6 ⊢
          (try clear hc0 hc1 hc2 hc3)
          (try clear hf0 hf1 hf2 hf3)
          (try clear hct hca)
          have hp := Lx.piece0 HCL.out (by rw [HV.out]; first | exact .inl rfl | exact .inr rfl)
          have hfd := Lx.read_err HR.out HCL.out (by rw [hp]; exact Nat.succ_ne_zero _)
          rw [hp] at hfd
          obtain ⟨fn, tmps, assign, body, hy, hRd⟩ := HY.out pre ⟨0, [], x.toNat, 3⟩ _ (HJJ.out _ HB6.out) (by rw [hfd, List.length_append]; exact Nat.lt_succ_self _)
          have HFD := Aside0.mk hfd
          clear hfd hp
          have hc0 : W6.cell? ⟨gf, 0, none⟩ = some (.int .i64 0) := (blk_cell HF6.out 0).trans rfl
          have hc1 : W6.cell? ⟨gf, 1, none⟩ = some (.string ⟨#[]⟩) := (blk_cell HF6.out 1).trans rfl
          have hc2 : W6.cell? ⟨gf, 2, none⟩ = some (.int .i64 x) := (blk_cell HF6.out 2).trans rfl
          have hc3 : W6.cell? ⟨gf, 3, none⟩ = some (.int .i64 3) := (blk_cell HF6.out 3).trans rfl
          have hy2 : (Instr.yield l #[.agg #[.int .i64 0, .string ⟨#[]⟩, .int .i64 x, .int .i64 3]]).run Try.prog W6 = .ok (.round l fn tmps assign body) W6 := by
            have h := hy
            dsimp only [encF] at h
            rw [show ((x.toNat : Nat) : Int) = x by have := hX.out; omega] at h
            exact h
          clear hy
          refine (wpIn_wide (n := n + 1)).1 ?_
          gi_wp2
          refine hRd.mono ?_
          clear hRd hy2 hc0 hc1 hc2 hc3
          rintro e W5 (⟨rfl, hJ5, hk5⟩ | ⟨rfl, hJx5⟩)
          · have hF5 := hk5 gf _ _ (by have := HGF.out; have := HS.out; have := HN.out; omega) (by decide) HF6.out
            have hc3 : W5.cell? ⟨gf, 3, none⟩ = some (.int .i64 3) := (blk_cell hF5 3).trans rfl
            have HJ5 := Aside0.mk hJ5
            clear hk5 hF5 hJ5
            gi_wp2
            go_wp2
            rw [Exit.noGoto_ret]
            refine bodyPost_ret (results_none rfl _ _ _) rfl ?_
            exact ⟨⟨_, rfl⟩, .inl ⟨_, HFD.out.symm, HJ5.out⟩⟩
          · have HJX := Aside0.mk hJx5
            clear hJx5
            gi_wp2
            go_wp2
            rw [Exit.noGoto_ret]
            refine bodyPost_ret (results_none rfl _ _ _) rfl ?_
            exact ⟨⟨_, rfl⟩, .inr ⟨_, by rw [HFD.out]; exact List.prefix_refl _, HJX.out⟩⟩
    · have p6 : decide (x < s.size) = false := decide_eq_false hlt
      have hct : wr.cell? ⟨gt, 0, none⟩ = some (.string s) := (blk_cell HT.out 0).trans rfl
      have hfe := Lx.read_end HR.out (by rw [len_list]; have := hX.out; omega)
      have HFE := Aside0.mk hfe
      clear hlt hfe
      go_wp2
      rw [Exit.noGoto_normal]
      refine bodyPost_end (results_none rfl _ _ _) rfl ?_
      exact ⟨⟨_, rfl⟩, .inl ⟨_, HFE.out.symm, HJp.out⟩⟩
end Go.Proofs.Ytflocikkhpjicaa.P
