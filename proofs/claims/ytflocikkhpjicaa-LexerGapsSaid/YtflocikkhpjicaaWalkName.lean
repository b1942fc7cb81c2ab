/- What lexer.classes and lexer.Name answer. -/
import Derived.Test.YtflocikkhpjicaaShelf
import Derived.Test.YtflocikkhpjicaaLexSpec
import Derived.Test.YtflocikkhpjicaaPx0
import Derived.Laws.CopyOwn
namespace Go.Proofs.Ytflocikkhpjicaa.P
open Go.RowKit Go.Proofs.YtflocikkhpjicaaW.PrintWords Go.Proofs.YtflocikkhpjicaaW.PrintLast Go.Proofs.YtflocikkhpjicaaW.PrintMore
set_option linter.unusedVariables false
def Z256 : Array Value := Array.replicate 256 (.int .u8 0)
theorem z256_size : Z256.size = 256 := by simp [Z256]
theorem zv256 (w : World) : (zeroValue 49).run Try.prog w = .ok (.agg Z256) w := by kernel_rfl
/-- what the loop has stored after k rounds -/
def rowk (k : Nat) : Array Value := (Array.range 256).map fun j => .int .u8 ((if j < k then Lx.cls0 j.toUInt8 else 0 : Nat) : Int)
theorem rowk_zero : rowk 0 = Z256 := by
  apply Array.ext
  · simp [rowk, Z256]
  · intro i h1 h2; simp [rowk, Z256]
theorem rowk_size (k : Nat) : (rowk k).size = 256 := by simp [rowk]
theorem rowk_succ {k v : Nat} (h : k < 256) (hv : Lx.cls0 k.toUInt8 = v) : rowk (k + 1) = (rowk k).setIfInBounds k (.int .u8 (v : Int)) := by
  subst hv
  apply Array.ext
  · simp [rowk]
  · intro i h1 h2
    rw [Array.getElem_setIfInBounds (by rw [rowk_size] at h1 ⊢; exact h1)]
    by_cases e : k = i
    · subst e; rw [if_pos rfl]; simp [rowk]
    · rw [if_neg e]
      simp only [rowk, Array.getElem_map, Array.getElem_range]
      by_cases hi : i < k
      · rw [if_pos (by omega), if_pos hi]
      · rw [if_neg (by omega), if_neg hi]
theorem rowk_skip {k : Nat} (h : k < 256) (hv : Lx.cls0 k.toUInt8 = 0) : rowk (k + 1) = rowk k := by
  rw [rowk_succ h hv]
  apply Array.ext
  · simp
  · intro i h1 h2
    rw [Array.getElem_setIfInBounds (by simpa using h1)]
    by_cases e : k = i
    · subst e; rw [if_pos rfl]; simp [rowk]
    · rw [if_neg e]
/-- a byte's class by its number -/
theorem cls0_at {k : Nat} (h : k < 256) : Lx.cls0 k.toUInt8 = if (97 ≤ k ∧ k ≤ 122) ∨ (65 ≤ k ∧ k ≤ 90) then 3 else if 48 ≤ k ∧ k ≤ 57 then 4 else if 0 ≤ Lib.indexByte [32, 9, 10] (UInt8.ofNat k) then 1 else if 0 ≤ Lib.indexByte [59, 44, 46, 58, 40, 41, 123, 125, 91, 93, 61, 60, 62, 47, 45] (UInt8.ofNat k) then 6 else 0 := by
  have : ∀ k : Fin 256, Lx.cls0 k.1.toUInt8 = if (97 ≤ k.1 ∧ k.1 ≤ 122) ∨ (65 ≤ k.1 ∧ k.1 ≤ 90) then 3 else if 48 ≤ k.1 ∧ k.1 ≤ 57 then 4 else if 0 ≤ Lib.indexByte [32, 9, 10] (UInt8.ofNat k.1) then 1 else if 0 ≤ Lib.indexByte [59, 44, 46, 58, 40, 41, 123, 125, 91, 93, 61, 60, 62, 47, 45] (UInt8.ofNat k.1) then 6 else 0 := by decide +kernel
  exact this ⟨k, h⟩
/-- the classes of all bytes -/
def classRow : Array Value := (Array.range 256).map fun j => .int .u8 (Lx.cls j.toUInt8)
theorem classRow_size : classRow.size = 256 := by simp [classRow]
theorem classRow_one : classRow.all (·.oneCell') = true := by
  rw [Array.all_eq_true_iff_forall_mem]
  intro v hv
  obtain ⟨j, _, rfl⟩ := Array.mem_map.1 hv
  rfl
theorem row_last : (((rowk 256).setIfInBounds 35 (.int .u8 2)).setIfInBounds 95 (.int .u8 5)).setIfInBounds 34 (.int .u8 7) = classRow := by
  apply Array.ext_getElem?
  intro i
  simp only [Array.getElem?_setIfInBounds, Array.size_setIfInBounds, rowk_size]
  by_cases hi : i < 256
  · have e : ∀ k : Fin 256, Lx.cls k.1.toUInt8 = if k.1 = 34 then 7 else if k.1 = 95 then 5 else if k.1 = 35 then 2 else Lx.cls0 k.1.toUInt8 := by decide +kernel
    have e := e ⟨i, hi⟩
    simp only at e
    have er : classRow[i]? = some (.int .u8 (Lx.cls i.toUInt8)) := by simp [classRow, hi]
    rw [er, e]
    by_cases e1 : 34 = i
    · subst e1; rfl
    · rw [if_neg e1, if_neg (show ¬ i = 34 from fun z => e1 z.symm)]
      by_cases e2 : 95 = i
      · subst e2; rfl
      · rw [if_neg e2, if_neg (show ¬ i = 95 from fun z => e2 z.symm)]
        by_cases e3 : 35 = i
        · subst e3; rfl
        · rw [if_neg e3, if_neg (show ¬ i = 35 from fun z => e3 z.symm)]
          simp [rowk, hi]
  · rw [if_neg (by omega), if_neg (by omega), if_neg (by omega), Array.getElem?_eq_none (by rw [rowk_size]; omega), Array.getElem?_eq_none (by rw [classRow_size]; omega)]
set_option maxHeartbeats 1000000 in
set_option maxRecDepth 100000 in
theorem classes_any (w : World) : Calls Try.prog 27 #[] w fun e w' => e = .returned (.agg classRow) ∧ Below w.heap.size w w' := by
  have hz := zv256
  have hu := Try.underlying49
  have hs := z256_size
  go_enter Try.func27, Try.ntmps27
  go_wp2
  go_loopw [4] (fun i wr => ∃ k : Nat, k ≤ 256 ∧ i = .int .i64 k ∧ wr.heap[w.heap.size + 1]? = some (.cells (rowk k) 49 (0, 0)) ∧ wr.heap[w.heap.size]? = some (.cells Z256 49 (0, 0)) ∧ Below w.heap.size w wr) (fun i _ => 256 - (intOf i).toNat)
  case atStart => exact ⟨0, by omega, rfl, by rw [rowk_zero]; exact heap_alloc2_new w _ _, heap_alloc2_old w _ _, ((Below.refl _ w).alloc (Nat.le_refl _) _).alloc (by simp) _⟩
  case round =>
    obtain ⟨k, hk, rfl, hb, h0, hB⟩ := hrel
    by_cases hlt : k < 256
    · have hsz := rowk_size k
      have hc : wr.cell? ⟨w.heap.size + 1, k, none⟩ = some (.int .u8 0) := by
        rw [cell_of_row _ _ _ _ _ _ hb]; simp [rowk, hlt]
      have hf := frozen_of_row wr (w.heap.size + 1) k _ _ hb
      have HB := Aside0.mk hb
      have H0 := Aside0.mk h0
      clear hb h0
      go_wp2_with (go_at_call 39; refine (call_IndexByte _ _ _).mono ?_; rintro e w' ⟨rfl, rfl⟩)
      all_goals
        obtain ⟨v, H⟩ : ∃ v, Lx.cls0 k.toUInt8 = v := ⟨_, rfl⟩
        have hv := H
        rw [cls0_at hlt] at hv
        repeat (first | rw [if_pos (by omega)] at hv | rw [if_neg (by omega)] at hv)
        subst hv
        go_roundw
        case rel =>
          first
          | exact ⟨k + 1, by omega, by go_num, (heap_setCell_same _ _ _ _ _ (.int .u8 _) HB.out).trans (congrArg (fun x => some (Obj.cells x 49 (0, 0))) (rowk_succ hlt H).symm), (heap_setCell_other _ _ _ _ (by simp)).trans H0.out, hB.setCell (by simp) _⟩
          | exact ⟨k + 1, by omega, by go_num, by rw [rowk_skip hlt H]; exact HB.out, H0.out, hB⟩
        case measure => simp [intOf]; omega
    · obtain rfl : k = 256 := by omega
      have hcl : ∀ j : Nat, j < 256 → (rowk 256)[j]? = some (.int .u8 ((Lx.cls0 j.toUInt8 : Nat) : Int)) := fun j hj => by simp [rowk, hj]
      have c35 : wr.cell? ⟨w.heap.size + 1, 35, none⟩ = some (.int .u8 2) ∨ True := .inr trivial
      have q35 := (cell_of_row wr (w.heap.size + 1) 35 _ _ _ hb).trans (hcl 35 (by omega))
      have q95 := (cell_of_row wr (w.heap.size + 1) 95 _ _ _ hb).trans (hcl 95 (by omega))
      have q34 := (cell_of_row wr (w.heap.size + 1) 34 _ _ _ hb).trans (hcl 34 (by omega))
      have f35 := frozen_of_row wr (w.heap.size + 1) 35 _ _ hb
      have f95 := frozen_of_row wr (w.heap.size + 1) 95 _ _ hb
      have f34 := frozen_of_row wr (w.heap.size + 1) 34 _ _ hb
      have HB := Aside0.mk hb
      have H0 := Aside0.mk h0
      clear hb h0 c35 hcl
      go_upto_region 17 with (fail)
      have hbx := heap_setCell_same _ _ 34 _ _ (.int .u8 7) (heap_setCell_same _ _ 95 _ _ (.int .u8 5) (heap_setCell_same _ _ 35 _ _ (.int .u8 2) HB.out))
      rw [row_last] at hbx
      have h0x : (((wr.setCell ⟨w.heap.size + 1, 35, none⟩ (.int .u8 2)).setCell ⟨w.heap.size + 1, 95, none⟩ (.int .u8 5)).setCell ⟨w.heap.size + 1, 34, none⟩ (.int .u8 7)).heap[w.heap.size]? = some (.cells Z256 49 (0, 0)) :=
        (heap_setCell_other _ _ _ _ (by simp)).trans ((heap_setCell_other _ _ _ _ (by simp)).trans ((heap_setCell_other _ _ _ _ (by simp)).trans H0.out))
      have hBx : Below w.heap.size w (((wr.setCell ⟨w.heap.size + 1, 35, none⟩ (.int .u8 2)).setCell ⟨w.heap.size + 1, 95, none⟩ (.int .u8 5)).setCell ⟨w.heap.size + 1, 34, none⟩ (.int .u8 7)) := ((hB.setCell (by simp) _).setCell (by simp) _).setCell (by simp) _
      generalize (((wr.setCell ⟨w.heap.size + 1, 35, none⟩ (.int .u8 2)).setCell ⟨w.heap.size + 1, 95, none⟩ (.int .u8 5)).setCell ⟨w.heap.size + 1, 34, none⟩ (.int .u8 7)) = wx at hbx h0x hBx ⊢
      clear q35 q95 q34 f35 f95 f34 HB H0
      have hsz : (Try.prog.info? 49).map (·.size) = some classRow.size := by rw [classRow_size]; kernel_rfl
      have HBX := Aside0.mk hbx
      have H0X := Aside0.mk h0x
      clear hbx h0x
      go_wp2_with (first
        | (refine wpList_load_row rfl 49 (.tmp 1) rfl (w.heap.size + 1) rfl 49 classRow (0, 0) _ HBX.out hu rfl hsz ?_)
        | (refine wpList_store_row rfl 49 (.tmp 0) (.tmp 49) rfl w.heap.size classRow rfl rfl 49 Z256 H0X.out hsz (by rw [z256_size, classRow_size]) classRow_one ?_))
      refine bodyPost_ret (v := .agg classRow) (results_cell_row rfl _ _ w.heap.size 49 classRow (0, 0) _ rfl (setRow_heap _ _ _ _ _ _ H0X.out) hu rfl hsz) rfl ⟨rfl, below_setRow hBx (Nat.le_refl _) _⟩
theorem byte_at (s : ByteArray) (x : Int) (h0 : 0 ≤ x) (h : x < s.size) : ∃ c : UInt8, s.data.toList[x.toNat]? = some c ∧ bt s x = (c.toNat : Int) :=
  have hk : x.toNat < s.size := by omega
  ⟨s[x.toNat], by rw [Array.getElem?_toList]; exact Array.getElem?_eq_getElem hk, by simp [bt, hk]⟩
theorem ret_bool {a b : Bool} (h : a = b) : Ending.returned (.bool a) = .returned (.bool b) := by rw [h]
set_option maxHeartbeats 1000000 in
set_option maxRecDepth 100000 in
theorem name_any (s : ByteArray) (w : World) (hs : s.size ≤ 140737488351232) : Calls Try.prog 15 #[.string s] w fun e w' => e = .returned (.bool (Lx.name s.data.toList)) ∧ Below w.heap.size w w' := by
  have hz := zv256
  have hu := Try.underlying49
  have hs1 := z256_size
  have hsz : (Try.prog.info? 49).map (·.size) = some classRow.size := by rw [classRow_size]; kernel_rfl
  go_enter Try.func15, Try.ntmps15
  go_upto_region 2 with (first
    | (go_at_call 27; refine (classes_any _).mono ?_; rintro e w1 ⟨rfl, hB1⟩)
    | (refine wpList_store_row rfl 49 (.tmp 3) (.tmp 6) rfl w1.heap.size classRow rfl rfl 49 Z256 (heap_alloc_new _ _) hsz (by rw [z256_size, classRow_size]) classRow_one ?_))
  obtain ⟨n1, hn1⟩ : ∃ n1, n1 = w1.heap.size := ⟨_, rfl⟩
  have hbx : ((w1.alloc (.cells Z256 49)).setRow w1.heap.size classRow).heap[w1.heap.size]? = some (.cells classRow 49 (0, 0)) := setRow_heap _ _ _ _ _ _ (heap_alloc_new _ _)
  have hBx : Below w.heap.size w ((w1.alloc (.cells Z256 49)).setRow w1.heap.size classRow) := below_setRow (hB1.alloc hB1.size _) hB1.size _
  rw [← hn1] at hbx hBx ⊢
  clear hn1
  generalize (w1.alloc (.cells Z256 49)).setRow n1 classRow = wx at hbx hBx ⊢
  have HBX := Aside0.mk hbx
  have HB := Aside0.mk hBx
  clear hbx hBx hB1
  simp only [Act.put]
  go_wp2
  go_loop [4, 5, 9] (fun _ _ i => ∃ x : Int, i = .int .i64 x ∧ Aside0 (0 ≤ x ∧ x ≤ s.size) ∧ Aside0 (Lx.nameTo s.data.toList x.toNat)) (fun _ _ i => s.size - (intOf i).toNat)
  case atStart => exact ⟨0, rfl, ⟨by omega, by omega⟩, ⟨fun i hi => absurd hi (by simp)⟩⟩
  case round =>
    obtain ⟨x, rfl, hX, hN⟩ := hrel
    by_cases hlt : x < s.size
    · obtain ⟨c, hcl, hb⟩ := byte_at s x hX.out.1 hlt
      obtain ⟨v, hv⟩ : ∃ v : Int, v = (Lx.cls c : Int) := ⟨_, rfl⟩
      have hc : wx.cell? ⟨n1, (bt s x).toNat, none⟩ = some (.int .u8 v) := by
        rw [cell_of_row _ _ _ _ _ _ HBX.out, hb, hv]
        have := c.toNat_lt
        simp [classRow, this]
      have hl1 : 0 ≤ bt s x := by rw [hb]; omega
      have hl2 : bt s x < 256 := by rw [hb]; have := c.toNat_lt; omega
      have HV := Aside0.mk hv
      have HC := Aside0.mk hcl
      have p5 := eq_true hX.out.1
      have q5 := eq_true hlt
      have hx5 := bt_at s x
      have p6 : decide (x < s.size) = true := decide_eq_true hlt
      clear hv hb hcl hlt
      go_wp2
      all_goals first
        | (go_round
           case rel =>
             have hw : wrap64 (x + 1) = x + 1 := by have := hX.out; unfold wrap64; omega
             refine ⟨x + 1, by rw [hw], ⟨by have := hX.out; have := of_eq_true q5; omega⟩, ⟨?_⟩⟩
             rw [show (x + 1).toNat = x.toNat + 1 by have := hX.out; omega]
             have hv := HV.out
             have h0 := hX.out.1
             refine Lx.nameTo_succ hN.out HC.out ?_
             grind
           case measure =>
             have hw : wrap64 (x + 1) = x + 1 := by have := hX.out; unfold wrap64; omega
             have := of_eq_true q5
             have := hX.out
             simp only [intOf, hw]
             omega)
        | (go_ret
           have hv := HV.out
           have h0 := hX.out.1
           exact ⟨ret_bool (Lx.name_no HC.out (by grind) (by grind)).symm, HB.out⟩)
    · have p6 : decide (x < s.size) = false := decide_eq_false hlt
      have hz2 : Lx.name s.data.toList = (!s.data.toList.isEmpty && decide (s.data.toList.length ≤ 24)) := by
        refine Lx.name_end ?_
        have : x.toNat = s.data.toList.length := by have := hX.out; simp; omega
        rw [← this]; exact hN.out
      have HZ := Aside0.mk hz2
      clear hz2
      go_wp2
      all_goals go_ret
      all_goals refine ⟨ret_bool ?_, HB.out⟩
      all_goals rw [HZ.out]
      · have h : s.toList = [] := by assumption
        rw [ByteArray.toList_eq] at h
        rw [h]; rfl
      · rw [ByteArray.toList_eq]
        congr 1
        rw [decide_eq_decide]
        simp
        omega
end Go.Proofs.Ytflocikkhpjicaa.P
