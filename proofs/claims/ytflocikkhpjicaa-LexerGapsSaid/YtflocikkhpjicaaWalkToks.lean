/- What lexer.tokens answers: a function over three blocks of its own, which hands out the found things of the text. -/
import Derived.Test.YtflocikkhpjicaaWalkIter
import Derived.Laws.EntriesVeiled
namespace Go.Proofs.Ytflocikkhpjicaa.P
open Go.RowKit Go.Proofs.YtflocikkhpjicaaW.PrintWords Go.Proofs.YtflocikkhpjicaaW.PrintLast Go.Proofs.YtflocikkhpjicaaW.PrintMore
set_option linter.unusedVariables false
set_option linter.unusedSimpArgs false
/-- the three blocks that a text's iterator leans on -/
def IterAt (s : ByteArray) (base gt gc ga : Nat) (w : World) : Prop :=
  w.heap[gt]? = some (.cells #[.string s] 9 (0, 0)) ∧ w.heap[gc]? = some (.cells classRow 49 (0, 0)) ∧
  w.heap[ga]? = some (.cells #[.func (.func 33) #[] #[.pointer (some ⟨gt, 0, none⟩), .pointer (some ⟨gc, 0, none⟩)]] 62 (0, 0)) ∧ base ≤ gt ∧ base ≤ gc ∧ base ≤ ga
def iterV (gt ga : Nat) : Value := .func (.func 34) #[] #[.pointer (some ⟨gt, 0, none⟩), .pointer (some ⟨ga, 0, none⟩)]
theorem toks_stops (s : ByteArray) (base gt gc ga b n : Nat) (w : World) (hs : s.size ≤ 1099511627776) (h : IterAt s base gt gc ga w) (hb : b < base) :
    SeqStopsK Fence.wide (n + 1) Try.prog 34 #[.pointer (some ⟨gt, 0, none⟩), .pointer (some ⟨ga, 0, none⟩)] encF (KeepT b) (fun xs => xs = Lx.founds 0 s.data.toList) (fun pre => pre <+: Lx.founds 0 s.data.toList) (Lx.founds 0 s.data.toList).length w :=
  fun l J Jx W hW hJ _ hY h0 => by
    obtain ⟨ht, hc, ha, l1, l2, l3⟩ := h
    exact callsIn_wide.2 (iter_any l s gt gc ga b n J Jx W hs (blk_below ht hW) (blk_below hc hW) (blk_below ha hW) (by omega) (by omega) (by omega) (by have := blk_lt ht; have := hW.size; omega) hJ h0 hY)
set_option maxHeartbeats 1000000 in
set_option maxRecDepth 100000 in
theorem tokens_any (s : ByteArray) (w : World) : Calls Try.prog 24 #[.string s] w fun e w' => ∃ gt gc ga, e = .returned (iterV gt ga) ∧ IterAt s w.heap.size gt gc ga w' ∧ Below w.heap.size w w' := by
  have hz := zv256
  have hu := Try.underlying49
  have hs1 := z256_size
  have hsz : (Try.prog.info? 49).map (·.size) = some classRow.size := by rw [classRow_size]; kernel_rfl
  have HB := Aside0.mk (Below.refl w.heap.size w)
  go_enter Try.func24, Try.ntmps24
  go_upto_region 2 with (first
    | (go_at_call 27; refine (classes_any _).mono ?_; rintro e w1 ⟨rfl, hB1⟩)
    | (refine wpList_store_row rfl 49 (.tmp 3) (.tmp 5) rfl w1.heap.size classRow rfl rfl 49 Z256 (heap_alloc_new _ _) hsz (by rw [z256_size, classRow_size]) classRow_one ?_))
  simp only [Act.put]
  have hbx : ((w1.alloc (.cells Z256 49)).setRow w1.heap.size classRow).heap[w1.heap.size]? = some (.cells classRow 49 (0, 0)) := setRow_heap _ _ _ _ _ _ (heap_alloc_new _ _)
  have hB0 : Below w.heap.size w (w.alloc (.cells #[.string s] 9)) := (Below.refl _ w).alloc (Nat.le_refl _) _
  have hl0 : (w.alloc (.cells #[.string s] 9)).heap.size = w.heap.size + 1 := by simp
  have hB2 : Below (w.alloc (.cells #[.string s] 9)).heap.size (w.alloc (.cells #[.string s] 9)) ((w1.alloc (.cells Z256 49)).setRow w1.heap.size classRow) := below_setRow (hB1.alloc hB1.size _) hB1.size _
  have htx := blk_below (heap_alloc_new w (.cells #[.string s] 9)) hB2
  have hBx : Below w.heap.size w ((w1.alloc (.cells Z256 49)).setRow w1.heap.size classRow) := hB0.trans (hB2.mono (by omega))
  have hle : w.heap.size ≤ w1.heap.size := by have := hB1.size; omega
  generalize (w1.alloc (.cells Z256 49)).setRow w1.heap.size classRow = wx at hbx htx hBx ⊢
  obtain ⟨n1, hn1⟩ : ∃ n1, n1 = w1.heap.size := ⟨_, rfl⟩
  rw [← hn1] at hbx hle ⊢
  clear hn1 hB1 hB2 hB0 hl0 HB
  have HBX := Aside0.mk hbx
  have HTX := Aside0.mk htx
  have HB := Aside0.mk hBx
  have HLE := Aside0.mk hle
  clear hbx htx hBx hle
  go_wp2
  go_ret
  refine ⟨w.heap.size, n1, wx.heap.size, rfl, ⟨?_, ?_, ?_, Nat.le_refl _, HLE.out, HB.out.size⟩, ?_⟩
  · exact blk_alloc HTX.out _
  · exact blk_alloc HBX.out _
  · exact blk_new _ _
  · exact below_alloc HB.out _
end Go.Proofs.Ytflocikkhpjicaa.P
