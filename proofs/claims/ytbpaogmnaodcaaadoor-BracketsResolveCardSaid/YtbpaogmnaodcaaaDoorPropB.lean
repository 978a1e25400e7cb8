/- The walks of the thirteen functions of the table of signs: printed by wip/tools/genChunks.py. No condition. -/
import Derived.Test.YtbpaogmnaodcaaaDoorPropT
namespace Go.Proofs.YtbpaogmnaodcaaaDoor
open Go.RowKit

def zeroC : Array Value := (cellsL (List.replicate 20 Sign.zero)).toArray
theorem infoC : (Tryd.prog.info? 69).map (fun i => (i.zero, i.size)) = some (some (.agg zeroC), 220) := by kernel_rfl
theorem zeroC_size : zeroC.size = 220 := by kernel_rfl
/-- a chunk's zero value, its cells hidden -/
theorem zeroChunk : ∃ Z : Array Value, (∀ w, (zeroValue 69).run Tryd.prog w = .ok (.agg Z) w) ∧ Z.size = 220 := ⟨zeroC, (zero_of_info infoC).1, zeroC_size⟩
theorem sizeChunk : (Tryd.prog.info? 69).map (·.size) = some 220 := (zero_of_info infoC).2
theorem below_setRow {B g : Nat} {a w : World} (h : Below B a w) (hg : B ≤ g) (cs : Array Value) : Below B a (w.setRow g cs) :=
  ⟨h.os, h.tape, h.output, by rw [setRow_size]; exact h.size, fun k hk => (setRow_other w g k cs (by omega)).trans (h.block k hk)⟩
def chunkV (l : List Sign) : Array Value := (cellsL l).toArray

set_option maxRecDepth 100000 in
set_option maxHeartbeats 4000000 in
theorem chunk0_any (w : World) : Calls Tryd.prog 67 #[] w (RetV w (.agg (chunkV tab0))) := by
  obtain ⟨Z, hz, hzs⟩ := zeroChunk
  have HB := Lib.hid (Below.refl (w.heap.size + 1) (w.alloc (.cells Z 69)))
  have HZS := Lib.hid hzs
  clear hzs
  go_enter Tryd.func67, Tryd.ntmps67
  go_wp2_with (first
    | (go_at_call 85; refine (laid_any _ _ _ _ _ _ _ _ _).mono ?_; rintro e w' ⟨rfl, hb⟩; replace HB := Lib.hid (HB.out.trans (hb.mono (Nat.le_trans (by simp) HB.out.size))); clear hb)
    | (go_at_call 86; refine (paired_any _ _ _ _ _ _ _ _ _ _ _ _ _ _).mono ?_; rintro e w' ⟨rfl, hb⟩; replace HB := Lib.hid (HB.out.trans (hb.mono (Nat.le_trans (by simp) HB.out.size))); clear hb)
    | (go_at_call 87; refine (mirrored_any _ _ _ _ _ _ _ _ _ _ _ _ _).mono ?_; rintro e w' ⟨rfl, hb⟩; replace HB := Lib.hid (HB.out.trans (hb.mono (Nat.le_trans (by simp) HB.out.size))); clear hb)
    | (refine wpList_build rfl 69 _ rfl (by kernel_rfl) ?_)
    | (refine wpList_store_row rfl 69 _ _ rfl w.heap.size (chunkV tab0) rfl (by kernel_rfl) 69 Z ((HB.out.block w.heap.size (by omega)).trans (heap_alloc_new _ _)) sizeChunk HZS.out (by kernel_rfl) ?_))
  (try simp only [Exit.inBlock, Exit.then])
  refine bodyPost_ret (results_cell_row rfl _ _ w.heap.size 69 (chunkV tab0) (0, 0) _ rfl (setRow_heap _ _ Z _ _ _ ((HB.out.block w.heap.size (by omega)).trans (heap_alloc_new _ _))) Tryd.underlying69 rfl sizeChunk) rfl ?_
  exact ⟨rfl, below_setRow (((Below.refl _ _).alloc (Nat.le_refl _) _).trans (HB.out.mono (Nat.le_succ _))) (Nat.le_refl _) _⟩

set_option maxRecDepth 100000 in
set_option maxHeartbeats 4000000 in
theorem chunk1_any (w : World) : Calls Tryd.prog 68 #[] w (RetV w (.agg (chunkV tab1))) := by
  obtain ⟨Z, hz, hzs⟩ := zeroChunk
  have HB := Lib.hid (Below.refl (w.heap.size + 1) (w.alloc (.cells Z 69)))
  have HZS := Lib.hid hzs
  clear hzs
  go_enter Tryd.func68, Tryd.ntmps68
  go_wp2_with (first
    | (go_at_call 85; refine (laid_any _ _ _ _ _ _ _ _ _).mono ?_; rintro e w' ⟨rfl, hb⟩; replace HB := Lib.hid (HB.out.trans (hb.mono (Nat.le_trans (by simp) HB.out.size))); clear hb)
    | (go_at_call 86; refine (paired_any _ _ _ _ _ _ _ _ _ _ _ _ _ _).mono ?_; rintro e w' ⟨rfl, hb⟩; replace HB := Lib.hid (HB.out.trans (hb.mono (Nat.le_trans (by simp) HB.out.size))); clear hb)
    | (go_at_call 87; refine (mirrored_any _ _ _ _ _ _ _ _ _ _ _ _ _).mono ?_; rintro e w' ⟨rfl, hb⟩; replace HB := Lib.hid (HB.out.trans (hb.mono (Nat.le_trans (by simp) HB.out.size))); clear hb)
    | (refine wpList_build rfl 69 _ rfl (by kernel_rfl) ?_)
    | (refine wpList_store_row rfl 69 _ _ rfl w.heap.size (chunkV tab1) rfl (by kernel_rfl) 69 Z ((HB.out.block w.heap.size (by omega)).trans (heap_alloc_new _ _)) sizeChunk HZS.out (by kernel_rfl) ?_))
  (try simp only [Exit.inBlock, Exit.then])
  refine bodyPost_ret (results_cell_row rfl _ _ w.heap.size 69 (chunkV tab1) (0, 0) _ rfl (setRow_heap _ _ Z _ _ _ ((HB.out.block w.heap.size (by omega)).trans (heap_alloc_new _ _))) Tryd.underlying69 rfl sizeChunk) rfl ?_
  exact ⟨rfl, below_setRow (((Below.refl _ _).alloc (Nat.le_refl _) _).trans (HB.out.mono (Nat.le_succ _))) (Nat.le_refl _) _⟩

set_option maxRecDepth 100000 in
set_option maxHeartbeats 4000000 in
theorem chunk2_any (w : World) : Calls Tryd.prog 69 #[] w (RetV w (.agg (chunkV tab2))) := by
  obtain ⟨Z, hz, hzs⟩ := zeroChunk
  have HB := Lib.hid (Below.refl (w.heap.size + 1) (w.alloc (.cells Z 69)))
  have HZS := Lib.hid hzs
  clear hzs
  go_enter Tryd.func69, Tryd.ntmps69
  go_wp2_with (first
    | (go_at_call 85; refine (laid_any _ _ _ _ _ _ _ _ _).mono ?_; rintro e w' ⟨rfl, hb⟩; replace HB := Lib.hid (HB.out.trans (hb.mono (Nat.le_trans (by simp) HB.out.size))); clear hb)
    | (go_at_call 86; refine (paired_any _ _ _ _ _ _ _ _ _ _ _ _ _ _).mono ?_; rintro e w' ⟨rfl, hb⟩; replace HB := Lib.hid (HB.out.trans (hb.mono (Nat.le_trans (by simp) HB.out.size))); clear hb)
    | (go_at_call 87; refine (mirrored_any _ _ _ _ _ _ _ _ _ _ _ _ _).mono ?_; rintro e w' ⟨rfl, hb⟩; replace HB := Lib.hid (HB.out.trans (hb.mono (Nat.le_trans (by simp) HB.out.size))); clear hb)
    | (refine wpList_build rfl 69 _ rfl (by kernel_rfl) ?_)
    | (refine wpList_store_row rfl 69 _ _ rfl w.heap.size (chunkV tab2) rfl (by kernel_rfl) 69 Z ((HB.out.block w.heap.size (by omega)).trans (heap_alloc_new _ _)) sizeChunk HZS.out (by kernel_rfl) ?_))
  (try simp only [Exit.inBlock, Exit.then])
  refine bodyPost_ret (results_cell_row rfl _ _ w.heap.size 69 (chunkV tab2) (0, 0) _ rfl (setRow_heap _ _ Z _ _ _ ((HB.out.block w.heap.size (by omega)).trans (heap_alloc_new _ _))) Tryd.underlying69 rfl sizeChunk) rfl ?_
  exact ⟨rfl, below_setRow (((Below.refl _ _).alloc (Nat.le_refl _) _).trans (HB.out.mono (Nat.le_succ _))) (Nat.le_refl _) _⟩

set_option maxRecDepth 100000 in
set_option maxHeartbeats 4000000 in
theorem chunk3_any (w : World) : Calls Tryd.prog 70 #[] w (RetV w (.agg (chunkV tab3))) := by
  obtain ⟨Z, hz, hzs⟩ := zeroChunk
  have HB := Lib.hid (Below.refl (w.heap.size + 1) (w.alloc (.cells Z 69)))
  have HZS := Lib.hid hzs
  clear hzs
  go_enter Tryd.func70, Tryd.ntmps70
  go_wp2_with (first
    | (go_at_call 85; refine (laid_any _ _ _ _ _ _ _ _ _).mono ?_; rintro e w' ⟨rfl, hb⟩; replace HB := Lib.hid (HB.out.trans (hb.mono (Nat.le_trans (by simp) HB.out.size))); clear hb)
    | (go_at_call 86; refine (paired_any _ _ _ _ _ _ _ _ _ _ _ _ _ _).mono ?_; rintro e w' ⟨rfl, hb⟩; replace HB := Lib.hid (HB.out.trans (hb.mono (Nat.le_trans (by simp) HB.out.size))); clear hb)
    | (go_at_call 87; refine (mirrored_any _ _ _ _ _ _ _ _ _ _ _ _ _).mono ?_; rintro e w' ⟨rfl, hb⟩; replace HB := Lib.hid (HB.out.trans (hb.mono (Nat.le_trans (by simp) HB.out.size))); clear hb)
    | (refine wpList_build rfl 69 _ rfl (by kernel_rfl) ?_)
    | (refine wpList_store_row rfl 69 _ _ rfl w.heap.size (chunkV tab3) rfl (by kernel_rfl) 69 Z ((HB.out.block w.heap.size (by omega)).trans (heap_alloc_new _ _)) sizeChunk HZS.out (by kernel_rfl) ?_))
  (try simp only [Exit.inBlock, Exit.then])
  refine bodyPost_ret (results_cell_row rfl _ _ w.heap.size 69 (chunkV tab3) (0, 0) _ rfl (setRow_heap _ _ Z _ _ _ ((HB.out.block w.heap.size (by omega)).trans (heap_alloc_new _ _))) Tryd.underlying69 rfl sizeChunk) rfl ?_
  exact ⟨rfl, below_setRow (((Below.refl _ _).alloc (Nat.le_refl _) _).trans (HB.out.mono (Nat.le_succ _))) (Nat.le_refl _) _⟩

set_option maxRecDepth 100000 in
set_option maxHeartbeats 4000000 in
theorem chunk4_any (w : World) : Calls Tryd.prog 71 #[] w (RetV w (.agg (chunkV tab4))) := by
  obtain ⟨Z, hz, hzs⟩ := zeroChunk
  have HB := Lib.hid (Below.refl (w.heap.size + 1) (w.alloc (.cells Z 69)))
  have HZS := Lib.hid hzs
  clear hzs
  go_enter Tryd.func71, Tryd.ntmps71
  go_wp2_with (first
    | (go_at_call 85; refine (laid_any _ _ _ _ _ _ _ _ _).mono ?_; rintro e w' ⟨rfl, hb⟩; replace HB := Lib.hid (HB.out.trans (hb.mono (Nat.le_trans (by simp) HB.out.size))); clear hb)
    | (go_at_call 86; refine (paired_any _ _ _ _ _ _ _ _ _ _ _ _ _ _).mono ?_; rintro e w' ⟨rfl, hb⟩; replace HB := Lib.hid (HB.out.trans (hb.mono (Nat.le_trans (by simp) HB.out.size))); clear hb)
    | (go_at_call 87; refine (mirrored_any _ _ _ _ _ _ _ _ _ _ _ _ _).mono ?_; rintro e w' ⟨rfl, hb⟩; replace HB := Lib.hid (HB.out.trans (hb.mono (Nat.le_trans (by simp) HB.out.size))); clear hb)
    | (refine wpList_build rfl 69 _ rfl (by kernel_rfl) ?_)
    | (refine wpList_store_row rfl 69 _ _ rfl w.heap.size (chunkV tab4) rfl (by kernel_rfl) 69 Z ((HB.out.block w.heap.size (by omega)).trans (heap_alloc_new _ _)) sizeChunk HZS.out (by kernel_rfl) ?_))
  (try simp only [Exit.inBlock, Exit.then])
  refine bodyPost_ret (results_cell_row rfl _ _ w.heap.size 69 (chunkV tab4) (0, 0) _ rfl (setRow_heap _ _ Z _ _ _ ((HB.out.block w.heap.size (by omega)).trans (heap_alloc_new _ _))) Tryd.underlying69 rfl sizeChunk) rfl ?_
  exact ⟨rfl, below_setRow (((Below.refl _ _).alloc (Nat.le_refl _) _).trans (HB.out.mono (Nat.le_succ _))) (Nat.le_refl _) _⟩

set_option maxRecDepth 100000 in
set_option maxHeartbeats 4000000 in
theorem chunk5_any (w : World) : Calls Tryd.prog 72 #[] w (RetV w (.agg (chunkV tab5))) := by
  obtain ⟨Z, hz, hzs⟩ := zeroChunk
  have HB := Lib.hid (Below.refl (w.heap.size + 1) (w.alloc (.cells Z 69)))
  have HZS := Lib.hid hzs
  clear hzs
  go_enter Tryd.func72, Tryd.ntmps72
  go_wp2_with (first
    | (go_at_call 85; refine (laid_any _ _ _ _ _ _ _ _ _).mono ?_; rintro e w' ⟨rfl, hb⟩; replace HB := Lib.hid (HB.out.trans (hb.mono (Nat.le_trans (by simp) HB.out.size))); clear hb)
    | (go_at_call 86; refine (paired_any _ _ _ _ _ _ _ _ _ _ _ _ _ _).mono ?_; rintro e w' ⟨rfl, hb⟩; replace HB := Lib.hid (HB.out.trans (hb.mono (Nat.le_trans (by simp) HB.out.size))); clear hb)
    | (go_at_call 87; refine (mirrored_any _ _ _ _ _ _ _ _ _ _ _ _ _).mono ?_; rintro e w' ⟨rfl, hb⟩; replace HB := Lib.hid (HB.out.trans (hb.mono (Nat.le_trans (by simp) HB.out.size))); clear hb)
    | (refine wpList_build rfl 69 _ rfl (by kernel_rfl) ?_)
    | (refine wpList_store_row rfl 69 _ _ rfl w.heap.size (chunkV tab5) rfl (by kernel_rfl) 69 Z ((HB.out.block w.heap.size (by omega)).trans (heap_alloc_new _ _)) sizeChunk HZS.out (by kernel_rfl) ?_))
  (try simp only [Exit.inBlock, Exit.then])
  refine bodyPost_ret (results_cell_row rfl _ _ w.heap.size 69 (chunkV tab5) (0, 0) _ rfl (setRow_heap _ _ Z _ _ _ ((HB.out.block w.heap.size (by omega)).trans (heap_alloc_new _ _))) Tryd.underlying69 rfl sizeChunk) rfl ?_
  exact ⟨rfl, below_setRow (((Below.refl _ _).alloc (Nat.le_refl _) _).trans (HB.out.mono (Nat.le_succ _))) (Nat.le_refl _) _⟩

set_option maxRecDepth 100000 in
set_option maxHeartbeats 4000000 in
theorem chunk6_any (w : World) : Calls Tryd.prog 73 #[] w (RetV w (.agg (chunkV tab6))) := by
  obtain ⟨Z, hz, hzs⟩ := zeroChunk
  have HB := Lib.hid (Below.refl (w.heap.size + 1) (w.alloc (.cells Z 69)))
  have HZS := Lib.hid hzs
  clear hzs
  go_enter Tryd.func73, Tryd.ntmps73
  go_wp2_with (first
    | (go_at_call 85; refine (laid_any _ _ _ _ _ _ _ _ _).mono ?_; rintro e w' ⟨rfl, hb⟩; replace HB := Lib.hid (HB.out.trans (hb.mono (Nat.le_trans (by simp) HB.out.size))); clear hb)
    | (go_at_call 86; refine (paired_any _ _ _ _ _ _ _ _ _ _ _ _ _ _).mono ?_; rintro e w' ⟨rfl, hb⟩; replace HB := Lib.hid (HB.out.trans (hb.mono (Nat.le_trans (by simp) HB.out.size))); clear hb)
    | (go_at_call 87; refine (mirrored_any _ _ _ _ _ _ _ _ _ _ _ _ _).mono ?_; rintro e w' ⟨rfl, hb⟩; replace HB := Lib.hid (HB.out.trans (hb.mono (Nat.le_trans (by simp) HB.out.size))); clear hb)
    | (refine wpList_build rfl 69 _ rfl (by kernel_rfl) ?_)
    | (refine wpList_store_row rfl 69 _ _ rfl w.heap.size (chunkV tab6) rfl (by kernel_rfl) 69 Z ((HB.out.block w.heap.size (by omega)).trans (heap_alloc_new _ _)) sizeChunk HZS.out (by kernel_rfl) ?_))
  (try simp only [Exit.inBlock, Exit.then])
  refine bodyPost_ret (results_cell_row rfl _ _ w.heap.size 69 (chunkV tab6) (0, 0) _ rfl (setRow_heap _ _ Z _ _ _ ((HB.out.block w.heap.size (by omega)).trans (heap_alloc_new _ _))) Tryd.underlying69 rfl sizeChunk) rfl ?_
  exact ⟨rfl, below_setRow (((Below.refl _ _).alloc (Nat.le_refl _) _).trans (HB.out.mono (Nat.le_succ _))) (Nat.le_refl _) _⟩

set_option maxRecDepth 100000 in
set_option maxHeartbeats 4000000 in
theorem chunk7_any (w : World) : Calls Tryd.prog 74 #[] w (RetV w (.agg (chunkV tab7))) := by
  obtain ⟨Z, hz, hzs⟩ := zeroChunk
  have HB := Lib.hid (Below.refl (w.heap.size + 1) (w.alloc (.cells Z 69)))
  have HZS := Lib.hid hzs
  clear hzs
  go_enter Tryd.func74, Tryd.ntmps74
  go_wp2_with (first
    | (go_at_call 85; refine (laid_any _ _ _ _ _ _ _ _ _).mono ?_; rintro e w' ⟨rfl, hb⟩; replace HB := Lib.hid (HB.out.trans (hb.mono (Nat.le_trans (by simp) HB.out.size))); clear hb)
    | (go_at_call 86; refine (paired_any _ _ _ _ _ _ _ _ _ _ _ _ _ _).mono ?_; rintro e w' ⟨rfl, hb⟩; replace HB := Lib.hid (HB.out.trans (hb.mono (Nat.le_trans (by simp) HB.out.size))); clear hb)
    | (go_at_call 87; refine (mirrored_any _ _ _ _ _ _ _ _ _ _ _ _ _).mono ?_; rintro e w' ⟨rfl, hb⟩; replace HB := Lib.hid (HB.out.trans (hb.mono (Nat.le_trans (by simp) HB.out.size))); clear hb)
    | (refine wpList_build rfl 69 _ rfl (by kernel_rfl) ?_)
    | (refine wpList_store_row rfl 69 _ _ rfl w.heap.size (chunkV tab7) rfl (by kernel_rfl) 69 Z ((HB.out.block w.heap.size (by omega)).trans (heap_alloc_new _ _)) sizeChunk HZS.out (by kernel_rfl) ?_))
  (try simp only [Exit.inBlock, Exit.then])
  refine bodyPost_ret (results_cell_row rfl _ _ w.heap.size 69 (chunkV tab7) (0, 0) _ rfl (setRow_heap _ _ Z _ _ _ ((HB.out.block w.heap.size (by omega)).trans (heap_alloc_new _ _))) Tryd.underlying69 rfl sizeChunk) rfl ?_
  exact ⟨rfl, below_setRow (((Below.refl _ _).alloc (Nat.le_refl _) _).trans (HB.out.mono (Nat.le_succ _))) (Nat.le_refl _) _⟩

set_option maxRecDepth 100000 in
set_option maxHeartbeats 4000000 in
theorem chunk8_any (w : World) : Calls Tryd.prog 75 #[] w (RetV w (.agg (chunkV tab8))) := by
  obtain ⟨Z, hz, hzs⟩ := zeroChunk
  have HB := Lib.hid (Below.refl (w.heap.size + 1) (w.alloc (.cells Z 69)))
  have HZS := Lib.hid hzs
  clear hzs
  go_enter Tryd.func75, Tryd.ntmps75
  go_wp2_with (first
    | (go_at_call 85; refine (laid_any _ _ _ _ _ _ _ _ _).mono ?_; rintro e w' ⟨rfl, hb⟩; replace HB := Lib.hid (HB.out.trans (hb.mono (Nat.le_trans (by simp) HB.out.size))); clear hb)
    | (go_at_call 86; refine (paired_any _ _ _ _ _ _ _ _ _ _ _ _ _ _).mono ?_; rintro e w' ⟨rfl, hb⟩; replace HB := Lib.hid (HB.out.trans (hb.mono (Nat.le_trans (by simp) HB.out.size))); clear hb)
    | (go_at_call 87; refine (mirrored_any _ _ _ _ _ _ _ _ _ _ _ _ _).mono ?_; rintro e w' ⟨rfl, hb⟩; replace HB := Lib.hid (HB.out.trans (hb.mono (Nat.le_trans (by simp) HB.out.size))); clear hb)
    | (refine wpList_build rfl 69 _ rfl (by kernel_rfl) ?_)
    | (refine wpList_store_row rfl 69 _ _ rfl w.heap.size (chunkV tab8) rfl (by kernel_rfl) 69 Z ((HB.out.block w.heap.size (by omega)).trans (heap_alloc_new _ _)) sizeChunk HZS.out (by kernel_rfl) ?_))
  (try simp only [Exit.inBlock, Exit.then])
  refine bodyPost_ret (results_cell_row rfl _ _ w.heap.size 69 (chunkV tab8) (0, 0) _ rfl (setRow_heap _ _ Z _ _ _ ((HB.out.block w.heap.size (by omega)).trans (heap_alloc_new _ _))) Tryd.underlying69 rfl sizeChunk) rfl ?_
  exact ⟨rfl, below_setRow (((Below.refl _ _).alloc (Nat.le_refl _) _).trans (HB.out.mono (Nat.le_succ _))) (Nat.le_refl _) _⟩

set_option maxRecDepth 100000 in
set_option maxHeartbeats 4000000 in
theorem chunk9_any (w : World) : Calls Tryd.prog 76 #[] w (RetV w (.agg (chunkV tab9))) := by
  obtain ⟨Z, hz, hzs⟩ := zeroChunk
  have HB := Lib.hid (Below.refl (w.heap.size + 1) (w.alloc (.cells Z 69)))
  have HZS := Lib.hid hzs
  clear hzs
  go_enter Tryd.func76, Tryd.ntmps76
  go_wp2_with (first
    | (go_at_call 85; refine (laid_any _ _ _ _ _ _ _ _ _).mono ?_; rintro e w' ⟨rfl, hb⟩; replace HB := Lib.hid (HB.out.trans (hb.mono (Nat.le_trans (by simp) HB.out.size))); clear hb)
    | (go_at_call 86; refine (paired_any _ _ _ _ _ _ _ _ _ _ _ _ _ _).mono ?_; rintro e w' ⟨rfl, hb⟩; replace HB := Lib.hid (HB.out.trans (hb.mono (Nat.le_trans (by simp) HB.out.size))); clear hb)
    | (go_at_call 87; refine (mirrored_any _ _ _ _ _ _ _ _ _ _ _ _ _).mono ?_; rintro e w' ⟨rfl, hb⟩; replace HB := Lib.hid (HB.out.trans (hb.mono (Nat.le_trans (by simp) HB.out.size))); clear hb)
    | (refine wpList_build rfl 69 _ rfl (by kernel_rfl) ?_)
    | (refine wpList_store_row rfl 69 _ _ rfl w.heap.size (chunkV tab9) rfl (by kernel_rfl) 69 Z ((HB.out.block w.heap.size (by omega)).trans (heap_alloc_new _ _)) sizeChunk HZS.out (by kernel_rfl) ?_))
  (try simp only [Exit.inBlock, Exit.then])
  refine bodyPost_ret (results_cell_row rfl _ _ w.heap.size 69 (chunkV tab9) (0, 0) _ rfl (setRow_heap _ _ Z _ _ _ ((HB.out.block w.heap.size (by omega)).trans (heap_alloc_new _ _))) Tryd.underlying69 rfl sizeChunk) rfl ?_
  exact ⟨rfl, below_setRow (((Below.refl _ _).alloc (Nat.le_refl _) _).trans (HB.out.mono (Nat.le_succ _))) (Nat.le_refl _) _⟩

set_option maxRecDepth 100000 in
set_option maxHeartbeats 4000000 in
theorem chunk10_any (w : World) : Calls Tryd.prog 77 #[] w (RetV w (.agg (chunkV tab10))) := by
  obtain ⟨Z, hz, hzs⟩ := zeroChunk
  have HB := Lib.hid (Below.refl (w.heap.size + 1) (w.alloc (.cells Z 69)))
  have HZS := Lib.hid hzs
  clear hzs
  go_enter Tryd.func77, Tryd.ntmps77
  go_wp2_with (first
    | (go_at_call 85; refine (laid_any _ _ _ _ _ _ _ _ _).mono ?_; rintro e w' ⟨rfl, hb⟩; replace HB := Lib.hid (HB.out.trans (hb.mono (Nat.le_trans (by simp) HB.out.size))); clear hb)
    | (go_at_call 86; refine (paired_any _ _ _ _ _ _ _ _ _ _ _ _ _ _).mono ?_; rintro e w' ⟨rfl, hb⟩; replace HB := Lib.hid (HB.out.trans (hb.mono (Nat.le_trans (by simp) HB.out.size))); clear hb)
    | (go_at_call 87; refine (mirrored_any _ _ _ _ _ _ _ _ _ _ _ _ _).mono ?_; rintro e w' ⟨rfl, hb⟩; replace HB := Lib.hid (HB.out.trans (hb.mono (Nat.le_trans (by simp) HB.out.size))); clear hb)
    | (refine wpList_build rfl 69 _ rfl (by kernel_rfl) ?_)
    | (refine wpList_store_row rfl 69 _ _ rfl w.heap.size (chunkV tab10) rfl (by kernel_rfl) 69 Z ((HB.out.block w.heap.size (by omega)).trans (heap_alloc_new _ _)) sizeChunk HZS.out (by kernel_rfl) ?_))
  (try simp only [Exit.inBlock, Exit.then])
  refine bodyPost_ret (results_cell_row rfl _ _ w.heap.size 69 (chunkV tab10) (0, 0) _ rfl (setRow_heap _ _ Z _ _ _ ((HB.out.block w.heap.size (by omega)).trans (heap_alloc_new _ _))) Tryd.underlying69 rfl sizeChunk) rfl ?_
  exact ⟨rfl, below_setRow (((Below.refl _ _).alloc (Nat.le_refl _) _).trans (HB.out.mono (Nat.le_succ _))) (Nat.le_refl _) _⟩

set_option maxRecDepth 100000 in
set_option maxHeartbeats 4000000 in
theorem chunk11_any (w : World) : Calls Tryd.prog 78 #[] w (RetV w (.agg (chunkV tab11))) := by
  obtain ⟨Z, hz, hzs⟩ := zeroChunk
  have HB := Lib.hid (Below.refl (w.heap.size + 1) (w.alloc (.cells Z 69)))
  have HZS := Lib.hid hzs
  clear hzs
  go_enter Tryd.func78, Tryd.ntmps78
  go_wp2_with (first
    | (go_at_call 85; refine (laid_any _ _ _ _ _ _ _ _ _).mono ?_; rintro e w' ⟨rfl, hb⟩; replace HB := Lib.hid (HB.out.trans (hb.mono (Nat.le_trans (by simp) HB.out.size))); clear hb)
    | (go_at_call 86; refine (paired_any _ _ _ _ _ _ _ _ _ _ _ _ _ _).mono ?_; rintro e w' ⟨rfl, hb⟩; replace HB := Lib.hid (HB.out.trans (hb.mono (Nat.le_trans (by simp) HB.out.size))); clear hb)
    | (go_at_call 87; refine (mirrored_any _ _ _ _ _ _ _ _ _ _ _ _ _).mono ?_; rintro e w' ⟨rfl, hb⟩; replace HB := Lib.hid (HB.out.trans (hb.mono (Nat.le_trans (by simp) HB.out.size))); clear hb)
    | (refine wpList_build rfl 69 _ rfl (by kernel_rfl) ?_)
    | (refine wpList_store_row rfl 69 _ _ rfl w.heap.size (chunkV tab11) rfl (by kernel_rfl) 69 Z ((HB.out.block w.heap.size (by omega)).trans (heap_alloc_new _ _)) sizeChunk HZS.out (by kernel_rfl) ?_))
  (try simp only [Exit.inBlock, Exit.then])
  refine bodyPost_ret (results_cell_row rfl _ _ w.heap.size 69 (chunkV tab11) (0, 0) _ rfl (setRow_heap _ _ Z _ _ _ ((HB.out.block w.heap.size (by omega)).trans (heap_alloc_new _ _))) Tryd.underlying69 rfl sizeChunk) rfl ?_
  exact ⟨rfl, below_setRow (((Below.refl _ _).alloc (Nat.le_refl _) _).trans (HB.out.mono (Nat.le_succ _))) (Nat.le_refl _) _⟩

set_option maxRecDepth 100000 in
set_option maxHeartbeats 4000000 in
theorem chunk12_any (w : World) : Calls Tryd.prog 79 #[] w (RetV w (.agg (chunkV tab12))) := by
  obtain ⟨Z, hz, hzs⟩ := zeroChunk
  have HB := Lib.hid (Below.refl (w.heap.size + 1) (w.alloc (.cells Z 69)))
  have HZS := Lib.hid hzs
  clear hzs
  go_enter Tryd.func79, Tryd.ntmps79
  go_wp2_with (first
    | (go_at_call 85; refine (laid_any _ _ _ _ _ _ _ _ _).mono ?_; rintro e w' ⟨rfl, hb⟩; replace HB := Lib.hid (HB.out.trans (hb.mono (Nat.le_trans (by simp) HB.out.size))); clear hb)
    | (go_at_call 86; refine (paired_any _ _ _ _ _ _ _ _ _ _ _ _ _ _).mono ?_; rintro e w' ⟨rfl, hb⟩; replace HB := Lib.hid (HB.out.trans (hb.mono (Nat.le_trans (by simp) HB.out.size))); clear hb)
    | (go_at_call 87; refine (mirrored_any _ _ _ _ _ _ _ _ _ _ _ _ _).mono ?_; rintro e w' ⟨rfl, hb⟩; replace HB := Lib.hid (HB.out.trans (hb.mono (Nat.le_trans (by simp) HB.out.size))); clear hb)
    | (refine wpList_build rfl 69 _ rfl (by kernel_rfl) ?_)
    | (refine wpList_store_row rfl 69 _ _ rfl w.heap.size (chunkV tab12) rfl (by kernel_rfl) 69 Z ((HB.out.block w.heap.size (by omega)).trans (heap_alloc_new _ _)) sizeChunk HZS.out (by kernel_rfl) ?_))
  (try simp only [Exit.inBlock, Exit.then])
  refine bodyPost_ret (results_cell_row rfl _ _ w.heap.size 69 (chunkV tab12) (0, 0) _ rfl (setRow_heap _ _ Z _ _ _ ((HB.out.block w.heap.size (by omega)).trans (heap_alloc_new _ _))) Tryd.underlying69 rfl sizeChunk) rfl ?_
  exact ⟨rfl, below_setRow (((Below.refl _ _).alloc (Nat.le_refl _) _).trans (HB.out.mono (Nat.le_succ _))) (Nat.le_refl _) _⟩

end Go.Proofs.YtbpaogmnaodcaaaDoor
