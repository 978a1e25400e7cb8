/- The walk of the function that hands out a chunk of the table: printed by wip/tools/genChunks.py. Condition: there are thirteen. -/
import Derived.Test.YtbpaogmnaodcaaaDoorPropB
namespace Go.Proofs.YtbpaogmnaodcaaaDoor
open Go.RowKit

set_option maxRecDepth 100000 in
set_option maxHeartbeats 2000000 in
theorem of0_any (w : World) : Calls Tryd.prog 37 #[.int .i64 0] w (RetV w (.agg (chunkV tab0))) := by
  obtain ⟨Z, hz, hzs⟩ := zeroChunk
  have HB := Lib.hid (Below.refl (w.heap.size + 1) (w.alloc (.cells Z 69)))
  have HZS := Lib.hid hzs
  clear hzs
  go_enter Tryd.func37, Tryd.ntmps37
  go_wp2_with (first
    | (go_at_call 67; refine (chunk0_any _).mono ?_; rintro e w' ⟨rfl, hb⟩; replace HB := Lib.hid (HB.out.trans (hb.mono (Nat.le_trans (by simp) HB.out.size))); clear hb)
    | (refine wpList_store_row rfl 69 _ _ rfl w.heap.size (chunkV tab0) rfl rfl 69 Z ((HB.out.block w.heap.size (by omega)).trans (heap_alloc_new _ _)) sizeChunk HZS.out (by kernel_rfl) ?_))
  (try simp only [Exit.inBlock, Exit.then])
  refine bodyPost_ret (results_cell_row rfl _ _ w.heap.size 69 (chunkV tab0) (0, 0) _ rfl (setRow_heap _ _ Z _ _ _ ((HB.out.block w.heap.size (by omega)).trans (heap_alloc_new _ _))) Tryd.underlying69 rfl sizeChunk) rfl ?_
  exact ⟨rfl, below_setRow (((Below.refl _ _).alloc (Nat.le_refl _) _).trans (HB.out.mono (Nat.le_succ _))) (Nat.le_refl _) _⟩

set_option maxRecDepth 100000 in
set_option maxHeartbeats 2000000 in
theorem of1_any (w : World) : Calls Tryd.prog 37 #[.int .i64 1] w (RetV w (.agg (chunkV tab1))) := by
  obtain ⟨Z, hz, hzs⟩ := zeroChunk
  have HB := Lib.hid (Below.refl (w.heap.size + 1) (w.alloc (.cells Z 69)))
  have HZS := Lib.hid hzs
  clear hzs
  go_enter Tryd.func37, Tryd.ntmps37
  go_wp2_with (first
    | (go_at_call 68; refine (chunk1_any _).mono ?_; rintro e w' ⟨rfl, hb⟩; replace HB := Lib.hid (HB.out.trans (hb.mono (Nat.le_trans (by simp) HB.out.size))); clear hb)
    | (refine wpList_store_row rfl 69 _ _ rfl w.heap.size (chunkV tab1) rfl rfl 69 Z ((HB.out.block w.heap.size (by omega)).trans (heap_alloc_new _ _)) sizeChunk HZS.out (by kernel_rfl) ?_))
  (try simp only [Exit.inBlock, Exit.then])
  refine bodyPost_ret (results_cell_row rfl _ _ w.heap.size 69 (chunkV tab1) (0, 0) _ rfl (setRow_heap _ _ Z _ _ _ ((HB.out.block w.heap.size (by omega)).trans (heap_alloc_new _ _))) Tryd.underlying69 rfl sizeChunk) rfl ?_
  exact ⟨rfl, below_setRow (((Below.refl _ _).alloc (Nat.le_refl _) _).trans (HB.out.mono (Nat.le_succ _))) (Nat.le_refl _) _⟩

set_option maxRecDepth 100000 in
set_option maxHeartbeats 2000000 in
theorem of2_any (w : World) : Calls Tryd.prog 37 #[.int .i64 2] w (RetV w (.agg (chunkV tab2))) := by
  obtain ⟨Z, hz, hzs⟩ := zeroChunk
  have HB := Lib.hid (Below.refl (w.heap.size + 1) (w.alloc (.cells Z 69)))
  have HZS := Lib.hid hzs
  clear hzs
  go_enter Tryd.func37, Tryd.ntmps37
  go_wp2_with (first
    | (go_at_call 69; refine (chunk2_any _).mono ?_; rintro e w' ⟨rfl, hb⟩; replace HB := Lib.hid (HB.out.trans (hb.mono (Nat.le_trans (by simp) HB.out.size))); clear hb)
    | (refine wpList_store_row rfl 69 _ _ rfl w.heap.size (chunkV tab2) rfl rfl 69 Z ((HB.out.block w.heap.size (by omega)).trans (heap_alloc_new _ _)) sizeChunk HZS.out (by kernel_rfl) ?_))
  (try simp only [Exit.inBlock, Exit.then])
  refine bodyPost_ret (results_cell_row rfl _ _ w.heap.size 69 (chunkV tab2) (0, 0) _ rfl (setRow_heap _ _ Z _ _ _ ((HB.out.block w.heap.size (by omega)).trans (heap_alloc_new _ _))) Tryd.underlying69 rfl sizeChunk) rfl ?_
  exact ⟨rfl, below_setRow (((Below.refl _ _).alloc (Nat.le_refl _) _).trans (HB.out.mono (Nat.le_succ _))) (Nat.le_refl _) _⟩

set_option maxRecDepth 100000 in
set_option maxHeartbeats 2000000 in
theorem of3_any (w : World) : Calls Tryd.prog 37 #[.int .i64 3] w (RetV w (.agg (chunkV tab3))) := by
  obtain ⟨Z, hz, hzs⟩ := zeroChunk
  have HB := Lib.hid (Below.refl (w.heap.size + 1) (w.alloc (.cells Z 69)))
  have HZS := Lib.hid hzs
  clear hzs
  go_enter Tryd.func37, Tryd.ntmps37
  go_wp2_with (first
    | (go_at_call 70; refine (chunk3_any _).mono ?_; rintro e w' ⟨rfl, hb⟩; replace HB := Lib.hid (HB.out.trans (hb.mono (Nat.le_trans (by simp) HB.out.size))); clear hb)
    | (refine wpList_store_row rfl 69 _ _ rfl w.heap.size (chunkV tab3) rfl rfl 69 Z ((HB.out.block w.heap.size (by omega)).trans (heap_alloc_new _ _)) sizeChunk HZS.out (by kernel_rfl) ?_))
  (try simp only [Exit.inBlock, Exit.then])
  refine bodyPost_ret (results_cell_row rfl _ _ w.heap.size 69 (chunkV tab3) (0, 0) _ rfl (setRow_heap _ _ Z _ _ _ ((HB.out.block w.heap.size (by omega)).trans (heap_alloc_new _ _))) Tryd.underlying69 rfl sizeChunk) rfl ?_
  exact ⟨rfl, below_setRow (((Below.refl _ _).alloc (Nat.le_refl _) _).trans (HB.out.mono (Nat.le_succ _))) (Nat.le_refl _) _⟩

set_option maxRecDepth 100000 in
set_option maxHeartbeats 2000000 in
theorem of4_any (w : World) : Calls Tryd.prog 37 #[.int .i64 4] w (RetV w (.agg (chunkV tab4))) := by
  obtain ⟨Z, hz, hzs⟩ := zeroChunk
  have HB := Lib.hid (Below.refl (w.heap.size + 1) (w.alloc (.cells Z 69)))
  have HZS := Lib.hid hzs
  clear hzs
  go_enter Tryd.func37, Tryd.ntmps37
  go_wp2_with (first
    | (go_at_call 71; refine (chunk4_any _).mono ?_; rintro e w' ⟨rfl, hb⟩; replace HB := Lib.hid (HB.out.trans (hb.mono (Nat.le_trans (by simp) HB.out.size))); clear hb)
    | (refine wpList_store_row rfl 69 _ _ rfl w.heap.size (chunkV tab4) rfl rfl 69 Z ((HB.out.block w.heap.size (by omega)).trans (heap_alloc_new _ _)) sizeChunk HZS.out (by kernel_rfl) ?_))
  (try simp only [Exit.inBlock, Exit.then])
  refine bodyPost_ret (results_cell_row rfl _ _ w.heap.size 69 (chunkV tab4) (0, 0) _ rfl (setRow_heap _ _ Z _ _ _ ((HB.out.block w.heap.size (by omega)).trans (heap_alloc_new _ _))) Tryd.underlying69 rfl sizeChunk) rfl ?_
  exact ⟨rfl, below_setRow (((Below.refl _ _).alloc (Nat.le_refl _) _).trans (HB.out.mono (Nat.le_succ _))) (Nat.le_refl _) _⟩

set_option maxRecDepth 100000 in
set_option maxHeartbeats 2000000 in
theorem of5_any (w : World) : Calls Tryd.prog 37 #[.int .i64 5] w (RetV w (.agg (chunkV tab5))) := by
  obtain ⟨Z, hz, hzs⟩ := zeroChunk
  have HB := Lib.hid (Below.refl (w.heap.size + 1) (w.alloc (.cells Z 69)))
  have HZS := Lib.hid hzs
  clear hzs
  go_enter Tryd.func37, Tryd.ntmps37
  go_wp2_with (first
    | (go_at_call 72; refine (chunk5_any _).mono ?_; rintro e w' ⟨rfl, hb⟩; replace HB := Lib.hid (HB.out.trans (hb.mono (Nat.le_trans (by simp) HB.out.size))); clear hb)
    | (refine wpList_store_row rfl 69 _ _ rfl w.heap.size (chunkV tab5) rfl rfl 69 Z ((HB.out.block w.heap.size (by omega)).trans (heap_alloc_new _ _)) sizeChunk HZS.out (by kernel_rfl) ?_))
  (try simp only [Exit.inBlock, Exit.then])
  refine bodyPost_ret (results_cell_row rfl _ _ w.heap.size 69 (chunkV tab5) (0, 0) _ rfl (setRow_heap _ _ Z _ _ _ ((HB.out.block w.heap.size (by omega)).trans (heap_alloc_new _ _))) Tryd.underlying69 rfl sizeChunk) rfl ?_
  exact ⟨rfl, below_setRow (((Below.refl _ _).alloc (Nat.le_refl _) _).trans (HB.out.mono (Nat.le_succ _))) (Nat.le_refl _) _⟩

set_option maxRecDepth 100000 in
set_option maxHeartbeats 2000000 in
theorem of6_any (w : World) : Calls Tryd.prog 37 #[.int .i64 6] w (RetV w (.agg (chunkV tab6))) := by
  obtain ⟨Z, hz, hzs⟩ := zeroChunk
  have HB := Lib.hid (Below.refl (w.heap.size + 1) (w.alloc (.cells Z 69)))
  have HZS := Lib.hid hzs
  clear hzs
  go_enter Tryd.func37, Tryd.ntmps37
  go_wp2_with (first
    | (go_at_call 73; refine (chunk6_any _).mono ?_; rintro e w' ⟨rfl, hb⟩; replace HB := Lib.hid (HB.out.trans (hb.mono (Nat.le_trans (by simp) HB.out.size))); clear hb)
    | (refine wpList_store_row rfl 69 _ _ rfl w.heap.size (chunkV tab6) rfl rfl 69 Z ((HB.out.block w.heap.size (by omega)).trans (heap_alloc_new _ _)) sizeChunk HZS.out (by kernel_rfl) ?_))
  (try simp only [Exit.inBlock, Exit.then])
  refine bodyPost_ret (results_cell_row rfl _ _ w.heap.size 69 (chunkV tab6) (0, 0) _ rfl (setRow_heap _ _ Z _ _ _ ((HB.out.block w.heap.size (by omega)).trans (heap_alloc_new _ _))) Tryd.underlying69 rfl sizeChunk) rfl ?_
  exact ⟨rfl, below_setRow (((Below.refl _ _).alloc (Nat.le_refl _) _).trans (HB.out.mono (Nat.le_succ _))) (Nat.le_refl _) _⟩

set_option maxRecDepth 100000 in
set_option maxHeartbeats 2000000 in
theorem of7_any (w : World) : Calls Tryd.prog 37 #[.int .i64 7] w (RetV w (.agg (chunkV tab7))) := by
  obtain ⟨Z, hz, hzs⟩ := zeroChunk
  have HB := Lib.hid (Below.refl (w.heap.size + 1) (w.alloc (.cells Z 69)))
  have HZS := Lib.hid hzs
  clear hzs
  go_enter Tryd.func37, Tryd.ntmps37
  go_wp2_with (first
    | (go_at_call 74; refine (chunk7_any _).mono ?_; rintro e w' ⟨rfl, hb⟩; replace HB := Lib.hid (HB.out.trans (hb.mono (Nat.le_trans (by simp) HB.out.size))); clear hb)
    | (refine wpList_store_row rfl 69 _ _ rfl w.heap.size (chunkV tab7) rfl rfl 69 Z ((HB.out.block w.heap.size (by omega)).trans (heap_alloc_new _ _)) sizeChunk HZS.out (by kernel_rfl) ?_))
  (try simp only [Exit.inBlock, Exit.then])
  refine bodyPost_ret (results_cell_row rfl _ _ w.heap.size 69 (chunkV tab7) (0, 0) _ rfl (setRow_heap _ _ Z _ _ _ ((HB.out.block w.heap.size (by omega)).trans (heap_alloc_new _ _))) Tryd.underlying69 rfl sizeChunk) rfl ?_
  exact ⟨rfl, below_setRow (((Below.refl _ _).alloc (Nat.le_refl _) _).trans (HB.out.mono (Nat.le_succ _))) (Nat.le_refl _) _⟩

set_option maxRecDepth 100000 in
set_option maxHeartbeats 2000000 in
theorem of8_any (w : World) : Calls Tryd.prog 37 #[.int .i64 8] w (RetV w (.agg (chunkV tab8))) := by
  obtain ⟨Z, hz, hzs⟩ := zeroChunk
  have HB := Lib.hid (Below.refl (w.heap.size + 1) (w.alloc (.cells Z 69)))
  have HZS := Lib.hid hzs
  clear hzs
  go_enter Tryd.func37, Tryd.ntmps37
  go_wp2_with (first
    | (go_at_call 75; refine (chunk8_any _).mono ?_; rintro e w' ⟨rfl, hb⟩; replace HB := Lib.hid (HB.out.trans (hb.mono (Nat.le_trans (by simp) HB.out.size))); clear hb)
    | (refine wpList_store_row rfl 69 _ _ rfl w.heap.size (chunkV tab8) rfl rfl 69 Z ((HB.out.block w.heap.size (by omega)).trans (heap_alloc_new _ _)) sizeChunk HZS.out (by kernel_rfl) ?_))
  (try simp only [Exit.inBlock, Exit.then])
  refine bodyPost_ret (results_cell_row rfl _ _ w.heap.size 69 (chunkV tab8) (0, 0) _ rfl (setRow_heap _ _ Z _ _ _ ((HB.out.block w.heap.size (by omega)).trans (heap_alloc_new _ _))) Tryd.underlying69 rfl sizeChunk) rfl ?_
  exact ⟨rfl, below_setRow (((Below.refl _ _).alloc (Nat.le_refl _) _).trans (HB.out.mono (Nat.le_succ _))) (Nat.le_refl _) _⟩

set_option maxRecDepth 100000 in
set_option maxHeartbeats 2000000 in
theorem of9_any (w : World) : Calls Tryd.prog 37 #[.int .i64 9] w (RetV w (.agg (chunkV tab9))) := by
  obtain ⟨Z, hz, hzs⟩ := zeroChunk
  have HB := Lib.hid (Below.refl (w.heap.size + 1) (w.alloc (.cells Z 69)))
  have HZS := Lib.hid hzs
  clear hzs
  go_enter Tryd.func37, Tryd.ntmps37
  go_wp2_with (first
    | (go_at_call 76; refine (chunk9_any _).mono ?_; rintro e w' ⟨rfl, hb⟩; replace HB := Lib.hid (HB.out.trans (hb.mono (Nat.le_trans (by simp) HB.out.size))); clear hb)
    | (refine wpList_store_row rfl 69 _ _ rfl w.heap.size (chunkV tab9) rfl rfl 69 Z ((HB.out.block w.heap.size (by omega)).trans (heap_alloc_new _ _)) sizeChunk HZS.out (by kernel_rfl) ?_))
  (try simp only [Exit.inBlock, Exit.then])
  refine bodyPost_ret (results_cell_row rfl _ _ w.heap.size 69 (chunkV tab9) (0, 0) _ rfl (setRow_heap _ _ Z _ _ _ ((HB.out.block w.heap.size (by omega)).trans (heap_alloc_new _ _))) Tryd.underlying69 rfl sizeChunk) rfl ?_
  exact ⟨rfl, below_setRow (((Below.refl _ _).alloc (Nat.le_refl _) _).trans (HB.out.mono (Nat.le_succ _))) (Nat.le_refl _) _⟩

set_option maxRecDepth 100000 in
set_option maxHeartbeats 2000000 in
theorem of10_any (w : World) : Calls Tryd.prog 37 #[.int .i64 10] w (RetV w (.agg (chunkV tab10))) := by
  obtain ⟨Z, hz, hzs⟩ := zeroChunk
  have HB := Lib.hid (Below.refl (w.heap.size + 1) (w.alloc (.cells Z 69)))
  have HZS := Lib.hid hzs
  clear hzs
  go_enter Tryd.func37, Tryd.ntmps37
  go_wp2_with (first
    | (go_at_call 77; refine (chunk10_any _).mono ?_; rintro e w' ⟨rfl, hb⟩; replace HB := Lib.hid (HB.out.trans (hb.mono (Nat.le_trans (by simp) HB.out.size))); clear hb)
    | (refine wpList_store_row rfl 69 _ _ rfl w.heap.size (chunkV tab10) rfl rfl 69 Z ((HB.out.block w.heap.size (by omega)).trans (heap_alloc_new _ _)) sizeChunk HZS.out (by kernel_rfl) ?_))
  (try simp only [Exit.inBlock, Exit.then])
  refine bodyPost_ret (results_cell_row rfl _ _ w.heap.size 69 (chunkV tab10) (0, 0) _ rfl (setRow_heap _ _ Z _ _ _ ((HB.out.block w.heap.size (by omega)).trans (heap_alloc_new _ _))) Tryd.underlying69 rfl sizeChunk) rfl ?_
  exact ⟨rfl, below_setRow (((Below.refl _ _).alloc (Nat.le_refl _) _).trans (HB.out.mono (Nat.le_succ _))) (Nat.le_refl _) _⟩

set_option maxRecDepth 100000 in
set_option maxHeartbeats 2000000 in
theorem of11_any (w : World) : Calls Tryd.prog 37 #[.int .i64 11] w (RetV w (.agg (chunkV tab11))) := by
  obtain ⟨Z, hz, hzs⟩ := zeroChunk
  have HB := Lib.hid (Below.refl (w.heap.size + 1) (w.alloc (.cells Z 69)))
  have HZS := Lib.hid hzs
  clear hzs
  go_enter Tryd.func37, Tryd.ntmps37
  go_wp2_with (first
    | (go_at_call 78; refine (chunk11_any _).mono ?_; rintro e w' ⟨rfl, hb⟩; replace HB := Lib.hid (HB.out.trans (hb.mono (Nat.le_trans (by simp) HB.out.size))); clear hb)
    | (refine wpList_store_row rfl 69 _ _ rfl w.heap.size (chunkV tab11) rfl rfl 69 Z ((HB.out.block w.heap.size (by omega)).trans (heap_alloc_new _ _)) sizeChunk HZS.out (by kernel_rfl) ?_))
  (try simp only [Exit.inBlock, Exit.then])
  refine bodyPost_ret (results_cell_row rfl _ _ w.heap.size 69 (chunkV tab11) (0, 0) _ rfl (setRow_heap _ _ Z _ _ _ ((HB.out.block w.heap.size (by omega)).trans (heap_alloc_new _ _))) Tryd.underlying69 rfl sizeChunk) rfl ?_
  exact ⟨rfl, below_setRow (((Below.refl _ _).alloc (Nat.le_refl _) _).trans (HB.out.mono (Nat.le_succ _))) (Nat.le_refl _) _⟩

set_option maxRecDepth 100000 in
set_option maxHeartbeats 2000000 in
theorem of12_any (w : World) : Calls Tryd.prog 37 #[.int .i64 12] w (RetV w (.agg (chunkV tab12))) := by
  obtain ⟨Z, hz, hzs⟩ := zeroChunk
  have HB := Lib.hid (Below.refl (w.heap.size + 1) (w.alloc (.cells Z 69)))
  have HZS := Lib.hid hzs
  clear hzs
  go_enter Tryd.func37, Tryd.ntmps37
  go_wp2_with (first
    | (go_at_call 79; refine (chunk12_any _).mono ?_; rintro e w' ⟨rfl, hb⟩; replace HB := Lib.hid (HB.out.trans (hb.mono (Nat.le_trans (by simp) HB.out.size))); clear hb)
    | (refine wpList_store_row rfl 69 _ _ rfl w.heap.size (chunkV tab12) rfl rfl 69 Z ((HB.out.block w.heap.size (by omega)).trans (heap_alloc_new _ _)) sizeChunk HZS.out (by kernel_rfl) ?_))
  (try simp only [Exit.inBlock, Exit.then])
  refine bodyPost_ret (results_cell_row rfl _ _ w.heap.size 69 (chunkV tab12) (0, 0) _ rfl (setRow_heap _ _ Z _ _ _ ((HB.out.block w.heap.size (by omega)).trans (heap_alloc_new _ _))) Tryd.underlying69 rfl sizeChunk) rfl ?_
  exact ⟨rfl, below_setRow (((Below.refl _ _).alloc (Nat.le_refl _) _).trans (HB.out.mono (Nat.le_succ _))) (Nat.le_refl _) _⟩

theorem of_any (k : Nat) (hk : k < 13) (w : World) : Calls Tryd.prog 37 #[.int .i64 (k : Int)] w (RetV w (.agg (chunkV (tabs.getD k [])))) := by
  match k, hk with
  | 0, _ => exact of0_any w
  | 1, _ => exact of1_any w
  | 2, _ => exact of2_any w
  | 3, _ => exact of3_any w
  | 4, _ => exact of4_any w
  | 5, _ => exact of5_any w
  | 6, _ => exact of6_any w
  | 7, _ => exact of7_any w
  | 8, _ => exact of8_any w
  | 9, _ => exact of9_any w
  | 10, _ => exact of10_any w
  | 11, _ => exact of11_any w
  | 12, _ => exact of12_any w
  | k + 13, h => omega

end Go.Proofs.YtbpaogmnaodcaaaDoor
