/- The walks of the reference's two parts of its table and of its Of: printed by wip/tools/genRefQ.py. No condition. -/
import Derived.Test.YtbpaogmnaodcaaaDoorRefP
import Derived.Test.YtbpaogmnaodcaaaDoorRefOa
namespace Go.Proofs.YtbpaogmnaodcaaaDoor
open Go.RowKit

/-- What is left of looking: the row in the literal's own spelling. -/
def RetRow (w : World) (s : Sign) (ok : Bool) (e : Ending) (w' : World) : Prop := e = .returned (.tuple #[.agg #[.int .i64 s.bi, .int .i64 s.cl, .int .i64 s.br, .int .i64 s.sc, .int .i64 s.jn, .int .i64 s.wd, .int .i32 s.mi, .int .i32 s.pa, .bool s.op], .bool ok]) ∧ Below w.heap.size w w'
theorem RetPick.row {w : World} {x : Sign × Bool} {e : Ending} {w' : World} (h : RetPick w x e w') {s : Sign} {ok : Bool} (hx : x = (s, ok)) : RetRow w s ok e w' := by
  subst hx; exact h

set_option maxRecDepth 100000 in
set_option maxHeartbeats 4000000 in
theorem part0_any (r : Int) (w : World) : Calls Tryd.prog 33 #[.int .i32 r] w (RetPick w (pick refA r)) := by
  obtain ⟨tot, htot⟩ : ∃ z, z = pick refA r := ⟨_, rfl⟩
  rw [← htot]
  have HZ := Lib.hid (heap_alloc_new w (.cells #[.int .i64 0, .int .i64 0, .int .i64 0, .int .i64 0, .int .i64 0, .int .i64 0, .int .i32 0, .int .i32 0, .bool false] 31))
  have HB := Lib.hid ((Below.refl w.heap.size w).alloc (Nat.le_refl _) (.cells #[.int .i64 0, .int .i64 0, .int .i64 0, .int .i64 0, .int .i64 0, .int .i64 0, .int .i32 0, .int .i32 0, .bool false] 31))
  have HS : w.heap.size < (w.alloc (.cells #[.int .i64 0, .int .i64 0, .int .i64 0, .int .i64 0, .int .i64 0, .int .i64 0, .int .i32 0, .int .i32 0, .bool false] 31)).heap.size := by simp
  have HP := Lib.hid htot
  unfold refA at HP
  clear htot
  go_enter Tryd.func33, Tryd.ntmps33
  go_upto_region 1 with (fail)
  generalize w.alloc (.cells #[.int .i64 0, .int .i64 0, .int .i64 0, .int .i64 0, .int .i64 0, .int .i64 0, .int .i32 0, .int .i32 0, .bool false] 31) = w1 at *
  rcases hk : pick ref0 r with ⟨s, ok⟩
  have HC := Lib.hid (show ∀ W, Calls Tryd.prog 51 #[.int .i32 r] W (RetRow W s ok) from fun W => (rtab0_any r W).mono fun e w' h => h.row hk)
  unfold RetRow at HC
  rw [pick_append, hk] at HP
  clear hk
  go_upto_region 2 with (go_at_call 51; refine (HC.out _).mono ?_; rintro e v1 ⟨rfl, hb⟩)
  have hs := hb.size
  have HZ2 := Lib.hid (show (v1.alloc (.cells #[.int .i64 s.bi, .int .i64 s.cl, .int .i64 s.br, .int .i64 s.sc, .int .i64 s.jn, .int .i64 s.wd, .int .i32 s.mi, .int .i32 s.pa, .bool s.op] 31)).heap[w.heap.size]? = some (.cells (propV 0 0 0 0 0 0 0 0 false) 31 (0, 0)) from (heap_alloc_old _ _ (by omega)).trans ((hb.block w.heap.size (by omega)).trans HZ.out))
  have HB2 := Lib.hid ((HB.out.trans (hb.mono (by omega))).alloc (by omega) (.cells #[.int .i64 s.bi, .int .i64 s.cl, .int .i64 s.br, .int .i64 s.sc, .int .i64 s.jn, .int .i64 s.wd, .int .i32 s.mi, .int .i32 s.pa, .bool s.op] 31))
  have HS2 : w.heap.size < (v1.alloc (.cells #[.int .i64 s.bi, .int .i64 s.cl, .int .i64 s.br, .int .i64 s.sc, .int .i64 s.jn, .int .i64 s.wd, .int .i32 s.mi, .int .i32 s.pa, .bool s.op] 31)).heap.size := by simp; omega
  clear hb HC
  rcases ok with _ | _
  rotate_left
  · clear HZ HB HS
    rw [if_pos rfl] at HP
    go_wp2_with (refine wpList_store_row rfl 31 _ _ rfl w.heap.size (propV s.bi s.cl s.br s.sc s.jn s.wd s.mi s.pa s.op) rfl rfl 31 (propV 0 0 0 0 0 0 0 0 false) HZ2.out sizeProp rfl (propV_one _ _ _ _ _ _ _ _ _) ?_)
    (try simp only [Exit.inBlock, Exit.then])
    refine bodyPost_ret (results_row_tmp rfl _ _ w.heap.size 31 (propV s.bi s.cl s.br s.sc s.jn s.wd s.mi s.pa s.op) (0, 0) _ rfl (setRow_heap _ _ (propV 0 0 0 0 0 0 0 0 false) _ _ _ HZ2.out) Tryd.underlying31 rfl sizeProp) rfl ?_
    exact ⟨by rw [HP.out]; rfl, below_setRow HB2.out (Nat.le_refl _) _⟩
  rw [if_neg Bool.false_ne_true] at HP
  clear HZ HB HS
  have HZ := HZ2
  have HB := HB2
  have HS := HS2
  clear HZ2 HB2 HS2
  go_upto_region 4 with (fail)
  generalize v1.alloc (.cells #[.int .i64 s.bi, .int .i64 s.cl, .int .i64 s.br, .int .i64 s.sc, .int .i64 s.jn, .int .i64 s.wd, .int .i32 s.mi, .int .i32 s.pa, .bool s.op] 31) = w2 at *
  clear hs
  rcases hk : pick ref1 r with ⟨s, ok⟩
  have HC := Lib.hid (show ∀ W, Calls Tryd.prog 52 #[.int .i32 r] W (RetRow W s ok) from fun W => (rtab1_any r W).mono fun e w' h => h.row hk)
  unfold RetRow at HC
  rw [pick_append, hk] at HP
  clear hk
  go_upto_region 5 with (go_at_call 52; refine (HC.out _).mono ?_; rintro e v2 ⟨rfl, hb⟩)
  have hs := hb.size
  have HZ2 := Lib.hid (show (v2.alloc (.cells #[.int .i64 s.bi, .int .i64 s.cl, .int .i64 s.br, .int .i64 s.sc, .int .i64 s.jn, .int .i64 s.wd, .int .i32 s.mi, .int .i32 s.pa, .bool s.op] 31)).heap[w.heap.size]? = some (.cells (propV 0 0 0 0 0 0 0 0 false) 31 (0, 0)) from (heap_alloc_old _ _ (by omega)).trans ((hb.block w.heap.size (by omega)).trans HZ.out))
  have HB2 := Lib.hid ((HB.out.trans (hb.mono (by omega))).alloc (by omega) (.cells #[.int .i64 s.bi, .int .i64 s.cl, .int .i64 s.br, .int .i64 s.sc, .int .i64 s.jn, .int .i64 s.wd, .int .i32 s.mi, .int .i32 s.pa, .bool s.op] 31))
  have HS2 : w.heap.size < (v2.alloc (.cells #[.int .i64 s.bi, .int .i64 s.cl, .int .i64 s.br, .int .i64 s.sc, .int .i64 s.jn, .int .i64 s.wd, .int .i32 s.mi, .int .i32 s.pa, .bool s.op] 31)).heap.size := by simp; omega
  clear hb HC
  rcases ok with _ | _
  rotate_left
  · clear HZ HB HS
    rw [if_pos rfl] at HP
    go_wp2_with (refine wpList_store_row rfl 31 _ _ rfl w.heap.size (propV s.bi s.cl s.br s.sc s.jn s.wd s.mi s.pa s.op) rfl rfl 31 (propV 0 0 0 0 0 0 0 0 false) HZ2.out sizeProp rfl (propV_one _ _ _ _ _ _ _ _ _) ?_)
    (try simp only [Exit.inBlock, Exit.then])
    refine bodyPost_ret (results_row_tmp rfl _ _ w.heap.size 31 (propV s.bi s.cl s.br s.sc s.jn s.wd s.mi s.pa s.op) (0, 0) _ rfl (setRow_heap _ _ (propV 0 0 0 0 0 0 0 0 false) _ _ _ HZ2.out) Tryd.underlying31 rfl sizeProp) rfl ?_
    exact ⟨by rw [HP.out]; rfl, below_setRow HB2.out (Nat.le_refl _) _⟩
  rw [if_neg Bool.false_ne_true] at HP
  clear HZ HB HS
  have HZ := HZ2
  have HB := HB2
  have HS := HS2
  clear HZ2 HB2 HS2
  go_upto_region 7 with (fail)
  generalize v2.alloc (.cells #[.int .i64 s.bi, .int .i64 s.cl, .int .i64 s.br, .int .i64 s.sc, .int .i64 s.jn, .int .i64 s.wd, .int .i32 s.mi, .int .i32 s.pa, .bool s.op] 31) = w3 at *
  clear hs
  rcases hk : pick ref2 r with ⟨s, ok⟩
  have HC := Lib.hid (show ∀ W, Calls Tryd.prog 53 #[.int .i32 r] W (RetRow W s ok) from fun W => (rtab2_any r W).mono fun e w' h => h.row hk)
  unfold RetRow at HC
  rw [pick_append, hk] at HP
  clear hk
  go_upto_region 8 with (go_at_call 53; refine (HC.out _).mono ?_; rintro e v3 ⟨rfl, hb⟩)
  have hs := hb.size
  have HZ2 := Lib.hid (show (v3.alloc (.cells #[.int .i64 s.bi, .int .i64 s.cl, .int .i64 s.br, .int .i64 s.sc, .int .i64 s.jn, .int .i64 s.wd, .int .i32 s.mi, .int .i32 s.pa, .bool s.op] 31)).heap[w.heap.size]? = some (.cells (propV 0 0 0 0 0 0 0 0 false) 31 (0, 0)) from (heap_alloc_old _ _ (by omega)).trans ((hb.block w.heap.size (by omega)).trans HZ.out))
  have HB2 := Lib.hid ((HB.out.trans (hb.mono (by omega))).alloc (by omega) (.cells #[.int .i64 s.bi, .int .i64 s.cl, .int .i64 s.br, .int .i64 s.sc, .int .i64 s.jn, .int .i64 s.wd, .int .i32 s.mi, .int .i32 s.pa, .bool s.op] 31))
  have HS2 : w.heap.size < (v3.alloc (.cells #[.int .i64 s.bi, .int .i64 s.cl, .int .i64 s.br, .int .i64 s.sc, .int .i64 s.jn, .int .i64 s.wd, .int .i32 s.mi, .int .i32 s.pa, .bool s.op] 31)).heap.size := by simp; omega
  clear hb HC
  rcases ok with _ | _
  rotate_left
  · clear HZ HB HS
    rw [if_pos rfl] at HP
    go_wp2_with (refine wpList_store_row rfl 31 _ _ rfl w.heap.size (propV s.bi s.cl s.br s.sc s.jn s.wd s.mi s.pa s.op) rfl rfl 31 (propV 0 0 0 0 0 0 0 0 false) HZ2.out sizeProp rfl (propV_one _ _ _ _ _ _ _ _ _) ?_)
    (try simp only [Exit.inBlock, Exit.then])
    refine bodyPost_ret (results_row_tmp rfl _ _ w.heap.size 31 (propV s.bi s.cl s.br s.sc s.jn s.wd s.mi s.pa s.op) (0, 0) _ rfl (setRow_heap _ _ (propV 0 0 0 0 0 0 0 0 false) _ _ _ HZ2.out) Tryd.underlying31 rfl sizeProp) rfl ?_
    exact ⟨by rw [HP.out]; rfl, below_setRow HB2.out (Nat.le_refl _) _⟩
  rw [if_neg Bool.false_ne_true] at HP
  clear HZ HB HS
  have HZ := HZ2
  have HB := HB2
  have HS := HS2
  clear HZ2 HB2 HS2
  go_upto_region 10 with (fail)
  generalize v3.alloc (.cells #[.int .i64 s.bi, .int .i64 s.cl, .int .i64 s.br, .int .i64 s.sc, .int .i64 s.jn, .int .i64 s.wd, .int .i32 s.mi, .int .i32 s.pa, .bool s.op] 31) = w4 at *
  clear hs
  rcases hk : pick ref3 r with ⟨s, ok⟩
  have HC := Lib.hid (show ∀ W, Calls Tryd.prog 54 #[.int .i32 r] W (RetRow W s ok) from fun W => (rtab3_any r W).mono fun e w' h => h.row hk)
  unfold RetRow at HC
  rw [pick_append, hk] at HP
  clear hk
  go_upto_region 11 with (go_at_call 54; refine (HC.out _).mono ?_; rintro e v4 ⟨rfl, hb⟩)
  have hs := hb.size
  have HZ2 := Lib.hid (show (v4.alloc (.cells #[.int .i64 s.bi, .int .i64 s.cl, .int .i64 s.br, .int .i64 s.sc, .int .i64 s.jn, .int .i64 s.wd, .int .i32 s.mi, .int .i32 s.pa, .bool s.op] 31)).heap[w.heap.size]? = some (.cells (propV 0 0 0 0 0 0 0 0 false) 31 (0, 0)) from (heap_alloc_old _ _ (by omega)).trans ((hb.block w.heap.size (by omega)).trans HZ.out))
  have HB2 := Lib.hid ((HB.out.trans (hb.mono (by omega))).alloc (by omega) (.cells #[.int .i64 s.bi, .int .i64 s.cl, .int .i64 s.br, .int .i64 s.sc, .int .i64 s.jn, .int .i64 s.wd, .int .i32 s.mi, .int .i32 s.pa, .bool s.op] 31))
  have HS2 : w.heap.size < (v4.alloc (.cells #[.int .i64 s.bi, .int .i64 s.cl, .int .i64 s.br, .int .i64 s.sc, .int .i64 s.jn, .int .i64 s.wd, .int .i32 s.mi, .int .i32 s.pa, .bool s.op] 31)).heap.size := by simp; omega
  clear hb HC
  rcases ok with _ | _
  rotate_left
  · clear HZ HB HS
    rw [if_pos rfl] at HP
    go_wp2_with (refine wpList_store_row rfl 31 _ _ rfl w.heap.size (propV s.bi s.cl s.br s.sc s.jn s.wd s.mi s.pa s.op) rfl rfl 31 (propV 0 0 0 0 0 0 0 0 false) HZ2.out sizeProp rfl (propV_one _ _ _ _ _ _ _ _ _) ?_)
    (try simp only [Exit.inBlock, Exit.then])
    refine bodyPost_ret (results_row_tmp rfl _ _ w.heap.size 31 (propV s.bi s.cl s.br s.sc s.jn s.wd s.mi s.pa s.op) (0, 0) _ rfl (setRow_heap _ _ (propV 0 0 0 0 0 0 0 0 false) _ _ _ HZ2.out) Tryd.underlying31 rfl sizeProp) rfl ?_
    exact ⟨by rw [HP.out]; rfl, below_setRow HB2.out (Nat.le_refl _) _⟩
  rw [if_neg Bool.false_ne_true] at HP
  clear HZ HB HS
  have HZ := HZ2
  have HB := HB2
  have HS := HS2
  clear HZ2 HB2 HS2
  go_upto_region 13 with (fail)
  generalize v4.alloc (.cells #[.int .i64 s.bi, .int .i64 s.cl, .int .i64 s.br, .int .i64 s.sc, .int .i64 s.jn, .int .i64 s.wd, .int .i32 s.mi, .int .i32 s.pa, .bool s.op] 31) = w5 at *
  clear hs
  rcases hk : pick ref4 r with ⟨s, ok⟩
  have HC := Lib.hid (show ∀ W, Calls Tryd.prog 55 #[.int .i32 r] W (RetRow W s ok) from fun W => (rtab4_any r W).mono fun e w' h => h.row hk)
  unfold RetRow at HC
  rw [pick_append, hk] at HP
  clear hk
  go_upto_region 14 with (go_at_call 55; refine (HC.out _).mono ?_; rintro e v5 ⟨rfl, hb⟩)
  have hs := hb.size
  have HZ2 := Lib.hid (show (v5.alloc (.cells #[.int .i64 s.bi, .int .i64 s.cl, .int .i64 s.br, .int .i64 s.sc, .int .i64 s.jn, .int .i64 s.wd, .int .i32 s.mi, .int .i32 s.pa, .bool s.op] 31)).heap[w.heap.size]? = some (.cells (propV 0 0 0 0 0 0 0 0 false) 31 (0, 0)) from (heap_alloc_old _ _ (by omega)).trans ((hb.block w.heap.size (by omega)).trans HZ.out))
  have HB2 := Lib.hid ((HB.out.trans (hb.mono (by omega))).alloc (by omega) (.cells #[.int .i64 s.bi, .int .i64 s.cl, .int .i64 s.br, .int .i64 s.sc, .int .i64 s.jn, .int .i64 s.wd, .int .i32 s.mi, .int .i32 s.pa, .bool s.op] 31))
  have HS2 : w.heap.size < (v5.alloc (.cells #[.int .i64 s.bi, .int .i64 s.cl, .int .i64 s.br, .int .i64 s.sc, .int .i64 s.jn, .int .i64 s.wd, .int .i32 s.mi, .int .i32 s.pa, .bool s.op] 31)).heap.size := by simp; omega
  clear hb HC
  rcases ok with _ | _
  rotate_left
  · clear HZ HB HS
    rw [if_pos rfl] at HP
    go_wp2_with (refine wpList_store_row rfl 31 _ _ rfl w.heap.size (propV s.bi s.cl s.br s.sc s.jn s.wd s.mi s.pa s.op) rfl rfl 31 (propV 0 0 0 0 0 0 0 0 false) HZ2.out sizeProp rfl (propV_one _ _ _ _ _ _ _ _ _) ?_)
    (try simp only [Exit.inBlock, Exit.then])
    refine bodyPost_ret (results_row_tmp rfl _ _ w.heap.size 31 (propV s.bi s.cl s.br s.sc s.jn s.wd s.mi s.pa s.op) (0, 0) _ rfl (setRow_heap _ _ (propV 0 0 0 0 0 0 0 0 false) _ _ _ HZ2.out) Tryd.underlying31 rfl sizeProp) rfl ?_
    exact ⟨by rw [HP.out]; rfl, below_setRow HB2.out (Nat.le_refl _) _⟩
  rw [if_neg Bool.false_ne_true] at HP
  clear HZ HB HS
  have HZ := HZ2
  have HB := HB2
  have HS := HS2
  clear HZ2 HB2 HS2
  go_upto_region 16 with (fail)
  generalize v5.alloc (.cells #[.int .i64 s.bi, .int .i64 s.cl, .int .i64 s.br, .int .i64 s.sc, .int .i64 s.jn, .int .i64 s.wd, .int .i32 s.mi, .int .i32 s.pa, .bool s.op] 31) = w6 at *
  clear hs
  rcases hk : pick ref5 r with ⟨s, ok⟩
  have HC := Lib.hid (show ∀ W, Calls Tryd.prog 56 #[.int .i32 r] W (RetRow W s ok) from fun W => (rtab5_any r W).mono fun e w' h => h.row hk)
  unfold RetRow at HC
  rw [pick_append, hk] at HP
  clear hk
  go_upto_region 17 with (go_at_call 56; refine (HC.out _).mono ?_; rintro e v6 ⟨rfl, hb⟩)
  have hs := hb.size
  have HZ2 := Lib.hid (show (v6.alloc (.cells #[.int .i64 s.bi, .int .i64 s.cl, .int .i64 s.br, .int .i64 s.sc, .int .i64 s.jn, .int .i64 s.wd, .int .i32 s.mi, .int .i32 s.pa, .bool s.op] 31)).heap[w.heap.size]? = some (.cells (propV 0 0 0 0 0 0 0 0 false) 31 (0, 0)) from (heap_alloc_old _ _ (by omega)).trans ((hb.block w.heap.size (by omega)).trans HZ.out))
  have HB2 := Lib.hid ((HB.out.trans (hb.mono (by omega))).alloc (by omega) (.cells #[.int .i64 s.bi, .int .i64 s.cl, .int .i64 s.br, .int .i64 s.sc, .int .i64 s.jn, .int .i64 s.wd, .int .i32 s.mi, .int .i32 s.pa, .bool s.op] 31))
  have HS2 : w.heap.size < (v6.alloc (.cells #[.int .i64 s.bi, .int .i64 s.cl, .int .i64 s.br, .int .i64 s.sc, .int .i64 s.jn, .int .i64 s.wd, .int .i32 s.mi, .int .i32 s.pa, .bool s.op] 31)).heap.size := by simp; omega
  clear hb HC
  rcases ok with _ | _
  rotate_left
  · clear HZ HB HS
    rw [if_pos rfl] at HP
    go_wp2_with (refine wpList_store_row rfl 31 _ _ rfl w.heap.size (propV s.bi s.cl s.br s.sc s.jn s.wd s.mi s.pa s.op) rfl rfl 31 (propV 0 0 0 0 0 0 0 0 false) HZ2.out sizeProp rfl (propV_one _ _ _ _ _ _ _ _ _) ?_)
    (try simp only [Exit.inBlock, Exit.then])
    refine bodyPost_ret (results_row_tmp rfl _ _ w.heap.size 31 (propV s.bi s.cl s.br s.sc s.jn s.wd s.mi s.pa s.op) (0, 0) _ rfl (setRow_heap _ _ (propV 0 0 0 0 0 0 0 0 false) _ _ _ HZ2.out) Tryd.underlying31 rfl sizeProp) rfl ?_
    exact ⟨by rw [HP.out]; rfl, below_setRow HB2.out (Nat.le_refl _) _⟩
  rw [if_neg Bool.false_ne_true] at HP
  clear HZ HB HS
  have HZ := HZ2
  have HB := HB2
  have HS := HS2
  clear HZ2 HB2 HS2
  go_upto_region 19 with (fail)
  generalize v6.alloc (.cells #[.int .i64 s.bi, .int .i64 s.cl, .int .i64 s.br, .int .i64 s.sc, .int .i64 s.jn, .int .i64 s.wd, .int .i32 s.mi, .int .i32 s.pa, .bool s.op] 31) = w7 at *
  clear hs
  rcases hk : pick ref6 r with ⟨s, ok⟩
  have HC := Lib.hid (show ∀ W, Calls Tryd.prog 57 #[.int .i32 r] W (RetRow W s ok) from fun W => (rtab6_any r W).mono fun e w' h => h.row hk)
  unfold RetRow at HC
  rw [pick_append, hk] at HP
  clear hk
  go_upto_region 20 with (go_at_call 57; refine (HC.out _).mono ?_; rintro e v7 ⟨rfl, hb⟩)
  have hs := hb.size
  have HZ2 := Lib.hid (show (v7.alloc (.cells #[.int .i64 s.bi, .int .i64 s.cl, .int .i64 s.br, .int .i64 s.sc, .int .i64 s.jn, .int .i64 s.wd, .int .i32 s.mi, .int .i32 s.pa, .bool s.op] 31)).heap[w.heap.size]? = some (.cells (propV 0 0 0 0 0 0 0 0 false) 31 (0, 0)) from (heap_alloc_old _ _ (by omega)).trans ((hb.block w.heap.size (by omega)).trans HZ.out))
  have HB2 := Lib.hid ((HB.out.trans (hb.mono (by omega))).alloc (by omega) (.cells #[.int .i64 s.bi, .int .i64 s.cl, .int .i64 s.br, .int .i64 s.sc, .int .i64 s.jn, .int .i64 s.wd, .int .i32 s.mi, .int .i32 s.pa, .bool s.op] 31))
  have HS2 : w.heap.size < (v7.alloc (.cells #[.int .i64 s.bi, .int .i64 s.cl, .int .i64 s.br, .int .i64 s.sc, .int .i64 s.jn, .int .i64 s.wd, .int .i32 s.mi, .int .i32 s.pa, .bool s.op] 31)).heap.size := by simp; omega
  clear hb HC
  rcases ok with _ | _
  rotate_left
  · clear HZ HB HS
    rw [if_pos rfl] at HP
    go_wp2_with (refine wpList_store_row rfl 31 _ _ rfl w.heap.size (propV s.bi s.cl s.br s.sc s.jn s.wd s.mi s.pa s.op) rfl rfl 31 (propV 0 0 0 0 0 0 0 0 false) HZ2.out sizeProp rfl (propV_one _ _ _ _ _ _ _ _ _) ?_)
    (try simp only [Exit.inBlock, Exit.then])
    refine bodyPost_ret (results_row_tmp rfl _ _ w.heap.size 31 (propV s.bi s.cl s.br s.sc s.jn s.wd s.mi s.pa s.op) (0, 0) _ rfl (setRow_heap _ _ (propV 0 0 0 0 0 0 0 0 false) _ _ _ HZ2.out) Tryd.underlying31 rfl sizeProp) rfl ?_
    exact ⟨by rw [HP.out]; rfl, below_setRow HB2.out (Nat.le_refl _) _⟩
  rw [if_neg Bool.false_ne_true] at HP
  clear HZ HB HS
  have HZ := HZ2
  have HB := HB2
  have HS := HS2
  clear HZ2 HB2 HS2
  go_upto_region 22 with (fail)
  generalize v7.alloc (.cells #[.int .i64 s.bi, .int .i64 s.cl, .int .i64 s.br, .int .i64 s.sc, .int .i64 s.jn, .int .i64 s.wd, .int .i32 s.mi, .int .i32 s.pa, .bool s.op] 31) = w8 at *
  clear hs
  rcases hk : pick ref7 r with ⟨s, ok⟩
  have HC := Lib.hid (show ∀ W, Calls Tryd.prog 58 #[.int .i32 r] W (RetRow W s ok) from fun W => (rtab7_any r W).mono fun e w' h => h.row hk)
  unfold RetRow at HC
  rw [hk] at HP
  have HF : ok = false → s = restS := fun h => by subst h; have := pick_false (l := ref7) (r := r) (by rw [hk]); rw [hk] at this; exact congrArg Prod.fst this
  clear hk
  go_upto_region 23 with (go_at_call 58; refine (HC.out _).mono ?_; rintro e v8 ⟨rfl, hb⟩)
  have hs := hb.size
  have HZ2 := Lib.hid (show (v8.alloc (.cells #[.int .i64 s.bi, .int .i64 s.cl, .int .i64 s.br, .int .i64 s.sc, .int .i64 s.jn, .int .i64 s.wd, .int .i32 s.mi, .int .i32 s.pa, .bool s.op] 31)).heap[w.heap.size]? = some (.cells (propV 0 0 0 0 0 0 0 0 false) 31 (0, 0)) from (heap_alloc_old _ _ (by omega)).trans ((hb.block w.heap.size (by omega)).trans HZ.out))
  have HB2 := Lib.hid ((HB.out.trans (hb.mono (by omega))).alloc (by omega) (.cells #[.int .i64 s.bi, .int .i64 s.cl, .int .i64 s.br, .int .i64 s.sc, .int .i64 s.jn, .int .i64 s.wd, .int .i32 s.mi, .int .i32 s.pa, .bool s.op] 31))
  have HS2 : w.heap.size < (v8.alloc (.cells #[.int .i64 s.bi, .int .i64 s.cl, .int .i64 s.br, .int .i64 s.sc, .int .i64 s.jn, .int .i64 s.wd, .int .i32 s.mi, .int .i32 s.pa, .bool s.op] 31)).heap.size := by simp; omega
  clear hb HC
  rcases ok with _ | _
  rotate_left
  · clear HZ HB HS
    go_wp2_with (refine wpList_store_row rfl 31 _ _ rfl w.heap.size (propV s.bi s.cl s.br s.sc s.jn s.wd s.mi s.pa s.op) rfl rfl 31 (propV 0 0 0 0 0 0 0 0 false) HZ2.out sizeProp rfl (propV_one _ _ _ _ _ _ _ _ _) ?_)
    (try simp only [Exit.inBlock, Exit.then])
    refine bodyPost_ret (results_row_tmp rfl _ _ w.heap.size 31 (propV s.bi s.cl s.br s.sc s.jn s.wd s.mi s.pa s.op) (0, 0) _ rfl (setRow_heap _ _ (propV 0 0 0 0 0 0 0 0 false) _ _ _ HZ2.out) Tryd.underlying31 rfl sizeProp) rfl ?_
    exact ⟨by rw [HP.out]; rfl, below_setRow HB2.out (Nat.le_refl _) _⟩
  have HF2 := HF rfl
  subst HF2
  generalize v8.alloc (.cells #[.int .i64 restS.bi, .int .i64 restS.cl, .int .i64 restS.br, .int .i64 restS.sc, .int .i64 restS.jn, .int .i64 restS.wd, .int .i32 restS.mi, .int .i32 restS.pa, .bool restS.op] 31) = w9 at *
  go_wp2_with (first
    | (go_at_call 35; refine (refRest_any _).mono ?_; rintro e x2 ⟨rfl, hb⟩; have HZ3 := Lib.hid ((hb.block w.heap.size (by omega)).trans HZ2.out); have HB3 := Lib.hid (HB2.out.trans (hb.mono (by omega))); clear hb)
    | (refine wpList_store_row rfl 31 _ _ rfl w.heap.size (propV 1 0 0 0 0 0 0 0 false) rfl rfl 31 (propV 0 0 0 0 0 0 0 0 false) HZ3.out sizeProp rfl (propV_one _ _ _ _ _ _ _ _ _) ?_))
  (try simp only [Exit.inBlock, Exit.then])
  refine bodyPost_ret (results_row_tmp rfl _ _ w.heap.size 31 (propV 1 0 0 0 0 0 0 0 false) (0, 0) _ rfl (setRow_heap _ _ (propV 0 0 0 0 0 0 0 0 false) _ _ _ HZ3.out) Tryd.underlying31 rfl sizeProp) rfl ?_
  exact ⟨by rw [HP.out]; rfl, below_setRow HB3.out (Nat.le_refl _) _⟩

set_option maxRecDepth 100000 in
set_option maxHeartbeats 4000000 in
theorem part1_any (r : Int) (w : World) : Calls Tryd.prog 34 #[.int .i32 r] w (RetPick w (pick refB r)) := by
  obtain ⟨tot, htot⟩ : ∃ z, z = pick refB r := ⟨_, rfl⟩
  rw [← htot]
  have HZ := Lib.hid (heap_alloc_new w (.cells #[.int .i64 0, .int .i64 0, .int .i64 0, .int .i64 0, .int .i64 0, .int .i64 0, .int .i32 0, .int .i32 0, .bool false] 31))
  have HB := Lib.hid ((Below.refl w.heap.size w).alloc (Nat.le_refl _) (.cells #[.int .i64 0, .int .i64 0, .int .i64 0, .int .i64 0, .int .i64 0, .int .i64 0, .int .i32 0, .int .i32 0, .bool false] 31))
  have HS : w.heap.size < (w.alloc (.cells #[.int .i64 0, .int .i64 0, .int .i64 0, .int .i64 0, .int .i64 0, .int .i64 0, .int .i32 0, .int .i32 0, .bool false] 31)).heap.size := by simp
  have HP := Lib.hid htot
  unfold refB at HP
  clear htot
  go_enter Tryd.func34, Tryd.ntmps34
  go_upto_region 1 with (fail)
  generalize w.alloc (.cells #[.int .i64 0, .int .i64 0, .int .i64 0, .int .i64 0, .int .i64 0, .int .i64 0, .int .i32 0, .int .i32 0, .bool false] 31) = w1 at *
  rcases hk : pick ref8 r with ⟨s, ok⟩
  have HC := Lib.hid (show ∀ W, Calls Tryd.prog 59 #[.int .i32 r] W (RetRow W s ok) from fun W => (rtab8_any r W).mono fun e w' h => h.row hk)
  unfold RetRow at HC
  rw [pick_append, hk] at HP
  clear hk
  go_upto_region 2 with (go_at_call 59; refine (HC.out _).mono ?_; rintro e v1 ⟨rfl, hb⟩)
  have hs := hb.size
  have HZ2 := Lib.hid (show (v1.alloc (.cells #[.int .i64 s.bi, .int .i64 s.cl, .int .i64 s.br, .int .i64 s.sc, .int .i64 s.jn, .int .i64 s.wd, .int .i32 s.mi, .int .i32 s.pa, .bool s.op] 31)).heap[w.heap.size]? = some (.cells (propV 0 0 0 0 0 0 0 0 false) 31 (0, 0)) from (heap_alloc_old _ _ (by omega)).trans ((hb.block w.heap.size (by omega)).trans HZ.out))
  have HB2 := Lib.hid ((HB.out.trans (hb.mono (by omega))).alloc (by omega) (.cells #[.int .i64 s.bi, .int .i64 s.cl, .int .i64 s.br, .int .i64 s.sc, .int .i64 s.jn, .int .i64 s.wd, .int .i32 s.mi, .int .i32 s.pa, .bool s.op] 31))
  have HS2 : w.heap.size < (v1.alloc (.cells #[.int .i64 s.bi, .int .i64 s.cl, .int .i64 s.br, .int .i64 s.sc, .int .i64 s.jn, .int .i64 s.wd, .int .i32 s.mi, .int .i32 s.pa, .bool s.op] 31)).heap.size := by simp; omega
  clear hb HC
  rcases ok with _ | _
  rotate_left
  · clear HZ HB HS
    rw [if_pos rfl] at HP
    go_wp2_with (refine wpList_store_row rfl 31 _ _ rfl w.heap.size (propV s.bi s.cl s.br s.sc s.jn s.wd s.mi s.pa s.op) rfl rfl 31 (propV 0 0 0 0 0 0 0 0 false) HZ2.out sizeProp rfl (propV_one _ _ _ _ _ _ _ _ _) ?_)
    (try simp only [Exit.inBlock, Exit.then])
    refine bodyPost_ret (results_row_tmp rfl _ _ w.heap.size 31 (propV s.bi s.cl s.br s.sc s.jn s.wd s.mi s.pa s.op) (0, 0) _ rfl (setRow_heap _ _ (propV 0 0 0 0 0 0 0 0 false) _ _ _ HZ2.out) Tryd.underlying31 rfl sizeProp) rfl ?_
    exact ⟨by rw [HP.out]; rfl, below_setRow HB2.out (Nat.le_refl _) _⟩
  rw [if_neg Bool.false_ne_true] at HP
  clear HZ HB HS
  have HZ := HZ2
  have HB := HB2
  have HS := HS2
  clear HZ2 HB2 HS2
  go_upto_region 4 with (fail)
  generalize v1.alloc (.cells #[.int .i64 s.bi, .int .i64 s.cl, .int .i64 s.br, .int .i64 s.sc, .int .i64 s.jn, .int .i64 s.wd, .int .i32 s.mi, .int .i32 s.pa, .bool s.op] 31) = w2 at *
  clear hs
  rcases hk : pick ref9 r with ⟨s, ok⟩
  have HC := Lib.hid (show ∀ W, Calls Tryd.prog 60 #[.int .i32 r] W (RetRow W s ok) from fun W => (rtab9_any r W).mono fun e w' h => h.row hk)
  unfold RetRow at HC
  rw [pick_append, hk] at HP
  clear hk
  go_upto_region 5 with (go_at_call 60; refine (HC.out _).mono ?_; rintro e v2 ⟨rfl, hb⟩)
  have hs := hb.size
  have HZ2 := Lib.hid (show (v2.alloc (.cells #[.int .i64 s.bi, .int .i64 s.cl, .int .i64 s.br, .int .i64 s.sc, .int .i64 s.jn, .int .i64 s.wd, .int .i32 s.mi, .int .i32 s.pa, .bool s.op] 31)).heap[w.heap.size]? = some (.cells (propV 0 0 0 0 0 0 0 0 false) 31 (0, 0)) from (heap_alloc_old _ _ (by omega)).trans ((hb.block w.heap.size (by omega)).trans HZ.out))
  have HB2 := Lib.hid ((HB.out.trans (hb.mono (by omega))).alloc (by omega) (.cells #[.int .i64 s.bi, .int .i64 s.cl, .int .i64 s.br, .int .i64 s.sc, .int .i64 s.jn, .int .i64 s.wd, .int .i32 s.mi, .int .i32 s.pa, .bool s.op] 31))
  have HS2 : w.heap.size < (v2.alloc (.cells #[.int .i64 s.bi, .int .i64 s.cl, .int .i64 s.br, .int .i64 s.sc, .int .i64 s.jn, .int .i64 s.wd, .int .i32 s.mi, .int .i32 s.pa, .bool s.op] 31)).heap.size := by simp; omega
  clear hb HC
  rcases ok with _ | _
  rotate_left
  · clear HZ HB HS
    rw [if_pos rfl] at HP
    go_wp2_with (refine wpList_store_row rfl 31 _ _ rfl w.heap.size (propV s.bi s.cl s.br s.sc s.jn s.wd s.mi s.pa s.op) rfl rfl 31 (propV 0 0 0 0 0 0 0 0 false) HZ2.out sizeProp rfl (propV_one _ _ _ _ _ _ _ _ _) ?_)
    (try simp only [Exit.inBlock, Exit.then])
    refine bodyPost_ret (results_row_tmp rfl _ _ w.heap.size 31 (propV s.bi s.cl s.br s.sc s.jn s.wd s.mi s.pa s.op) (0, 0) _ rfl (setRow_heap _ _ (propV 0 0 0 0 0 0 0 0 false) _ _ _ HZ2.out) Tryd.underlying31 rfl sizeProp) rfl ?_
    exact ⟨by rw [HP.out]; rfl, below_setRow HB2.out (Nat.le_refl _) _⟩
  rw [if_neg Bool.false_ne_true] at HP
  clear HZ HB HS
  have HZ := HZ2
  have HB := HB2
  have HS := HS2
  clear HZ2 HB2 HS2
  go_upto_region 7 with (fail)
  generalize v2.alloc (.cells #[.int .i64 s.bi, .int .i64 s.cl, .int .i64 s.br, .int .i64 s.sc, .int .i64 s.jn, .int .i64 s.wd, .int .i32 s.mi, .int .i32 s.pa, .bool s.op] 31) = w3 at *
  clear hs
  rcases hk : pick ref10 r with ⟨s, ok⟩
  have HC := Lib.hid (show ∀ W, Calls Tryd.prog 61 #[.int .i32 r] W (RetRow W s ok) from fun W => (rtab10_any r W).mono fun e w' h => h.row hk)
  unfold RetRow at HC
  rw [pick_append, hk] at HP
  clear hk
  go_upto_region 8 with (go_at_call 61; refine (HC.out _).mono ?_; rintro e v3 ⟨rfl, hb⟩)
  have hs := hb.size
  have HZ2 := Lib.hid (show (v3.alloc (.cells #[.int .i64 s.bi, .int .i64 s.cl, .int .i64 s.br, .int .i64 s.sc, .int .i64 s.jn, .int .i64 s.wd, .int .i32 s.mi, .int .i32 s.pa, .bool s.op] 31)).heap[w.heap.size]? = some (.cells (propV 0 0 0 0 0 0 0 0 false) 31 (0, 0)) from (heap_alloc_old _ _ (by omega)).trans ((hb.block w.heap.size (by omega)).trans HZ.out))
  have HB2 := Lib.hid ((HB.out.trans (hb.mono (by omega))).alloc (by omega) (.cells #[.int .i64 s.bi, .int .i64 s.cl, .int .i64 s.br, .int .i64 s.sc, .int .i64 s.jn, .int .i64 s.wd, .int .i32 s.mi, .int .i32 s.pa, .bool s.op] 31))
  have HS2 : w.heap.size < (v3.alloc (.cells #[.int .i64 s.bi, .int .i64 s.cl, .int .i64 s.br, .int .i64 s.sc, .int .i64 s.jn, .int .i64 s.wd, .int .i32 s.mi, .int .i32 s.pa, .bool s.op] 31)).heap.size := by simp; omega
  clear hb HC
  rcases ok with _ | _
  rotate_left
  · clear HZ HB HS
    rw [if_pos rfl] at HP
    go_wp2_with (refine wpList_store_row rfl 31 _ _ rfl w.heap.size (propV s.bi s.cl s.br s.sc s.jn s.wd s.mi s.pa s.op) rfl rfl 31 (propV 0 0 0 0 0 0 0 0 false) HZ2.out sizeProp rfl (propV_one _ _ _ _ _ _ _ _ _) ?_)
    (try simp only [Exit.inBlock, Exit.then])
    refine bodyPost_ret (results_row_tmp rfl _ _ w.heap.size 31 (propV s.bi s.cl s.br s.sc s.jn s.wd s.mi s.pa s.op) (0, 0) _ rfl (setRow_heap _ _ (propV 0 0 0 0 0 0 0 0 false) _ _ _ HZ2.out) Tryd.underlying31 rfl sizeProp) rfl ?_
    exact ⟨by rw [HP.out]; rfl, below_setRow HB2.out (Nat.le_refl _) _⟩
  rw [if_neg Bool.false_ne_true] at HP
  clear HZ HB HS
  have HZ := HZ2
  have HB := HB2
  have HS := HS2
  clear HZ2 HB2 HS2
  go_upto_region 10 with (fail)
  generalize v3.alloc (.cells #[.int .i64 s.bi, .int .i64 s.cl, .int .i64 s.br, .int .i64 s.sc, .int .i64 s.jn, .int .i64 s.wd, .int .i32 s.mi, .int .i32 s.pa, .bool s.op] 31) = w4 at *
  clear hs
  rcases hk : pick ref11 r with ⟨s, ok⟩
  have HC := Lib.hid (show ∀ W, Calls Tryd.prog 62 #[.int .i32 r] W (RetRow W s ok) from fun W => (rtab11_any r W).mono fun e w' h => h.row hk)
  unfold RetRow at HC
  rw [pick_append, hk] at HP
  clear hk
  go_upto_region 11 with (go_at_call 62; refine (HC.out _).mono ?_; rintro e v4 ⟨rfl, hb⟩)
  have hs := hb.size
  have HZ2 := Lib.hid (show (v4.alloc (.cells #[.int .i64 s.bi, .int .i64 s.cl, .int .i64 s.br, .int .i64 s.sc, .int .i64 s.jn, .int .i64 s.wd, .int .i32 s.mi, .int .i32 s.pa, .bool s.op] 31)).heap[w.heap.size]? = some (.cells (propV 0 0 0 0 0 0 0 0 false) 31 (0, 0)) from (heap_alloc_old _ _ (by omega)).trans ((hb.block w.heap.size (by omega)).trans HZ.out))
  have HB2 := Lib.hid ((HB.out.trans (hb.mono (by omega))).alloc (by omega) (.cells #[.int .i64 s.bi, .int .i64 s.cl, .int .i64 s.br, .int .i64 s.sc, .int .i64 s.jn, .int .i64 s.wd, .int .i32 s.mi, .int .i32 s.pa, .bool s.op] 31))
  have HS2 : w.heap.size < (v4.alloc (.cells #[.int .i64 s.bi, .int .i64 s.cl, .int .i64 s.br, .int .i64 s.sc, .int .i64 s.jn, .int .i64 s.wd, .int .i32 s.mi, .int .i32 s.pa, .bool s.op] 31)).heap.size := by simp; omega
  clear hb HC
  rcases ok with _ | _
  rotate_left
  · clear HZ HB HS
    rw [if_pos rfl] at HP
    go_wp2_with (refine wpList_store_row rfl 31 _ _ rfl w.heap.size (propV s.bi s.cl s.br s.sc s.jn s.wd s.mi s.pa s.op) rfl rfl 31 (propV 0 0 0 0 0 0 0 0 false) HZ2.out sizeProp rfl (propV_one _ _ _ _ _ _ _ _ _) ?_)
    (try simp only [Exit.inBlock, Exit.then])
    refine bodyPost_ret (results_row_tmp rfl _ _ w.heap.size 31 (propV s.bi s.cl s.br s.sc s.jn s.wd s.mi s.pa s.op) (0, 0) _ rfl (setRow_heap _ _ (propV 0 0 0 0 0 0 0 0 false) _ _ _ HZ2.out) Tryd.underlying31 rfl sizeProp) rfl ?_
    exact ⟨by rw [HP.out]; rfl, below_setRow HB2.out (Nat.le_refl _) _⟩
  rw [if_neg Bool.false_ne_true] at HP
  clear HZ HB HS
  have HZ := HZ2
  have HB := HB2
  have HS := HS2
  clear HZ2 HB2 HS2
  go_upto_region 13 with (fail)
  generalize v4.alloc (.cells #[.int .i64 s.bi, .int .i64 s.cl, .int .i64 s.br, .int .i64 s.sc, .int .i64 s.jn, .int .i64 s.wd, .int .i32 s.mi, .int .i32 s.pa, .bool s.op] 31) = w5 at *
  clear hs
  rcases hk : pick ref12 r with ⟨s, ok⟩
  have HC := Lib.hid (show ∀ W, Calls Tryd.prog 63 #[.int .i32 r] W (RetRow W s ok) from fun W => (rtab12_any r W).mono fun e w' h => h.row hk)
  unfold RetRow at HC
  rw [pick_append, hk] at HP
  clear hk
  go_upto_region 14 with (go_at_call 63; refine (HC.out _).mono ?_; rintro e v5 ⟨rfl, hb⟩)
  have hs := hb.size
  have HZ2 := Lib.hid (show (v5.alloc (.cells #[.int .i64 s.bi, .int .i64 s.cl, .int .i64 s.br, .int .i64 s.sc, .int .i64 s.jn, .int .i64 s.wd, .int .i32 s.mi, .int .i32 s.pa, .bool s.op] 31)).heap[w.heap.size]? = some (.cells (propV 0 0 0 0 0 0 0 0 false) 31 (0, 0)) from (heap_alloc_old _ _ (by omega)).trans ((hb.block w.heap.size (by omega)).trans HZ.out))
  have HB2 := Lib.hid ((HB.out.trans (hb.mono (by omega))).alloc (by omega) (.cells #[.int .i64 s.bi, .int .i64 s.cl, .int .i64 s.br, .int .i64 s.sc, .int .i64 s.jn, .int .i64 s.wd, .int .i32 s.mi, .int .i32 s.pa, .bool s.op] 31))
  have HS2 : w.heap.size < (v5.alloc (.cells #[.int .i64 s.bi, .int .i64 s.cl, .int .i64 s.br, .int .i64 s.sc, .int .i64 s.jn, .int .i64 s.wd, .int .i32 s.mi, .int .i32 s.pa, .bool s.op] 31)).heap.size := by simp; omega
  clear hb HC
  rcases ok with _ | _
  rotate_left
  · clear HZ HB HS
    rw [if_pos rfl] at HP
    go_wp2_with (refine wpList_store_row rfl 31 _ _ rfl w.heap.size (propV s.bi s.cl s.br s.sc s.jn s.wd s.mi s.pa s.op) rfl rfl 31 (propV 0 0 0 0 0 0 0 0 false) HZ2.out sizeProp rfl (propV_one _ _ _ _ _ _ _ _ _) ?_)
    (try simp only [Exit.inBlock, Exit.then])
    refine bodyPost_ret (results_row_tmp rfl _ _ w.heap.size 31 (propV s.bi s.cl s.br s.sc s.jn s.wd s.mi s.pa s.op) (0, 0) _ rfl (setRow_heap _ _ (propV 0 0 0 0 0 0 0 0 false) _ _ _ HZ2.out) Tryd.underlying31 rfl sizeProp) rfl ?_
    exact ⟨by rw [HP.out]; rfl, below_setRow HB2.out (Nat.le_refl _) _⟩
  rw [if_neg Bool.false_ne_true] at HP
  clear HZ HB HS
  have HZ := HZ2
  have HB := HB2
  have HS := HS2
  clear HZ2 HB2 HS2
  go_upto_region 16 with (fail)
  generalize v5.alloc (.cells #[.int .i64 s.bi, .int .i64 s.cl, .int .i64 s.br, .int .i64 s.sc, .int .i64 s.jn, .int .i64 s.wd, .int .i32 s.mi, .int .i32 s.pa, .bool s.op] 31) = w6 at *
  clear hs
  rcases hk : pick ref13 r with ⟨s, ok⟩
  have HC := Lib.hid (show ∀ W, Calls Tryd.prog 64 #[.int .i32 r] W (RetRow W s ok) from fun W => (rtab13_any r W).mono fun e w' h => h.row hk)
  unfold RetRow at HC
  rw [pick_append, hk] at HP
  clear hk
  go_upto_region 17 with (go_at_call 64; refine (HC.out _).mono ?_; rintro e v6 ⟨rfl, hb⟩)
  have hs := hb.size
  have HZ2 := Lib.hid (show (v6.alloc (.cells #[.int .i64 s.bi, .int .i64 s.cl, .int .i64 s.br, .int .i64 s.sc, .int .i64 s.jn, .int .i64 s.wd, .int .i32 s.mi, .int .i32 s.pa, .bool s.op] 31)).heap[w.heap.size]? = some (.cells (propV 0 0 0 0 0 0 0 0 false) 31 (0, 0)) from (heap_alloc_old _ _ (by omega)).trans ((hb.block w.heap.size (by omega)).trans HZ.out))
  have HB2 := Lib.hid ((HB.out.trans (hb.mono (by omega))).alloc (by omega) (.cells #[.int .i64 s.bi, .int .i64 s.cl, .int .i64 s.br, .int .i64 s.sc, .int .i64 s.jn, .int .i64 s.wd, .int .i32 s.mi, .int .i32 s.pa, .bool s.op] 31))
  have HS2 : w.heap.size < (v6.alloc (.cells #[.int .i64 s.bi, .int .i64 s.cl, .int .i64 s.br, .int .i64 s.sc, .int .i64 s.jn, .int .i64 s.wd, .int .i32 s.mi, .int .i32 s.pa, .bool s.op] 31)).heap.size := by simp; omega
  clear hb HC
  rcases ok with _ | _
  rotate_left
  · clear HZ HB HS
    rw [if_pos rfl] at HP
    go_wp2_with (refine wpList_store_row rfl 31 _ _ rfl w.heap.size (propV s.bi s.cl s.br s.sc s.jn s.wd s.mi s.pa s.op) rfl rfl 31 (propV 0 0 0 0 0 0 0 0 false) HZ2.out sizeProp rfl (propV_one _ _ _ _ _ _ _ _ _) ?_)
    (try simp only [Exit.inBlock, Exit.then])
    refine bodyPost_ret (results_row_tmp rfl _ _ w.heap.size 31 (propV s.bi s.cl s.br s.sc s.jn s.wd s.mi s.pa s.op) (0, 0) _ rfl (setRow_heap _ _ (propV 0 0 0 0 0 0 0 0 false) _ _ _ HZ2.out) Tryd.underlying31 rfl sizeProp) rfl ?_
    exact ⟨by rw [HP.out]; rfl, below_setRow HB2.out (Nat.le_refl _) _⟩
  rw [if_neg Bool.false_ne_true] at HP
  clear HZ HB HS
  have HZ := HZ2
  have HB := HB2
  have HS := HS2
  clear HZ2 HB2 HS2
  go_upto_region 19 with (fail)
  generalize v6.alloc (.cells #[.int .i64 s.bi, .int .i64 s.cl, .int .i64 s.br, .int .i64 s.sc, .int .i64 s.jn, .int .i64 s.wd, .int .i32 s.mi, .int .i32 s.pa, .bool s.op] 31) = w7 at *
  clear hs
  rcases hk : pick ref14 r with ⟨s, ok⟩
  have HC := Lib.hid (show ∀ W, Calls Tryd.prog 65 #[.int .i32 r] W (RetRow W s ok) from fun W => (rtab14_any r W).mono fun e w' h => h.row hk)
  unfold RetRow at HC
  rw [hk] at HP
  have HF : ok = false → s = restS := fun h => by subst h; have := pick_false (l := ref14) (r := r) (by rw [hk]); rw [hk] at this; exact congrArg Prod.fst this
  clear hk
  go_upto_region 20 with (go_at_call 65; refine (HC.out _).mono ?_; rintro e v7 ⟨rfl, hb⟩)
  have hs := hb.size
  have HZ2 := Lib.hid (show (v7.alloc (.cells #[.int .i64 s.bi, .int .i64 s.cl, .int .i64 s.br, .int .i64 s.sc, .int .i64 s.jn, .int .i64 s.wd, .int .i32 s.mi, .int .i32 s.pa, .bool s.op] 31)).heap[w.heap.size]? = some (.cells (propV 0 0 0 0 0 0 0 0 false) 31 (0, 0)) from (heap_alloc_old _ _ (by omega)).trans ((hb.block w.heap.size (by omega)).trans HZ.out))
  have HB2 := Lib.hid ((HB.out.trans (hb.mono (by omega))).alloc (by omega) (.cells #[.int .i64 s.bi, .int .i64 s.cl, .int .i64 s.br, .int .i64 s.sc, .int .i64 s.jn, .int .i64 s.wd, .int .i32 s.mi, .int .i32 s.pa, .bool s.op] 31))
  have HS2 : w.heap.size < (v7.alloc (.cells #[.int .i64 s.bi, .int .i64 s.cl, .int .i64 s.br, .int .i64 s.sc, .int .i64 s.jn, .int .i64 s.wd, .int .i32 s.mi, .int .i32 s.pa, .bool s.op] 31)).heap.size := by simp; omega
  clear hb HC
  rcases ok with _ | _
  rotate_left
  · clear HZ HB HS
    go_wp2_with (refine wpList_store_row rfl 31 _ _ rfl w.heap.size (propV s.bi s.cl s.br s.sc s.jn s.wd s.mi s.pa s.op) rfl rfl 31 (propV 0 0 0 0 0 0 0 0 false) HZ2.out sizeProp rfl (propV_one _ _ _ _ _ _ _ _ _) ?_)
    (try simp only [Exit.inBlock, Exit.then])
    refine bodyPost_ret (results_row_tmp rfl _ _ w.heap.size 31 (propV s.bi s.cl s.br s.sc s.jn s.wd s.mi s.pa s.op) (0, 0) _ rfl (setRow_heap _ _ (propV 0 0 0 0 0 0 0 0 false) _ _ _ HZ2.out) Tryd.underlying31 rfl sizeProp) rfl ?_
    exact ⟨by rw [HP.out]; rfl, below_setRow HB2.out (Nat.le_refl _) _⟩
  have HF2 := HF rfl
  subst HF2
  generalize v7.alloc (.cells #[.int .i64 restS.bi, .int .i64 restS.cl, .int .i64 restS.br, .int .i64 restS.sc, .int .i64 restS.jn, .int .i64 restS.wd, .int .i32 restS.mi, .int .i32 restS.pa, .bool restS.op] 31) = w8 at *
  go_wp2_with (first
    | (go_at_call 35; refine (refRest_any _).mono ?_; rintro e x2 ⟨rfl, hb⟩; have HZ3 := Lib.hid ((hb.block w.heap.size (by omega)).trans HZ2.out); have HB3 := Lib.hid (HB2.out.trans (hb.mono (by omega))); clear hb)
    | (refine wpList_store_row rfl 31 _ _ rfl w.heap.size (propV 1 0 0 0 0 0 0 0 false) rfl rfl 31 (propV 0 0 0 0 0 0 0 0 false) HZ3.out sizeProp rfl (propV_one _ _ _ _ _ _ _ _ _) ?_))
  (try simp only [Exit.inBlock, Exit.then])
  refine bodyPost_ret (results_row_tmp rfl _ _ w.heap.size 31 (propV 1 0 0 0 0 0 0 0 false) (0, 0) _ rfl (setRow_heap _ _ (propV 0 0 0 0 0 0 0 0 false) _ _ _ HZ3.out) Tryd.underlying31 rfl sizeProp) rfl ?_
  exact ⟨by rw [HP.out]; rfl, below_setRow HB3.out (Nat.le_refl _) _⟩

end Go.Proofs.YtbpaogmnaodcaaaDoor
