/- The walks of the reference's row and rest; words for its table. No condition. -/
import Derived.Test.YtbpaogmnaodcaaaDoorRefT
import Derived.Test.YtbpaogmnaodcaaaDoorPropE
import Derived.Deep.DeepCutAuto
namespace Go.Proofs.YtbpaogmnaodcaaaDoor
open Go.RowKit

set_option maxHeartbeats 1000000 in
theorem row_any (b c k s j d m p : Int) (o : Bool) (w : World) :
    Calls Tryd.prog 66 #[.int .i64 b, .int .i64 c, .int .i64 k, .int .i64 s, .int .i64 j, .int .i64 d, .int .i32 m, .int .i32 p, .bool o] w (RetV w (.agg (propV b c k s j d m p o))) := by
  go_enter Tryd.func66, Tryd.ntmps66
  go_wp2
  (try simp only [Exit.inBlock, Exit.then])
  refine bodyPost_ret (results_cell_row rfl _ _ w.heap.size 31 (propV b c k s j d m p o) (0, 0) _ rfl (heap_alloc_new _ _) Tryd.underlying31 rfl sizeProp) rfl ?_
  exact ⟨rfl, (Below.refl _ _).alloc (Nat.le_refl _) _⟩

set_option maxHeartbeats 1000000 in
theorem refRest_any (w : World) : Calls Tryd.prog 35 #[] w (RetV w (.agg (propV 1 0 0 0 0 0 0 0 false))) := by
  have HZ := Lib.hid (heap_alloc_new w (.cells (propV 0 0 0 0 0 0 0 0 false) 31))
  have HB := Lib.hid ((Below.refl w.heap.size w).alloc (Nat.le_refl _) (.cells (propV 0 0 0 0 0 0 0 0 false) 31))
  go_enter Tryd.func35, Tryd.ntmps35
  go_wp2_with (first
    | (go_at_call 66; refine (row_any _ _ _ _ _ _ _ _ _ _).mono ?_; rintro e w2 ⟨rfl, hb⟩; have HZ2 := Lib.hid ((hb.block w.heap.size (by simp)).trans HZ.out); have HB2 := Lib.hid (HB.out.trans (hb.mono (by simp))); clear hb)
    | (refine wpList_store_row rfl 31 _ _ rfl w.heap.size (propV 1 0 0 0 0 0 0 0 false) rfl rfl 31 (propV 0 0 0 0 0 0 0 0 false) HZ2.out sizeProp rfl (propV_one _ _ _ _ _ _ _ _ _) ?_))
  (try simp only [Exit.inBlock, Exit.then])
  refine bodyPost_ret (results_cell_row rfl _ _ w.heap.size 31 (propV 1 0 0 0 0 0 0 0 false) (0, 0) _ rfl (setRow_heap _ _ (propV 0 0 0 0 0 0 0 0 false) _ _ _ HZ2.out) Tryd.underlying31 rfl sizeProp) rfl ?_
  exact ⟨rfl, below_setRow HB2.out (Nat.le_refl _) _⟩

/-- What a table function leaves: the row that it found, or the row of the rest. -/
def RetPick (w : World) (x : Sign × Bool) (e : Ending) (w' : World) : Prop := e = .returned (.tuple #[.agg x.1.prop, .bool x.2]) ∧ Below w.heap.size w w'
theorem pick_cons {s : Sign} {l : List Sign} {r : Int} {b : Bool} (hb : b = (decide (s.fr ≤ r) && decide (r ≤ s.to))) : pick (s :: l) r = bif b then (s, true) else pick l r := by
  rw [pick, hb]
  by_cases h : s.fr ≤ r ∧ r ≤ s.to
  · rw [if_pos h]; simp [h]
  · rw [if_neg h]
    have : (decide (s.fr ≤ r) && decide (r ≤ s.to)) = false := by simpa using h
    rw [this]; rfl

end Go.Proofs.YtbpaogmnaodcaaaDoor
