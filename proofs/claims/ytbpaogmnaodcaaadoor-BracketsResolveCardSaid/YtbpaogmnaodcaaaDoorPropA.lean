/- The walks of the small functions of the table of signs: a row, a row with a mirror, a row of a bracket, the rest, the canonical bracket. No condition. -/
import Derived.Test.YtbpaogmnaodcaaaDoorRows
import Derived.WalkKit
import Derived.Laws.Tables
import Derived.Deep.WholeRow
import Derived.Lib.Hide
import Derived.Below
namespace Go.Proofs.YtbpaogmnaodcaaaDoor
open Go.RowKit

/-- What a call leaves that hands back a value and turns nothing that was there. -/
def RetV (w : World) (v : Value) (e : Ending) (w' : World) : Prop := e = .returned v ∧ Below w.heap.size w w'
/-- a row's cells -/
def rowV (f t b c k s j d m p : Int) (o : Bool) : Array Value := #[.int .i32 f, .int .i32 t, .int .i64 b, .int .i64 c, .int .i64 k, .int .i64 s, .int .i64 j, .int .i64 d, .int .i32 m, .int .i32 p, .bool o]

theorem sizeRow : (Tryd.prog.info? 52).map (·.size) = some 11 := by kernel_rfl
theorem sizeProp : (Tryd.prog.info? 31).map (·.size) = some 9 := by kernel_rfl

set_option maxHeartbeats 1000000 in
theorem laid_any (f t b c k s j d : Int) (w : World) :
    Calls Tryd.prog 85 #[.int .i32 f, .int .i32 t, .int .i64 b, .int .i64 c, .int .i64 k, .int .i64 s, .int .i64 j, .int .i64 d] w (RetV w (.agg (rowV f t b c k s j d 0 0 false))) := by
  go_enter Tryd.func85, Tryd.ntmps85
  go_wp2
  (try simp only [Exit.inBlock, Exit.then])
  refine bodyPost_ret (results_cell_row rfl _ _ w.heap.size 52 (rowV f t b c k s j d 0 0 false) (0, 0) _ rfl (heap_alloc_new _ _) Tryd.underlying52 rfl sizeRow) rfl ?_
  exact ⟨rfl, (Below.refl _ _).alloc (Nat.le_refl _) _⟩

set_option maxHeartbeats 1000000 in
theorem mirrored_any (f t b c k s j d m m' p : Int) (o : Bool) (w : World) :
    Calls Tryd.prog 87 #[.agg (rowV f t b c k s j d m p o), .int .i32 m'] w (RetV w (.agg (rowV f t b c k s j d m' p o))) := by
  unfold rowV
  go_enter Tryd.func87, Tryd.ntmps87
  go_wp2
  (try simp only [Exit.inBlock, Exit.then])
  refine bodyPost_ret (results_cell_row rfl _ _ (w.heap.size + 1) 52 (rowV f t b c k s j d m' p o) (0, 0) _ rfl (heap_alloc2_new _ _ _) Tryd.underlying52 rfl sizeRow) rfl ?_
  exact ⟨rfl, ((Below.refl _ _).alloc (Nat.le_refl _) _).alloc (by simp) _⟩

set_option maxHeartbeats 1000000 in
theorem paired_any (f t b c k s j d m p p' : Int) (o o' : Bool) (w : World) :
    Calls Tryd.prog 86 #[.agg (rowV f t b c k s j d m p o), .int .i32 p', .bool o'] w (RetV w (.agg (rowV f t b c k s j d p' p' o'))) := by
  unfold rowV
  go_enter Tryd.func86, Tryd.ntmps86
  go_wp2
  (try simp only [Exit.inBlock, Exit.then])
  refine bodyPost_ret (results_cell_row rfl _ _ (w.heap.size + 1) 52 (rowV f t b c k s j d p' p' o') (0, 0) _ rfl (heap_alloc2_new _ _ _) Tryd.underlying52 rfl sizeRow) rfl ?_
  exact ⟨rfl, ((Below.refl _ _).alloc (Nat.le_refl _) _).alloc (by simp) _⟩

/-- a sign's properties -/
def propV (b c k s j d m p : Int) (o : Bool) : Array Value := #[.int .i64 b, .int .i64 c, .int .i64 k, .int .i64 s, .int .i64 j, .int .i64 d, .int .i32 m, .int .i32 p, .bool o]

set_option maxHeartbeats 1000000 in
theorem rest_any (w : World) : Calls Tryd.prog 26 #[] w (RetV w (.agg (propV 1 0 0 0 0 0 0 0 false))) := by
  go_enter Tryd.func26, Tryd.ntmps26
  go_wp2
  (try simp only [Exit.inBlock, Exit.then])
  refine bodyPost_ret (results_cell_row rfl _ _ w.heap.size 31 (propV 1 0 0 0 0 0 0 0 false) (0, 0) _ rfl (heap_alloc_new _ _) Tryd.underlying31 rfl sizeProp) rfl ?_
  exact ⟨rfl, (Below.refl _ _).alloc (Nat.le_refl _) _⟩

/-- the bracket that one stands for -/
def canon (r : Int) : Int := if r = 9001 then 12296 else if r = 9002 then 12297 else r
set_option maxHeartbeats 1000000 in
theorem canon_any (r : Int) (w : World) : Calls Tryd.prog 19 #[.int .i32 r] w fun e w' => e = .returned (.int .i32 (canon r)) ∧ w = w' := by
  by_cases h1 : r = 9001
  · subst h1
    go_enter Tryd.func19, Tryd.ntmps19
    go_wp2
    go_ret
    exact ⟨rfl, rfl⟩
  · by_cases h2 : r = 9002
    · subst h2
      go_enter Tryd.func19, Tryd.ntmps19
      go_wp2
      go_ret
      exact ⟨rfl, rfl⟩
    · have d1 : (r == 9001) = false := by simpa using h1
      have d2 : (r == 9002) = false := by simpa using h2
      have hc : canon r = r := by unfold canon; rw [if_neg h1, if_neg h2]
      rw [hc]
      clear hc h1 h2
      go_enter Tryd.func19, Tryd.ntmps19
      go_wp2
      go_ret
      exact ⟨rfl, rfl⟩

end Go.Proofs.YtbpaogmnaodcaaaDoor
