/- The walks of the checks' small functions. No condition. -/
import Derived.Test.YtbjeflblhjfagaaFontA
import Derived.Test.YtbjeflblhjfagaaUp
import Derived.WalkKit
import Derived.Deep.RegionWith
namespace Go.Proofs.Ytbjeflblhjfagaa
open Go.RowKit

def wiB (n lo hi : Int) : Bool := decide (lo ≤ n) && decide (n ≤ hi)
def msB (n : Int) : Bool := decide (-1048576 ≤ n) && decide (n ≤ 1048576)
def thB (m : Nat) (g : Int) : Bool := decide (0 ≤ g) && decide (g < (m : Int))
def oneB (r : Int) : Bool := (decide (0 ≤ r) && decide (r < 55296)) || (decide (57343 < r) && decide (r ≤ 1114111))
def vlB (a x y : Int) : Bool := msB a && msB x && msB y
def anB (x y : Int) (h : Bool) : Bool := msB x && msB y && (h || (x == 0 && y == 0))
def soI (k : Int) : Int := if wiB k 1 5 then 1 else if wiB k 6 12 then 2 else 0

set_option maxHeartbeats 1000000 in
theorem within_any (n lo hi : Int) (w : World) : Calls Try.prog 44 #[.int .i64 n, .int .i64 lo, .int .i64 hi] w fun e w' => e = .returned (.bool (wiB n lo hi)) ∧ w = w' := by
  unfold wiB
  go_enter Try.func44, Try.ntmps44
  go_wp2
  all_goals
    go_ret
    exact ⟨by first | (simp [*]; done) | (simp_all; done) | (simp [*]; omega) | (simp; omega), rfl⟩

set_option maxHeartbeats 1000000 in
theorem measure_any (n : Int) (w : World) : Calls Try.prog 45 #[.int .i64 n] w fun e w' => e = .returned (.bool (msB n)) ∧ w = w' := by
  unfold msB
  go_enter Try.func45, Try.ntmps45
  go_wp2
  all_goals
    go_ret
    exact ⟨by first | (simp [*]; done) | (simp_all; done) | (simp [*]; omega) | (simp; omega), rfl⟩

set_option maxHeartbeats 1000000 in
theorem one_any (r : Int) (w : World) : Calls Try.prog 47 #[.int .i32 r] w fun e w' => e = .returned (.bool (oneB r)) ∧ w = w' := by
  unfold oneB
  go_enter Try.func47, Try.ntmps47
  go_wp2
  all_goals
    go_ret
    exact ⟨by first | (simp [*]; done) | (simp_all; done) | (simp [*]; omega) | (simp; omega), rfl⟩

set_option maxHeartbeats 1000000 in
theorem there_any (F : Fnt) (g : Int) (w : World) : Calls Try.prog 48 #[.agg #[.int .i64 F.em, .slice F.GA F.gn F.gc, .slice F.MA F.mn F.mc, .slice F.LA F.ln F.lc, .slice F.FA F.fn F.fc, .slice F.SA F.sn F.sc], .int .i64 g] w fun e w' => e = .returned (.bool (thB F.gn g)) ∧ Below w.heap.size w w' := by
  unfold thB
  go_enter Try.func48, Try.ntmps48
  go_wp2
  all_goals
    go_ret
    exact ⟨by first | (simp [*]; done) | (simp_all; done) | (simp [*]; omega) | (simp; omega), (Below.refl _ _).alloc (Nat.le_refl _) _⟩

set_option maxHeartbeats 1000000 in
theorem value_any (a x y : Int) (w : World) : Calls Try.prog 73 #[.agg #[.int .i64 a, .int .i64 x, .int .i64 y]] w fun e w' => e = .returned (.bool (vlB a x y)) ∧ Below w.heap.size w w' := by
  unfold vlB
  go_enter Try.func73, Try.ntmps73
  go_wp2_with (first | (go_at_call_of 45 (Value.int .i64 a); refine (measure_any a _).mono ?_; rintro e w9 ⟨rfl, rfl⟩) | (go_at_call_of 45 (Value.int .i64 x); refine (measure_any x _).mono ?_; rintro e w9 ⟨rfl, rfl⟩) | (go_at_call_of 45 (Value.int .i64 y); refine (measure_any y _).mono ?_; rintro e w9 ⟨rfl, rfl⟩))
  all_goals
    go_ret
    exact ⟨by first | (simp [*]; done) | (simp_all; done) | (simp [*]; omega) | (simp; omega), (Below.refl _ _).alloc (Nat.le_refl _) _⟩

set_option maxHeartbeats 1000000 in
theorem anchor_any (x y : Int) (h : Bool) (w : World) : Calls Try.prog 84 #[.agg #[.int .i64 x, .int .i64 y], .bool h] w fun e w' => e = .returned (.bool (anB x y h)) ∧ Below w.heap.size w w' := by
  unfold anB
  go_enter Try.func84, Try.ntmps84
  go_wp2_with (first | (go_at_call_of 45 (Value.int .i64 x); refine (measure_any x _).mono ?_; rintro e w9 ⟨rfl, rfl⟩) | (go_at_call_of 45 (Value.int .i64 y); refine (measure_any y _).mono ?_; rintro e w9 ⟨rfl, rfl⟩))
  all_goals
    go_ret
    exact ⟨by first | (simp [*]; done) | (simp_all; done) | (simp [*]; omega) | (simp; omega), (Below.refl _ _).alloc (Nat.le_refl _) _⟩

set_option maxHeartbeats 1000000 in
theorem sorts_any (k : Int) (w : World) : Calls Try.prog 50 #[.int .i64 k] w fun e w' => e = .returned (.int .i64 (soI k)) ∧ w = w' := by
  unfold soI
  go_enter Try.func50, Try.ntmps50
  go_wp2_with (go_at_call 44; refine (within_any _ _ _ _).mono ?_; rintro e w9 ⟨rfl, rfl⟩)
  all_goals
    go_ret
    exact ⟨by first | (simp [*]; done) | (simp_all; done) | (simp [*]; omega) | (simp; omega), rfl⟩

/-- a font in its box -/
def FBox (w : World) (b : Nat) (F : Fnt) : Prop := w.heap[b]? = some (.cells #[.int .i64 F.em, .slice F.GA F.gn F.gc, .slice F.MA F.mn F.mc, .slice F.LA F.ln F.lc, .slice F.FA F.fn F.fc, .slice F.SA F.sn F.sc] 28 (0, 0))
theorem FBox.below {w w' : World} {b B : Nat} {F : Fnt} (h : FBox w b F) (hb : Below B w w') (hB : b < B) : FBox w' b F := (hb.block b hB).trans h
theorem FBox.new (w : World) (F : Fnt) : FBox (w.alloc (.cells #[.int .i64 F.em, .slice F.GA F.gn F.gc, .slice F.MA F.mn F.mc, .slice F.LA F.ln F.lc, .slice F.FA F.fn F.fc, .slice F.SA F.sn F.sc] 28)) w.heap.size F := heap_alloc_new _ _
theorem FBox.cells {w : World} {b : Nat} {F : Fnt} (h : FBox w b F) : w.cell? ⟨b, 0, none⟩ = some (.int .i64 F.em) ∧ w.cell? ⟨b, 1, none⟩ = some (.slice F.GA F.gn F.gc) ∧ w.cell? ⟨b, 2, none⟩ = some (.slice F.MA F.mn F.mc) ∧ w.cell? ⟨b, 3, none⟩ = some (.slice F.LA F.ln F.lc) ∧ w.cell? ⟨b, 4, none⟩ = some (.slice F.FA F.fn F.fc) ∧ w.cell? ⟨b, 5, none⟩ = some (.slice F.SA F.sn F.sc) :=
  ⟨by rw [cell_of_row _ _ 0 _ _ _ h]; rfl, by rw [cell_of_row _ _ 1 _ _ _ h]; rfl, by rw [cell_of_row _ _ 2 _ _ _ h]; rfl, by rw [cell_of_row _ _ 3 _ _ _ h]; rfl, by rw [cell_of_row _ _ 4 _ _ _ h]; rfl, by rw [cell_of_row _ _ 5 _ _ _ h]; rfl⟩

end Go.Proofs.Ytbjeflblhjfagaa
