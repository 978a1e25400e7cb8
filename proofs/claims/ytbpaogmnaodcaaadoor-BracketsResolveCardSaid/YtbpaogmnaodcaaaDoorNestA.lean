/- The walks of Pairs at lists of two lengths, and of alive: two brackets are a pair. Condition of alive: the table of last signs lies as laid. -/
import Derived.Test.YtbpaogmnaodcaaaDoorQuietA
import Derived.Test.YtbpaogmnaodcaaaDoorNestP
import Derived.Test.YtbpaogmnaodcaaaDoorPairS
namespace Go.Proofs.YtbpaogmnaodcaaaDoor
open Go.RowKit

set_option maxHeartbeats 400000 in
theorem pairs_uneven (A A2 : Option Addr) (n c n2 c2 : Nat) (hnn : n ≠ n2) (w : World) :
    Calls Tryd.prog 10 #[.slice A n c, .slice A2 n2 c2] w fun e w' => e = .returned (.slice none 0 0) ∧ w = w' := by
  have d1 : ((n : Int) != (n2 : Int)) = true := by
    have h1 : (n : Int) ≠ (n2 : Int) := by omega
    simp [bne, h1]
  clear hnn
  go_enter Tryd.func10, Tryd.ntmps10
  go_wp2_with fail
  go_ret
  exact ⟨rfl, rfl⟩

theorem prs_alive : prs 0 [] [] [40, 41] [14, 14] = [(0, 1)] := by decide +kernel

theorem Runes.lit2 (w : World) (x y : Int) (e : TypeId) {b : Nat} (hb : b = w.heap.size) : Runes (w.alloc (.cells #[.int .i32 x, .int .i32 y] e)) (b + 1) (some ⟨b, 0, none⟩) 2 2 [x, y] := by
  obtain ⟨h1, h2⟩ := cell2_lit w (.int .i32 x) (.int .i32 y) e hb
  refine ⟨rfl, Nat.le_refl _, by unfold maxLen; omega, fun k z hk => ⟨b, 0, rfl, by omega, ?_⟩⟩
  match k, hk with
  | 0, hk => simp at hk; subst hk; exact h1
  | 1, hk => simp at hk; subst hk; exact h2
  | k + 2, hk => simp at hk
theorem Ints.lit2 (w : World) (x y : Int) (e : TypeId) {b : Nat} (hb : b = w.heap.size) : Ints (w.alloc (.cells #[.int .i64 x, .int .i64 y] e)) (b + 1) (some ⟨b, 0, none⟩) 2 2 [x, y] := by
  obtain ⟨h1, h2⟩ := cell2_lit w (.int .i64 x) (.int .i64 y) e hb
  refine ⟨rfl, Nat.le_refl _, by unfold maxLen; omega, (fun h => by cases h), fun k z hk => ⟨b, 0, rfl, by omega, ?_⟩⟩
  match k, hk with
  | 0, hk => simp at hk; subst hk; exact h1
  | 1, hk => simp at hk; subst hk; exact h2
  | k + 2, hk => simp at hk

set_option maxHeartbeats 1000000 in
theorem alive_any (w : World) (hL : Lasts w) : Calls Tryd.prog 12 #[] w fun e w' => e = .returned (.bool true) ∧ Below w.heap.size w w' := by
  have hpos := hL.pos
  have hb0 : Below w.heap.size w ((w.alloc (.cells #[.int .i32 40, .int .i32 41] 21)).alloc (.cells #[.int .i64 14, .int .i64 14] 3)) := ((Below.refl _ _).alloc (Nat.le_refl _) _).alloc (by simp) _
  have hr := ((Runes.lit2 w 40 41 21 rfl).below ((Below.refl (w.heap.size + 1) _).alloc (by simp) (.cells #[.int .i64 14, .int .i64 14] 3))).more (Nat.le_succ _)
  have hi := Ints.lit2 (w.alloc (.cells #[.int .i32 40, .int .i32 41] 21)) 14 14 3 (b := w.heap.size + 1) (by simp)
  have hp := pairs_any (w.heap.size + 1 + 1) _ _ 2 2 2 _ _ _ hr hi (by simp) (by omega) (hL.below hb0 hpos) sort_any
  rw [prs_alive] at hp
  have HP := Lib.hid hp
  have HB := Lib.hid hb0
  clear hL hr hi hp hb0
  go_enter Tryd.func12, Tryd.ntmps12
  go_wp2_with (go_at_call 10; refine HP.out.mono ?_; rintro e w3 ⟨A3, c3, l3, rfl, _, _, hrow, hb3⟩)
  go_ret
  exact ⟨rfl, HB.out.trans (hb3.mono (HB.out.size))⟩

end Go.Proofs.YtbpaogmnaodcaaaDoor
