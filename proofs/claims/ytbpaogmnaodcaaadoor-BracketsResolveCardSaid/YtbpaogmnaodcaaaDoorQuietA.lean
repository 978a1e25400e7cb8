/- The walks of the law's small functions: long, side, Same at equal lists; of strong at classes without a direction; of slices.Clone. No condition. -/
import Derived.Test.YtbpaogmnaodcaaaDoorPairB
import Derived.BigQuiet
namespace Go.Proofs.YtbpaogmnaodcaaaDoor
open Go.RowKit

/-- What a call leaves that answers b and only reads. -/
def Says (b : Bool) (w : World) (e : Ending) (w' : World) : Prop := e = .returned (.bool b) ∧ ∃ k, w' = w.drewN k

set_option maxHeartbeats 1000000 in
theorem same_any (A A2 : Option Addr) (n c B c2 B2 : Nat) (zs : List Int) (w : World) (h : Ints w B A n c zs) (h2 : Ints w B2 A2 n c2 zs) :
    Calls Tryd.prog 14 #[.slice A n c, .slice A2 n c2] w (Says true w) := by
  have hcap := h.cap
  have hcap2 := h2.cap
  have hnn : ((n : Int) != (n : Int)) = false := by simp
  go_enter Tryd.func14, Tryd.ntmps14
  go_wp2_with fail
  go_loopw [5] (fun i wr => ∃ (k q : Nat), i = .int .i64 (k : Int) ∧ k ≤ n ∧ wr = w.drewN q) (fun i _ => n - (intOf i).toNat)
  case atStart => exact ⟨0, 0, rfl, Nat.zero_le _, rfl⟩
  case round =>
    obtain ⟨k, q, rfl, hk, rfl⟩ := hrel
    by_cases hlt : k < n
    · obtain ⟨b, o, x, rfl, hb, hx, hc⟩ := h.at_ hlt
      obtain ⟨b2, o2, x2, rfl, hb2, hx2, hc2⟩ := h2.at_ hlt
      rw [hx] at hx2
      cases hx2
      have hxx : (x != x) = false := by simp
      clear hx h h2
      go_wp2_with fail
      go_quiet (fail)
      go_wp2
      go_roundw
      case rel => exact ⟨k + 1, _, by go_num, by omega, rfl⟩
      case measure => simp [intOf]; omega
    · have hge : n ≤ k := by omega
      go_wp2
      go_ret
      exact ⟨rfl, _, rfl⟩

set_option maxHeartbeats 400000 in
theorem long_yes (A A2 : Option Addr) (n c n2 c2 : Nat) (h : 150 < n ∨ 150 < n2) (w : World) :
    Calls Tryd.prog 8 #[.slice A n c, .slice A2 n2 c2] w fun e w' => e = .returned (.bool true) ∧ w = w' := by
  by_cases h1 : 150 < n
  · have d1 : (150 : Int) < (n : Int) := by omega
    clear h
    go_enter Tryd.func8, Tryd.ntmps8
    go_wp2
    go_ret
    exact ⟨by simp, rfl⟩
  · have h2 : 150 < n2 := by omega
    have d1 : decide ((150 : Int) < (n : Int)) = false := by simp; omega
    have d10 : decide (150 < n) = false := by simp; omega
    have d2 : (150 : Int) < (n2 : Int) := by omega
    clear h
    go_enter Tryd.func8, Tryd.ntmps8
    go_wp2
    go_ret
    exact ⟨by simp, rfl⟩
set_option maxHeartbeats 400000 in
theorem long_no (A A2 : Option Addr) (n c n2 c2 : Nat) (h1 : ¬ 150 < n) (h2 : ¬ 150 < n2) (w : World) :
    Calls Tryd.prog 8 #[.slice A n c, .slice A2 n2 c2] w fun e w' => e = .returned (.bool false) ∧ w = w' := by
  have d1 : decide ((150 : Int) < (n : Int)) = false := by simp; omega
  have d10 : decide (150 < n) = false := by simp; omega
  have d2 : decide ((150 : Int) < (n2 : Int)) = false := by simp; omega
  have d20 : decide (150 < n2) = false := by simp; omega
  go_enter Tryd.func8, Tryd.ntmps8
  go_wp2
  go_ret
  exact ⟨by simp, rfl⟩

set_option maxHeartbeats 400000 in
theorem side_any (b : Bool) (w : World) : Calls Tryd.prog 16 #[.bool b] w fun e w' => e = .returned (.int .i64 (if b then 2 else 1)) ∧ w = w' := by
  rcases b with _ | _
  · go_enter Tryd.func16, Tryd.ntmps16
    go_wp2
    go_ret
    exact ⟨rfl, rfl⟩
  · go_enter Tryd.func16, Tryd.ntmps16
    go_wp2
    go_ret
    exact ⟨rfl, rfl⟩

/-- a class without a direction -/
def Dull (c : Int) : Prop := c = 13 ∨ c = 14
set_option maxHeartbeats 400000 in
theorem strong_dull (c : Int) (h : Dull c) (w : World) : Calls Tryd.prog 38 #[.int .i64 c] w fun e w' => e = .returned (.int .i64 0) ∧ w = w' := by
  rcases h with rfl | rfl
  · go_enter Tryd.func38, Tryd.ntmps38
    go_wp2
    go_ret
    exact ⟨rfl, rfl⟩
  · go_enter Tryd.func38, Tryd.ntmps38
    go_wp2
    go_ret
    exact ⟨rfl, rfl⟩

/-- What a call leaves that hands back a list of its own. -/
def RetList (w : World) (n : Nat) (ys : List Int) (e : Ending) (w' : World) : Prop := ∃ A c, e = .returned (.slice A n c) ∧ Own w' w.heap.size 3 A n c ys ∧ Below w.heap.size w w'

set_option maxRecDepth 100000 in
set_option maxHeartbeats 1000000 in
theorem clone_any (B : Nat) (A : Option Addr) (n c : Nat) (zs : List Int) (w : World) (h : Ints w B A n c zs) (hB : B ≤ w.heap.size) (hn : n ≤ 1000000) :
    Calls Tryd.prog 27 #[.slice A n c] w (RetList w n zs) := by
  have hcap := h.cap
  rcases A with _ | ad
  · obtain ⟨rfl, rfl⟩ := h.2.2.2.1 rfl
    have hz : zs = [] := List.eq_nil_of_length_eq_zero h.length
    subst hz
    have hnil : ∀ w, (binOp BinOp.eql 23 (.slice none 0 0) (.slice none 0 0)).run Tryd.prog w = .ok (.bool true) w := fun w => by kernel_rfl
    go_enter Tryd.func27, Tryd.ntmps27
    go_wp2
    go_ret
    exact ⟨none, 0, rfl, Own.nil_ _ _ _, Below.refl _ _⟩
  · have HI := Lib.hid h
    clear h
    have hown : Own (w.alloc (.cells #[] 3)) w.heap.size 3 (some ⟨w.heap.size, 0, none⟩) 0 0 [] := Own.lit w [] #[] 3 (Nat.le_refl _) (by unfold maxLen; omega) rfl rfl
    have HO := Lib.hid hown
    clear hown
    have hnil : ∀ w, (binOp BinOp.eql 23 (.slice (some ad) n c) (.slice none 0 0)).run Tryd.prog w = .ok (.bool false) w := fun w => by kernel_rfl
    go_enter Tryd.func27, Tryd.ntmps27
    go_wp2_with (at_builtin; refine wpList_append_ints _ rfl (.tmp 5) (.tmp 6) 23 rfl w.heap.size 3 Tryd.underlying23 Tryd.infoInt (some ⟨w.heap.size, 0, none⟩) 0 0 [] rfl HO.out B (some ad) n c zs rfl (HI.out.below ((Below.refl _ _).alloc hB _)) (by omega) (by simp) ?_; intro A3 c3 w3 ho3 hg3 hb3)
    go_ret
    have hbn : Below w.heap.size w w3 := ((Below.refl _ _).alloc (Nat.le_refl _) _).grown hg3 (by simp) (fun g hgg => (Own.block HO.out g hgg).1)
    exact ⟨A3, c3, by simp, by simpa using ho3, hbn⟩

end Go.Proofs.YtbpaogmnaodcaaaDoor
