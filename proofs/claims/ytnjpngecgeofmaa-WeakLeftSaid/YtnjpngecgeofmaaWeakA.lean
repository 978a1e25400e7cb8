/- The walks of the small functions of the weak rules: start, isolate, Strong, Clone. No condition but that lists are no longer than memory bears. -/
import Derived.Test.YtnjpngecgeofmaaRows
import Derived.Test.YtnjpngecgeofmaaWords
import Derived.Test.YtnjpngecgeofmaaWeakPlain
import Derived.BigGuardPart
import Derived.Deep.QuietTactic
import Derived.BigQuiet
namespace Go.Proofs.Ytnjpngecgeofmaa
open Go.RowKit

theorem Try.infoInt : (Try.prog.info? 3).map (fun i => (i.zero, i.size, i.bytes)) = some (some (.int .i64 0), 1, 8) := by kernel_rfl

set_option maxHeartbeats 400000 in
theorem start_any (s : Int) (w : World) :
    Calls Try.prog 18 #[.int .i64 s] w fun e w' => e = .returned (.int .i64 (Wk.start s)) ∧ w = w' := by
  by_cases h : s = 2
  · subst h
    go_enter Try.func18, Try.ntmps18
    go_wp2
    go_ret
    exact ⟨rfl, rfl⟩
  · have hb : (s == 2) = false := by simpa using h
    go_enter Try.func18, Try.ntmps18
    go_wp2
    go_ret
    exact ⟨by simp [Wk.start, h], rfl⟩


set_option maxHeartbeats 400000 in
theorem isolate_any (c : Int) (w : World) :
    Calls Try.prog 19 #[.int .i64 c] w fun e w' => e = .returned (.bool (Wk.iso c)) ∧ w = w' := by
  rcases (show c = 20 ∨ c = 21 ∨ c = 22 ∨ c = 23 ∨ (c ≠ 20 ∧ c ≠ 21 ∧ c ≠ 22 ∧ c ≠ 23) from by omega) with rfl | rfl | rfl | rfl | ⟨h1, h2, h3, h4⟩
  · go_enter Try.func19, Try.ntmps19
    go_wp2
    go_ret
    exact ⟨rfl, rfl⟩
  · go_enter Try.func19, Try.ntmps19
    go_wp2
    go_ret
    exact ⟨rfl, rfl⟩
  · go_enter Try.func19, Try.ntmps19
    go_wp2
    go_ret
    exact ⟨rfl, rfl⟩
  · go_enter Try.func19, Try.ntmps19
    go_wp2
    go_ret
    exact ⟨rfl, rfl⟩
  · have b1 : (c == 20) = false := by simpa using h1
    have b2 : (c == 21) = false := by simpa using h2
    have b3 : (c == 22) = false := by simpa using h3
    have b4 : (c == 23) = false := by simpa using h4
    go_enter Try.func19, Try.ntmps19
    go_wp2
    go_ret
    exact ⟨by simp [Wk.iso, h1, h2, h3, h4], rfl⟩

set_option maxHeartbeats 400000 in
theorem strong_any (c : Int) (w : World) :
    Calls Try.prog 10 #[.int .i64 c] w fun e w' => e = .returned (.int .i64 (Wk.strong c)) ∧ w = w' := by
  rcases (show c = 1 ∨ c = 2 ∨ c = 3 ∨ c = 4 ∨ c = 7 ∨ (c ≠ 1 ∧ c ≠ 2 ∧ c ≠ 3 ∧ c ≠ 4 ∧ c ≠ 7) from by omega) with rfl | rfl | rfl | rfl | rfl | ⟨h1, h2, h3, h4, h5⟩
  all_goals try
   (go_enter Try.func10, Try.ntmps10
    go_wp2
    go_ret
    exact ⟨rfl, rfl⟩)
  have b1 : (c == 1) = false := by simpa using h1
  have b2 : (c == 2) = false := by simpa using h2
  have b3 : (c == 3) = false := by simpa using h3
  have b4 : (c == 4) = false := by simpa using h4
  have b5 : (c == 7) = false := by simpa using h5
  go_enter Try.func10, Try.ntmps10
  go_wp2
  go_ret
  exact ⟨by simp [Wk.strong, h1, h2, h3, h4, h5], rfl⟩

set_option maxHeartbeats 400000 in
theorem refStrong_any (c : Int) (w : World) :
    Calls Try.prog 11 #[.int .i64 c] w fun e w' => e = .returned (.int .i64 (Wk.strong c)) ∧ w = w' := by
  rcases (show c = 1 ∨ c = 2 ∨ c = 3 ∨ c = 4 ∨ c = 7 ∨ (c ≠ 1 ∧ c ≠ 2 ∧ c ≠ 3 ∧ c ≠ 4 ∧ c ≠ 7) from by omega) with rfl | rfl | rfl | rfl | rfl | ⟨h1, h2, h3, h4, h5⟩
  all_goals try
   (go_enter Try.func11, Try.ntmps11
    go_wp2
    go_ret
    exact ⟨rfl, rfl⟩)
  have b1 : (c == 1) = false := by simpa using h1
  have b2 : (c == 2) = false := by simpa using h2
  have b3 : (c == 3) = false := by simpa using h3
  have b4 : (c == 4) = false := by simpa using h4
  have b5 : (c == 7) = false := by simpa using h5
  go_enter Try.func11, Try.ntmps11
  go_wp2
  go_ret
  exact ⟨by simp [Wk.strong, h1, h2, h3, h4, h5], rfl⟩

set_option maxHeartbeats 400000 in
theorem clone_any (B : Nat) (A : Option Addr) (n c : Nat) (zs : List Int) (w : World) (h : Ints w B A n c zs) (hB : B ≤ w.heap.size) (hn : n ≤ 1000000) :
    Calls Try.prog 17 #[.slice A n c] w (RetOwn 3 w n zs) := by
  have hm := h.cap
  have hnil := fun (w : World) (a : Option Addr) (n c n' c' : Nat) => Lib.run_eql_slice_nil (P := Try.prog) w 22 3 a n c n' c' Try.underlying22
  rcases A with _ | ad
  · obtain ⟨rfl, rfl⟩ := h.2.2.2.1 rfl
    have hz : zs = [] := List.eq_nil_of_length_eq_zero h.1
    subst hz
    clear h
    go_enter Try.func17, Try.ntmps17
    go_wp2
    go_ret
    exact RetOwn.nil_ _ _
  · have hlit : Own (w.alloc (.cells #[] 3)) w.heap.size 3 (some ⟨w.heap.size, 0, none⟩) 0 0 [] := Own.lit w [] #[] 3 (Nat.le_refl _) (by decide) rfl rfl
    have hi : Ints (w.alloc (.cells #[] 3)) B (some ad) n c zs := h.below ((Below.refl B w).alloc hB _)
    clear h
    go_enter Try.func17, Try.ntmps17
    go_wp2_with (at_builtin; refine wpList_append_ints _ rfl _ _ 22 rfl w.heap.size 3 Try.underlying22 Try.infoInt (some ⟨w.heap.size, 0, none⟩) 0 0 [] rfl hlit B (some ad) n c zs rfl hi (by omega) (by simp) ?_; intro A' c' w1 hown hgrow hblk)
    go_ret
    refine ⟨A', c', by simp, by simpa using hown, ?_⟩
    exact ((Below.refl _ w).alloc (Nat.le_refl _) _).grown hgrow (by simp) (by intro k hk; simp [Value.ownBlock] at hk; omega)

end Go.Proofs.Ytnjpngecgeofmaa
