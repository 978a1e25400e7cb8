/- The walk of the law's stays. No condition. -/
import Derived.Test.YtnjpngecgeofmaaWeakF
import Derived.Test.YtnjpngecgeofmaaWeakLaw
import Derived.Test.YtnjpngecgeofmaaRowIn
namespace Go.Proofs.Ytnjpngecgeofmaa
open Go.RowKit

set_option maxHeartbeats 2000000 in
theorem stays_any (c : Int) (b : Bool) (hb : Wk.stays c = b) (w : World) :
    Calls Try.prog 8 #[.int .i64 c] w fun e w' => e = .returned (.bool b) ∧ w = w' := by
  subst hb
  by_cases h : c = 1 ∨ c = 2 ∨ c = 7 ∨ c = 11 ∨ c = 12 ∨ c = 13 ∨ c = 14 ∨ c = 20 ∨ c = 21 ∨ c = 22 ∨ c = 23
  · rcases h with rfl | rfl | rfl | rfl | rfl | rfl | rfl | rfl | rfl | rfl | rfl
    all_goals
      go_enter Try.func8, Try.ntmps8
      go_wp2
      go_ret
      exact ⟨rfl, rfl⟩
  · simp only [not_or] at h
    obtain ⟨h1, h2, h3, h4, h5, h6, h7, h8, h9, h10, h11⟩ := h
    have hs : Wk.stays c = false := by simp [Wk.stays, h1, h2, h3, h4, h5, h6, h7, h8, h9, h10, h11]
    rw [hs]
    have b1 : (c == 1) = false := by simpa using h1
    have b2 : (c == 2) = false := by simpa using h2
    have b3 : (c == 7) = false := by simpa using h3
    have b4 : (c == 11) = false := by simpa using h4
    have b5 : (c == 12) = false := by simpa using h5
    have b6 : (c == 13) = false := by simpa using h6
    have b7 : (c == 14) = false := by simpa using h7
    have b8 : (c == 20) = false := by simpa using h8
    have b9 : (c == 21) = false := by simpa using h9
    have b10 : (c == 22) = false := by simpa using h10
    have b11 : (c == 23) = false := by simpa using h11
    clear hs
    go_enter Try.func8, Try.ntmps8
    go_wp2
    go_ret
    exact ⟨rfl, rfl⟩

end Go.Proofs.Ytnjpngecgeofmaa
