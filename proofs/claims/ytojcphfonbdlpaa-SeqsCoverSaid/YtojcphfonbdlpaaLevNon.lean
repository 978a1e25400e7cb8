/- Levels are not below 0. Plain. Condition: the base is from 0 to 125. -/
import Derived.Test.YtojcphfonbdlpaaLevPlain
namespace Go.Proofs.Ytojcphfonbdlpaa.Lv

theorem step_non {k : Nat} {base was c : Int} {s : S} {r : List Int} (hb : 0 ≤ base ∧ base ≤ 125) (hw : 0 ≤ was) (h : Ok k s) : 0 ≤ (step base s was c r).1.lv := by
  have h1 := h.top
  have h2 := (endI_ok h).top
  unfold step
  split
  · exact hw
  · split
    · exact h1.1
    · split
      · exact h1.1
      · split
        · exact h2.1
        · split
          · exact hb.1
          · exact h1.1
theorem lev_non {base : Int} (hb : 0 ≤ base ∧ base ≤ 125) : ∀ (l : List Int) (k : Nat) (s : S) (was : Int), 0 ≤ was → Ok k s → ∀ o ∈ lev base s was l, 0 ≤ o.lv
  | [], _, _, _, _, _, o, ho => by simp [lev] at ho
  | c :: r, k, s, was, hw, h, o, ho => by
    rw [lev] at ho
    rcases List.mem_cons.1 ho with rfl | ho
    · exact step_non hb hw h
    · exact lev_non hb r (k + 1) _ _ (step_non hb hw h) (step_ok hb h) o ho
theorem levels_non {base : Int} (hb : 0 ≤ base ∧ base ≤ 125) (l : List Int) : ∀ x ∈ levels base l, 0 ≤ x := by
  intro x hx
  obtain ⟨o, ho, rfl⟩ := List.mem_map.1 hx
  exact lev_non hb l 0 _ _ hb.1 (begin0_ok base hb) o ho

end Go.Proofs.Ytojcphfonbdlpaa.Lv
