/- Level runs and isolating run sequences, as the document tells them: plain. No program in sight. No condition. -/
import Derived.Test.YtojcphfonbdlpaaLevPlain
namespace Go.Proofs.Ytojcphfonbdlpaa.Sq
open Lv (removed)

/-- a place more in the last run -/
def add (rs : List (List Int)) (i : Int) : List (List Int) := rs.dropLast ++ [rs.getLastD [] ++ [i]]
theorem add_concat (rs : List (List Int)) (r : List Int) (i : Int) : add (rs ++ [r]) i = rs ++ [r ++ [i]] := by simp [add]
/-- the level runs, by places: what is done, the last level, what is left -/
def runsF : Nat → List (List Int) → Int → List Int → List Int → List (List Int)
  | i, rs, was, c :: cs, l :: ls =>
    if removed c = true then runsF (i + 1) rs was cs ls
    else if rs ≠ [] ∧ was = l then runsF (i + 1) (add rs (i : Int)) l cs ls
    else runsF (i + 1) (rs ++ [[(i : Int)]]) l cs ls
  | _, rs, _, _, _ => rs
def runs (cs ls : List Int) : List (List Int) := runsF 0 [] 0 cs ls
theorem runsF_out {i : Nat} {rs : List (List Int)} {was c l : Int} {cs ls : List Int} (h : removed c = true) : runsF i rs was (c :: cs) (l :: ls) = runsF (i + 1) rs was cs ls := by simp [runsF, h]
theorem runsF_on {i : Nat} {rs : List (List Int)} {r : List Int} {c l : Int} {cs ls : List Int} (h : removed c = false) : runsF i (rs ++ [r]) l (c :: cs) (l :: ls) = runsF (i + 1) (rs ++ [r ++ [(i : Int)]]) l cs ls := by
  simp [runsF, h, add_concat]
theorem runsF_new {i : Nat} {rs : List (List Int)} {was c l : Int} {cs ls : List Int} (h : removed c = false) (hn : rs = [] ∨ was ≠ l) : runsF i rs was (c :: cs) (l :: ls) = runsF (i + 1) (rs ++ [[(i : Int)]]) l cs ls := by
  rw [runsF, if_neg (by simp [h]), if_neg (by rcases hn with rfl | hn; · simp
                                              · simp [hn])]

end Go.Proofs.Ytojcphfonbdlpaa.Sq
