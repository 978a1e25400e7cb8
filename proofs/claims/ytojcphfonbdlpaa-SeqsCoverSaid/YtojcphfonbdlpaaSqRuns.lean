/- What the level runs are: put one behind the other they are the kept places, none is empty, the places rise. Plain. No condition. -/
import Derived.Test.YtojcphfonbdlpaaSeqD
import Derived.Test.YtojcphfonbdlpaaSqOf
namespace Go.Proofs.Ytojcphfonbdlpaa.Sq
open Lv (removed)

theorem add_flat (rs : List (List Int)) (i : Int) : (add rs i).flatten = rs.flatten ++ [i] := by
  rcases List.eq_nil_or_concat rs with rfl | ⟨d, r, rfl⟩
  · rfl
  · rw [List.concat_eq_append, add_concat]; simp
theorem runsF_flat : ∀ (r rl : List Int) (i : Nat) (rs : List (List Int)) (was : Int), r.length = rl.length → (runsF i rs was r rl).flatten = rs.flatten ++ keptF i r
  | [], rl, i, rs, was, _ => by simp [runsF, keptF]
  | c :: r, [], i, rs, was, h => by simp at h
  | c :: r, l :: rl, i, rs, was, h => by
    have ih := fun rs was => runsF_flat r rl (i + 1) rs was (by simpa using h)
    unfold runsF keptF
    split
    · rw [ih]
    · split
      · rw [ih, add_flat]; simp
      · rw [ih]; simp
theorem runs_flat {cs ls : List Int} (h : cs.length = ls.length) : (runs cs ls).flatten = keptF 0 cs := by
  rw [runs, runsF_flat cs ls 0 [] 0 h]; rfl
theorem add_ne {rs : List (List Int)} (i : Int) (h : ∀ q ∈ rs, q ≠ []) : ∀ q ∈ add rs i, q ≠ [] := by
  intro q hq
  unfold add at hq
  simp at hq
  rcases hq with hq | rfl
  · exact h q (List.dropLast_subset _ hq)
  · simp
theorem runsF_ne : ∀ (r rl : List Int) (i : Nat) (rs : List (List Int)) (was : Int), (∀ q ∈ rs, q ≠ []) → ∀ q ∈ runsF i rs was r rl, q ≠ []
  | [], rl, i, rs, was, h => by simpa [runsF] using h
  | c :: r, [], i, rs, was, h => by simpa [runsF] using h
  | c :: r, l :: rl, i, rs, was, h => by
    unfold runsF
    split
    · exact runsF_ne r rl (i + 1) rs was h
    · split
      · exact runsF_ne r rl (i + 1) _ _ (add_ne _ h)
      · refine runsF_ne r rl (i + 1) _ _ ?_
        intro q hq
        simp at hq
        rcases hq with hq | rfl
        · exact h q hq
        · simp
theorem runs_ne (cs ls : List Int) : ∀ q ∈ runs cs ls, q ≠ [] := runsF_ne cs ls 0 [] 0 (by simp)
theorem keptF_ge : ∀ (i : Nat) (cs : List Int) (p : Int), p ∈ keptF i cs → (i : Int) ≤ p
  | _, [], p, h => by simp [keptF] at h
  | i, c :: cs, p, h => by
    unfold keptF at h
    split at h
    · have := keptF_ge (i + 1) cs p h; omega
    · simp at h
      rcases h with rfl | h
      · exact Int.le_refl _
      · have := keptF_ge (i + 1) cs p h; omega
theorem keptF_rise : ∀ (i : Nat) (cs : List Int), (keptF i cs).Pairwise (· < ·)
  | _, [] => by simp [keptF]
  | i, c :: cs => by
    unfold keptF
    split
    · exact keptF_rise (i + 1) cs
    · refine List.pairwise_cons.2 ⟨fun p hp => ?_, keptF_rise (i + 1) cs⟩
      have := keptF_ge (i + 1) cs p hp
      omega
/-- a place is kept just when it is no removed sign's -/
theorem keptF_iff : ∀ (i : Nat) (cs : List Int) (j : Nat), ((i + j : Nat) : Int) ∈ keptF i cs ↔ ∃ c, cs[j]? = some c ∧ removed c = false
  | _, [], j => by simp [keptF]
  | i, c :: cs, 0 => by
    unfold keptF
    have hn : (i : Int) ∉ keptF (i + 1) cs := fun h => by have := keptF_ge (i + 1) cs _ h; omega
    split
    · rename_i h; simp [h]; exact hn
    · rename_i h; simp at h; simp [h]
  | i, c :: cs, j + 1 => by
    have ih := keptF_iff (i + 1) cs j
    have e : ((i + (j + 1) : Nat) : Int) = ((i + 1 + j : Nat) : Int) := by omega
    unfold keptF
    rw [e]
    split
    · rw [ih]; simp
    · rw [List.mem_cons, ih]
      constructor
      · rintro (h | h)
        · omega
        · simpa using h
      · intro h; right; simpa using h
theorem runs_rise {cs ls : List Int} (h : cs.length = ls.length) : (runs cs ls).flatten.Pairwise (· < ·) := by rw [runs_flat h]; exact keptF_rise 0 cs
theorem runs_mem {cs ls : List Int} (h : cs.length = ls.length) (j : Nat) : (j : Int) ∈ (runs cs ls).flatten ↔ ∃ c, cs[j]? = some c ∧ removed c = false := by
  rw [runs_flat h]
  have := keptF_iff 0 cs j
  simpa using this

end Go.Proofs.Ytojcphfonbdlpaa.Sq
