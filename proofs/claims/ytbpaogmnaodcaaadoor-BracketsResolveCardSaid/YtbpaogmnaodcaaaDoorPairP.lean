/- Which brackets pair, plain: a stack of what is open, at most 63; a closing one takes the topmost that goes with it. No program in sight. No condition. -/
import Derived.Test.YtbpaogmnaodcaaaDoorPropE
namespace Go.Proofs.YtbpaogmnaodcaaaDoor

/-- the topmost of a stack's beginning that is a sign -/
def seek (st : List (Int × Int)) (x : Int) : Nat → Option Nat
  | 0 => none
  | k + 1 => if (st.getD k (0, 0)).1 = x then some k else seek st x k
/-- the pairs, as they close -/
def prs : Nat → List (Int × Int) → List (Int × Int) → List Int → List Int → List (Int × Int)
  | i, st, out, r :: rs, c :: cs =>
    if c ≠ 14 ∨ paOf r = 0 then prs (i + 1) st out rs cs
    else if opOf r = true then (if st.length = 63 then out else prs (i + 1) (st ++ [(canon r, (i : Int))]) out rs cs)
    else match seek st (canon (paOf r)) st.length with
      | some k => prs (i + 1) (st.take k) (out ++ [((st.getD k (0, 0)).2, (i : Int))]) rs cs
      | none => prs (i + 1) st out rs cs
  | _, _, out, _, _ => out
theorem seek_lt : ∀ (st : List (Int × Int)) (x : Int) (n k : Nat), seek st x n = some k → k < n ∧ (st.getD k (0, 0)).1 = x
  | _, _, 0, _, h => by simp [seek] at h
  | st, x, n + 1, k, h => by
    rw [seek] at h
    split at h
    · rename_i he
      simp at h
      subst h
      exact ⟨by omega, he⟩
    · obtain ⟨h1, h2⟩ := seek_lt st x n k h
      exact ⟨by omega, h2⟩
/-- where a stack lies -/
def StOk (i : Nat) (st : List (Int × Int)) : Prop := ∀ p ∈ st, ∃ a : Nat, p.2 = (a : Int) ∧ a < i
/-- where pairs lie -/
def OutOk (i : Nat) (out : List (Int × Int)) : Prop := ∀ p ∈ out, ∃ a b : Nat, p.1 = (a : Int) ∧ p.2 = (b : Int) ∧ a < b ∧ b < i
theorem prs_ok : ∀ (rs cs : List Int) (i : Nat) (st out : List (Int × Int)), StOk i st → OutOk i out → OutOk (i + rs.length) (prs i st out rs cs)
  | [], cs, i, st, out, _, h => by cases cs <;> simpa [prs] using h
  | r :: rs, [], i, st, out, _, h => by
    simp only [prs]
    intro p hp
    obtain ⟨a, b, h1, h2, h3, h4⟩ := h p hp
    exact ⟨a, b, h1, h2, h3, by simp; omega⟩
  | r :: rs, c :: cs, i, st, out, hs, ho => by
    have e : i + (r :: rs).length = (i + 1) + rs.length := by simp; omega
    have hs' : StOk (i + 1) st := fun p hp => by obtain ⟨a, h1, h2⟩ := hs p hp; exact ⟨a, h1, by omega⟩
    have ho' : OutOk (i + 1) out := fun p hp => by obtain ⟨a, b, h1, h2, h3, h4⟩ := ho p hp; exact ⟨a, b, h1, h2, h3, by omega⟩
    rw [e, prs]
    split
    · exact prs_ok rs cs (i + 1) st out hs' ho'
    · split
      · split
        · intro p hp
          obtain ⟨a, b, h1, h2, h3, h4⟩ := ho' p hp
          exact ⟨a, b, h1, h2, h3, by omega⟩
        · refine prs_ok rs cs (i + 1) _ out (fun p hp => ?_) ho'
          rcases List.mem_append.1 hp with hp | hp
          · exact hs' p hp
          · simp at hp; subst hp; exact ⟨i, rfl, by omega⟩
      · split
        · rename_i k hk
          obtain ⟨h1, _⟩ := seek_lt _ _ _ _ hk
          refine prs_ok rs cs (i + 1) _ _ (fun p hp => hs' p (List.mem_of_mem_take hp)) (fun p hp => ?_)
          rcases List.mem_append.1 hp with hp | hp
          · exact ho' p hp
          · simp only [List.mem_singleton] at hp
            subst hp
            rw [List.getD_eq_getElem?_getD, List.getElem?_eq_getElem h1]
            obtain ⟨a, h2, h3⟩ := hs (st[k]) (List.getElem_mem h1)
            exact ⟨a, i, by simpa using h2, rfl, h3, by omega⟩
        · exact prs_ok rs cs (i + 1) st out hs' ho'

end Go.Proofs.YtbpaogmnaodcaaaDoor
