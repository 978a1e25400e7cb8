/- Where an isolate initiator's match lies: behind it, at a PDI, within the list. Plain. No condition. -/
import Derived.Test.YtojcphfonbdlpaaSqRuns
import Derived.Test.YtojcphfonbdlpaaBidiClo
namespace Go.Proofs.Ytojcphfonbdlpaa.Sq
open Lv (removed)

theorem clo_is : ∀ (r : List Int) (d j : Nat), Bd.clo d r = some j → r[j]? = some 23
  | [], d, j, h => by simp [Bd.clo] at h
  | c :: r, d, j, h => by
    unfold Bd.clo at h
    split at h
    · cases h
    · split at h
      · simp only [Option.map_eq_some_iff] at h
        obtain ⟨k, hk, rfl⟩ := h
        simpa using clo_is r _ k hk
      · split at h
        · rename_i hc
          split at h
          · simp at h; subst h; simp [hc]
          · simp only [Option.map_eq_some_iff] at h
            obtain ⟨k, hk, rfl⟩ := h
            simpa using clo_is r _ k hk
        · simp only [Option.map_eq_some_iff] at h
          obtain ⟨k, hk, rfl⟩ := h
          simpa using clo_is r _ k hk
theorem ini_opens (c : Int) : ini c = Bd.opens c := by simp [ini, Bd.opens, Bool.beq_eq_decide_eq]
theorem mt_goes {cs : List Int} {p : Nat} {c : Int} (hc : cs[p]? = some c) (ho : ini c = true) (hm : at0 (Bd.mt cs) (p : Int) ≠ -1) :
    ∃ q : Nat, at0 (Bd.mt cs) (p : Int) = (q : Int) ∧ p < q ∧ cs[q]? = some 23 := by
  have hp : p < cs.length := (List.getElem?_eq_some_iff.1 hc).1
  have he : cs[p] = c := (List.getElem?_eq_some_iff.1 hc).2
  have hz : cs = cs.take p ++ c :: cs.drop (p + 1) := by
    rw [← he, ← List.drop_eq_getElem_cons hp, List.take_append_drop]
  have hlen : (cs.take p).length = p := by simp; omega
  have h1 := Bd.mt_at (cs.take p) (cs.drop (p + 1)) c (by rw [← ini_opens]; exact ho)
  rw [← hz, hlen] at h1
  have h2 : at0 (Bd.mt cs) (p : Int) = Bd.ends (p + 1) (Bd.clo 0 (cs.drop (p + 1))) := by simp [at0, List.getD_eq_getElem?_getD, h1]
  rw [h2] at hm ⊢
  rcases hcl : Bd.clo 0 (cs.drop (p + 1)) with _ | j
  · rw [hcl] at hm; simp [Bd.ends] at hm
  · have h3 := clo_is _ _ _ hcl
    rw [List.getElem?_drop] at h3
    exact ⟨p + 1 + j, by simp [Bd.ends], by omega, h3⟩

end Go.Proofs.Ytojcphfonbdlpaa.Sq
