/- Without isolates the sequences are the level runs. Plain. Condition: no initiator and no PDI. -/
import Derived.Test.YtojcphfonbdlpaaSeqI
namespace Go.Proofs.Ytojcphfonbdlpaa.Sq

def Calm (c : Int) : Prop := ini c = false ∧ c ≠ 23
theorem at0_calm {cs : List Int} (h : ∀ c ∈ cs, Calm c) (p : Int) : Calm (at0 cs p) := by
  unfold at0
  rw [List.getD_eq_getElem?_getD]
  rcases hg : cs[p.toNat]? with _ | x
  · simp [Calm, ini]
  · simpa using h x (List.mem_of_getElem? hg)
theorem of_calm {cs ls : List Int} {base : Int} (h : ∀ c ∈ cs, Calm c) : of cs ls base = (runs cs ls).map (one cs ls (Bd.mt cs) (runs cs ls) base) := by
  unfold of ofRuns
  rw [← List.filterMap_eq_map]
  congr 1
  funext r
  have h1 : led cs (Bd.mt cs) r = false := by
    unfold led
    have := (at0_calm h (r.headD 0)).2
    have h2 : (at0 cs (r.headD 0) == 23) = false := by simpa using this
    rw [h2]; simp
  rw [h1]
  simp
theorem one_calm {cs ls : List Int} {base : Int} (h : ∀ c ∈ cs, Calm c) (rs : List (List Int)) (r : List Int) : (one cs ls (Bd.mt cs) rs base r).ps = r := by
  unfold one
  refine chain_stop ?_
  unfold goes
  rw [(at0_calm h _).1]; rfl

end Go.Proofs.Ytojcphfonbdlpaa.Sq
