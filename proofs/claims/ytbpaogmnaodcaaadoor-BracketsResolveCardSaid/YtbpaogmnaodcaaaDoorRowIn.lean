/- What the shell of a law's proof says of a slice of integers that came in, in the words of Words. No condition. -/
import Derived.Test.YtbpaogmnaodcaaaDoorWords
import Derived.OpenShut
namespace Go.Proofs.YtbpaogmnaodcaaaDoor
open Go.RowKit

theorem Ints.of_row {w : World} {a : Option Addr} {len cap : Nat} {zs : List Int}
    (h : (a = none ∧ len = 0 ∧ cap = 0 ∧ zs = []) ∨ ∃ x, a = some x ∧ len ≤ cap ∧ cap ≤ maxLen ∧ zs.length = cap ∧ (∀ i, i < zs.length → w.cell? (x.add i) = some (.int .i64 (zs.getD i 0))) ∧ ∀ n ∈ zs, (Lit.int .i64 n).wf = true) :
    Ints w w.heap.size a len cap (zs.take len) := by
  rcases h with ⟨rfl, rfl, rfl, rfl⟩ | ⟨x, rfl, hl, hm, hz, hc, _⟩
  · exact Ints.nil_ _ _
  · refine ⟨by simp; omega, hl, hm, by simp, fun k y hk => ?_⟩
    have hlen : k < zs.length := by
      have := (List.getElem?_eq_some_iff.1 hk).1
      simp at this; omega
    have hk' : zs[k]? = some y := by
      rw [List.getElem?_take] at hk
      split at hk
      · exact hk
      · cases hk
    obtain ⟨b, o, rfl, hcell⟩ := ints_at hc (by omega)
    have := hcell k hlen
    rw [List.getD_eq_getElem?_getD, hk'] at this
    exact ⟨b, o, rfl, World.block_lt_of_cell? w _ this, this⟩

end Go.Proofs.YtbpaogmnaodcaaaDoor
