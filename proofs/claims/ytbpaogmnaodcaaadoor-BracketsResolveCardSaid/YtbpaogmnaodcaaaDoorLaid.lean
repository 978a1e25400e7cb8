/- What the rows' listed variable gives the walks: the table of last signs lies as laid; the door's own run meets it. What the shell of a proof says of a slice of signs, in the words of PairA. No condition. -/
import Derived.Test.YtbpaogmnaodcaaaDoorRows
import Derived.Test.YtbpaogmnaodcaaaDoorPairA
import Derived.Test.YtbpaogmnaodcaaaDoorRowIn
import Derived.ProofKit
import Derived.LaidMore
import Derived.OpenShut
import Derived.Stop.Joined
namespace Go.Proofs.YtbpaogmnaodcaaaDoor
open Go.ChangeShapes Go.WideShapes Go.ChangeAt Go.WideMaps Go.WideElems Go.RowKit

theorem ownKnob_none : ownKnob Tryd.prog.godebug = none := by kernel_rfl
theorem laidOut : laidOutB Tryd.prog = true := by kernel_rfl
theorem gLast : Tryd.prog.globalNamed (Rows.bracketsQuietRow.named.headD default) = some 0 := by kernel_rfl
theorem tLast : (Tryd.prog.globals[0]?).map (·.type) = some 67 := by kernel_rfl

set_option maxRecDepth 100000 in
theorem door_met (os : Os) (args : Array Value) : laidMetH Tryd.prog Rows.bracketsQuietRow.laid ((World.doorLaid Tryd.prog 400 os).forCall (fun _ _ => 0) ⟨#[], args, []⟩).memory :=
  laidMetH_of_parts3 (fuel := 8) (laidMet_of_run' 8 (by kernel_rfl) (by kernel_rfl)) (by kernel_rfl) (by kernel_rfl)

theorem of_laid {W : World} (h : laidMetH Tryd.prog Rows.bracketsQuietRow.laid W) : Lasts W := by
  rw [MakeChecks.laidMetH_plain _ _ _ (by kernel_rfl)] at h
  obtain ⟨ps, ⟨g0, t0, cs0, f0, p0, q0, hg0, ht0, hv0, hd0, _, _⟩, _, _⟩ := h
  obtain rfl := Option.some.inj (gLast.symm.trans hg0)
  obtain rfl := Option.some.inj (tLast.symm.trans ht0)
  obtain ⟨xs, m1, rfl, hx1, hlen, hn3, hel⟩ := DataW.trod_array Tryd.underlying67 hd0
  have c3 : Tryd.prog.cellsOf 21 = 1 := by kernel_rfl
  have hxs : xs.map (·.1) = lastsL.map (fun y => DataW.lit (.int .i32 y)) := by
    simp only [Prod.mk.injEq] at hx1
    have h1 := hx1.1.symm.trans (show Rows.laid_typecase_props_lasts = DataW.agg (lastsL.map (fun y => DataW.lit (.int .i32 y))) from rfl)
    simpa only [DataW.agg.injEq] using h1
  intro j y hj
  have hj13 : j < 13 := (List.getElem?_eq_some_iff.1 hj).1
  have h1 := hel j hj13
  have h2 : (xs.map (·.1))[j]? = some (DataW.lit (.int .i32 y)) := by rw [hxs, List.getElem?_map, hj]; rfl
  rw [List.getElem?_map] at h2
  rw [c3, Nat.mul_one] at h1
  cases hxj : xs[j]? with
  | none => rw [hxj] at h2; cases h2
  | some z =>
    rw [hxj] at h1 h2
    simp only [Option.map_some, Option.some.injEq] at h2
    obtain ⟨k, e1, e2, _⟩ := DataW.trod_int Tryd.underlying21 h1
    rw [e2] at h2
    simp only [DataW.lit.injEq, Lit.int.injEq, true_and] at h2
    subst h2
    have hc := World.var?_cell hg0 hv0 j
    have e3 : cs0.toList[j]? = some (Value.int .i32 k) := by
      have := congrArg (fun l => l[0]?) e1
      simpa using this
    rw [hc]
    simpa using e3

theorem Runes.of_row {w : World} {a : Option Addr} {len cap : Nat} {zs : List Int}
    (h : (a = none ∧ len = 0 ∧ cap = 0 ∧ zs = []) ∨ ∃ x, a = some x ∧ len ≤ cap ∧ cap ≤ maxLen ∧ zs.length = cap ∧ (∀ i, i < zs.length → w.cell? (x.add i) = some (.int .i32 (zs.getD i 0))) ∧ ∀ n ∈ zs, (Lit.int .i32 n).wf = true) :
    Runes w w.heap.size a len cap (zs.take len) := by
  rcases h with ⟨rfl, rfl, rfl, rfl⟩ | ⟨x, rfl, hl, hm, hz, hc, _⟩
  · exact ⟨rfl, Nat.le_refl _, by unfold maxLen; omega, fun k x h => by simp at h⟩
  · refine ⟨by simp; omega, hl, hm, fun k y hk => ?_⟩
    have hlen : k < zs.length := by
      have := (List.getElem?_eq_some_iff.1 hk).1
      simp at this; omega
    have hk' : zs[k]? = some y := by
      rw [List.getElem?_take] at hk
      split at hk
      · exact hk
      · cases hk
    obtain ⟨b, o, rfl, hcell⟩ := ints_at hc (by omega)
    have := hcell k hlen
    rw [List.getD_eq_getElem?_getD, hk'] at this
    exact ⟨b, o, rfl, World.block_lt_of_cell? w _ this, this⟩

end Go.Proofs.YtbpaogmnaodcaaaDoor
