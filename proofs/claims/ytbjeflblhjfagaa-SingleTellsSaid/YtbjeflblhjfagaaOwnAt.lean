/- Where an element of a row of the call's own lies. Over any program. No condition. -/
import Derived.Test.YtbjeflblhjfagaaWords
namespace Go.Proofs.Ytbjeflblhjfagaa
open Go.RowKit
theorem Own.at_ {w : World} {base : Nat} {e : TypeId} {A : Option Addr} {n c : Nat} {zs : List Int} {k : Nat} (h : Own w base e A n c zs) (hk : k < n) : ∃ g x, A = some ⟨g, 0, none⟩ ∧ base ≤ g ∧ g < w.heap.size ∧ zs[k]? = some x ∧ w.cell? ⟨g, k, none⟩ = some (.int .i64 x) ∧ w.frozen? ⟨g, k, none⟩ = false := by
  have hl := Own.length h
  have hz : zs = zs.take k ++ zs[k] :: zs.drop (k + 1) := by rw [← List.drop_eq_getElem_cons (by omega), List.take_append_drop]
  have h' : Own w base e A n c (zs.take k ++ zs[k] :: zs.drop (k + 1)) := by rw [← hz]; exact h
  obtain ⟨_, g, h1, h2, h3, h4, h5⟩ := Own.mid h' (k := k) (by simp; omega)
  exact ⟨g, zs[k], h1, h2, h3, List.getElem?_eq_getElem (by omega), h4, h5⟩
end Go.Proofs.Ytbjeflblhjfagaa
