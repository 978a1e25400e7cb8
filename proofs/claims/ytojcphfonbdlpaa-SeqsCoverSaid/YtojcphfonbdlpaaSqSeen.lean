/- How often each place has been seen. Plain. No condition. -/
import Derived.Test.YtojcphfonbdlpaaSqCover
namespace Go.Proofs.Ytojcphfonbdlpaa.Sq

def seen (n : Nat) (P : List Int) : List Int := (List.range n).map fun (j : Nat) => ((P.count (j : Int) : Nat) : Int)
theorem seen_nil (n : Nat) : seen n [] = List.replicate n 0 := by
  unfold seen
  apply List.ext_getElem
  · simp
  · intro i h1 h2; simp
theorem seen_get {n : Nat} (P : List Int) {j : Nat} (h : j < n) : (seen n P)[j]? = some ((P.count (j : Int) : Nat) : Int) := by
  unfold seen
  rw [List.getElem?_map, List.getElem?_range h]; rfl
theorem seen_put {n : Nat} (P : List Int) {p : Nat} (h : p < n) : (seen n P).set p (((P.count (p : Int) : Nat) : Int) + 1) = seen n (P ++ [(p : Int)]) := by
  apply List.ext_getElem?
  intro i
  by_cases hi : i = p
  · subst hi
    rw [List.getElem?_set_self (by simp [seen]; exact h), seen_get _ h]
    simp [List.count_append]
  · rw [List.getElem?_set_ne (by omega)]
    rcases Nat.lt_or_ge i n with hl | hl
    · rw [seen_get _ hl, seen_get _ hl]
      have : (p : Int) ≠ (i : Int) := by omega
      simp [List.count_append, this]
    · rw [List.getElem?_eq_none (by simp [seen]; exact hl), List.getElem?_eq_none (by simp [seen]; exact hl)]
/-- what has been seen up to a place of a sequence is seen once at most -/
theorem part_le {l : List Seq} {i k : Nat} {s : Seq} {x : Int} (hi : l[i]? = some s) (h : (l.flatMap (·.ps)).count x ≤ 1) : ((l.take i).flatMap (·.ps) ++ s.ps.take k).count x ≤ 1 := by
  have hlt := (List.getElem?_eq_some_iff.1 hi).1
  have e : l = l.take i ++ s :: l.drop (i + 1) := by
    rw [← (List.getElem?_eq_some_iff.1 hi).2, ← List.drop_eq_getElem_cons hlt, List.take_append_drop]
  have h2 : ((l.take i).flatMap (·.ps) ++ s.ps.take k).Sublist (l.flatMap (·.ps)) := by
    conv => rhs; rw [e]
    rw [List.flatMap_append, List.flatMap_cons]
    exact (List.Sublist.refl _).append ((List.take_sublist _ _).trans (List.sublist_append_left _ _))
  exact Nat.le_trans (h2.count_le x) h
theorem take_flat {l : List Seq} {i : Nat} {s : Seq} (hi : l[i]? = some s) : (l.take (i + 1)).flatMap (·.ps) = (l.take i).flatMap (·.ps) ++ s.ps := by
  rw [List.take_add_one, hi]
  simp
theorem rise_at {l : List Int} (h : l.Pairwise (· < ·)) {k : Nat} {a b : Int} (ha : l[k]? = some a) (hb : l[k + 1]? = some b) : a < b := by
  have h2 := List.pairwise_iff_getElem.1 h k (k + 1) (List.getElem?_eq_some_iff.1 ha).1 (List.getElem?_eq_some_iff.1 hb).1 (by omega)
  rw [(List.getElem?_eq_some_iff.1 ha).2, (List.getElem?_eq_some_iff.1 hb).2] at h2
  exact h2

end Go.Proofs.Ytojcphfonbdlpaa.Sq
