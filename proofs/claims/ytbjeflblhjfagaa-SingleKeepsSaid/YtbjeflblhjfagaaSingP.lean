/- What the single lookups say, plainly. No condition. Printed by wip/tools/g27m.py. -/
import Derived.Test.YtbjeflblhjfagaaFontI0
namespace Go.Proofs.Ytbjeflblhjfagaa
open Go.RowKit

def ixI : List Int → Int → Option Nat
  | [], _ => none
  | x :: r, g => if x = g then some 0 else (ixI r g).map (· + 1)
theorem ixI_none : ∀ {zs : List Int} {g : Int}, (∀ j, j < zs.length → zs.getD j 0 ≠ g) → ixI zs g = none
  | [], _, _ => rfl
  | x :: r, g, h => by
    have h0 : x ≠ g := h 0 (by simp)
    have h1 := ixI_none (zs := r) (g := g) (fun j hj => by have := h (j + 1) (by simpa using hj); simpa using this)
    simp [ixI, h0, h1]
theorem ixI_some : ∀ {zs : List Int} {g : Int} {k : Nat}, k < zs.length → zs.getD k 0 = g → (∀ j, j < k → zs.getD j 0 ≠ g) → ixI zs g = some k
  | [], _, _, h, _, _ => by simp at h
  | x :: r, g, 0, _, h, _ => by
    have h0 : x = g := h
    simp [ixI, h0]
  | x :: r, g, k + 1, hk, h, hn => by
    have h0 : x ≠ g := hn 0 (by omega)
    have h1 := ixI_some (zs := r) (g := g) (k := k) (by simpa using hk) (by simpa using h) (fun j hj => by have := hn (j + 1) (by omega); simpa using this)
    simp [ixI, h0, h1]
theorem ixI_lt : ∀ {zs : List Int} {g : Int} {k : Nat}, ixI zs g = some k → k < zs.length
  | [], _, _, h => by simp [ixI] at h
  | x :: r, g, k, h => by
    unfold ixI at h
    split at h
    · cases h; simp
    · cases hr : ixI r g with
      | none => rw [hr] at h; cases h
      | some i =>
        rw [hr] at h
        cases h
        have := ixI_lt hr
        simp only [List.length_cons]
        omega
def goB : List PS → Int → Option (List Int)
  | [], _ => none
  | p :: r, g => match ixI p.1 g with | some i => some (p.2.getD i []) | none => goB r g
theorem goB_none : ∀ {ps : List PS} {g : Int}, (∀ j, j < ps.length → ixI (ps.getD j nS).1 g = none) → goB ps g = none
  | [], _, _ => rfl
  | p :: r, g, h => by
    have h0 : ixI p.1 g = none := h 0 (by simp)
    have h1 := goB_none (ps := r) (g := g) (fun j hj => by have := h (j + 1) (by simpa using hj); simpa using this)
    simp [goB, h0, h1]
theorem goB_some : ∀ {ps : List PS} {g : Int} {k i : Nat}, k < ps.length → ixI (ps.getD k nS).1 g = some i → (∀ j, j < k → ixI (ps.getD j nS).1 g = none) → goB ps g = some ((ps.getD k nS).2.getD i [])
  | [], _, _, _, h, _, _ => by simp at h
  | p :: r, g, 0, i, _, h, _ => by
    have h0 : ixI p.1 g = some i := h
    simp [goB, h0]
  | p :: r, g, k + 1, i, hk, h, hn => by
    have h0 : ixI p.1 g = none := hn 0 (by omega)
    have h1 := goB_some (ps := r) (g := g) (k := k) (i := i) (by simpa using hk) (by simpa using h) (fun j hj => by have := hn (j + 1) (by omega); simpa using this)
    simp [goB, h0, h1]
def kiB (ki : Int) : Bool := ki == 1 || ki == 2
def toB (p : PL) (g : Int) : Option (List Int) := if kiB p.1 then goB p.2 g else none
theorem toB_off {p : PL} {g : Int} (h : kiB p.1 = false) : toB p g = none := by unfold toB; rw [h]; rfl
theorem toB_on {p : PL} {g : Int} (h : kiB p.1 = true) : toB p g = goB p.2 g := by unfold toB; rw [h]; rfl
/-- what a check leaves of a lookup of one of both kinds -/
theorem LkOne.len {p : PL} (h : LkOne p) (hk : kiB p.1 = true) {j : Nat} (hj : j < p.2.length) : (p.2.getD j nS).1.length = (p.2.getD j nS).2.length ∧ (p.2.getD j nS).1.length ≤ 4096 ∧ ∀ i, i < (p.2.getD j nS).2.length → ((p.2.getD j nS).2.getD i []).length ≤ 16 := by
  unfold kiB at hk
  simp only [Bool.or_eq_true, beq_iff_eq] at hk
  rcases hk with hk | hk
  · have h1 := (h.2 j hj rfl).1 hk
    exact ⟨h1.1, h1.2.1, fun i hi => by rw [h1.2.2 i hi]; omega⟩
  · exact (h.2 j hj rfl).2 hk
theorem goB_le : ∀ {ps : List PS} {g : Int} {zs : List Int}, goB ps g = some zs → ∃ j i, j < ps.length ∧ i < (ps.getD j nS).1.length ∧ zs = (ps.getD j nS).2.getD i []
  | [], _, _, h => by simp [goB] at h
  | p :: r, g, zs, h => by
    unfold goB at h
    cases hx : ixI p.1 g with
    | some i =>
      rw [hx] at h
      cases h
      exact ⟨0, i, by simp, by simpa using ixI_lt hx, by simp⟩
    | none =>
      rw [hx] at h
      obtain ⟨j, i, h1, h2, h3⟩ := goB_le h
      exact ⟨j + 1, i, by simpa using h1, by simpa using h2, by simpa using h3⟩
theorem toB_le {p : PL} {g : Int} {zs : List Int} (h1 : LkOne p) (h : toB p g = some zs) : zs.length ≤ 16 := by
  unfold toB at h
  split at h
  · rename_i hk
    obtain ⟨j, i, hj, hi, rfl⟩ := goB_le h
    have h2 := h1.len hk hj
    exact h2.2.2 i (by rw [← h2.1]; exact hi)
  · cases h
theorem toB_one {p : PL} {g : Int} {zs : List Int} (h1 : LkOne p) (hk : p.1 = 1) (h : toB p g = some zs) : zs.length = 1 := by
  rw [toB_on (by unfold kiB; rw [hk]; rfl)] at h
  obtain ⟨j, i, hj, hi, rfl⟩ := goB_le h
  have h2 := (h1.2 j hj rfl).1 hk
  exact h2.2.2 i (by rw [← h2.1]; exact hi)
theorem take_succ_getD {zs : List Int} {k : Nat} (h : k < zs.length) : zs.take k ++ [zs.getD k 0] = zs.take (k + 1) := by
  rw [List.take_succ_eq_append_getElem h, List.getD_eq_getElem?_getD, List.getElem?_eq_getElem h]
  rfl

/-- What a call leaves that hands back a list. -/
def RetInts (w : World) (zs : List Int) (e : Ending) (w' : World) : Prop := ∃ A c, e = .returned (.slice A zs.length c) ∧ Ints w' w'.heap.size A zs.length c zs ∧ Below w.heap.size w w'
/-- What To leaves. -/
def RetTo (w : World) (r : Option (List Int)) (e : Ending) (w' : World) : Prop :=
  ∃ A c, e = .returned (.tuple #[.slice A (r.getD []).length c, .bool r.isSome]) ∧ Ints w' w'.heap.size A (r.getD []).length c (r.getD []) ∧ Below w.heap.size w w'
theorem RetTo.none_ {w w' : World} {r : Option (List Int)} (h : r = none) (hb : Below w.heap.size w w') : RetTo w r (.returned (.tuple #[.slice none 0 0, .bool false])) w' := by
  subst h
  exact ⟨none, 0, rfl, Ints.nil_ _ _, hb⟩
theorem RetTo.some_ {w w' : World} {r : Option (List Int)} {zs : List Int} {A : Option Addr} {n c : Nat} (h : r = some zs) (hn : zs.length = n) (hi : Ints w' w'.heap.size A n c zs) (hb : Below w.heap.size w w') : RetTo w r (.returned (.tuple #[.slice A n c, .bool true])) w' := by
  subst h
  subst hn
  exact ⟨A, c, rfl, hi, hb⟩
theorem below_append {w0 w w' : World} {B base : Nat} {e : TypeId} {A : Option Addr} {n c : Nat} {xs : List Int} (h : Below B w0 w) (hB : B ≤ w.heap.size) (hg : w.grownBy w' (Value.slice A n c).ownBlock) (ho : Own w base e A n c xs) (hb : B ≤ base) : Below B w0 w' :=
  h.grown hg hB (fun k hk => Nat.le_trans hb (Own.block ho k hk).1)
theorem infoInt : (Try.prog.info? 3).map (fun i => (i.zero, i.size, i.bytes)) = some (some (.int .i64 0), 1, 8) := by kernel_rfl

end Go.Proofs.Ytbjeflblhjfagaa
