/- Which glyphs a replaced buffer holds; the two ways Apply may go. No condition. -/
import Derived.Test.YtbjeflblhjfagaaAppl
namespace Go.Proofs.Ytbjeflblhjfagaa
open Go.RowKit

theorem recl_ids {was c : Int} : ∀ l : List Gl, (recl was c l).map Gl.id = l.map Gl.id
  | [] => rfl
  | g :: r => by
    unfold recl
    split
    · exact congrArg (g.id :: ·) (recl_ids r)
    · rfl
theorem fixG_ids (out : List Gl) (p : Nat) (c : Int) : (fixG out p c).map Gl.id = out.map Gl.id := by
  unfold fixG
  split
  · split
    · rw [List.map_append, recl_ids, ← List.map_append, List.take_append_drop]
    · rfl
  · rfl
theorem putG_ids (g : Gl) (zs : List Int) : (putG g zs).map Gl.id = zs := by
  unfold putG
  rw [List.map_map]
  have : (Gl.id ∘ putOne g) = id := rfl
  rw [this, List.map_id]
theorem outG_ids (gs : List Gl) (p : Nat) (g : Gl) (zs : List Int) : (outG gs p g zs).map Gl.id = (gs.map Gl.id).take p ++ (zs ++ (gs.map Gl.id).drop (p + 1)) := by
  unfold outG
  rw [List.map_append, List.map_append, putG_ids, List.map_take, List.map_drop, List.append_assoc]
theorem repG_ids {gs : List Gl} {p : Nat} {g : Gl} (h : gs[p]? = some g) (zs : List Int) : (repG gs p zs).map Gl.id = (gs.map Gl.id).take p ++ (zs ++ (gs.map Gl.id).drop (p + 1)) := by
  rw [repG_of h]
  split
  · rw [fixG_ids, outG_ids]
  · rw [outG_ids]
theorem lt_of_some {α : Type} {l : List α} {p : Nat} {g : α} (h : l[p]? = some g) : p < l.length := by
  rcases Nat.lt_or_ge p l.length with h1 | h1
  · exact h1
  · rw [List.getElem?_eq_none h1] at h; cases h
theorem repG_length {gs : List Gl} {p : Nat} {g : Gl} (h : gs[p]? = some g) (zs : List Int) : (repG gs p zs).length = gs.length - 1 + zs.length := by
  have h1 := congrArg List.length (repG_ids h zs)
  have hp := lt_of_some h
  rw [List.length_map, List.length_append, List.length_append, List.length_take, List.length_drop, List.length_map] at h1
  omega
theorem repG_before {gs : List Gl} {p k : Nat} {g x y : Gl} {zs : List Int} (h : gs[p]? = some g) (hk : k < p) (hx : (repG gs p zs)[k]? = some x) (hy : gs[k]? = some y) : x.id = y.id := by
  have h1 := congrArg (·[k]?) (repG_ids h zs)
  have hp := lt_of_some h
  rw [List.getElem?_map, hx, List.getElem?_append_left (by rw [List.length_take, List.length_map]; omega), List.getElem?_take_of_lt hk, List.getElem?_map, hy] at h1
  exact Option.some.inj h1
theorem repG_within {gs : List Gl} {p k : Nat} {g x : Gl} {zs : List Int} (h : gs[p]? = some g) (hk : p ≤ k) (hk2 : k < p + zs.length) (hx : (repG gs p zs)[k]? = some x) : x.id = zs.getD (k - p) 0 := by
  have h1 := congrArg (·[k]?) (repG_ids h zs)
  have hp := lt_of_some h
  have e : ((gs.map Gl.id).take p).length = p := by rw [List.length_take, List.length_map]; omega
  rw [List.getElem?_map, hx, List.getElem?_append_right (by rw [e]; exact hk), e, List.getElem?_append_left (by omega), List.getElem?_eq_getElem (by omega)] at h1
  rw [List.getD_eq_getElem?_getD, List.getElem?_eq_getElem (by omega)]
  exact Option.some.inj h1
theorem repG_after {gs : List Gl} {p k : Nat} {g x y : Gl} {zs : List Int} (h : gs[p]? = some g) (hk : p + zs.length ≤ k) (hx : (repG gs p zs)[k]? = some x) (hy : gs[k - zs.length + 1]? = some y) : x.id = y.id := by
  have h1 := congrArg (·[k]?) (repG_ids h zs)
  have hp := lt_of_some h
  have e : ((gs.map Gl.id).take p).length = p := by rw [List.length_take, List.length_map]; omega
  rw [List.getElem?_map, hx, List.getElem?_append_right (by rw [e]; omega), e, List.getElem?_append_right (by omega), List.getElem?_drop, List.getElem?_map, show p + 1 + (k - p - zs.length) = k - zs.length + 1 by omega, hy] at h1
  exact Option.some.inj h1
theorem repG_one {gs : List Gl} {p : Nat} {g : Gl} {zs : List Int} (h : gs[p]? = some g) (hz : zs.length = 1) : ∃ i, (repG gs p zs)[p]? = some (putOne g i) := by
  match zs, hz with
  | [z], _ =>
    refine ⟨z, ?_⟩
    have hp := lt_of_some h
    rw [repG_of h, if_neg (by simp)]
    unfold outG putG
    rw [List.append_assoc, List.getElem?_append_right (by rw [List.length_take]; omega), List.length_take, Nat.min_eq_left (by omega), Nat.sub_self]
    rfl
/-- the two ways Apply may go -/
theorem applyG_cases (pl : PL) (gs : List Gl) (at_ : Int) : applyG pl gs at_ = (gs, at_, false) ∨ ∃ (p : Nat) (g : Gl) (zs : List Int), at_ = (p : Int) ∧ gs[p]? = some g ∧ toB pl g.id = some zs ∧ applyG pl gs at_ = (repG gs p zs, (p : Int) + zs.length, true) := by
  by_cases h0 : 0 ≤ at_
  · obtain ⟨p, rfl⟩ : ∃ p : Nat, at_ = (p : Int) := ⟨at_.toNat, by omega⟩
    cases hg : gs[p]? with
    | none =>
      refine .inl (applyG_out (.inr ?_))
      rcases Nat.lt_or_ge p gs.length with h1 | h1
      · rw [List.getElem?_eq_getElem h1] at hg; cases hg
      · omega
    | some g =>
      cases ht : toB pl g.id with
      | none => exact .inl (applyG_none hg ht)
      | some zs => exact .inr ⟨p, g, zs, rfl, hg, ht, applyG_some hg ht⟩
  · exact .inl (applyG_out (.inl (by omega)))

theorem RetApp.n {w w' : World} {gs : List Gl} {m : Int} {d : Bool} {e : Ending} {n : Nat} (h : RetApp w (gs, m, d) e w') (hn : gs.length = n) : ∃ A c, e = .returned (.tuple #[.slice A n c, .int .i64 m, .bool d]) ∧ GlsR w' w'.heap.size A n c gs ∧ Below w.heap.size w w' := by
  subst hn; exact h
theorem RetTo.m {w w' : World} {zs : List Int} {e : Ending} {m : Nat} (h : RetTo w (some zs) e w') (hm : zs.length = m) : ∃ A c, e = .returned (.tuple #[.slice A m c, .bool true]) ∧ Ints w' w'.heap.size A m c zs ∧ Below w.heap.size w w' := by
  subst hm; exact h
theorem keep5 {W0 W : World} {K b q : Nat} {v0 v1 v2 v3 v4 : Value} (h : (W0.cell? ⟨K, 0, none⟩ = some v0 ∧ W0.cell? ⟨K, 1, none⟩ = some v1 ∧ W0.cell? ⟨K, 2, none⟩ = some v2 ∧ W0.cell? ⟨K, 3, none⟩ = some v3 ∧ W0.cell? ⟨b, q, none⟩ = some v4) ∧ K < W0.heap.size ∧ b < W0.heap.size) (hb : Below W0.heap.size W0 W) :
    W.cell? ⟨K, 0, none⟩ = some v0 ∧ W.cell? ⟨K, 1, none⟩ = some v1 ∧ W.cell? ⟨K, 2, none⟩ = some v2 ∧ W.cell? ⟨K, 3, none⟩ = some v3 ∧ W.cell? ⟨b, q, none⟩ = some v4 :=
  ⟨(hb.cell (p := ⟨K, 0, none⟩) h.2.1).trans h.1.1, (hb.cell (p := ⟨K, 1, none⟩) h.2.1).trans h.1.2.1, (hb.cell (p := ⟨K, 2, none⟩) h.2.1).trans h.1.2.2.1, (hb.cell (p := ⟨K, 3, none⟩) h.2.1).trans h.1.2.2.2.1, (hb.cell (p := ⟨b, q, none⟩) h.2.2).trans h.1.2.2.2.2⟩

end Go.Proofs.Ytbjeflblhjfagaa
