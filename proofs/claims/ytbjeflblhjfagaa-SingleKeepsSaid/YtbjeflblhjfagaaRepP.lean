/- What a replaced stretch of one glyph is, plainly; a store into a glyph's cluster; parts of a buffer. No condition. -/
import Derived.Test.YtbjeflblhjfagaaBufC
namespace Go.Proofs.Ytbjeflblhjfagaa
open Go.RowKit

def putOne (g : Gl) (i : Int) : Gl := ⟨i, g.cl, 0, 0, 0, -1, -1, g.li, g.co, g.ma⟩
def putG (g : Gl) (ids : List Int) : List Gl := ids.map (putOne g)
def setc (c : Int) (g : Gl) : Gl := ⟨g.id, c, g.ad, g.dx, g.dy, g.tw, g.hg, g.li, g.co, g.ma⟩
def recl (was c : Int) : List Gl → List Gl
  | [] => []
  | g :: r => if g.cl = was then setc c g :: recl was c r else g :: r
def fixG (out : List Gl) (at_ : Nat) (c : Int) : List Gl :=
  match out[at_]? with
  | some g => if c < g.cl then out.take at_ ++ recl g.cl c (out.drop at_) else out
  | none => out
def outG (gs : List Gl) (at_ : Nat) (g : Gl) (ids : List Int) : List Gl := gs.take at_ ++ putG g ids ++ gs.drop (at_ + 1)
def repG (gs : List Gl) (at_ : Nat) (ids : List Int) : List Gl :=
  match gs[at_]? with
  | some g => if ids.length = 0 then fixG (outG gs at_ g ids) at_ g.cl else outG gs at_ g ids
  | none => gs
theorem repG_of {gs : List Gl} {at_ : Nat} {g : Gl} (h : gs[at_]? = some g) (ids : List Int) : repG gs at_ ids = if ids.length = 0 then fixG (outG gs at_ g ids) at_ g.cl else outG gs at_ g ids := by
  unfold repG; rw [h]
theorem fixG_none {out : List Gl} {at_ : Nat} {c : Int} (h : out.length ≤ at_) : fixG out at_ c = out := by
  unfold fixG; rw [List.getElem?_eq_none h]
theorem fixG_no {out : List Gl} {at_ : Nat} {c : Int} {g : Gl} (h : out[at_]? = some g) (hc : ¬ c < g.cl) : fixG out at_ c = out := by
  unfold fixG; rw [h]; simp [hc]
theorem fixG_yes {out : List Gl} {at_ : Nat} {c : Int} {g : Gl} (h : out[at_]? = some g) (hc : c < g.cl) : fixG out at_ c = out.take at_ ++ recl g.cl c (out.drop at_) := by
  unfold fixG; rw [h]; simp [hc]
theorem recl_split {was c : Int} : ∀ {l : List Gl} {k : Nat}, (∀ g ∈ l.take k, g.cl = was) → (∀ g, l[k]? = some g → g.cl ≠ was) → recl was c l = (l.take k).map (setc c) ++ l.drop k
  | [], k, _, _ => by simp [recl]
  | g :: r, 0, _, h => by
    have := h g rfl
    simp [recl, this]
  | g :: r, k + 1, h1, h2 => by
    have hg : g.cl = was := h1 g (by simp)
    have := recl_split (was := was) (c := c) (l := r) (k := k) (fun x hx => h1 x (by simp [hx])) (fun x hx => h2 x (by simpa using hx))
    simp [recl, hg, this]
/-- how far the new cluster has been laid -/
def stage (out : List Gl) (at_ j : Nat) (c : Int) : List Gl := out.take at_ ++ ((out.drop at_).take (j - at_)).map (setc c) ++ out.drop j
theorem stage_start (out : List Gl) (at_ : Nat) (c : Int) : stage out at_ at_ c = out := by unfold stage; simp
theorem stage_length {out : List Gl} {at_ j : Nat} {c : Int} (h1 : at_ ≤ j) (h2 : j ≤ out.length) : (stage out at_ j c).length = out.length := by
  unfold stage
  rw [List.length_append, List.length_append, List.length_map, List.length_take, List.length_take, List.length_drop, List.length_drop]
  omega
theorem stage_at {out : List Gl} {at_ j : Nat} {c : Int} (_h1 : at_ ≤ j) (h2 : j < out.length) : stage out at_ j c = (out.take at_ ++ ((out.drop at_).take (j - at_)).map (setc c)) ++ out[j] :: out.drop (j + 1) := by
  unfold stage
  rw [List.drop_eq_getElem_cons h2]
theorem stage_next {out : List Gl} {at_ j : Nat} {c : Int} (h1 : at_ ≤ j) (h2 : j < out.length) : (out.take at_ ++ ((out.drop at_).take (j - at_)).map (setc c)) ++ setc c out[j] :: out.drop (j + 1) = stage out at_ (j + 1) c := by
  unfold stage
  have e : (out.drop at_).take (j + 1 - at_) = (out.drop at_).take (j - at_) ++ [out[j]] := by
    have hj : j - at_ < (out.drop at_).length := by rw [List.length_drop]; omega
    rw [show j + 1 - at_ = j - at_ + 1 by omega, List.take_succ_eq_append_getElem hj, List.getElem_drop]
    congr 3
    omega
  rw [e, List.map_append]
  simp
theorem stage_prefix {out : List Gl} {at_ j : Nat} {c : Int} (h1 : at_ ≤ j) (h2 : j < out.length) : (out.take at_ ++ ((out.drop at_).take (j - at_)).map (setc c)).length = j := by
  rw [List.length_append, List.length_map, List.length_take, List.length_take, List.length_drop]
  omega
theorem stage_end {out : List Gl} {at_ j : Nat} {c was : Int} {g : Gl} (h : out[at_]? = some g) (hw : g.cl = was) (hc : c < g.cl) (h1 : at_ ≤ j) (hall : ∀ t x, at_ ≤ t → t < j → out[t]? = some x → x.cl = was) (hend : ∀ x, out[j]? = some x → x.cl ≠ was) : fixG out at_ c = stage out at_ j c := by
  rw [fixG_yes h hc, hw, recl_split (k := j - at_)]
  · unfold stage
    rw [List.append_assoc, List.drop_drop]
    congr 3
    omega
  · intro x hx
    obtain ⟨t, ht, rfl⟩ := List.getElem_of_mem hx
    rw [List.length_take, List.length_drop] at ht
    rw [List.getElem_take, List.getElem_drop]
    exact hall (at_ + t) _ (by omega) (by omega) (List.getElem?_eq_getElem (by omega))
  · intro x hx
    rw [List.getElem?_drop, show at_ + (j - at_) = j by omega] at hx
    exact hend x hx

section
variable {w : World} {B base : Nat} {A : Option Addr} {n c : Nat} {gs : List Gl}
theorem GlsR.zero {a : Addr} (hc : c ≤ maxLen) : GlsR w B (some a) 0 c [] := ⟨rfl, Nat.zero_le _, hc, (fun h => by cases h), (fun h => by omega)⟩
theorem GlsR.one {b o k : Nat} {g : Gl} (h : GlsR w B (some ⟨b, o, none⟩) n c gs) (hk : k < n) (hg : gs[k]? = some g) : GlsR w B (some ⟨b, o + k * 10, none⟩) 1 (c - k) [g] := by
  have h1 := h.part (i := k) (j := k + 1) (by omega) (by omega)
  have e : (gs.drop k).take (k + 1 - k) = [g] := by
    have hkl : k < gs.length := by rw [h.1]; exact hk
    have hd : gs.drop k = gs[k] :: gs.drop (k + 1) := List.drop_eq_getElem_cons hkl
    rw [List.getElem?_eq_getElem hkl] at hg
    cases hg
    rw [show k + 1 - k = 1 by omega, hd]
    rfl
  rw [e, show k + 1 - k = 1 by omega] at h1
  exact h1
theorem GlsR.front {b o k : Nat} (h : GlsR w B (some ⟨b, o, none⟩) n c gs) (hk : k ≤ n) : GlsR w B (some ⟨b, o, none⟩) k c (gs.take k) := by
  have h1 := h.part (i := 0) (j := k) (by omega) hk
  simpa using h1
theorem GlsR.back {b o k : Nat} (h : GlsR w B (some ⟨b, o, none⟩) n c gs) (hk : k ≤ n) : GlsR w B (some ⟨b, o + k * 10, none⟩) (n - k) (c - k) (gs.drop k) := by
  have h1 := h.part (i := k) (j := n) hk (Nat.le_refl _)
  rw [List.take_of_length_le (by rw [List.length_drop, h.1]; exact Nat.le_refl _)] at h1
  exact h1
/-- an element of a row of the call's own -/
theorem GRow.at_ (h : GRow w base A n c gs) {k : Nat} (hk : k < n) : ∃ b g, A = some ⟨b, 0, none⟩ ∧ base ≤ b ∧ b < w.heap.size ∧ gs[k]? = some g ∧ w.cell? ⟨b, k * 10 + 1, none⟩ = some (.int .i64 g.cl) ∧ w.frozen? ⟨b, k * 10 + 1, none⟩ = false := by
  obtain ⟨b, rfl, h1, h2, cur, h3, _⟩ := h.form (.inl (by omega))
  obtain ⟨b', o, g, e, _, hg, _, hc, _⟩ := h.gls.at_ hk
  obtain ⟨b2, e2, _, _, cur2, h32, hl2, ht2⟩ := h.form (.inl (by omega))
  cases e2
  refine ⟨b, g, rfl, h1, h2, hg, ?_, frozen_of_row _ _ _ _ _ h3⟩
  rw [cell_of_row _ _ _ _ _ _ h32]
  have hx : (glCells gs)[k * 10 + 1]? = some (.int .i64 g.cl) := by rw [glCells_at hg (by omega)]; rfl
  rw [← ht2, List.getElem?_take_of_lt (by omega)] at hx
  simpa using hx
/-- a store into a glyph's cluster -/
theorem GRow.put {b k : Nat} {pre r : List Gl} {x : Gl} (h : GRow w base (some ⟨b, 0, none⟩) n c (pre ++ x :: r)) (hk : pre.length = k) (y : Int) : GRow (w.setCell ⟨b, k * 10 + 1, none⟩ (.int .i64 y)) base (some ⟨b, 0, none⟩) n c (pre ++ setc y x :: r) := by
  subst hk
  refine ⟨by have := h.1; simp at this ⊢; omega, ?_⟩
  have h1 := (World.ownsRow.stored h.2 (pre.length * 10 + 1) (.int .i64 y)).1
  have h2 : (glCells (pre ++ x :: r)).set (pre.length * 10 + 1) (.int .i64 y) = glCells (pre ++ setc y x :: r) := by
    have e1 : glCells (pre ++ x :: r) = glCells pre ++ (x.cells ++ glCells r) := by rw [glCells_append]; rfl
    have e2 : glCells (pre ++ setc y x :: r) = glCells pre ++ ((setc y x).cells ++ glCells r) := by rw [glCells_append]; rfl
    rw [e1, e2, List.set_append_right _ _ (by rw [glCells_length]; omega), glCells_length, show pre.length * 10 + 1 - pre.length * 10 = 1 by omega]
    rfl
  rw [h2] at h1
  exact h1
end

end Go.Proofs.Ytbjeflblhjfagaa
