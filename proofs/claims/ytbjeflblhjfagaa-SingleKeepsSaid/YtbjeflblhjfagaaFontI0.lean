/- Lookups as plain lists. No condition. Printed by wip/tools/g27i.py. -/
import Derived.Test.YtbjeflblhjfagaaFontH
namespace Go.Proofs.Ytbjeflblhjfagaa
open Go.RowKit

/-- a subtable's cover and what it becomes -/
abbrev PS := List Int × List (List Int)
/-- a lookup's kind and its subtables -/
abbrev PL := Int × List PS
def nS : PS := ([], [])
def nL : PL := (0, [])
/-- a slice of subtables reads as a list -/
def SubsR (w : World) (B : Nat) (A : Option Addr) (n c : Nat) (ps : List PS) : Prop :=
  ps.length = n ∧ n ≤ c ∧ c ≤ maxLen ∧ ∀ k, k < n → ∃ (b o : Nat) (s : Sb), A = some ⟨b, o, none⟩ ∧ b < B ∧ (w.cell? ⟨b, o + k * 12, none⟩ = some (.slice s.co.A s.co.n s.co.c) ∧ w.cell? ⟨b, o + k * 12 + 1, none⟩ = some (.slice s.tt.A s.tt.n s.tt.c) ∧ w.cell? ⟨b, o + k * 12 + 2, none⟩ = some (.slice s.li.A s.li.n s.li.c) ∧ w.cell? ⟨b, o + k * 12 + 3, none⟩ = some (.slice s.ba.A s.ba.n s.ba.c) ∧ w.cell? ⟨b, o + k * 12 + 4, none⟩ = some (.slice s.inn.A s.inn.n s.inn.c) ∧ w.cell? ⟨b, o + k * 12 + 5, none⟩ = some (.slice s.ah.A s.ah.n s.ah.c) ∧ w.cell? ⟨b, o + k * 12 + 6, none⟩ = some (.slice s.ne.A s.ne.n s.ne.c) ∧ w.cell? ⟨b, o + k * 12 + 7, none⟩ = some (.slice s.va.A s.va.n s.va.c) ∧ w.cell? ⟨b, o + k * 12 + 8, none⟩ = some (.slice s.pr.A s.pr.n s.pr.c) ∧ w.cell? ⟨b, o + k * 12 + 9, none⟩ = some (.slice s.cu.A s.cu.n s.cu.c) ∧ w.cell? ⟨b, o + k * 12 + 10, none⟩ = some (.slice s.ma.A s.ma.n s.ma.c) ∧ w.cell? ⟨b, o + k * 12 + 11, none⟩ = some (.slice s.ho.A s.ho.n s.ho.c)) ∧ SbOk w B s ∧ Ints w B s.co.A s.co.n s.co.c (ps.getD k nS).1 ∧ Grd w B s.tt.A s.tt.n s.tt.c (ps.getD k nS).2
theorem SubsR.below {w w' : World} {B : Nat} {A : Option Addr} {n c : Nat} {ps : List PS} (h : SubsR w B A n c ps) (hb : Below B w w') : SubsR w' B A n c ps :=
  ⟨h.1, h.2.1, h.2.2.1, fun k hk => by
    obtain ⟨b, o, s, e, h1, ⟨c0, c1, c2, c3, c4, c5, c6, c7, c8, c9, c10, c11⟩, h2, h3, h4⟩ := h.2.2.2 k hk
    exact ⟨b, o, s, e, h1, ⟨(hb.cell (p := ⟨b, o + k * 12, none⟩) h1).trans c0, (hb.cell (p := ⟨b, o + k * 12 + 1, none⟩) h1).trans c1, (hb.cell (p := ⟨b, o + k * 12 + 2, none⟩) h1).trans c2, (hb.cell (p := ⟨b, o + k * 12 + 3, none⟩) h1).trans c3, (hb.cell (p := ⟨b, o + k * 12 + 4, none⟩) h1).trans c4, (hb.cell (p := ⟨b, o + k * 12 + 5, none⟩) h1).trans c5, (hb.cell (p := ⟨b, o + k * 12 + 6, none⟩) h1).trans c6, (hb.cell (p := ⟨b, o + k * 12 + 7, none⟩) h1).trans c7, (hb.cell (p := ⟨b, o + k * 12 + 8, none⟩) h1).trans c8, (hb.cell (p := ⟨b, o + k * 12 + 9, none⟩) h1).trans c9, (hb.cell (p := ⟨b, o + k * 12 + 10, none⟩) h1).trans c10, (hb.cell (p := ⟨b, o + k * 12 + 11, none⟩) h1).trans c11⟩, h2.below hb, h3.below hb, h4.below hb⟩⟩
theorem SubsR.cap {w : World} {B : Nat} {A : Option Addr} {n c : Nat} {ps : List PS} (h : SubsR w B A n c ps) : n ≤ c ∧ c ≤ 9223372036854775807 := by
  have := h.2.2.1; unfold maxLen at this; exact ⟨h.2.1, this⟩
theorem ShSl.subs {w : World} {B : Nat} {A : Option Addr} {n c : Nat} (h : ShSl w B shSub A n c) : ∃ ps, SubsR w B A n c ps := by
  obtain ⟨h1, h2, _⟩ := h.open_
  have h5 : ∀ k, k < n → ∃ p : PS, ∃ (b o : Nat) (s : Sb), A = some ⟨b, o, none⟩ ∧ b < B ∧ (w.cell? ⟨b, o + k * 12, none⟩ = some (.slice s.co.A s.co.n s.co.c) ∧ w.cell? ⟨b, o + k * 12 + 1, none⟩ = some (.slice s.tt.A s.tt.n s.tt.c) ∧ w.cell? ⟨b, o + k * 12 + 2, none⟩ = some (.slice s.li.A s.li.n s.li.c) ∧ w.cell? ⟨b, o + k * 12 + 3, none⟩ = some (.slice s.ba.A s.ba.n s.ba.c) ∧ w.cell? ⟨b, o + k * 12 + 4, none⟩ = some (.slice s.inn.A s.inn.n s.inn.c) ∧ w.cell? ⟨b, o + k * 12 + 5, none⟩ = some (.slice s.ah.A s.ah.n s.ah.c) ∧ w.cell? ⟨b, o + k * 12 + 6, none⟩ = some (.slice s.ne.A s.ne.n s.ne.c) ∧ w.cell? ⟨b, o + k * 12 + 7, none⟩ = some (.slice s.va.A s.va.n s.va.c) ∧ w.cell? ⟨b, o + k * 12 + 8, none⟩ = some (.slice s.pr.A s.pr.n s.pr.c) ∧ w.cell? ⟨b, o + k * 12 + 9, none⟩ = some (.slice s.cu.A s.cu.n s.cu.c) ∧ w.cell? ⟨b, o + k * 12 + 10, none⟩ = some (.slice s.ma.A s.ma.n s.ma.c) ∧ w.cell? ⟨b, o + k * 12 + 11, none⟩ = some (.slice s.ho.A s.ho.n s.ho.c)) ∧ SbOk w B s ∧ Ints w B s.co.A s.co.n s.co.c p.1 ∧ Grd w B s.tt.A s.tt.n s.tt.c p.2 := fun k hk => by
    obtain ⟨b, o, s, e, hb, hc, hs⟩ := h.sub hk
    obtain ⟨zs, hz⟩ := hs.co.ints
    obtain ⟨zss, hzs⟩ := hs.tt.grd
    exact ⟨(zs, zss), b, o, s, e, hb, hc, hs, hz, hzs⟩
  obtain ⟨f, hf⟩ : ∃ f : Nat → PS, ∀ k, k < n → ∃ (b o : Nat) (s : Sb), A = some ⟨b, o, none⟩ ∧ b < B ∧ (w.cell? ⟨b, o + k * 12, none⟩ = some (.slice s.co.A s.co.n s.co.c) ∧ w.cell? ⟨b, o + k * 12 + 1, none⟩ = some (.slice s.tt.A s.tt.n s.tt.c) ∧ w.cell? ⟨b, o + k * 12 + 2, none⟩ = some (.slice s.li.A s.li.n s.li.c) ∧ w.cell? ⟨b, o + k * 12 + 3, none⟩ = some (.slice s.ba.A s.ba.n s.ba.c) ∧ w.cell? ⟨b, o + k * 12 + 4, none⟩ = some (.slice s.inn.A s.inn.n s.inn.c) ∧ w.cell? ⟨b, o + k * 12 + 5, none⟩ = some (.slice s.ah.A s.ah.n s.ah.c) ∧ w.cell? ⟨b, o + k * 12 + 6, none⟩ = some (.slice s.ne.A s.ne.n s.ne.c) ∧ w.cell? ⟨b, o + k * 12 + 7, none⟩ = some (.slice s.va.A s.va.n s.va.c) ∧ w.cell? ⟨b, o + k * 12 + 8, none⟩ = some (.slice s.pr.A s.pr.n s.pr.c) ∧ w.cell? ⟨b, o + k * 12 + 9, none⟩ = some (.slice s.cu.A s.cu.n s.cu.c) ∧ w.cell? ⟨b, o + k * 12 + 10, none⟩ = some (.slice s.ma.A s.ma.n s.ma.c) ∧ w.cell? ⟨b, o + k * 12 + 11, none⟩ = some (.slice s.ho.A s.ho.n s.ho.c)) ∧ SbOk w B s ∧ Ints w B s.co.A s.co.n s.co.c (f k).1 ∧ Grd w B s.tt.A s.tt.n s.tt.c (f k).2 := by
    refine ⟨fun k => if hk : k < n then (h5 k hk).choose else nS, fun k hk => ?_⟩
    simp only [hk, dite_true]
    exact (h5 k hk).choose_spec
  refine ⟨(List.range n).map f, by simp, h1, h2, fun k hk => ?_⟩
  have e : ((List.range n).map f).getD k nS = f k := by
    rw [List.getD_eq_getElem?_getD, List.getElem?_map, List.getElem?_range hk]; rfl
  rw [e]
  exact hf k hk
/-- a slice of lookups reads as a list -/
def LksR (w : World) (B : Nat) (A : Option Addr) (n c : Nat) (ls : List PL) : Prop :=
  ls.length = n ∧ n ≤ c ∧ c ≤ maxLen ∧ ∀ k, k < n → ∃ (b o : Nat) (l : Lk), A = some ⟨b, o, none⟩ ∧ b < B ∧ (w.cell? ⟨b, o + k * 4, none⟩ = some (.int .i64 l.ki) ∧ w.cell? ⟨b, o + k * 4 + 1, none⟩ = some (.int .i64 l.fl) ∧ w.cell? ⟨b, o + k * 4 + 2, none⟩ = some (.int .i64 l.se) ∧ w.cell? ⟨b, o + k * 4 + 3, none⟩ = some (.slice l.su.A l.su.n l.su.c)) ∧ l.ki = (ls.getD k nL).1 ∧ SubsR w B l.su.A l.su.n l.su.c (ls.getD k nL).2
theorem LksR.below {w w' : World} {B : Nat} {A : Option Addr} {n c : Nat} {ls : List PL} (h : LksR w B A n c ls) (hb : Below B w w') : LksR w' B A n c ls :=
  ⟨h.1, h.2.1, h.2.2.1, fun k hk => by
    obtain ⟨b, o, l, e, h1, ⟨c0, c1, c2, c3⟩, h2, h3⟩ := h.2.2.2 k hk
    exact ⟨b, o, l, e, h1, ⟨(hb.cell (p := ⟨b, o + k * 4, none⟩) h1).trans c0, (hb.cell (p := ⟨b, o + k * 4 + 1, none⟩) h1).trans c1, (hb.cell (p := ⟨b, o + k * 4 + 2, none⟩) h1).trans c2, (hb.cell (p := ⟨b, o + k * 4 + 3, none⟩) h1).trans c3⟩, h2, h3.below hb⟩⟩
theorem LksR.cap {w : World} {B : Nat} {A : Option Addr} {n c : Nat} {ls : List PL} (h : LksR w B A n c ls) : n ≤ c ∧ c ≤ 9223372036854775807 := by
  have := h.2.2.1; unfold maxLen at this; exact ⟨h.2.1, this⟩
theorem ShSl.lks {w : World} {B : Nat} {A : Option Addr} {n c : Nat} (h : ShSl w B shLookup A n c) : ∃ ls, LksR w B A n c ls := by
  obtain ⟨h1, h2, _⟩ := h.open_
  have h5 : ∀ k, k < n → ∃ p : PL, ∃ (b o : Nat) (l : Lk), A = some ⟨b, o, none⟩ ∧ b < B ∧ (w.cell? ⟨b, o + k * 4, none⟩ = some (.int .i64 l.ki) ∧ w.cell? ⟨b, o + k * 4 + 1, none⟩ = some (.int .i64 l.fl) ∧ w.cell? ⟨b, o + k * 4 + 2, none⟩ = some (.int .i64 l.se) ∧ w.cell? ⟨b, o + k * 4 + 3, none⟩ = some (.slice l.su.A l.su.n l.su.c)) ∧ l.ki = p.1 ∧ SubsR w B l.su.A l.su.n l.su.c p.2 := fun k hk => by
    obtain ⟨b, o, l, e, hb, hc, hs⟩ := h.look hk
    obtain ⟨ps, hp⟩ := ShSl.subs hs
    exact ⟨(l.ki, ps), b, o, l, e, hb, hc, rfl, hp⟩
  obtain ⟨f, hf⟩ : ∃ f : Nat → PL, ∀ k, k < n → ∃ (b o : Nat) (l : Lk), A = some ⟨b, o, none⟩ ∧ b < B ∧ (w.cell? ⟨b, o + k * 4, none⟩ = some (.int .i64 l.ki) ∧ w.cell? ⟨b, o + k * 4 + 1, none⟩ = some (.int .i64 l.fl) ∧ w.cell? ⟨b, o + k * 4 + 2, none⟩ = some (.int .i64 l.se) ∧ w.cell? ⟨b, o + k * 4 + 3, none⟩ = some (.slice l.su.A l.su.n l.su.c)) ∧ l.ki = (f k).1 ∧ SubsR w B l.su.A l.su.n l.su.c (f k).2 := by
    refine ⟨fun k => if hk : k < n then (h5 k hk).choose else nL, fun k hk => ?_⟩
    simp only [hk, dite_true]
    exact (h5 k hk).choose_spec
  refine ⟨(List.range n).map f, by simp, h1, h2, fun k hk => ?_⟩
  have e : ((List.range n).map f).getD k nL = f k := by
    rw [List.getD_eq_getElem?_getD, List.getElem?_map, List.getElem?_range hk]; rfl
  rw [e]
  exact hf k hk
/-- what the check of lookups tells -/
def LkOne (p : PL) : Prop := p.2.length ≤ 64 ∧ ∀ j, j < p.2.length → SubP p.1 (p.2.getD j nS).1 (p.2.getD j nS).2 true
def LkP (ls : List PL) (b : Bool) : Prop := b = true → ∀ k, k < ls.length → LkOne (ls.getD k nL)
theorem LkP.false {ls : List PL} : LkP ls false := fun h => by cases h

end Go.Proofs.Ytbjeflblhjfagaa
