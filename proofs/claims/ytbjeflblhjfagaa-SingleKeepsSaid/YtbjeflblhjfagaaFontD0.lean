/- Subtables and lookups as they are handed on. No condition. Printed by wip/tools/g27d.py. -/
import Derived.Test.YtbjeflblhjfagaaFontC
namespace Go.Proofs.Ytbjeflblhjfagaa
open Go.RowKit

structure Sl where
  A : Option Addr
  n : Nat
  c : Nat
/-- a subtable -/
structure Sb where
  co : Sl
  tt : Sl
  li : Sl
  ba : Sl
  inn : Sl
  ah : Sl
  ne : Sl
  va : Sl
  pr : Sl
  cu : Sl
  ma : Sl
  ho : Sl
/-- a lookup -/
structure Lk where
  ki : Int
  fl : Int
  se : Int
  su : Sl
structure SbOk (w : World) (B : Nat) (s : Sb) : Prop where
  co : ShSl w B (Sh.int .i64) s.co.A s.co.n s.co.c
  tt : ShSl w B shInts s.tt.A s.tt.n s.tt.c
  li : ShSl w B (Sh.sl shLig) s.li.A s.li.n s.li.c
  ba : ShSl w B shInts s.ba.A s.ba.n s.ba.c
  inn : ShSl w B shInts s.inn.A s.inn.n s.inn.c
  ah : ShSl w B shInts s.ah.A s.ah.n s.ah.c
  ne : ShSl w B shNest s.ne.A s.ne.n s.ne.c
  va : ShSl w B shValue s.va.A s.va.n s.va.c
  pr : ShSl w B shPair s.pr.A s.pr.n s.pr.c
  cu : ShSl w B shCurs s.cu.A s.cu.n s.cu.c
  ma : ShSl w B shMarkAt s.ma.A s.ma.n s.ma.c
  ho : ShSl w B shHost s.ho.A s.ho.n s.ho.c
def LkOk (w : World) (B : Nat) (l : Lk) : Prop := ShSl w B shSub l.su.A l.su.n l.su.c
theorem SbOk.below {w w' : World} {B : Nat} {s : Sb} (h : SbOk w B s) (hb : Below B w w') : SbOk w' B s := ⟨h.co.below hb, h.tt.below hb, h.li.below hb, h.ba.below hb, h.inn.below hb, h.ah.below hb, h.ne.below hb, h.va.below hb, h.pr.below hb, h.cu.below hb, h.ma.below hb, h.ho.below hb⟩
theorem LkOk.below {w w' : World} {B : Nat} {l : Lk} (h : LkOk w B l) (hb : Below B w w') : LkOk w' B l := ShSl.below h hb
def SBox (w : World) (b : Nat) (s : Sb) : Prop := w.heap[b]? = some (.cells #[.slice s.co.A s.co.n s.co.c, .slice s.tt.A s.tt.n s.tt.c, .slice s.li.A s.li.n s.li.c, .slice s.ba.A s.ba.n s.ba.c, .slice s.inn.A s.inn.n s.inn.c, .slice s.ah.A s.ah.n s.ah.c, .slice s.ne.A s.ne.n s.ne.c, .slice s.va.A s.va.n s.va.c, .slice s.pr.A s.pr.n s.pr.c, .slice s.cu.A s.cu.n s.cu.c, .slice s.ma.A s.ma.n s.ma.c, .slice s.ho.A s.ho.n s.ho.c] 62 (0, 0))
def KBox (w : World) (b : Nat) (l : Lk) : Prop := w.heap[b]? = some (.cells #[.int .i64 l.ki, .int .i64 l.fl, .int .i64 l.se, .slice l.su.A l.su.n l.su.c] 31 (0, 0))
theorem SBox.cells {w : World} {b : Nat} {s : Sb} (h : SBox w b s) : w.cell? ⟨b, 0, none⟩ = some (.slice s.co.A s.co.n s.co.c) ∧ w.cell? ⟨b, 1, none⟩ = some (.slice s.tt.A s.tt.n s.tt.c) ∧ w.cell? ⟨b, 2, none⟩ = some (.slice s.li.A s.li.n s.li.c) ∧ w.cell? ⟨b, 3, none⟩ = some (.slice s.ba.A s.ba.n s.ba.c) ∧ w.cell? ⟨b, 4, none⟩ = some (.slice s.inn.A s.inn.n s.inn.c) ∧ w.cell? ⟨b, 5, none⟩ = some (.slice s.ah.A s.ah.n s.ah.c) ∧ w.cell? ⟨b, 6, none⟩ = some (.slice s.ne.A s.ne.n s.ne.c) ∧ w.cell? ⟨b, 7, none⟩ = some (.slice s.va.A s.va.n s.va.c) ∧ w.cell? ⟨b, 8, none⟩ = some (.slice s.pr.A s.pr.n s.pr.c) ∧ w.cell? ⟨b, 9, none⟩ = some (.slice s.cu.A s.cu.n s.cu.c) ∧ w.cell? ⟨b, 10, none⟩ = some (.slice s.ma.A s.ma.n s.ma.c) ∧ w.cell? ⟨b, 11, none⟩ = some (.slice s.ho.A s.ho.n s.ho.c) :=
  ⟨by rw [cell_of_row _ _ 0 _ _ _ h]; rfl, by rw [cell_of_row _ _ 1 _ _ _ h]; rfl, by rw [cell_of_row _ _ 2 _ _ _ h]; rfl, by rw [cell_of_row _ _ 3 _ _ _ h]; rfl, by rw [cell_of_row _ _ 4 _ _ _ h]; rfl, by rw [cell_of_row _ _ 5 _ _ _ h]; rfl, by rw [cell_of_row _ _ 6 _ _ _ h]; rfl, by rw [cell_of_row _ _ 7 _ _ _ h]; rfl, by rw [cell_of_row _ _ 8 _ _ _ h]; rfl, by rw [cell_of_row _ _ 9 _ _ _ h]; rfl, by rw [cell_of_row _ _ 10 _ _ _ h]; rfl, by rw [cell_of_row _ _ 11 _ _ _ h]; rfl⟩
theorem KBox.cells {w : World} {b : Nat} {l : Lk} (h : KBox w b l) : w.cell? ⟨b, 0, none⟩ = some (.int .i64 l.ki) ∧ w.cell? ⟨b, 1, none⟩ = some (.int .i64 l.fl) ∧ w.cell? ⟨b, 2, none⟩ = some (.int .i64 l.se) ∧ w.cell? ⟨b, 3, none⟩ = some (.slice l.su.A l.su.n l.su.c) :=
  ⟨by rw [cell_of_row _ _ 0 _ _ _ h]; rfl, by rw [cell_of_row _ _ 1 _ _ _ h]; rfl, by rw [cell_of_row _ _ 2 _ _ _ h]; rfl, by rw [cell_of_row _ _ 3 _ _ _ h]; rfl⟩
/-- a subtable of a slice of subtables -/
theorem ShSl.sub {w : World} {B : Nat} {A : Option Addr} {n c k : Nat} (h : ShSl w B shSub A n c) (hk : k < n) : ∃ (b o : Nat) (s : Sb), A = some ⟨b, o, none⟩ ∧ b < B ∧ (w.cell? ⟨b, o + k * 12, none⟩ = some (.slice s.co.A s.co.n s.co.c) ∧ w.cell? ⟨b, o + k * 12 + 1, none⟩ = some (.slice s.tt.A s.tt.n s.tt.c) ∧ w.cell? ⟨b, o + k * 12 + 2, none⟩ = some (.slice s.li.A s.li.n s.li.c) ∧ w.cell? ⟨b, o + k * 12 + 3, none⟩ = some (.slice s.ba.A s.ba.n s.ba.c) ∧ w.cell? ⟨b, o + k * 12 + 4, none⟩ = some (.slice s.inn.A s.inn.n s.inn.c) ∧ w.cell? ⟨b, o + k * 12 + 5, none⟩ = some (.slice s.ah.A s.ah.n s.ah.c) ∧ w.cell? ⟨b, o + k * 12 + 6, none⟩ = some (.slice s.ne.A s.ne.n s.ne.c) ∧ w.cell? ⟨b, o + k * 12 + 7, none⟩ = some (.slice s.va.A s.va.n s.va.c) ∧ w.cell? ⟨b, o + k * 12 + 8, none⟩ = some (.slice s.pr.A s.pr.n s.pr.c) ∧ w.cell? ⟨b, o + k * 12 + 9, none⟩ = some (.slice s.cu.A s.cu.n s.cu.c) ∧ w.cell? ⟨b, o + k * 12 + 10, none⟩ = some (.slice s.ma.A s.ma.n s.ma.c) ∧ w.cell? ⟨b, o + k * 12 + 11, none⟩ = some (.slice s.ho.A s.ho.n s.ho.c)) ∧ SbOk w B s := by
  obtain ⟨b, o, Aco, nco, cco, Ato, nto, cto, Ali, nli, cli, Aba, nba, cba, Ain, nin, cin, Aah, nah, cah, Ane, nne, cne, Ava, nva, cva, Apr, npr, cpr, Acu, ncu, ccu, Ama, nma, cma, Aho, nho, cho, e, hb, hc, h0, h1, h2, h3, h4, h5, h6, h7, h8, h9, h10, h11⟩ := h.atSub hk
  exact ⟨b, o, ⟨⟨Aco, nco, cco⟩, ⟨Ato, nto, cto⟩, ⟨Ali, nli, cli⟩, ⟨Aba, nba, cba⟩, ⟨Ain, nin, cin⟩, ⟨Aah, nah, cah⟩, ⟨Ane, nne, cne⟩, ⟨Ava, nva, cva⟩, ⟨Apr, npr, cpr⟩, ⟨Acu, ncu, ccu⟩, ⟨Ama, nma, cma⟩, ⟨Aho, nho, cho⟩⟩, e, hb, hc, h0, h1, h2, h3, h4, h5, h6, h7, h8, h9, h10, h11⟩
theorem ShSl.look {w : World} {B : Nat} {A : Option Addr} {n c k : Nat} (h : ShSl w B shLookup A n c) (hk : k < n) : ∃ (b o : Nat) (l : Lk), A = some ⟨b, o, none⟩ ∧ b < B ∧ (w.cell? ⟨b, o + k * 4, none⟩ = some (.int .i64 l.ki) ∧ w.cell? ⟨b, o + k * 4 + 1, none⟩ = some (.int .i64 l.fl) ∧ w.cell? ⟨b, o + k * 4 + 2, none⟩ = some (.int .i64 l.se) ∧ w.cell? ⟨b, o + k * 4 + 3, none⟩ = some (.slice l.su.A l.su.n l.su.c)) ∧ LkOk w B l := by
  obtain ⟨b, o, ki, fl, se, Asu, nsu, csu, e, hb, hc, _, _, _, h0⟩ := h.atLookup hk
  exact ⟨b, o, ⟨ki, fl, se, ⟨Asu, nsu, csu⟩⟩, e, hb, hc, h0⟩

end Go.Proofs.Ytbjeflblhjfagaa
