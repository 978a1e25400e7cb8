/- Joined: FontI0 Mid Up FontL Rd SingP. -/
import Derived.Test.YtngdolmmaiogiaaJ01
import Derived.WalkKit
import Derived.Orders
import Derived.Deep.QuietTactic
import Derived.BigQuiet
import Derived.Lib.Hide
import Derived.Below
import Derived.Deep.DeepCutAuto
import Derived.Deep.RegionWith
import Derived.StillTailTactics

/- Subtables, lookups and lists of lists as plain data; what is known of a lookup. No condition. -/
namespace Go.Proofs.Ytngdolmmaiogiaa
open Go.RowKit

structure Sl where
  A : Option Addr
  n : Nat
  c : Nat
/-- a subtable -/
structure Sb where
  co : Sl
  tt : Sl
  li : Sl
  ba : Sl
  inn : Sl
  ah : Sl
  ne : Sl
  va : Sl
  pr : Sl
  cu : Sl
  ma : Sl
  ho : Sl
/-- a lookup -/
structure Lk where
  ki : Int
  fl : Int
  se : Int
  su : Sl
structure SbOk (w : World) (B : Nat) (s : Sb) : Prop where
  co : ShSl w B (Sh.int .i64) s.co.A s.co.n s.co.c
  tt : ShSl w B shInts s.tt.A s.tt.n s.tt.c
  li : ShSl w B (Sh.sl shLig) s.li.A s.li.n s.li.c
  ba : ShSl w B shInts s.ba.A s.ba.n s.ba.c
  inn : ShSl w B shInts s.inn.A s.inn.n s.inn.c
  ah : ShSl w B shInts s.ah.A s.ah.n s.ah.c
  ne : ShSl w B shNest s.ne.A s.ne.n s.ne.c
  va : ShSl w B shValue s.va.A s.va.n s.va.c
  pr : ShSl w B shPair s.pr.A s.pr.n s.pr.c
  cu : ShSl w B shCurs s.cu.A s.cu.n s.cu.c
  ma : ShSl w B shMarkAt s.ma.A s.ma.n s.ma.c
  ho : ShSl w B shHost s.ho.A s.ho.n s.ho.c
def LkOk (w : World) (B : Nat) (l : Lk) : Prop := ShSl w B shSub l.su.A l.su.n l.su.c
theorem SbOk.below {w w' : World} {B : Nat} {s : Sb} (h : SbOk w B s) (hb : Below B w w') : SbOk w' B s := ⟨h.co.below hb, h.tt.below hb, h.li.below hb, h.ba.below hb, h.inn.below hb, h.ah.below hb, h.ne.below hb, h.va.below hb, h.pr.below hb, h.cu.below hb, h.ma.below hb, h.ho.below hb⟩
theorem LkOk.below {w w' : World} {B : Nat} {l : Lk} (h : LkOk w B l) (hb : Below B w w') : LkOk w' B l := ShSl.below h hb
def SBox (w : World) (b : Nat) (s : Sb) : Prop := w.heap[b]? = some (.cells #[.slice s.co.A s.co.n s.co.c, .slice s.tt.A s.tt.n s.tt.c, .slice s.li.A s.li.n s.li.c, .slice s.ba.A s.ba.n s.ba.c, .slice s.inn.A s.inn.n s.inn.c, .slice s.ah.A s.ah.n s.ah.c, .slice s.ne.A s.ne.n s.ne.c, .slice s.va.A s.va.n s.va.c, .slice s.pr.A s.pr.n s.pr.c, .slice s.cu.A s.cu.n s.cu.c, .slice s.ma.A s.ma.n s.ma.c, .slice s.ho.A s.ho.n s.ho.c] 60 (0, 0))
def KBox (w : World) (b : Nat) (l : Lk) : Prop := w.heap[b]? = some (.cells #[.int .i64 l.ki, .int .i64 l.fl, .int .i64 l.se, .slice l.su.A l.su.n l.su.c] 36 (0, 0))
theorem SBox.cells {w : World} {b : Nat} {s : Sb} (h : SBox w b s) : w.cell? ⟨b, 0, none⟩ = some (.slice s.co.A s.co.n s.co.c) ∧ w.cell? ⟨b, 1, none⟩ = some (.slice s.tt.A s.tt.n s.tt.c) ∧ w.cell? ⟨b, 2, none⟩ = some (.slice s.li.A s.li.n s.li.c) ∧ w.cell? ⟨b, 3, none⟩ = some (.slice s.ba.A s.ba.n s.ba.c) ∧ w.cell? ⟨b, 4, none⟩ = some (.slice s.inn.A s.inn.n s.inn.c) ∧ w.cell? ⟨b, 5, none⟩ = some (.slice s.ah.A s.ah.n s.ah.c) ∧ w.cell? ⟨b, 6, none⟩ = some (.slice s.ne.A s.ne.n s.ne.c) ∧ w.cell? ⟨b, 7, none⟩ = some (.slice s.va.A s.va.n s.va.c) ∧ w.cell? ⟨b, 8, none⟩ = some (.slice s.pr.A s.pr.n s.pr.c) ∧ w.cell? ⟨b, 9, none⟩ = some (.slice s.cu.A s.cu.n s.cu.c) ∧ w.cell? ⟨b, 10, none⟩ = some (.slice s.ma.A s.ma.n s.ma.c) ∧ w.cell? ⟨b, 11, none⟩ = some (.slice s.ho.A s.ho.n s.ho.c) :=
  ⟨by rw [cell_of_row _ _ 0 _ _ _ h]; rfl, by rw [cell_of_row _ _ 1 _ _ _ h]; rfl, by rw [cell_of_row _ _ 2 _ _ _ h]; rfl, by rw [cell_of_row _ _ 3 _ _ _ h]; rfl, by rw [cell_of_row _ _ 4 _ _ _ h]; rfl, by rw [cell_of_row _ _ 5 _ _ _ h]; rfl, by rw [cell_of_row _ _ 6 _ _ _ h]; rfl, by rw [cell_of_row _ _ 7 _ _ _ h]; rfl, by rw [cell_of_row _ _ 8 _ _ _ h]; rfl, by rw [cell_of_row _ _ 9 _ _ _ h]; rfl, by rw [cell_of_row _ _ 10 _ _ _ h]; rfl, by rw [cell_of_row _ _ 11 _ _ _ h]; rfl⟩
theorem KBox.cells {w : World} {b : Nat} {l : Lk} (h : KBox w b l) : w.cell? ⟨b, 0, none⟩ = some (.int .i64 l.ki) ∧ w.cell? ⟨b, 1, none⟩ = some (.int .i64 l.fl) ∧ w.cell? ⟨b, 2, none⟩ = some (.int .i64 l.se) ∧ w.cell? ⟨b, 3, none⟩ = some (.slice l.su.A l.su.n l.su.c) :=
  ⟨by rw [cell_of_row _ _ 0 _ _ _ h]; rfl, by rw [cell_of_row _ _ 1 _ _ _ h]; rfl, by rw [cell_of_row _ _ 2 _ _ _ h]; rfl, by rw [cell_of_row _ _ 3 _ _ _ h]; rfl⟩
/-- a subtable of a slice of subtables -/
theorem ShSl.sub {w : World} {B : Nat} {A : Option Addr} {n c k : Nat} (h : ShSl w B shSub A n c) (hk : k < n) : ∃ (b o : Nat) (s : Sb), A = some ⟨b, o, none⟩ ∧ b < B ∧ (w.cell? ⟨b, o + k * 12, none⟩ = some (.slice s.co.A s.co.n s.co.c) ∧ w.cell? ⟨b, o + k * 12 + 1, none⟩ = some (.slice s.tt.A s.tt.n s.tt.c) ∧ w.cell? ⟨b, o + k * 12 + 2, none⟩ = some (.slice s.li.A s.li.n s.li.c) ∧ w.cell? ⟨b, o + k * 12 + 3, none⟩ = some (.slice s.ba.A s.ba.n s.ba.c) ∧ w.cell? ⟨b, o + k * 12 + 4, none⟩ = some (.slice s.inn.A s.inn.n s.inn.c) ∧ w.cell? ⟨b, o + k * 12 + 5, none⟩ = some (.slice s.ah.A s.ah.n s.ah.c) ∧ w.cell? ⟨b, o + k * 12 + 6, none⟩ = some (.slice s.ne.A s.ne.n s.ne.c) ∧ w.cell? ⟨b, o + k * 12 + 7, none⟩ = some (.slice s.va.A s.va.n s.va.c) ∧ w.cell? ⟨b, o + k * 12 + 8, none⟩ = some (.slice s.pr.A s.pr.n s.pr.c) ∧ w.cell? ⟨b, o + k * 12 + 9, none⟩ = some (.slice s.cu.A s.cu.n s.cu.c) ∧ w.cell? ⟨b, o + k * 12 + 10, none⟩ = some (.slice s.ma.A s.ma.n s.ma.c) ∧ w.cell? ⟨b, o + k * 12 + 11, none⟩ = some (.slice s.ho.A s.ho.n s.ho.c)) ∧ SbOk w B s := by
  obtain ⟨b, o, Aco, nco, cco, Ato, nto, cto, Ali, nli, cli, Aba, nba, cba, Ain, nin, cin, Aah, nah, cah, Ane, nne, cne, Ava, nva, cva, Apr, npr, cpr, Acu, ncu, ccu, Ama, nma, cma, Aho, nho, cho, e, hb, hc, h0, h1, h2, h3, h4, h5, h6, h7, h8, h9, h10, h11⟩ := h.atSub hk
  exact ⟨b, o, ⟨⟨Aco, nco, cco⟩, ⟨Ato, nto, cto⟩, ⟨Ali, nli, cli⟩, ⟨Aba, nba, cba⟩, ⟨Ain, nin, cin⟩, ⟨Aah, nah, cah⟩, ⟨Ane, nne, cne⟩, ⟨Ava, nva, cva⟩, ⟨Apr, npr, cpr⟩, ⟨Acu, ncu, ccu⟩, ⟨Ama, nma, cma⟩, ⟨Aho, nho, cho⟩⟩, e, hb, hc, h0, h1, h2, h3, h4, h5, h6, h7, h8, h9, h10, h11⟩
theorem ShSl.look {w : World} {B : Nat} {A : Option Addr} {n c k : Nat} (h : ShSl w B shLookup A n c) (hk : k < n) : ∃ (b o : Nat) (l : Lk), A = some ⟨b, o, none⟩ ∧ b < B ∧ (w.cell? ⟨b, o + k * 4, none⟩ = some (.int .i64 l.ki) ∧ w.cell? ⟨b, o + k * 4 + 1, none⟩ = some (.int .i64 l.fl) ∧ w.cell? ⟨b, o + k * 4 + 2, none⟩ = some (.int .i64 l.se) ∧ w.cell? ⟨b, o + k * 4 + 3, none⟩ = some (.slice l.su.A l.su.n l.su.c)) ∧ LkOk w B l := by
  obtain ⟨b, o, ki, fl, se, Asu, nsu, csu, e, hb, hc, _, _, _, h0⟩ := h.atLookup hk
  exact ⟨b, o, ⟨ki, fl, se, ⟨Asu, nsu, csu⟩⟩, e, hb, hc, h0⟩

/-- a font in its box -/
def FBox (w : World) (b : Nat) (F : Fnt) : Prop := w.heap[b]? = some (.cells #[.int .i64 F.em, .slice F.GA F.gn F.gc, .slice F.MA F.mn F.mc, .slice F.LA F.ln F.lc, .slice F.FA F.fn F.fc, .slice F.SA F.sn F.sc] 28 (0, 0))
theorem FBox.below {w w' : World} {b B : Nat} {F : Fnt} (h : FBox w b F) (hb : Below B w w') (hB : b < B) : FBox w' b F := (hb.block b hB).trans h
theorem FBox.new (w : World) (F : Fnt) : FBox (w.alloc (.cells #[.int .i64 F.em, .slice F.GA F.gn F.gc, .slice F.MA F.mn F.mc, .slice F.LA F.ln F.lc, .slice F.FA F.fn F.fc, .slice F.SA F.sn F.sc] 28)) w.heap.size F := heap_alloc_new _ _
theorem FBox.cells {w : World} {b : Nat} {F : Fnt} (h : FBox w b F) : w.cell? ⟨b, 0, none⟩ = some (.int .i64 F.em) ∧ w.cell? ⟨b, 1, none⟩ = some (.slice F.GA F.gn F.gc) ∧ w.cell? ⟨b, 2, none⟩ = some (.slice F.MA F.mn F.mc) ∧ w.cell? ⟨b, 3, none⟩ = some (.slice F.LA F.ln F.lc) ∧ w.cell? ⟨b, 4, none⟩ = some (.slice F.FA F.fn F.fc) ∧ w.cell? ⟨b, 5, none⟩ = some (.slice F.SA F.sn F.sc) :=
  ⟨by rw [cell_of_row _ _ 0 _ _ _ h]; rfl, by rw [cell_of_row _ _ 1 _ _ _ h]; rfl, by rw [cell_of_row _ _ 2 _ _ _ h]; rfl, by rw [cell_of_row _ _ 3 _ _ _ h]; rfl, by rw [cell_of_row _ _ 4 _ _ _ h]; rfl, by rw [cell_of_row _ _ 5 _ _ _ h]; rfl⟩

theorem range_false {n i : Nat} {p : Nat → Bool} (hi : i < n) (h : p i = false) : (List.range n).all p = false := by
  rw [List.all_eq_false]
  exact ⟨i, List.mem_range.2 hi, by simp [h]⟩
theorem range_true {n : Nat} {p : Nat → Bool} (h : ∀ i, i < n → p i = true) : (List.range n).all p = true := by
  rw [List.all_eq_true]
  exact fun i hi => h i (List.mem_range.1 hi)
theorem all_succ {k : Nat} {p : Nat → Prop} (h : ∀ j, j < k → p j) (hk : p k) : ∀ j, j < k + 1 → p j := fun j hj => by
  rcases Nat.lt_succ_iff_lt_or_eq.1 hj with h1 | rfl
  · exact h j h1
  · exact hk
theorem or_pos {k : Nat} (h : 1 ≤ k) (b : Bool) : (k == 0 || b) = b := by
  have : (k == 0) = false := by simp; omega
  rw [this]; rfl
theorem Ints.getD {w : World} {B : Nat} {A : Option Addr} {n c k : Nat} {zs : List Int} (h : Ints w B A n c zs) (hk : k < n) : ∃ b o, A = some ⟨b, o, none⟩ ∧ b < B ∧ w.cell? ⟨b, o + k, none⟩ = some (.int .i64 (zs.getD k 0)) := by
  obtain ⟨b, o, x, e, hb, hx, hc⟩ := h.at_ hk
  exact ⟨b, o, e, hb, by rw [List.getD_eq_getElem?_getD, hx]; exact hc⟩
/-- a slice of lists reads as a list of lists -/
def Grd (w : World) (B : Nat) (A : Option Addr) (n c : Nat) (zss : List (List Int)) : Prop :=
  zss.length = n ∧ n ≤ c ∧ c ≤ maxLen ∧ ∀ k, k < n → ∃ b o A' n' c', A = some ⟨b, o, none⟩ ∧ b < B ∧ w.cell? ⟨b, o + k, none⟩ = some (.slice A' n' c') ∧ Ints w B A' n' c' (zss.getD k [])
theorem Grd.below {w w' : World} {B : Nat} {A : Option Addr} {n c : Nat} {zss : List (List Int)} (h : Grd w B A n c zss) (hb : Below B w w') : Grd w' B A n c zss :=
  ⟨h.1, h.2.1, h.2.2.1, fun k hk => by
    obtain ⟨b, o, A', n', c', e, h1, h2, h3⟩ := h.2.2.2 k hk
    exact ⟨b, o, A', n', c', e, h1, (hb.cell (p := ⟨b, o + k, none⟩) h1).trans h2, h3.below hb⟩⟩
theorem Grd.cap {w : World} {B : Nat} {A : Option Addr} {n c : Nat} {zss : List (List Int)} (h : Grd w B A n c zss) : n ≤ c ∧ c ≤ 9223372036854775807 := by
  have := h.2.2.1; unfold maxLen at this; exact ⟨h.2.1, this⟩
theorem ShSl.grd {w : World} {B : Nat} {A : Option Addr} {n c : Nat} (h : ShSl w B shInts A n c) : ∃ zss, Grd w B A n c zss := by
  obtain ⟨h1, h2, _⟩ := h.open_
  have h5 : ∀ k, k < n → ∃ zs : List Int, ∃ b o A' n' c', A = some ⟨b, o, none⟩ ∧ b < B ∧ w.cell? ⟨b, o + k, none⟩ = some (.slice A' n' c') ∧ Ints w B A' n' c' zs := fun k hk => by
    obtain ⟨b, o, A', n', c', e, hb, hc, hs⟩ := h.atInts hk
    obtain ⟨zs, hz⟩ := hs.ints
    exact ⟨zs, b, o, A', n', c', e, hb, hc, hz⟩
  obtain ⟨f, hf⟩ : ∃ f : Nat → List Int, ∀ k, k < n → ∃ b o A' n' c', A = some ⟨b, o, none⟩ ∧ b < B ∧ w.cell? ⟨b, o + k, none⟩ = some (.slice A' n' c') ∧ Ints w B A' n' c' (f k) := by
    refine ⟨fun k => if hk : k < n then (h5 k hk).choose else [], fun k hk => ?_⟩
    simp only [hk, dite_true]
    exact (h5 k hk).choose_spec
  refine ⟨(List.range n).map f, by simp, h1, h2, fun k hk => ?_⟩
  have e : ((List.range n).map f).getD k [] = f k := by
    rw [List.getD_eq_getElem?_getD, List.getElem?_map, List.getElem?_range hk]; rfl
  rw [e]
  exact hf k hk

/-- what the check of a subtable tells -/
def SubP (ki : Int) (cov : List Int) (tos : List (List Int)) (b : Bool) : Prop := b = true → (ki = 1 → cov.length = tos.length ∧ cov.length ≤ 4096 ∧ ∀ j, j < tos.length → (tos.getD j []).length = 1) ∧ (ki = 2 → cov.length = tos.length ∧ cov.length ≤ 4096 ∧ ∀ j, j < tos.length → (tos.getD j []).length ≤ 16)
/-- a subtable's cover and what it becomes -/
abbrev PS := List Int × List (List Int)
/-- a lookup's kind and its subtables -/
abbrev PL := Int × List PS
def nS : PS := ([], [])
def nL : PL := (0, [])
/-- a slice of subtables reads as a list -/
def SubsR (w : World) (B : Nat) (A : Option Addr) (n c : Nat) (ps : List PS) : Prop :=
  ps.length = n ∧ n ≤ c ∧ c ≤ maxLen ∧ ∀ k, k < n → ∃ (b o : Nat) (s : Sb), A = some ⟨b, o, none⟩ ∧ b < B ∧ (w.cell? ⟨b, o + k * 12, none⟩ = some (.slice s.co.A s.co.n s.co.c) ∧ w.cell? ⟨b, o + k * 12 + 1, none⟩ = some (.slice s.tt.A s.tt.n s.tt.c) ∧ w.cell? ⟨b, o + k * 12 + 2, none⟩ = some (.slice s.li.A s.li.n s.li.c) ∧ w.cell? ⟨b, o + k * 12 + 3, none⟩ = some (.slice s.ba.A s.ba.n s.ba.c) ∧ w.cell? ⟨b, o + k * 12 + 4, none⟩ = some (.slice s.inn.A s.inn.n s.inn.c) ∧ w.cell? ⟨b, o + k * 12 + 5, none⟩ = some (.slice s.ah.A s.ah.n s.ah.c) ∧ w.cell? ⟨b, o + k * 12 + 6, none⟩ = some (.slice s.ne.A s.ne.n s.ne.c) ∧ w.cell? ⟨b, o + k * 12 + 7, none⟩ = some (.slice s.va.A s.va.n s.va.c) ∧ w.cell? ⟨b, o + k * 12 + 8, none⟩ = some (.slice s.pr.A s.pr.n s.pr.c) ∧ w.cell? ⟨b, o + k * 12 + 9, none⟩ = some (.slice s.cu.A s.cu.n s.cu.c) ∧ w.cell? ⟨b, o + k * 12 + 10, none⟩ = some (.slice s.ma.A s.ma.n s.ma.c) ∧ w.cell? ⟨b, o + k * 12 + 11, none⟩ = some (.slice s.ho.A s.ho.n s.ho.c)) ∧ SbOk w B s ∧ Ints w B s.co.A s.co.n s.co.c (ps.getD k nS).1 ∧ Grd w B s.tt.A s.tt.n s.tt.c (ps.getD k nS).2
theorem SubsR.below {w w' : World} {B : Nat} {A : Option Addr} {n c : Nat} {ps : List PS} (h : SubsR w B A n c ps) (hb : Below B w w') : SubsR w' B A n c ps :=
  ⟨h.1, h.2.1, h.2.2.1, fun k hk => by
    obtain ⟨b, o, s, e, h1, ⟨c0, c1, c2, c3, c4, c5, c6, c7, c8, c9, c10, c11⟩, h2, h3, h4⟩ := h.2.2.2 k hk
    exact ⟨b, o, s, e, h1, ⟨(hb.cell (p := ⟨b, o + k * 12, none⟩) h1).trans c0, (hb.cell (p := ⟨b, o + k * 12 + 1, none⟩) h1).trans c1, (hb.cell (p := ⟨b, o + k * 12 + 2, none⟩) h1).trans c2, (hb.cell (p := ⟨b, o + k * 12 + 3, none⟩) h1).trans c3, (hb.cell (p := ⟨b, o + k * 12 + 4, none⟩) h1).trans c4, (hb.cell (p := ⟨b, o + k * 12 + 5, none⟩) h1).trans c5, (hb.cell (p := ⟨b, o + k * 12 + 6, none⟩) h1).trans c6, (hb.cell (p := ⟨b, o + k * 12 + 7, none⟩) h1).trans c7, (hb.cell (p := ⟨b, o + k * 12 + 8, none⟩) h1).trans c8, (hb.cell (p := ⟨b, o + k * 12 + 9, none⟩) h1).trans c9, (hb.cell (p := ⟨b, o + k * 12 + 10, none⟩) h1).trans c10, (hb.cell (p := ⟨b, o + k * 12 + 11, none⟩) h1).trans c11⟩, h2.below hb, h3.below hb, h4.below hb⟩⟩
theorem SubsR.cap {w : World} {B : Nat} {A : Option Addr} {n c : Nat} {ps : List PS} (h : SubsR w B A n c ps) : n ≤ c ∧ c ≤ 9223372036854775807 := by
  have := h.2.2.1; unfold maxLen at this; exact ⟨h.2.1, this⟩
/-- what the check of lookups tells -/
def LkOne (p : PL) : Prop := p.2.length ≤ 64 ∧ ∀ j, j < p.2.length → SubP p.1 (p.2.getD j nS).1 (p.2.getD j nS).2 true

end Go.Proofs.Ytngdolmmaiogiaa

/- A list of operations, cut in its midst: the ways through its first part meet again ahead of the second. Over any program. No condition. -/
namespace Go.Proofs.Ytngdolmmaiogiaa
open Go.RowKit

def Mid (R : Act → World → Prop) (Q : Exit → Act → World → Prop) (e : Exit) (a : Act) (w : World) : Prop := match e with
  | .normal => R a w
  | e => Q e a w
theorem Mid.intro {R : Act → World → Prop} {Q : Exit → Act → World → Prop} {a : Act} {w : World} (h : R a w) : Mid R Q .normal a w := h
theorem upon_mid {P : Program} {o : Oper} {a : Act} {r : Result Next} {K : Act → World → Prop} {R : Act → World → Prop} {Q : Exit → Act → World → Prop}
    (hh : o.upon P a K (Mid R Q) r) : o.upon P a K Q r := by
  cases r with
  | ok n w' =>
    cases n <;> simp only [Oper.upon] at hh ⊢ <;>
      first
        | exact hh
        | exact Calls.mono hh (fun e w'' he => by cases e <;> exact he)
  | halt x w' => cases x <;> simp only [Oper.upon] at hh ⊢ <;> exact hh
theorem wpList_two {P : Program} {ops : Array Oper} {Q : Exit → Act → World → Prop} {R : Act → World → Prop} {l2 : List Oper}
    (rest : ∀ a w, R a w → wpList P ops Q l2 a w) : ∀ (l1 : List Oper) (a : Act) (w : World), wpList P ops (Mid R Q) l1 a w → wpList P ops Q (l1 ++ l2) a w
  | [], a, w, h => rest a w h
  | o :: l1, a, w, h => by
    unfold wpList at h
    show wpList P ops Q (o :: (l1 ++ l2)) a w
    unfold wpList
    split
    · rename_i hg
      rw [if_pos hg] at h
      rcases h with h | ⟨h1, h2⟩
      · exact .inl (upon_mid (Oper.wp_mono (wpList_two rest l1) h))
      · exact .inr ⟨h1, h2⟩
    · rename_i hg
      rw [if_neg hg] at h
      exact wpList_two rest l1 _ _ h
theorem wpList_mid {P : Program} {ops : Array Oper} {Q : Exit → Act → World → Prop} {l : List Oper} {a : Act} {w : World} (R : Act → Act → Prop) (n : Nat)
    (first : wpList P ops (Mid (fun a' w' => R a a' ∧ w' = w) Q) (l.take n) a w)
    (rest : ∀ a', R a a' → wpList P ops Q (l.drop n) a' w) : wpList P ops Q l a w := by
  have h := wpList_two (l2 := l.drop n) (fun a' w' (h : R a a' ∧ w' = w) => by rw [h.2]; exact rest a' h.1) _ _ _ first
  rwa [List.take_append_drop] at h

end Go.Proofs.Ytngdolmmaiogiaa

/- A region that draws its order, whose operations read below a block and whose callees make new memory only: one walk of the text's order serves every order. Over any program. No condition. -/
namespace Go.Proofs.Ytngdolmmaiogiaa
open Go.RowKit

/-- a world in which all below block B is as it was in w -/
structure Up (B : Nat) (w : World) where
  W : World
  h : Below B w W
instance {B : Nat} {w : World} : Nonempty (Up B w) := ⟨⟨w, Below.refl B w⟩⟩
theorem Up.cell {B : Nat} {w : World} (d : Up B w) {p : Addr} {v : Option Value} (hp : p.block < B) (h : w.cell? p = v) : d.W.cell? p = v := (d.h.cell hp).trans h
theorem Up.of_cell {w : World} (d : Up w.heap.size w) {p : Addr} {v : Value} (h : w.cell? p = some v) : d.W.cell? p = some v := (d.h.cell (World.block_lt_of_cell? w _ h)).trans h
/-- A region, walked once, over all worlds above. -/
theorem wp_region_up {P : Program} {id : Nat} {Q : Exit → Act → World → Prop} {a : Act} {w : World} {l : List Oper} (B : Nat) (hm : P.follows .mixedOrders = true) (hB : Region.lexB .any l.toArray = true)
    (h : wpQuiet P l.toArray (fun w' => ∃ d : Up B w, w' = d.W) (fun a' => ∀ w', (∃ d : Up B w, w' = d.W) → Q .normal a' w') l a) : (Code.region id l.toArray true).wp P Q a w :=
  wp_region_quiet (C := fun w' => ∃ d : Up B w, w' = d.W) hm hB ⟨⟨w.drew, (Below.refl B w).drew⟩, rfl⟩ (by simpa using h)
/-- a cell known in one world is known in all above -/
theorem up_fact {w : World} {p : Addr} {v : Value} (h : w.cell? p = some v) : ∀ W, Below w.heap.size w W → W.cell? p = some v := fun _ hb => (hb.cell (World.block_lt_of_cell? w _ h)).trans h
theorem bgo {w1 w w' : World} (h : Below w1.heap.size w1 w) (hb : Below w.heap.size w w') : Below w1.heap.size w1 w' := h.trans (hb.mono h.size)
theorem bup {w1 w : World} (h : Below w1.heap.size w1 w) : ∀ d : Up w.heap.size w, Below w1.heap.size w1 d.W := fun d => bgo h d.h
theorem wpList_of_quiet {P : Program} {ops : Array Oper} {C : World → Prop} {Q : Act → Prop} {Q' : Exit → Act → World → Prop} (hQ : ∀ a w, C w → Q a → Q' .normal a w) :
    ∀ (l : List Oper) (a : Act) (w : World), C w → wpQuiet P ops C Q l a → wpList P ops Q' l a w
  | [], _, _, hw, h => hQ _ _ hw h
  | o :: l, a, w, hw, h => wpList_step fun K hK => by
    unfold wpQuiet at h
    split
    · rename_i hg
      rw [if_pos hg] at h
      exact Oper.wp_of_quiet hw (fun a' w' hw' hk => hK _ _ (wpList_of_quiet hQ l a' w' hw' hk)) h
    · rename_i hg
      rw [if_neg hg] at h
      exact hK _ _ (wpList_of_quiet hQ l _ w hw h)
/-- The same of a region whose order is the text's. -/
theorem wp_region_upN {P : Program} {id : Nat} {Q : Exit → Act → World → Prop} {a : Act} {w : World} {l : List Oper} (B : Nat)
    (h : wpQuiet P l.toArray (fun w' => ∃ d : Up B w, w' = d.W) (fun a' => ∀ w', (∃ d : Up B w, w' = d.W) → Q .normal a' w') l a) : (Code.region id l.toArray false).wp P Q a w :=
  wp_region_lit (wpList_of_quiet (fun _ w' hw' h => h w' hw') l a w ⟨⟨w, Below.refl B w⟩, rfl⟩ h)
theorem up_all {B : Nat} {w : World} {p : World → Prop} (h : ∀ w2, Below B w w2 → p w2) : ∀ w', (∃ d : Up B w, w' = d.W) → p w' := fun _ ⟨d, e⟩ => by subst e; exact h _ d.h
/-- A callee's contract, met in a world above. -/
theorem Calls.up_of {P : Program} {f : FuncId} {args : Array Value} {B : Nat} {w : World} {d : Up B w} {v : Value} (hB : B ≤ w.heap.size)
    (h : Calls P f args d.W fun e w' => e = .returned v ∧ Below d.W.heap.size d.W w') : Calls P f args d.W fun e w'' => e = .returned v ∧ ∃ d' : Up B w, w'' = d'.W :=
  h.mono fun _ w' ⟨he, hb⟩ => ⟨he, ⟨w', d.h.trans (hb.mono (Nat.le_trans hB d.h.size))⟩, rfl⟩
theorem Calls.up_same {P : Program} {f : FuncId} {args : Array Value} {B : Nat} {w : World} {d : Up B w} {v : Value}
    (h : Calls P f args d.W fun e w' => e = .returned v ∧ d.W = w') : Calls P f args d.W fun e w'' => e = .returned v ∧ ∃ d' : Up B w, w'' = d'.W :=
  h.mono fun _ _ ⟨he, hb⟩ => ⟨he, d, hb.symm⟩

end Go.Proofs.Ytngdolmmaiogiaa

/- (empty) No condition. -/
namespace Go.Proofs.Ytngdolmmaiogiaa
open Go.RowKit



end Go.Proofs.Ytngdolmmaiogiaa

/- A font as plain data: what of it the machine of substitutions reads. No condition. -/
namespace Go.Proofs.Ytngdolmmaiogiaa
open Go.RowKit

/-- a slice whose elements read as plain data, by a relation on an element's cells -/
def SlR {α : Type} (w : World) (B sz : Nat) (R : α → List Value → Prop) (A : Option Addr) (n c : Nat) (ps : List α) : Prop :=
  ps.length = n ∧ n ≤ c ∧ c ≤ maxLen ∧ (A = none → n = 0 ∧ c = 0) ∧ ∀ k p, ps[k]? = some p → ∃ b o cs, A = some ⟨b, o, none⟩ ∧ b < B ∧ (∀ (j : Nat) v, cs[j]? = some v → w.cell? ⟨b, o + k * sz + j, none⟩ = some v) ∧ R p cs
section
variable {α : Type} {w w' : World} {B sz : Nat} {R R' : α → List Value → Prop} {A : Option Addr} {n c : Nat} {ps : List α} {e : Sh}
theorem ShSl.slr (h : ShSl w B e A n c) (hR : ∀ cs, Shd w B e cs → ∃ p, R p cs) : ∃ ps, SlR w B e.size R A n c ps := by
  obtain ⟨h1, h2, h3, h4⟩ := h.open_
  have h5 : ∀ k, k < n → ∃ p, ∃ b o cs, A = some ⟨b, o, none⟩ ∧ b < B ∧ (∀ (j : Nat) v, cs[j]? = some v → w.cell? ⟨b, o + k * e.size + j, none⟩ = some v) ∧ R p cs := fun k hk => by
    obtain ⟨b, o, cs', e1, hb, _, hc, hs⟩ := h4 k hk
    obtain ⟨p, hp⟩ := hR cs' hs
    exact ⟨p, b, o, cs', e1, hb, hc, hp⟩
  have h6 : ∀ m, m ≤ n → ∃ ps : List α, ps.length = m ∧ ∀ k p, ps[k]? = some p → ∃ b o cs, A = some ⟨b, o, none⟩ ∧ b < B ∧ (∀ (j : Nat) v, cs[j]? = some v → w.cell? ⟨b, o + k * e.size + j, none⟩ = some v) ∧ R p cs := by
    intro m
    induction m with
    | zero => exact fun _ => ⟨[], rfl, fun k p hk => by simp at hk⟩
    | succ m ih =>
      intro hm
      obtain ⟨ps, hl, hps⟩ := ih (by omega)
      obtain ⟨p, hp⟩ := h5 m (by omega)
      refine ⟨ps ++ [p], by simp [hl], fun k q hk => ?_⟩
      rcases Nat.lt_trichotomy k m with hkm | hkm | hkm
      · rw [List.getElem?_append_left (by omega)] at hk
        exact hps k q hk
      · subst hkm
        rw [List.getElem?_append_right (by omega), hl, Nat.sub_self] at hk
        cases hk
        exact hp
      · rw [List.getElem?_eq_none (by simp; omega)] at hk
        cases hk
  obtain ⟨ps, hl, hps⟩ := h6 n (Nat.le_refl _)
  exact ⟨ps, hl, h1, h2, h3, hps⟩
theorem SlR.below (h : SlR w B sz R A n c ps) (hb : Below B w w') (hR : ∀ p cs, R p cs → R' p cs) : SlR w' B sz R' A n c ps :=
  ⟨h.1, h.2.1, h.2.2.1, h.2.2.2.1, fun k p hk => by
    obtain ⟨b, o, cs, e, h1, h2, h3⟩ := h.2.2.2.2 k p hk
    exact ⟨b, o, cs, e, h1, fun j v hj => (hb.cell (p := ⟨b, o + k * sz + j, none⟩) h1).trans (h2 j v hj), hR p cs h3⟩⟩
theorem SlR.cap (h : SlR w B sz R A n c ps) : n ≤ c ∧ c ≤ 9223372036854775807 := by
  have := h.2.2.1; unfold maxLen at this; exact ⟨h.2.1, this⟩
theorem SlR.length (h : SlR w B sz R A n c ps) : ps.length = n := h.1
theorem SlR.at_ (h : SlR w B sz R A n c ps) {k : Nat} (hk : k < n) : ∃ p b o cs, ps[k]? = some p ∧ A = some ⟨b, o, none⟩ ∧ b < B ∧ (∀ (j : Nat) v, cs[j]? = some v → w.cell? ⟨b, o + k * sz + j, none⟩ = some v) ∧ R p cs := by
  have hl := h.1
  have e : ps[k]? = some ps[k] := List.getElem?_eq_getElem (by omega)
  obtain ⟨b, o, cs, h1⟩ := h.2.2.2.2 k _ e
  exact ⟨_, b, o, cs, e, h1⟩
end

/-- a ligature: its parts, its glyph -/
abbrev PG := List Int × Int
/-- a subtable -/
structure PSu where
  co : List Int
  tt : List (List Int)
  li : List (List PG)
  ba : List (List Int)
  inn : List (List Int)
  ah : List (List Int)
  ne : List (Int × Int)
/-- a lookup -/
structure PK where
  ki : Int
  fl : Int
  se : Int
  su : List PSu
/-- of a font: kind and attach of each glyph, its sets, its lookups -/
structure PFt where
  gi : List (Int × Int)
  ss : List (List Int)
  ls : List PK
def LigR (w : World) (B : Nat) (p : PG) (cs : List Value) : Prop := ∃ A n c, cs = [.slice A n c, .int .i64 p.2] ∧ Ints w B A n c p.1
def RowR (w : World) (B : Nat) (p : List PG) (cs : List Value) : Prop := ∃ A n c, cs = [.slice A n c] ∧ SlR w B 2 (LigR w B) A n c p
def NestR (p : Int × Int) (cs : List Value) : Prop := cs = [.int .i64 p.1, .int .i64 p.2]
structure SubOk (w : World) (B : Nat) (s : Sb) (p : PSu) : Prop where
  ok : SbOk w B s
  co : Ints w B s.co.A s.co.n s.co.c p.co
  tt : Grd w B s.tt.A s.tt.n s.tt.c p.tt
  li : SlR w B 1 (RowR w B) s.li.A s.li.n s.li.c p.li
  ba : Grd w B s.ba.A s.ba.n s.ba.c p.ba
  inn : Grd w B s.inn.A s.inn.n s.inn.c p.inn
  ah : Grd w B s.ah.A s.ah.n s.ah.c p.ah
  ne : SlR w B 2 NestR s.ne.A s.ne.n s.ne.c p.ne
def SubR (w : World) (B : Nat) (p : PSu) (cs : List Value) : Prop := ∃ s : Sb, cs = [.slice s.co.A s.co.n s.co.c, .slice s.tt.A s.tt.n s.tt.c, .slice s.li.A s.li.n s.li.c, .slice s.ba.A s.ba.n s.ba.c, .slice s.inn.A s.inn.n s.inn.c, .slice s.ah.A s.ah.n s.ah.c, .slice s.ne.A s.ne.n s.ne.c, .slice s.va.A s.va.n s.va.c, .slice s.pr.A s.pr.n s.pr.c, .slice s.cu.A s.cu.n s.cu.c, .slice s.ma.A s.ma.n s.ma.c, .slice s.ho.A s.ho.n s.ho.c] ∧ SubOk w B s p
/-- a lookup's subtables -/
abbrev KsR (w : World) (B : Nat) (A : Option Addr) (n c : Nat) (p : List PSu) : Prop := SlR w B 12 (SubR w B) A n c p
def LkR (w : World) (B : Nat) (p : PK) (cs : List Value) : Prop := ∃ A n c, cs = [.int .i64 p.ki, .int .i64 p.fl, .int .i64 p.se, .slice A n c] ∧ KsR w B A n c p.su
def InfR (w : World) (B : Nat) (p : Int × Int) (cs : List Value) : Prop := ∃ ad A n c, cs = [.int .i64 ad, .int .i64 p.1, .int .i64 p.2, .slice A n c] ∧ ShSl w B (Sh.int .i64) A n c
structure FtR (w : World) (B : Nat) (F : Fnt) (P : PFt) : Prop where
  ok : FntOk w B F
  gi : SlR w B 4 (InfR w B) F.GA F.gn F.gc P.gi
  ss : Grd w B F.SA F.sn F.sc P.ss
  ls : SlR w B 4 (LkR w B) F.LA F.ln F.lc P.ls
section
variable {w w' : World} {B : Nat}
theorem LigR.below {p : PG} {cs : List Value} (h : LigR w B p cs) (hb : Below B w w') : LigR w' B p cs := by
  obtain ⟨A, n, c, e, h⟩ := h; exact ⟨A, n, c, e, h.below hb⟩
theorem RowR.below {p : List PG} {cs : List Value} (h : RowR w B p cs) (hb : Below B w w') : RowR w' B p cs := by
  obtain ⟨A, n, c, e, h⟩ := h; exact ⟨A, n, c, e, h.below hb fun _ _ h => h.below hb⟩
theorem SubOk.below {s : Sb} {p : PSu} (h : SubOk w B s p) (hb : Below B w w') : SubOk w' B s p :=
  ⟨h.ok.below hb, h.co.below hb, h.tt.below hb, h.li.below hb fun _ _ h => h.below hb, h.ba.below hb, h.inn.below hb, h.ah.below hb, h.ne.below hb fun _ _ h => h⟩
theorem SubR.below {p : PSu} {cs : List Value} (h : SubR w B p cs) (hb : Below B w w') : SubR w' B p cs := by
  obtain ⟨s, e, h⟩ := h; exact ⟨s, e, h.below hb⟩
theorem KsR.below {A : Option Addr} {n c : Nat} {p : List PSu} (h : KsR w B A n c p) (hb : Below B w w') : KsR w' B A n c p := SlR.below h hb fun _ _ h => h.below hb
theorem LkR.below {p : PK} {cs : List Value} (h : LkR w B p cs) (hb : Below B w w') : LkR w' B p cs := by
  obtain ⟨A, n, c, e, h⟩ := h; exact ⟨A, n, c, e, KsR.below h hb⟩
theorem InfR.below {p : Int × Int} {cs : List Value} (h : InfR w B p cs) (hb : Below B w w') : InfR w' B p cs := by
  obtain ⟨ad, A, n, c, e, h⟩ := h; exact ⟨ad, A, n, c, e, h.below hb⟩
theorem FtR.below {F : Fnt} {P : PFt} (h : FtR w B F P) (hb : Below B w w') : FtR w' B F P :=
  ⟨h.ok.below hb, h.gi.below hb fun _ _ h => h.below hb, h.ss.below hb, h.ls.below hb fun _ _ h => h.below hb⟩
theorem ShSl.ligs {A : Option Addr} {n c : Nat} (h : ShSl w B (Sh.sl shLig) A n c) : ∃ ps, SlR w B 1 (RowR w B) A n c ps :=
  ShSl.slr h fun cs hs => by
    obtain ⟨A', n', c', rfl, h1⟩ := hs.slice
    obtain ⟨ps, hp⟩ := ShSl.slr (R := LigR w B) h1 fun cs hs => by
      obtain ⟨Apa, npa, cpa, gl, rfl, h2, _⟩ := hs.unLig
      obtain ⟨zs, hz⟩ := h2.ints
      exact ⟨(zs, gl), Apa, npa, cpa, rfl, hz⟩
    exact ⟨ps, A', n', c', rfl, hp⟩
theorem ShSl.nests {A : Option Addr} {n c : Nat} (h : ShSl w B shNest A n c) : ∃ ps, SlR w B 2 NestR A n c ps :=
  ShSl.slr h fun cs hs => by
    obtain ⟨a, l, rfl, _⟩ := hs.unNest
    exact ⟨(a, l), rfl⟩
theorem SbOk.read {s : Sb} (h : SbOk w B s) : ∃ p, SubOk w B s p := by
  obtain ⟨co, h1⟩ := h.co.ints
  obtain ⟨tt, h2⟩ := h.tt.grd
  obtain ⟨li, h3⟩ := h.li.ligs
  obtain ⟨ba, h4⟩ := h.ba.grd
  obtain ⟨inn, h5⟩ := h.inn.grd
  obtain ⟨ah, h6⟩ := h.ah.grd
  obtain ⟨ne, h7⟩ := h.ne.nests
  exact ⟨⟨co, tt, li, ba, inn, ah, ne⟩, h, h1, h2, h3, h4, h5, h6, h7⟩
theorem ShSl.ksr {A : Option Addr} {n c : Nat} (h : ShSl w B shSub A n c) : ∃ ps, KsR w B A n c ps :=
  ShSl.slr h fun cs hs => by
    obtain ⟨Aco, nco, cco, Ato, nto, cto, Ali, nli, cli, Aba, nba, cba, Ain, nin, cin, Aah, nah, cah, Ane, nne, cne, Ava, nva, cva, Apr, npr, cpr, Acu, ncu, ccu, Ama, nma, cma, Aho, nho, cho, rfl, h0, h1, h2, h3, h4, h5, h6, h7, h8, h9, h10, h11⟩ := hs.unSub
    obtain ⟨p, hp⟩ := SbOk.read (s := ⟨⟨Aco, nco, cco⟩, ⟨Ato, nto, cto⟩, ⟨Ali, nli, cli⟩, ⟨Aba, nba, cba⟩, ⟨Ain, nin, cin⟩, ⟨Aah, nah, cah⟩, ⟨Ane, nne, cne⟩, ⟨Ava, nva, cva⟩, ⟨Apr, npr, cpr⟩, ⟨Acu, ncu, ccu⟩, ⟨Ama, nma, cma⟩, ⟨Aho, nho, cho⟩⟩) ⟨h0, h1, h2, h3, h4, h5, h6, h7, h8, h9, h10, h11⟩
    exact ⟨p, _, rfl, hp⟩
theorem ShSl.lkr {A : Option Addr} {n c : Nat} (h : ShSl w B shLookup A n c) : ∃ ps, SlR w B 4 (LkR w B) A n c ps :=
  ShSl.slr h fun cs hs => by
    obtain ⟨ki, fl, se, Asu, nsu, csu, rfl, _, _, _, h0⟩ := hs.unLookup
    obtain ⟨p, hp⟩ := ShSl.ksr h0
    exact ⟨⟨ki, fl, se, p⟩, Asu, nsu, csu, rfl, hp⟩
theorem ShSl.infs {A : Option Addr} {n c : Nat} (h : ShSl w B shInfo A n c) : ∃ ps, SlR w B 4 (InfR w B) A n c ps :=
  ShSl.slr h fun cs hs => by
    obtain ⟨ad, ki, aa, Aca, nca, cca, rfl, _, _, _, h0⟩ := hs.unInfo
    exact ⟨(ki, aa), ad, Aca, nca, cca, rfl, h0⟩
theorem FntOk.read {F : Fnt} (h : FntOk w B F) : ∃ P, FtR w B F P := by
  obtain ⟨gi, h1⟩ := h.hG.infs
  obtain ⟨ss, h2⟩ := h.hS.grd
  obtain ⟨ls, h3⟩ := h.hL.lkr
  exact ⟨⟨gi, ss, ls⟩, h, h1, h2, h3⟩
/-- of a lookup what single reads -/
def psOf (p : List PSu) : List PS := p.map fun s => (s.co, s.tt)
theorem KsR.subs {A : Option Addr} {n c : Nat} {p : List PSu} (h : KsR w B A n c p) : SubsR w B A n c (psOf p) := by
  refine ⟨by unfold psOf; rw [List.length_map]; exact h.1, h.2.1, h.2.2.1, fun k hk => ?_⟩
  obtain ⟨q, b, o, cs, hq, e, hb, hc, s, rfl, hs⟩ := SlR.at_ h hk
  have e1 : (psOf p).getD k nS = (q.co, q.tt) := by
    unfold psOf
    rw [List.getD_eq_getElem?_getD, List.getElem?_map, hq]; rfl
  rw [e1]
  exact ⟨b, o, s, e, hb, ⟨hc 0 _ rfl, hc 1 _ rfl, hc 2 _ rfl, hc 3 _ rfl, hc 4 _ rfl, hc 5 _ rfl, hc 6 _ rfl, hc 7 _ rfl, hc 8 _ rfl, hc 9 _ rfl, hc 10 _ rfl, hc 11 _ rfl⟩, hs.ok, hs.co, hs.tt⟩
end

end Go.Proofs.Ytngdolmmaiogiaa

/- What the single lookups say, plainly. No condition. Printed by wip/tools/g27m.py. -/
namespace Go.Proofs.Ytngdolmmaiogiaa
open Go.RowKit

def ixI : List Int → Int → Option Nat
  | [], _ => none
  | x :: r, g => if x = g then some 0 else (ixI r g).map (· + 1)
theorem ixI_none : ∀ {zs : List Int} {g : Int}, (∀ j, j < zs.length → zs.getD j 0 ≠ g) → ixI zs g = none
  | [], _, _ => rfl
  | x :: r, g, h => by
    have h0 : x ≠ g := h 0 (by simp)
    have h1 := ixI_none (zs := r) (g := g) (fun j hj => by have := h (j + 1) (by simpa using hj); simpa using this)
    simp [ixI, h0, h1]
theorem ixI_some : ∀ {zs : List Int} {g : Int} {k : Nat}, k < zs.length → zs.getD k 0 = g → (∀ j, j < k → zs.getD j 0 ≠ g) → ixI zs g = some k
  | [], _, _, h, _, _ => by simp at h
  | x :: r, g, 0, _, h, _ => by
    have h0 : x = g := h
    simp [ixI, h0]
  | x :: r, g, k + 1, hk, h, hn => by
    have h0 : x ≠ g := hn 0 (by omega)
    have h1 := ixI_some (zs := r) (g := g) (k := k) (by simpa using hk) (by simpa using h) (fun j hj => by have := hn (j + 1) (by omega); simpa using this)
    simp [ixI, h0, h1]
theorem ixI_lt : ∀ {zs : List Int} {g : Int} {k : Nat}, ixI zs g = some k → k < zs.length
  | [], _, _, h => by simp [ixI] at h
  | x :: r, g, k, h => by
    unfold ixI at h
    split at h
    · cases h; simp
    · cases hr : ixI r g with
      | none => rw [hr] at h; cases h
      | some i =>
        rw [hr] at h
        cases h
        have := ixI_lt hr
        simp only [List.length_cons]
        omega
def goB : List PS → Int → Option (List Int)
  | [], _ => none
  | p :: r, g => match ixI p.1 g with | some i => some (p.2.getD i []) | none => goB r g
theorem goB_none : ∀ {ps : List PS} {g : Int}, (∀ j, j < ps.length → ixI (ps.getD j nS).1 g = none) → goB ps g = none
  | [], _, _ => rfl
  | p :: r, g, h => by
    have h0 : ixI p.1 g = none := h 0 (by simp)
    have h1 := goB_none (ps := r) (g := g) (fun j hj => by have := h (j + 1) (by simpa using hj); simpa using this)
    simp [goB, h0, h1]
theorem goB_some : ∀ {ps : List PS} {g : Int} {k i : Nat}, k < ps.length → ixI (ps.getD k nS).1 g = some i → (∀ j, j < k → ixI (ps.getD j nS).1 g = none) → goB ps g = some ((ps.getD k nS).2.getD i [])
  | [], _, _, _, h, _, _ => by simp at h
  | p :: r, g, 0, i, _, h, _ => by
    have h0 : ixI p.1 g = some i := h
    simp [goB, h0]
  | p :: r, g, k + 1, i, hk, h, hn => by
    have h0 : ixI p.1 g = none := hn 0 (by omega)
    have h1 := goB_some (ps := r) (g := g) (k := k) (i := i) (by simpa using hk) (by simpa using h) (fun j hj => by have := hn (j + 1) (by omega); simpa using this)
    simp [goB, h0, h1]
def kiB (ki : Int) : Bool := ki == 1 || ki == 2
def toB (p : PL) (g : Int) : Option (List Int) := if kiB p.1 then goB p.2 g else none
theorem toB_off {p : PL} {g : Int} (h : kiB p.1 = false) : toB p g = none := by unfold toB; rw [h]; rfl
theorem toB_on {p : PL} {g : Int} (h : kiB p.1 = true) : toB p g = goB p.2 g := by unfold toB; rw [h]; rfl
/-- what a check leaves of a lookup of one of both kinds -/
theorem LkOne.len {p : PL} (h : LkOne p) (hk : kiB p.1 = true) {j : Nat} (hj : j < p.2.length) : (p.2.getD j nS).1.length = (p.2.getD j nS).2.length ∧ (p.2.getD j nS).1.length ≤ 4096 ∧ ∀ i, i < (p.2.getD j nS).2.length → ((p.2.getD j nS).2.getD i []).length ≤ 16 := by
  unfold kiB at hk
  simp only [Bool.or_eq_true, beq_iff_eq] at hk
  rcases hk with hk | hk
  · have h1 := (h.2 j hj rfl).1 hk
    exact ⟨h1.1, h1.2.1, fun i hi => by rw [h1.2.2 i hi]; omega⟩
  · exact (h.2 j hj rfl).2 hk
theorem goB_le : ∀ {ps : List PS} {g : Int} {zs : List Int}, goB ps g = some zs → ∃ j i, j < ps.length ∧ i < (ps.getD j nS).1.length ∧ zs = (ps.getD j nS).2.getD i []
  | [], _, _, h => by simp [goB] at h
  | p :: r, g, zs, h => by
    unfold goB at h
    cases hx : ixI p.1 g with
    | some i =>
      rw [hx] at h
      cases h
      exact ⟨0, i, by simp, by simpa using ixI_lt hx, by simp⟩
    | none =>
      rw [hx] at h
      obtain ⟨j, i, h1, h2, h3⟩ := goB_le h
      exact ⟨j + 1, i, by simpa using h1, by simpa using h2, by simpa using h3⟩
theorem toB_le {p : PL} {g : Int} {zs : List Int} (h1 : LkOne p) (h : toB p g = some zs) : zs.length ≤ 16 := by
  unfold toB at h
  split at h
  · rename_i hk
    obtain ⟨j, i, hj, hi, rfl⟩ := goB_le h
    have h2 := h1.len hk hj
    exact h2.2.2 i (by rw [← h2.1]; exact hi)
  · cases h
theorem toB_one {p : PL} {g : Int} {zs : List Int} (h1 : LkOne p) (hk : p.1 = 1) (h : toB p g = some zs) : zs.length = 1 := by
  rw [toB_on (by unfold kiB; rw [hk]; rfl)] at h
  obtain ⟨j, i, hj, hi, rfl⟩ := goB_le h
  have h2 := (h1.2 j hj rfl).1 hk
  exact h2.2.2 i (by rw [← h2.1]; exact hi)
theorem take_succ_getD {zs : List Int} {k : Nat} (h : k < zs.length) : zs.take k ++ [zs.getD k 0] = zs.take (k + 1) := by
  rw [List.take_succ_eq_append_getElem h, List.getD_eq_getElem?_getD, List.getElem?_eq_getElem h]
  rfl

/-- What a call leaves that hands back a list. -/
def RetInts (w : World) (zs : List Int) (e : Ending) (w' : World) : Prop := ∃ A c, e = .returned (.slice A zs.length c) ∧ Ints w' w'.heap.size A zs.length c zs ∧ Below w.heap.size w w'
/-- What To leaves. -/
def RetTo (w : World) (r : Option (List Int)) (e : Ending) (w' : World) : Prop :=
  ∃ A c, e = .returned (.tuple #[.slice A (r.getD []).length c, .bool r.isSome]) ∧ Ints w' w'.heap.size A (r.getD []).length c (r.getD []) ∧ Below w.heap.size w w'
theorem RetTo.none_ {w w' : World} {r : Option (List Int)} (h : r = none) (hb : Below w.heap.size w w') : RetTo w r (.returned (.tuple #[.slice none 0 0, .bool false])) w' := by
  subst h
  exact ⟨none, 0, rfl, Ints.nil_ _ _, hb⟩
theorem RetTo.some_ {w w' : World} {r : Option (List Int)} {zs : List Int} {A : Option Addr} {n c : Nat} (h : r = some zs) (hn : zs.length = n) (hi : Ints w' w'.heap.size A n c zs) (hb : Below w.heap.size w w') : RetTo w r (.returned (.tuple #[.slice A n c, .bool true])) w' := by
  subst h
  subst hn
  exact ⟨A, c, rfl, hi, hb⟩
theorem below_append {w0 w w' : World} {B base : Nat} {e : TypeId} {A : Option Addr} {n c : Nat} {xs : List Int} (h : Below B w0 w) (hB : B ≤ w.heap.size) (hg : w.grownBy w' (Value.slice A n c).ownBlock) (ho : Own w base e A n c xs) (hb : B ≤ base) : Below B w0 w' :=
  h.grown hg hB (fun k hk => Nat.le_trans hb (Own.block ho k hk).1)
theorem infoInt : (Try.prog.info? 3).map (fun i => (i.zero, i.size, i.bytes)) = some (some (.int .i64 0), 1, 8) := by kernel_rfl

end Go.Proofs.Ytngdolmmaiogiaa
