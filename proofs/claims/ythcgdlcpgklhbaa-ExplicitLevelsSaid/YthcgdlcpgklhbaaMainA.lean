/- The walks of the program's state: top, next, begin. Conditions: the state is in order and not great. -/
import Derived.Test.YthcgdlcpgklhbaaRight
import Derived.Test.YthcgdlcpgklhbaaEnts
import Derived.Deep.RegionLaw
import Derived.BigRegion
namespace Go.Proofs.Ythcgdlcpgklhbaa
open Go.RowKit

theorem Try.infoEntP : (Try.prog.info? 41).map (fun i => (i.zero, i.size, i.bytes)) = some (some (.agg #[.int .i64 0, .int .i64 0, .bool false]), 3, 24) := by kernel_rfl

/-- the cells of a block of five -/
theorem blk5 {W : World} {g : Nat} {v0 v1 v2 v3 v4 : Value} {t : TypeId} (h : W.heap[g]? = some (.cells #[v0, v1, v2, v3, v4] t (0, 0))) :
    W.cell? ⟨g, 0, none⟩ = some v0 ∧ W.cell? ⟨g, 1, none⟩ = some v1 ∧ W.cell? ⟨g, 2, none⟩ = some v2 ∧ W.cell? ⟨g, 3, none⟩ = some v3 ∧ W.cell? ⟨g, 4, none⟩ = some v4 ∧
    W.frozen? ⟨g, 0, none⟩ = false ∧ W.frozen? ⟨g, 1, none⟩ = false ∧ W.frozen? ⟨g, 2, none⟩ = false ∧ W.frozen? ⟨g, 3, none⟩ = false ∧ W.frozen? ⟨g, 4, none⟩ = false :=
  ⟨cell_of_row W g 0 _ t _ h, cell_of_row W g 1 _ t _ h, cell_of_row W g 2 _ t _ h, cell_of_row W g 3 _ t _ h, cell_of_row W g 4 _ t _ h,
   frozen_of_row W g 0 _ t h, frozen_of_row W g 1 _ t h, frozen_of_row W g 2 _ t h, frozen_of_row W g 3 _ t h, frozen_of_row W g 4 _ t h⟩

/-- the block of the program's state -/
def PBox (W : World) (g : Nat) (base : Int) (A : Option Addr) (m c : Nat) (i e v : Int) : Prop :=
  W.heap[g]? = some (.cells #[.int .i64 base, .slice A m c, .int .i64 i, .int .i64 e, .int .i64 v] 38 (0, 0))
theorem PBox.lt {W : World} {g : Nat} {base : Int} {A : Option Addr} {m c : Nat} {i e v : Int} (h : PBox W g base A m c i e v) : g < W.heap.size := (Array.getElem?_eq_some_iff.1 h).1
theorem PBox.below {W W' : World} {g : Nat} {base : Int} {A : Option Addr} {m c : Nat} {i e v : Int} (h : PBox W g base A m c i e v) (hb : Below W.heap.size W W') : PBox W' g base A m c i e v := (hb.block g h.lt).trans h
theorem PBox.drew {W : World} {g : Nat} {base : Int} {A : Option Addr} {m c : Nat} {i e v : Int} (h : PBox W g base A m c i e v) : PBox W.drew g base A m c i e v := h
theorem PBox.drewN {W : World} {g : Nat} {base : Int} {A : Option Addr} {m c : Nat} {i e v : Int} (h : PBox W g base A m c i e v) (k : Nat) : PBox (W.drewN k) g base A m c i e v := h

/-- The state's block, and that only blocks of the state's own have turned since w0. -/
def PW (w0 w : World) (B1 g : Nat) (base : Int) (A : Option Addr) (m c : Nat) (i e v : Int) : Prop := PBox w g base A m c i e v ∧ Keeps 3 w0 w ∧ Below B1 w0 w

section
variable {w0 w w' : World} {B1 g : Nat} {base : Int} {A A' : Option Addr} {m c m' c' : Nat} {i e v x : Int} {l : List Lv.Ent}
theorem PW.refl (h : PBox w g base A m c i e v) : PW w w B1 g base A m c i e v := ⟨h, Keeps.refl _ _, Below.refl _ _⟩
theorem PW.drew (h : PW w0 w B1 g base A m c i e v) : PW w0 w.drew B1 g base A m c i e v := ⟨h.1, h.2.1, h.2.2.drew⟩
theorem PW.drewN (h : PW w0 w B1 g base A m c i e v) (k : Nat) : PW w0 (w.drewN k) B1 g base A m c i e v := ⟨h.1, h.2.1, below_drewN h.2.2 k⟩
theorem PW.below (h : PW w0 w B1 g base A m c i e v) (hB : B1 ≤ w.heap.size) (hb : Below w.heap.size w w') : PW w0 w' B1 g base A m c i e v :=
  ⟨h.1.below hb, h.2.1.trans (Keeps.below hb _), h.2.2.trans (hb.mono hB)⟩
theorem PW.alloc (h : PW w0 w B1 g base A m c i e v) (hB : B1 ≤ w.heap.size) (o : Obj) : PW w0 (w.alloc o) B1 g base A m c i e v := h.below hB ((Below.refl _ _).alloc (Nat.le_refl _) o)
theorem PW.set1 (h : PW w0 w B1 g base A m c i e v) (hg : B1 ≤ g) (A' : Option Addr) (m' c' : Nat) : PW w0 (w.setCell ⟨g, 1, none⟩ (.slice A' m' c')) B1 g base A' m' c' i e v :=
  ⟨heap_setCell_same w g 1 _ _ _ h.1, h.2.1.trans (Keeps.setCell (p := ⟨g, 1, none⟩) h.1 (by decide) _), h.2.2.setCell (p := ⟨g, 1, none⟩) hg _⟩
theorem PW.set2 (h : PW w0 w B1 g base A m c i e v) (hg : B1 ≤ g) (x : Int) : PW w0 (w.setCell ⟨g, 2, none⟩ (.int .i64 x)) B1 g base A m c x e v :=
  ⟨heap_setCell_same w g 2 _ _ _ h.1, h.2.1.trans (Keeps.setCell (p := ⟨g, 2, none⟩) h.1 (by decide) _), h.2.2.setCell (p := ⟨g, 2, none⟩) hg _⟩
theorem PW.set3 (h : PW w0 w B1 g base A m c i e v) (hg : B1 ≤ g) (x : Int) : PW w0 (w.setCell ⟨g, 3, none⟩ (.int .i64 x)) B1 g base A m c i x v :=
  ⟨heap_setCell_same w g 3 _ _ _ h.1, h.2.1.trans (Keeps.setCell (p := ⟨g, 3, none⟩) h.1 (by decide) _), h.2.2.setCell (p := ⟨g, 3, none⟩) hg _⟩
theorem PW.set4 (h : PW w0 w B1 g base A m c i e v) (hg : B1 ≤ g) (x : Int) : PW w0 (w.setCell ⟨g, 4, none⟩ (.int .i64 x)) B1 g base A m c i e x :=
  ⟨heap_setCell_same w g 4 _ _ _ h.1, h.2.1.trans (Keeps.setCell (p := ⟨g, 4, none⟩) h.1 (by decide) _), h.2.2.setCell (p := ⟨g, 4, none⟩) hg _⟩
/-- the stack stays while a field of the state is written -/
theorem Stk.pset {k : Nat} (h : Stk w B1 41 A' m' c' l) (hb : PBox w g base A m c i e v) (u : Value) : Stk (w.setCell ⟨g, k, none⟩ u) B1 41 A' m' c' l :=
  h.keeps (Keeps.setCell (p := ⟨g, k, none⟩) hb (by decide) u)
/-- the state stays while the stack grows -/
theorem PW.grown (h : PW w0 w B1 g base A m c i e v) (hB : B1 ≤ w.heap.size) (ho : Stk w B1 41 A' m' c' l) (hg : w.grownBy w' (Value.slice A' m' c').ownBlock) : PW w0 w' B1 g base A m c i e v :=
  ⟨(Keeps.grown ho.2 hg (by decide)) _ _ _ h.1, h.2.1.trans (Keeps.grown ho.2 hg (by decide)), h.2.2.grown hg hB (fun k hk => (ho.block k hk).1)⟩
end

/-- What a method leaves that turns the state: block g, the stack's row, and what is new; no row of integers. -/
def TurnP (B1 g : Nat) (base : Int) (w : World) (s : Lv.S) (e : Ending) (w' : World) : Prop :=
  e = .returned (.tuple #[]) ∧ ∃ A m c, PBox w' g base A m c (s.iso : Int) (s.emb : Int) (s.val : Int) ∧ Stk w' B1 41 A m c s.stk ∧ Keeps 3 w w' ∧ Below B1 w w'

theorem RetVal.two {w w' : World} {x y : Int} {b u : Bool} (h : x = y) (h2 : b = u) (hb : Below w.heap.size w w') : RetVal w (.tuple #[.int .i64 x, .bool b]) (.returned (.tuple #[.int .i64 y, .bool u])) w' := ⟨by rw [h, h2], hb⟩

/-- the fields of an entry -/
theorem pfld0 (x y : Int) (b : Bool) (w : World) : (Instr.field 41 (.agg #[.int .i64 x, .int .i64 y, .bool b]) 0).run Try.prog w = .ok (.int .i64 x) w := by kernel_rfl
theorem pfld1 (x y : Int) (b : Bool) (w : World) : (Instr.field 41 (.agg #[.int .i64 x, .int .i64 y, .bool b]) 1).run Try.prog w = .ok (.int .i64 y) w := by kernel_rfl
theorem pfld2 (x y : Int) (b : Bool) (w : World) : (Instr.field 41 (.agg #[.int .i64 x, .int .i64 y, .bool b]) 2).run Try.prog w = .ok (.bool b) w := by kernel_rfl

/-- one entry more, as one step of a region that draws -/
theorem step_append_ent {P : Program} {ops : Array Oper} {o : Oper} {a : Act} {w : World} {K : Act → World → Prop} {Q : Exit → Act → World → Prop} {X : Prop}
    (hg : o.guard = none) (s x : Operand) (t : TypeId) (hop : o.op = Op.call { callee := Callee.builtin Builtin.append, args := #[s, x], argTypes := #[t, t] })
    (e : TypeId) (hts : P.underlying t = some (.slice e)) (z : Value) (hi : (P.info? e).map (fun i => (i.zero, i.size, i.bytes)) = some (some z, 3, 24)) (hzs : z.cells.size = 3)
    (base : Nat) (A : Option Addr) (n c : Nat) (l : List Lv.Ent) (hs : a.eval s = .slice A n c) (hown : Stk w base e A n c l) (ad : Addr) (y : Lv.Ent) (c2 : Nat) (hx : a.eval x = .slice (some ad) 1 c2)
    (h0 : w.cell? (ad.add 0) = some (.int .i64 y.lv)) (h1 : w.cell? (ad.add 1) = some (.int .i64 y.ov)) (h2 : w.cell? (ad.add 2) = some (.bool y.is))
    (hn : n ≤ 1000000) (hbase : base ≤ w.heap.size)
    (hK : ∀ A' c' w', Stk w' base e A' (n + 1) c' (y :: l) → w.grownBy w' (Value.slice A n c).ownBlock → K (a.put o.dst (.slice A' (n + 1) c')) w') :
    if Region.wanted o (yielded ops a.tmps) = true then Oper.wp P o a w K Q else X := by
  have hw : Region.wanted o (yielded ops a.tmps) = true := by simp [Region.wanted, hg]
  rw [if_pos hw]
  obtain ⟨A', c', w', hrun, h3, h4⟩ := run_append_ent (P := P) w t o.type e hts z hi hzs base A n c l hown ad y c2 h0 h1 h2 hn hbase
  unfold Oper.wp execOp
  simp only [hop, resolve, invoke, builtin, Sem.run_bind, Sem.run_pure, Result.andThen_ok, List.map_toArray, List.map_cons, List.map_nil, hs, hx, hrun]
  exact hK A' c' w' h3 h4

set_option maxHeartbeats 400000 in
theorem ptop_raw (B1 g : Nat) (base : Int) (t : Lv.Ent) (r : List Lv.Ent) (A : Option Addr) (m c : Nat) (i e v : Int) (w : World) (hb : PBox w g base A m c i e v) (h : Stk w B1 41 A m c (t :: r)) (hsz : r.length ≤ 2000) :
    Calls Try.prog 20 #[.pointer (some ⟨g, 0, none⟩)] w (RetVal w (.agg #[.int .i64 t.lv, .int .i64 t.ov, .bool t.is])) := by
  have hl := h.1
  have hcap := h.cap
  have hgl := hb.lt
  obtain ⟨hlt, g', rfl, hg, hgs, h1, h2, h3⟩ := Stk.at_ (f := []) h
  obtain ⟨p0, p1, p2, p3, p4, f0, f1, f2, f3, f4⟩ := blk5 hb
  simp at hl
  obtain rfl : m = r.length + 1 := hl.symm
  clear h hl hb
  go_enter Try.func20, Try.ntmps20
  go_wp2_with fail
  go_region
  all_goals
    go_wp2_with fail
    exact bodyPost_ret (v := .agg #[.int .i64 t.lv, .int .i64 t.ov, .bool t.is]) (by simp [results, Try.results20, go_sem]) rfl ⟨rfl, by repeat (first | exact Below.refl _ _ | refine Below.drew ?_ | refine Below.alloc ?_ (by simp <;> omega) _ | refine Below.setCell ?_ (by simp <;> omega) _)⟩

theorem ptop_any (B1 k g : Nat) (base : Int) (s : Lv.S) (A : Option Addr) (m c : Nat) (i e v : Int) (w : World) (hb : PBox w g base A m c i e v) (h : Stk w B1 41 A m c s.stk) (hok : Lv.Ok k s) (hk : k ≤ 1000) :
    Calls Try.prog 20 #[.pointer (some ⟨g, 0, none⟩)] w (RetVal w (.agg #[.int .i64 (Lv.top s).lv, .int .i64 (Lv.top s).ov, .bool (Lv.top s).is])) := by
  obtain ⟨r, hr⟩ := hok.cons
  rw [hr] at h
  have hsz := hok.2.2.2.2.2
  rw [hr] at hsz
  exact ptop_raw B1 g base _ r A m c i e v w hb h (by simp at hsz; omega)

set_option maxHeartbeats 4000000 in
theorem pnext_any (B1 k g : Nat) (base : Int) (s : Lv.S) (o b : Bool) (A : Option Addr) (m c : Nat) (v : Int) (w : World) (hb : PBox w g base A m c (s.iso : Int) (s.emb : Int) v) (h : Stk w B1 41 A m c s.stk) (hok : Lv.Ok k s) (hk : k ≤ 1000) (hr : Lv.room s (Lv.nx (Lv.top s).lv o) = b) :
    Calls Try.prog 37 #[.pointer (some ⟨g, 0, none⟩), .bool o] w (RetVal w (.tuple #[.int .i64 (Lv.nx (Lv.top s).lv o), .bool b])) := by
  have htop := hok.top
  have HB := Lib.hid hb
  have HS := Lib.hid h
  have HK := Lib.hid hok
  have hf0 := pfld0
  clear hb h hok
  rcases o with _ | _
  · by_cases hp : ((Lv.top s).lv + 1) % 2 = 1
    · have e1 : (((Lv.top s).lv + 1) % 2 == 1) = true := by simpa using hp
      have hx : Lv.nx (Lv.top s).lv false = (Lv.top s).lv + 1 + 1 := by unfold Lv.nx; rw [e1]; rfl
      rw [hx] at hr
      have HX := Lib.hid hx
      clear hx hp
      by_cases h1 : (Lv.top s).lv + 1 + 1 ≤ 125
      · by_cases h2 : s.iso = 0
        · have e2 : ((s.iso : Int) == 0) = true := by simp [h2]
          by_cases h3 : s.emb = 0
          · have e3 : ((s.emb : Int) == 0) = true := by simp [h3]
            have hrt : b = true := by rw [← hr]; simp [Lv.room, h1, h2, h3]
            have HR := Lib.hid hrt
            clear hr hrt h2 h3
            go_enter Try.func37, Try.ntmps37
            go_wp2_with fail
            refine (ptop_any B1 k g base s A m c _ _ _ _ (by exact HB.out) (by exact HS.out) HK.out hk).mono ?_
            rintro e w1 ⟨rfl, hb1⟩
            obtain ⟨p0, p1, p2, p3, p4, f0, f1, f2, f3, f4⟩ := blk5 (HB.out.below hb1)
            go_wp2_with fail
            go_quiet (fail)
            go_wp2
            go_ret2
            exact RetVal.two HX.out HR.out (below_drewN hb1 _)
          · have e3 : ((s.emb : Int) == 0) = false := by simp [h3]
            have hrt : b = false := by rw [← hr]; simp [Lv.room, h3]
            have HR := Lib.hid hrt
            clear hr hrt h2 h3
            go_enter Try.func37, Try.ntmps37
            go_wp2_with fail
            refine (ptop_any B1 k g base s A m c _ _ _ _ (by exact HB.out) (by exact HS.out) HK.out hk).mono ?_
            rintro e w1 ⟨rfl, hb1⟩
            obtain ⟨p0, p1, p2, p3, p4, f0, f1, f2, f3, f4⟩ := blk5 (HB.out.below hb1)
            go_wp2_with fail
            go_quiet (fail)
            go_wp2
            go_ret2
            exact RetVal.two HX.out HR.out (below_drewN hb1 _)
        · have e2 : ((s.iso : Int) == 0) = false := by simp [h2]
          have hrt : b = false := by rw [← hr]; simp [Lv.room, h2]
          have HR := Lib.hid hrt
          clear hr hrt h2
          go_enter Try.func37, Try.ntmps37
          go_wp2_with fail
          refine (ptop_any B1 k g base s A m c _ _ _ _ (by exact HB.out) (by exact HS.out) HK.out hk).mono ?_
          rintro e w1 ⟨rfl, hb1⟩
          obtain ⟨p0, p1, p2, p3, p4, f0, f1, f2, f3, f4⟩ := blk5 (HB.out.below hb1)
          go_wp2_with fail
          go_quiet (fail)
          go_wp2
          go_ret2
          exact RetVal.two HX.out HR.out (below_drewN hb1 _)
      · have hrt : b = false := by rw [← hr]; simp only [Lv.room, Bool.and_eq_false_iff, decide_eq_false_iff_not]; exact .inl h1
        have HR := Lib.hid hrt
        have d1 : decide ((Lv.top s).lv + 1 + 1 ≤ 125) = false := by simp; omega
        clear hr hrt
        go_enter Try.func37, Try.ntmps37
        go_wp2_with fail
        refine (ptop_any B1 k g base s A m c _ _ _ _ (by exact HB.out) (by exact HS.out) HK.out hk).mono ?_
        rintro e w1 ⟨rfl, hb1⟩
        obtain ⟨p0, p1, p2, p3, p4, f0, f1, f2, f3, f4⟩ := blk5 (HB.out.below hb1)
        go_wp2_with fail
        go_quiet (fail)
        go_wp2
        go_ret2
        exact RetVal.two HX.out HR.out (below_drewN hb1 _)
    · have e1 : (((Lv.top s).lv + 1) % 2 == 1) = false := by simpa using hp
      have hx : Lv.nx (Lv.top s).lv false = (Lv.top s).lv + 1 := by unfold Lv.nx; rw [e1]; rfl
      rw [hx] at hr
      have HX := Lib.hid hx
      clear hx hp
      by_cases h1 : (Lv.top s).lv + 1 ≤ 125
      · by_cases h2 : s.iso = 0
        · have e2 : ((s.iso : Int) == 0) = true := by simp [h2]
          by_cases h3 : s.emb = 0
          · have e3 : ((s.emb : Int) == 0) = true := by simp [h3]
            have hrt : b = true := by rw [← hr]; simp [Lv.room, h1, h2, h3]
            have HR := Lib.hid hrt
            clear hr hrt h2 h3
            go_enter Try.func37, Try.ntmps37
            go_wp2_with fail
            refine (ptop_any B1 k g base s A m c _ _ _ _ (by exact HB.out) (by exact HS.out) HK.out hk).mono ?_
            rintro e w1 ⟨rfl, hb1⟩
            obtain ⟨p0, p1, p2, p3, p4, f0, f1, f2, f3, f4⟩ := blk5 (HB.out.below hb1)
            go_wp2_with fail
            go_quiet (fail)
            go_wp2
            go_ret2
            exact RetVal.two HX.out HR.out (below_drewN hb1 _)
          · have e3 : ((s.emb : Int) == 0) = false := by simp [h3]
            have hrt : b = false := by rw [← hr]; simp [Lv.room, h3]
            have HR := Lib.hid hrt
            clear hr hrt h2 h3
            go_enter Try.func37, Try.ntmps37
            go_wp2_with fail
            refine (ptop_any B1 k g base s A m c _ _ _ _ (by exact HB.out) (by exact HS.out) HK.out hk).mono ?_
            rintro e w1 ⟨rfl, hb1⟩
            obtain ⟨p0, p1, p2, p3, p4, f0, f1, f2, f3, f4⟩ := blk5 (HB.out.below hb1)
            go_wp2_with fail
            go_quiet (fail)
            go_wp2
            go_ret2
            exact RetVal.two HX.out HR.out (below_drewN hb1 _)
        · have e2 : ((s.iso : Int) == 0) = false := by simp [h2]
          have hrt : b = false := by rw [← hr]; simp [Lv.room, h2]
          have HR := Lib.hid hrt
          clear hr hrt h2
          go_enter Try.func37, Try.ntmps37
          go_wp2_with fail
          refine (ptop_any B1 k g base s A m c _ _ _ _ (by exact HB.out) (by exact HS.out) HK.out hk).mono ?_
          rintro e w1 ⟨rfl, hb1⟩
          obtain ⟨p0, p1, p2, p3, p4, f0, f1, f2, f3, f4⟩ := blk5 (HB.out.below hb1)
          go_wp2_with fail
          go_quiet (fail)
          go_wp2
          go_ret2
          exact RetVal.two HX.out HR.out (below_drewN hb1 _)
      · have hrt : b = false := by rw [← hr]; simp only [Lv.room, Bool.and_eq_false_iff, decide_eq_false_iff_not]; exact .inl h1
        have HR := Lib.hid hrt
        have d1 : decide ((Lv.top s).lv + 1 ≤ 125) = false := by simp; omega
        clear hr hrt
        go_enter Try.func37, Try.ntmps37
        go_wp2_with fail
        refine (ptop_any B1 k g base s A m c _ _ _ _ (by exact HB.out) (by exact HS.out) HK.out hk).mono ?_
        rintro e w1 ⟨rfl, hb1⟩
        obtain ⟨p0, p1, p2, p3, p4, f0, f1, f2, f3, f4⟩ := blk5 (HB.out.below hb1)
        go_wp2_with fail
        go_quiet (fail)
        go_wp2
        go_ret2
        exact RetVal.two HX.out HR.out (below_drewN hb1 _)
  · by_cases hp : ((Lv.top s).lv + 1) % 2 = 1
    · have e1 : (((Lv.top s).lv + 1) % 2 == 1) = true := by simpa using hp
      have hx : Lv.nx (Lv.top s).lv true = (Lv.top s).lv + 1 := by unfold Lv.nx; rw [e1]; rfl
      rw [hx] at hr
      have HX := Lib.hid hx
      clear hx hp
      by_cases h1 : (Lv.top s).lv + 1 ≤ 125
      · by_cases h2 : s.iso = 0
        · have e2 : ((s.iso : Int) == 0) = true := by simp [h2]
          by_cases h3 : s.emb = 0
          · have e3 : ((s.emb : Int) == 0) = true := by simp [h3]
            have hrt : b = true := by rw [← hr]; simp [Lv.room, h1, h2, h3]
            have HR := Lib.hid hrt
            clear hr hrt h2 h3
            go_enter Try.func37, Try.ntmps37
            go_wp2_with fail
            refine (ptop_any B1 k g base s A m c _ _ _ _ (by exact HB.out) (by exact HS.out) HK.out hk).mono ?_
            rintro e w1 ⟨rfl, hb1⟩
            obtain ⟨p0, p1, p2, p3, p4, f0, f1, f2, f3, f4⟩ := blk5 (HB.out.below hb1)
            go_wp2_with fail
            go_quiet (fail)
            go_wp2
            go_ret2
            exact RetVal.two HX.out HR.out (below_drewN hb1 _)
          · have e3 : ((s.emb : Int) == 0) = false := by simp [h3]
            have hrt : b = false := by rw [← hr]; simp [Lv.room, h3]
            have HR := Lib.hid hrt
            clear hr hrt h2 h3
            go_enter Try.func37, Try.ntmps37
            go_wp2_with fail
            refine (ptop_any B1 k g base s A m c _ _ _ _ (by exact HB.out) (by exact HS.out) HK.out hk).mono ?_
            rintro e w1 ⟨rfl, hb1⟩
            obtain ⟨p0, p1, p2, p3, p4, f0, f1, f2, f3, f4⟩ := blk5 (HB.out.below hb1)
            go_wp2_with fail
            go_quiet (fail)
            go_wp2
            go_ret2
            exact RetVal.two HX.out HR.out (below_drewN hb1 _)
        · have e2 : ((s.iso : Int) == 0) = false := by simp [h2]
          have hrt : b = false := by rw [← hr]; simp [Lv.room, h2]
          have HR := Lib.hid hrt
          clear hr hrt h2
          go_enter Try.func37, Try.ntmps37
          go_wp2_with fail
          refine (ptop_any B1 k g base s A m c _ _ _ _ (by exact HB.out) (by exact HS.out) HK.out hk).mono ?_
          rintro e w1 ⟨rfl, hb1⟩
          obtain ⟨p0, p1, p2, p3, p4, f0, f1, f2, f3, f4⟩ := blk5 (HB.out.below hb1)
          go_wp2_with fail
          go_quiet (fail)
          go_wp2
          go_ret2
          exact RetVal.two HX.out HR.out (below_drewN hb1 _)
      · have hrt : b = false := by rw [← hr]; simp only [Lv.room, Bool.and_eq_false_iff, decide_eq_false_iff_not]; exact .inl h1
        have HR := Lib.hid hrt
        have d1 : decide ((Lv.top s).lv + 1 ≤ 125) = false := by simp; omega
        clear hr hrt
        go_enter Try.func37, Try.ntmps37
        go_wp2_with fail
        refine (ptop_any B1 k g base s A m c _ _ _ _ (by exact HB.out) (by exact HS.out) HK.out hk).mono ?_
        rintro e w1 ⟨rfl, hb1⟩
        obtain ⟨p0, p1, p2, p3, p4, f0, f1, f2, f3, f4⟩ := blk5 (HB.out.below hb1)
        go_wp2_with fail
        go_quiet (fail)
        go_wp2
        go_ret2
        exact RetVal.two HX.out HR.out (below_drewN hb1 _)
    · have e1 : (((Lv.top s).lv + 1) % 2 == 1) = false := by simpa using hp
      have hx : Lv.nx (Lv.top s).lv true = (Lv.top s).lv + 1 + 1 := by unfold Lv.nx; rw [e1]; rfl
      rw [hx] at hr
      have HX := Lib.hid hx
      clear hx hp
      by_cases h1 : (Lv.top s).lv + 1 + 1 ≤ 125
      · by_cases h2 : s.iso = 0
        · have e2 : ((s.iso : Int) == 0) = true := by simp [h2]
          by_cases h3 : s.emb = 0
          · have e3 : ((s.emb : Int) == 0) = true := by simp [h3]
            have hrt : b = true := by rw [← hr]; simp [Lv.room, h1, h2, h3]
            have HR := Lib.hid hrt
            clear hr hrt h2 h3
            go_enter Try.func37, Try.ntmps37
            go_wp2_with fail
            refine (ptop_any B1 k g base s A m c _ _ _ _ (by exact HB.out) (by exact HS.out) HK.out hk).mono ?_
            rintro e w1 ⟨rfl, hb1⟩
            obtain ⟨p0, p1, p2, p3, p4, f0, f1, f2, f3, f4⟩ := blk5 (HB.out.below hb1)
            go_wp2_with fail
            go_quiet (fail)
            go_wp2
            go_ret2
            exact RetVal.two HX.out HR.out (below_drewN hb1 _)
          · have e3 : ((s.emb : Int) == 0) = false := by simp [h3]
            have hrt : b = false := by rw [← hr]; simp [Lv.room, h3]
            have HR := Lib.hid hrt
            clear hr hrt h2 h3
            go_enter Try.func37, Try.ntmps37
            go_wp2_with fail
            refine (ptop_any B1 k g base s A m c _ _ _ _ (by exact HB.out) (by exact HS.out) HK.out hk).mono ?_
            rintro e w1 ⟨rfl, hb1⟩
            obtain ⟨p0, p1, p2, p3, p4, f0, f1, f2, f3, f4⟩ := blk5 (HB.out.below hb1)
            go_wp2_with fail
            go_quiet (fail)
            go_wp2
            go_ret2
            exact RetVal.two HX.out HR.out (below_drewN hb1 _)
        · have e2 : ((s.iso : Int) == 0) = false := by simp [h2]
          have hrt : b = false := by rw [← hr]; simp [Lv.room, h2]
          have HR := Lib.hid hrt
          clear hr hrt h2
          go_enter Try.func37, Try.ntmps37
          go_wp2_with fail
          refine (ptop_any B1 k g base s A m c _ _ _ _ (by exact HB.out) (by exact HS.out) HK.out hk).mono ?_
          rintro e w1 ⟨rfl, hb1⟩
          obtain ⟨p0, p1, p2, p3, p4, f0, f1, f2, f3, f4⟩ := blk5 (HB.out.below hb1)
          go_wp2_with fail
          go_quiet (fail)
          go_wp2
          go_ret2
          exact RetVal.two HX.out HR.out (below_drewN hb1 _)
      · have hrt : b = false := by rw [← hr]; simp only [Lv.room, Bool.and_eq_false_iff, decide_eq_false_iff_not]; exact .inl h1
        have HR := Lib.hid hrt
        have d1 : decide ((Lv.top s).lv + 1 + 1 ≤ 125) = false := by simp; omega
        clear hr hrt
        go_enter Try.func37, Try.ntmps37
        go_wp2_with fail
        refine (ptop_any B1 k g base s A m c _ _ _ _ (by exact HB.out) (by exact HS.out) HK.out hk).mono ?_
        rintro e w1 ⟨rfl, hb1⟩
        obtain ⟨p0, p1, p2, p3, p4, f0, f1, f2, f3, f4⟩ := blk5 (HB.out.below hb1)
        go_wp2_with fail
        go_quiet (fail)
        go_wp2
        go_ret2
        exact RetVal.two HX.out HR.out (below_drewN hb1 _)

end Go.Proofs.Ythcgdlcpgklhbaa
