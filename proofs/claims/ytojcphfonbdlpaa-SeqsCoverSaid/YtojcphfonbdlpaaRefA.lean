/- The walks of the reference's small functions on its state: begin, last, own, next, room, add. Conditions: the state is in order. -/
import Derived.Test.YtojcphfonbdlpaaFirst
import Derived.Test.YtojcphfonbdlpaaEnts
import Derived.Lib.SmallJoins
namespace Go.Proofs.Ytojcphfonbdlpaa
open Go.RowKit

/-- The reference's state as a value: its stack is a row of the call's own. -/
def RS (w : World) (base : Nat) (v : Value) (s : Lv.S) : Prop :=
  ∃ A n c, v = .agg #[.slice A n c, .int .i64 (s.iso : Int), .int .i64 (s.emb : Int), .int .i64 (s.val : Int)] ∧ Stk w base 49 A n c s.stk

set_option maxHeartbeats 400000 in
theorem rlast_any (base k : Nat) (s : Lv.S) (A : Option Addr) (n c : Nat) (i e v : Int) (w : World) (h : Stk w base 49 A n c s.stk) (hok : Lv.Ok k s) (hn : n ≤ 1000000) :
    Calls Try.prog 20 #[.agg #[.slice A n c, .int .i64 i, .int .i64 e, .int .i64 v]] w fun e w' => e = .returned (.agg #[.int .i64 (Lv.top s).lv, .int .i64 (Lv.top s).ov, .bool (Lv.top s).is]) ∧ Below w.heap.size w w' := by
  obtain ⟨r, hr⟩ := hok.cons
  rw [hr] at h
  have hl := h.1
  have hcap := h.cap
  obtain ⟨hlt, g, rfl, hg, hgs, h1, h2, h3⟩ := Stk.at_ (f := []) h
  generalize Lv.top s = t at *
  simp at hl
  obtain rfl : n = r.length + 1 := hl.symm
  clear h hok hr hl
  go_enter Try.func20, Try.ntmps20
  go_wp2_with fail
  exact bodyPost_ret (v := .agg #[.int .i64 t.lv, .int .i64 t.ov, .bool t.is]) (by simp [results, Try.results20, go_sem]) rfl ⟨rfl, by repeat (first | exact Below.refl _ _ | refine Below.alloc ?_ (by simp <;> omega) _)⟩

/-- what a call leaves that answers a value and turns nothing that was there -/
def RetVal (w : World) (v : Value) (e : Ending) (w' : World) : Prop := e = .returned v ∧ Below w.heap.size w w'

theorem RetVal.int {w w' : World} {v u : Int} (h : v = u) (hb : Below w.heap.size w w') : RetVal w (.int .i64 v) (.returned (.int .i64 u)) w' := ⟨by rw [h], hb⟩

theorem bcell {B : Nat} {W w1 : World} (hb : Below B W w1) : (∀ b o, b < B → w1.cell? ⟨b, o, none⟩ = W.cell? ⟨b, o, none⟩) ∧ (∀ b o, b < B → w1.frozen? ⟨b, o, none⟩ = W.frozen? ⟨b, o, none⟩) :=
  ⟨fun b o h => hb.cell (p := ⟨b, o, none⟩) h, fun b o h => hb.frozen (p := ⟨b, o, none⟩) h⟩

/-- the cells of a block of four -/
theorem blk4 {W : World} {g : Nat} {v0 v1 v2 v3 : Value} {t : TypeId} (h : W.heap[g]? = some (.cells #[v0, v1, v2, v3] t (0, 0))) :
    W.cell? ⟨g, 0, none⟩ = some v0 ∧ W.cell? ⟨g, 1, none⟩ = some v1 ∧ W.cell? ⟨g, 2, none⟩ = some v2 ∧ W.cell? ⟨g, 3, none⟩ = some v3 ∧
    W.frozen? ⟨g, 0, none⟩ = false ∧ W.frozen? ⟨g, 1, none⟩ = false ∧ W.frozen? ⟨g, 2, none⟩ = false ∧ W.frozen? ⟨g, 3, none⟩ = false :=
  ⟨cell_of_row W g 0 _ t _ h, cell_of_row W g 1 _ t _ h, cell_of_row W g 2 _ t _ h, cell_of_row W g 3 _ t _ h, frozen_of_row W g 0 _ t h, frozen_of_row W g 1 _ t h, frozen_of_row W g 2 _ t h, frozen_of_row W g 3 _ t h⟩

/-- the fields of an entry -/
theorem rfld0 (x y : Int) (b : Bool) (w : World) : (Instr.field 49 (.agg #[.int .i64 x, .int .i64 y, .bool b]) 0).run Try.prog w = .ok (.int .i64 x) w := by kernel_rfl
theorem rfld1 (x y : Int) (b : Bool) (w : World) : (Instr.field 49 (.agg #[.int .i64 x, .int .i64 y, .bool b]) 1).run Try.prog w = .ok (.int .i64 y) w := by kernel_rfl
theorem rfld2 (x y : Int) (b : Bool) (w : World) : (Instr.field 49 (.agg #[.int .i64 x, .int .i64 y, .bool b]) 2).run Try.prog w = .ok (.bool b) w := by kernel_rfl

set_option maxHeartbeats 400000 in
theorem rown_any (base k : Nat) (s : Lv.S) (A : Option Addr) (n c : Nat) (i e v x : Int) (w : World) (h : Stk w base 49 A n c s.stk) (hok : Lv.Ok k s) (hn : n ≤ 1000000) :
    Calls Try.prog 21 #[.agg #[.slice A n c, .int .i64 i, .int .i64 e, .int .i64 v], .int .i64 x] w (RetVal w (.int .i64 (Lv.own s x))) := by
  have hH := Lib.hid h
  have HK := Lib.hid hok
  have hf1 := rfld1
  clear h hok
  by_cases ho : (Lv.top s).ov = 0
  · have hb : ((Lv.top s).ov != 0) = false := by simp [ho]
    have hx : Lv.own s x = x := by simp [Lv.own, ho]
    have HX := Lib.hid hx
    clear ho hx
    go_enter Try.func21, Try.ntmps21
    go_wp2_with fail
    refine (rlast_any base k s A n c i e v _ (hH.out.alloc _) HK.out hn).mono ?_
    rintro e w1 ⟨rfl, hb1⟩
    go_wp2
    go_ret
    exact RetVal.int HX.out (((Below.refl _ _).alloc (Nat.le_refl _) _).trans (hb1.mono (by simp)))
  · have hb : ((Lv.top s).ov != 0) = true := by simp [ho]
    have hx : Lv.own s x = (Lv.top s).ov := by simp [Lv.own, ho]
    have HX := Lib.hid hx
    clear ho hx
    go_enter Try.func21, Try.ntmps21
    go_wp2_with fail
    refine (rlast_any base k s A n c i e v _ (hH.out.alloc _) HK.out hn).mono ?_
    rintro e w1 ⟨rfl, hb1⟩
    obtain ⟨hc, hfz⟩ := bcell hb1
    have hz := hb1.size
    go_wp2_with fail
    refine (rlast_any base k s A n c i e v _ ((hH.out.alloc _).below hb1 (Nat.le_refl _)) HK.out hn).mono ?_
    rintro e w2 ⟨rfl, hb2⟩
    clear hc hfz
    go_wp2
    go_ret
    exact RetVal.int HX.out ((((Below.refl _ _).alloc (Nat.le_refl _) _).trans (hb1.mono (by simp))).trans (hb2.mono (by simp at hz; omega)))

set_option maxHeartbeats 400000 in
theorem rnext_any (l : Int) (o : Bool) (h0 : 0 ≤ l) (h1 : l ≤ 1000) (w : World) :
    Calls Try.prog 37 #[.int .i64 l, .bool o] w fun e w' => e = .returned (.int .i64 (Lv.nx l o)) ∧ w = w' := by
  by_cases hp : (l + 1) % 2 = 1
  · have e1 : ((l + 1) % 2 == 1) = true := by simpa using hp
    have hx : Lv.nx l o = if o then l + 1 else l + 1 + 1 := by unfold Lv.nx; rw [e1]; cases o <;> rfl
    rw [hx]
    clear hx hp
    cases o
    all_goals
      go_enter Try.func37, Try.ntmps37
      go_wp2
      go_ret
      exact ⟨rfl, rfl⟩
  · have e1 : ((l + 1) % 2 == 1) = false := by simpa using hp
    have hx : Lv.nx l o = if o then l + 1 + 1 else l + 1 := by unfold Lv.nx; rw [e1]; cases o <;> rfl
    rw [hx]
    clear hx hp
    cases o
    all_goals
      go_enter Try.func37, Try.ntmps37
      go_wp2
      go_ret
      exact ⟨rfl, rfl⟩

set_option maxHeartbeats 400000 in
theorem rroom_any (s : Lv.S) (A : Option Addr) (n c : Nat) (v m : Int) (b : Bool) (hb : Lv.room s m = b) (w : World) :
    Calls Try.prog 38 #[.agg #[.slice A n c, .int .i64 (s.iso : Int), .int .i64 (s.emb : Int), .int .i64 v], .int .i64 m] w (RetVal w (.bool b)) := by
  subst hb
  by_cases h1 : m ≤ 125
  · by_cases h2 : s.iso = 0
    · by_cases h3 : s.emb = 0
      · have hx : Lv.room s m = true := by simp [Lv.room, h1, h2, h3]
        rw [hx]
        have e2 : ((s.iso : Int) == 0) = true := by simp [h2]
        have e3 : ((s.emb : Int) == 0) = true := by simp [h3]
        clear hx h2 h3
        go_enter Try.func38, Try.ntmps38
        go_wp2
        go_ret
        exact ⟨rfl, (Below.refl _ _).alloc (Nat.le_refl _) _⟩
      · have hx : Lv.room s m = false := by simp [Lv.room, h3]
        rw [hx]
        have e2 : ((s.iso : Int) == 0) = true := by simp [h2]
        have e3 : ((s.emb : Int) == 0) = false := by simp [h3]
        clear hx h2 h3
        go_enter Try.func38, Try.ntmps38
        go_wp2
        go_ret
        exact ⟨rfl, (Below.refl _ _).alloc (Nat.le_refl _) _⟩
    · have hx : Lv.room s m = false := by simp [Lv.room, h2]
      rw [hx]
      have e2 : ((s.iso : Int) == 0) = false := by simp [h2]
      clear hx h2
      go_enter Try.func38, Try.ntmps38
      go_wp2
      go_ret
      exact ⟨rfl, (Below.refl _ _).alloc (Nat.le_refl _) _⟩
  · have hx : Lv.room s m = false := by simp [Lv.room, h1]
    rw [hx]
    have e1 : decide (m ≤ 125) = false := by simp; omega
    clear hx
    go_enter Try.func38, Try.ntmps38
    go_wp2
    go_ret
    exact ⟨rfl, (Below.refl _ _).alloc (Nat.le_refl _) _⟩

end Go.Proofs.Ytojcphfonbdlpaa
