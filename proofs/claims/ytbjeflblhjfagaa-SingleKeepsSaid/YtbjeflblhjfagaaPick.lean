/- The walk of Pick. Condition: the font reads as its shape. Printed by wip/tools/g27x.py. -/
import Derived.Test.YtbjeflblhjfagaaFontL
import Derived.Laws.Rows
import Derived.Laws.Tables
import Derived.BigRegion
import Derived.Deep.RegionHeld3
namespace Go.Proofs.Ytbjeflblhjfagaa
open Go.RowKit

theorem results_row_tmp {P : Program} {fn : Func} {p u : Tmp} {ty : TypeId} (h : fn.results = #[.cell p ty, .tmp u]) (tmps : Array Value) (w : World) (g : Nat) (t : TypeId) (cs : Array Value) (fr : Nat × Nat) (d : TypeDesc)
    (hp : tmps.getD p undef = .pointer (some ⟨g, 0, none⟩)) (hg : w.heap[g]? = some (.cells cs t fr))
    (hu : P.underlying ty = some d) (hd : (match d with | .struct _ | .array _ _ => true | _ => false) = true) (hi : (P.info? ty).map (·.size) = some cs.size) :
    (results fn tmps).run P w = .ok (.tuple #[.agg cs, tmps.getD u undef]) w := by
  rw [results_cell_tmp h, hp]
  simp [asAddr, run_loadVar_row w g t ty cs fr d hg hu hd hi, Result.andThen]
theorem sizeLk : (Try.prog.info? 31).map (·.size) = some 4 := by kernel_rfl
theorem look_filled (W : World) (g : Nat) (l : Lk) (t : TypeId) (h : W.heap[g]? = some (.cells #[.int .i64 0, .int .i64 0, .int .i64 0, .slice none 0 0] t (0, 0))) :
    (((((W.setCell ⟨g, 0, none⟩ (.int .i64 l.ki)).setCell ⟨g, 1, none⟩ (.int .i64 l.fl)).setCell ⟨g, 2, none⟩ (.int .i64 l.se)).setCell ⟨g, 3, none⟩ (.slice l.su.A l.su.n l.su.c)).drew).heap[g]? = some (.cells #[.int .i64 l.ki, .int .i64 l.fl, .int .i64 l.se, .slice l.su.A l.su.n l.su.c] t (0, 0)) := by
  have h0 := heap_setCell_same _ g 0 _ _ (.int .i64 l.ki) h
  simp only [List.setIfInBounds_toArray, List.set_cons_zero] at h0
  have h1 := heap_setCell_same _ g 1 _ _ (.int .i64 l.fl) h0
  simp only [List.setIfInBounds_toArray, List.set_cons_succ, List.set_cons_zero] at h1
  have h2 := heap_setCell_same _ g 2 _ _ (.int .i64 l.se) h1
  simp only [List.setIfInBounds_toArray, List.set_cons_succ, List.set_cons_zero] at h2
  have h3 := heap_setCell_same _ g 3 _ _ (.slice l.su.A l.su.n l.su.c) h2
  simp only [List.setIfInBounds_toArray, List.set_cons_succ, List.set_cons_zero] at h3
  rw [heap_drew]
  exact h3
/-- What Pick leaves. -/
def PickR (F : Fnt) (B : Nat) (ls : List PL) (w : World) (e : Ending) (w' : World) : Prop :=
  (F.ln = 0 ∧ e = .returned (.tuple #[.agg #[.int .i64 0, .int .i64 0, .int .i64 0, .slice none 0 0], .bool false]) ∧ Below w.heap.size w w') ∨
  (∃ (k : Nat) (l : Lk), k < F.ln ∧ e = .returned (.tuple #[.agg #[.int .i64 l.ki, .int .i64 l.fl, .int .i64 l.se, .slice l.su.A l.su.n l.su.c], .bool true]) ∧ l.ki = (ls.getD k nL).1 ∧ SubsR w' B l.su.A l.su.n l.su.c (ls.getD k nL).2 ∧ Below w.heap.size w w')
set_option maxRecDepth 100000 in
set_option maxHeartbeats 4000000 in
theorem pick_any (F : Fnt) (B mv : Nat) (ls : List PL) (w : World) (hls : LksR w B F.LA F.ln F.lc ls) (hmv : mv < 256) (hB : B ≤ w.heap.size) :
    Calls Try.prog 6 #[.agg #[.int .i64 F.em, .slice F.GA F.gn F.gc, .slice F.MA F.mn F.mc, .slice F.LA F.ln F.lc, .slice F.FA F.fn F.fc, .slice F.SA F.sn F.sc], .int .u8 (mv : Int)] w (PickR F B ls w) := by
  have hcap := hls.cap
  obtain ⟨w1, hw1⟩ : ∃ z, z = w.alloc (.cells #[.int .i64 F.em, .slice F.GA F.gn F.gc, .slice F.MA F.mn F.mc, .slice F.LA F.ln F.lc, .slice F.FA F.fn F.fc, .slice F.SA F.sn F.sc] 28) := ⟨_, rfl⟩
  have hb1 : Below w.heap.size w w1 := by rw [hw1]; exact (Below.refl _ _).alloc (Nat.le_refl _) _
  have hs1 : w.heap.size < w1.heap.size := by rw [hw1]; simp
  have hfb : FBox w1 w.heap.size F := by rw [hw1]; exact FBox.new w F
  obtain ⟨f0, f1, f2, f3, f4, f5⟩ := hfb.cells
  have g0 := up_fact f0
  have g1 := up_fact f1
  have g2 := up_fact f2
  have g3 := up_fact f3
  have g4 := up_fact f4
  have g5 := up_fact f5
  have hA0 := Below.refl w1.heap.size w1
  clear f0 f1 f2 f3 f4 f5 hfb
  have HW1 := Lib.hid hw1
  clear hw1
  have HLS := Lib.hid (hls.below (hb1.mono hB))
  clear hls
  have HSZ := Lib.hid (show w.heap.size + 1 = w1.heap.size by rw [HW1.out]; simp)
  by_cases hz : F.ln = 0
  · have q0 : ((F.ln : Int) == 0) = true := by simp; omega
    have HZ := Lib.hid hz
    clear hz
    go_enter Try.func6, Try.ntmps6
    go_upto_region 1 with (fail)
    rw [← HW1.out]
    rw [HSZ.out]
    go_wp2_with (refine wpList_store_row rfl 31 _ _ rfl w1.heap.size #[.int .i64 0, .int .i64 0, .int .i64 0, .slice none 0 0] rfl rfl 31 #[.int .i64 0, .int .i64 0, .int .i64 0, .slice none 0 0] (heap_alloc_new _ _) sizeLk rfl rfl ?_)
    (try simp only [Exit.inBlock, Exit.then])
    refine bodyPost_ret (v := .tuple #[.agg #[.int .i64 0, .int .i64 0, .int .i64 0, .slice none 0 0], .bool false]) ?h1 rfl ?_
    case h1 =>
      have hr := fun tm hp => results_row_tmp (fn := Try.f6) (p := 4) (u := 5) (ty := 31) rfl tm _ w1.heap.size 31 #[.int .i64 0, .int .i64 0, .int .i64 0, .slice none 0 0] (0, 0) _ hp (heap_alloc_new w1 (.cells #[.int .i64 0, .int .i64 0, .int .i64 0, .slice none 0 0] 31)) Try.underlying31 rfl sizeLk
      exact hr _ rfl
    exact .inl ⟨HZ.out, rfl, hb1.trans (((Below.refl w1.heap.size w1).alloc (Nat.le_refl _) _).mono (by omega))⟩
  · have q0 : ((F.ln : Int) == 0) = false := by simp; omega
    obtain ⟨k, hk⟩ : ∃ k, k = mv % F.ln := ⟨_, rfl⟩
    have hkl : k < F.ln := by rw [hk]; exact Nat.mod_lt _ (by omega)
    obtain ⟨b, o, l, eL, hbb, ⟨c0, c1, c2, c3⟩, hki, hsub⟩ := HLS.out.2.2.2 k hkl
    have hw0 : IntKind.i64.wrap (mv : Int) = (mv : Int) := by rw [IntKind.wrap_i64]; omega
    have hw1' : Int.tmod (mv : Int) (F.ln : Int) = (k : Int) := by rw [hk]; rfl
    have hw2 : IntKind.i64.wrap (k : Int) = (k : Int) := by rw [IntKind.wrap_i64]; omega
    have v0 := up_fact c0
    have v1 := up_fact c1
    have v2 := up_fact c2
    have v3 := up_fact c3
    have HEL := Lib.hid eL
    clear eL
    have HKI := Lib.hid hki
    have HSUB := Lib.hid hsub
    have HK := Lib.hid hkl
    clear c0 c1 c2 c3 hki hsub hk hz
    go_enter Try.func6, Try.ntmps6
    go_upto_region 3 with (fail)
    rw [← HW1.out]
    rw [HSZ.out]
    rw [HEL.out] at g3 ⊢
    obtain ⟨W, hW⟩ : ∃ z, z = w1.alloc (.cells #[.int .i64 0, .int .i64 0, .int .i64 0, .slice none 0 0] 31) := ⟨_, rfl⟩
    have hWb : Below w1.heap.size w1 W := by rw [hW]; exact (Below.refl _ _).alloc (Nat.le_refl _) _
    have u3 := g3 W hWb
    have y0 := v0 W hWb
    have y1 := v1 W hWb
    have y2 := v2 W hWb
    have y3 := v3 W hWb
    have hnew : W.heap[w1.heap.size]? = some (.cells #[.int .i64 0, .int .i64 0, .int .i64 0, .slice none 0 0] 31 (0, 0)) := by rw [hW]; exact heap_alloc_new _ _
    have b0 : W.cell? ⟨w1.heap.size, 0, none⟩ = some (.int .i64 0) := by rw [cell_of_row _ _ 0 _ _ _ hnew]; rfl
    have b1 : W.cell? ⟨w1.heap.size, 1, none⟩ = some (.int .i64 0) := by rw [cell_of_row _ _ 1 _ _ _ hnew]; rfl
    have b2 : W.cell? ⟨w1.heap.size, 2, none⟩ = some (.int .i64 0) := by rw [cell_of_row _ _ 2 _ _ _ hnew]; rfl
    have b3 : W.cell? ⟨w1.heap.size, 3, none⟩ = some (.slice none 0 0) := by rw [cell_of_row _ _ 3 _ _ _ hnew]; rfl
    have z0 := frozen_of_row _ _ 0 _ _ hnew
    have z1 := frozen_of_row _ _ 1 _ _ hnew
    have z2 := frozen_of_row _ _ 2 _ _ hnew
    have z3 := frozen_of_row _ _ 3 _ _ hnew
    have hne : F.ln ≠ 0 := by omega
    have HN := Lib.hid hnew
    have HWB := Lib.hid hWb
    rw [← hW]
    clear g0 g1 g2 g3 g4 g5 v0 v1 v2 v3 hnew hWb hW hA0
    go_region
    all_goals
      go_wp2_with fail
      (try simp only [Exit.inBlock, Exit.then])
      refine bodyPost_ret (v := .tuple #[.agg #[.int .i64 l.ki, .int .i64 l.fl, .int .i64 l.se, .slice l.su.A l.su.n l.su.c], .bool true]) ?h1 rfl ?_
      case h1 =>
        have hr := fun tm hp => results_row_tmp (fn := Try.f6) (p := 4) (u := 5) (ty := 31) rfl tm _ w1.heap.size 31 #[.int .i64 l.ki, .int .i64 l.fl, .int .i64 l.se, .slice l.su.A l.su.n l.su.c] (0, 0) _ hp (look_filled W w1.heap.size l 31 HN.out) Try.underlying31 rfl sizeLk
        exact hr _ rfl
      have hfin := ((((HWB.out.setCell (p := ⟨w1.heap.size, 0, none⟩) (Nat.le_refl _) (.int .i64 l.ki)).setCell (p := ⟨w1.heap.size, 1, none⟩) (Nat.le_refl _) (.int .i64 l.fl)).setCell (p := ⟨w1.heap.size, 2, none⟩) (Nat.le_refl _) (.int .i64 l.se)).setCell (p := ⟨w1.heap.size, 3, none⟩) (Nat.le_refl _) (.slice l.su.A l.su.n l.su.c)).drew
      exact .inr ⟨k, l, HK.out, rfl, HKI.out, (HSUB.out).below (hfin.mono (by omega)), hb1.trans (hfin.mono (by omega))⟩

end Go.Proofs.Ytbjeflblhjfagaa
