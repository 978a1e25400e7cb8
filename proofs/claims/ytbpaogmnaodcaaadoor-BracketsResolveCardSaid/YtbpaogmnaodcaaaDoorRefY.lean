/- The walk of the law BracketsResolve. Condition: the table of last signs lies as laid. -/
import Derived.Test.YtbpaogmnaodcaaaDoorRefX
import Derived.Test.YtbpaogmnaodcaaaDoorKeepD
import Derived.Deep.RegionHeld3
namespace Go.Proofs.YtbpaogmnaodcaaaDoor
open Go.RowKit

set_option maxHeartbeats 400000 in
theorem rresolve_uneven (A A2 : Option Addr) (n c n2 c2 : Nat) (lv so : Int) (hnn : n ≠ n2) (w : World) :
    Calls Tryd.prog 17 #[.slice A n c, .slice A2 n2 c2, .int .i64 lv, .int .i64 so] w fun e w' => e = .returned (.slice none 0 0) ∧ w = w' := by
  have d1 : ((n : Int) != (n2 : Int)) = true := by
    have h1 : (n : Int) ≠ (n2 : Int) := by omega
    simp [bne, h1]
  clear hnn
  go_enter Tryd.func17, Tryd.ntmps17
  go_wp2_with fail
  go_ret
  exact ⟨rfl, rfl⟩

set_option maxRecDepth 100000 in
set_option maxHeartbeats 4000000 in
theorem resolve_walk (A A2 : Option Addr) (n c n2 c2 : Nat) (rs cs : List Int) (lv : Int) (bo : Bool) (w : World) (h : Runes w w.heap.size A n c rs) (h2 : Ints w w.heap.size A2 n2 c2 cs) (hL : Lasts w) (_hS : SortOk) :
    Calls Tryd.prog 5 #[.slice A n c, .slice A2 n2 c2, .agg #[.int .i64 lv, .bool bo]] w fun e w' => e = .returned (.bool true) ∧ Below w.heap.size w w' := by
  have hcap := h.cap
  have hcap2 := h2.cap
  have hpos := hL.pos
  have hb0 : Below w.heap.size w (w.alloc (.cells #[.int .i64 lv, .bool bo] 34)) := (Below.refl _ _).alloc (Nat.le_refl _) _
  obtain ⟨x0, x1⟩ := (cell2_lit w (.int .i64 lv) (.bool bo) 34 rfl)
  have hsz0 : (w.alloc (.cells #[.int .i64 lv, .bool bo] 34)).heap.size = w.heap.size + 1 := by simp
  have HI := Lib.hid h
  have HI2 := Lib.hid h2
  have HLA := Lib.hid hL
  clear h h2 hL
  obtain ⟨so, hso⟩ : ∃ x : Int, x = if bo then 2 else 1 := ⟨_, rfl⟩
  have hside : ∀ W, Calls Tryd.prog 16 #[.bool bo] W fun e w' => e = .returned (.int .i64 so) ∧ W = w' := fun W => by rw [hso]; exact side_any bo W
  have HSI := Lib.hid hside
  have HSO := Lib.hid (show so = 1 ∨ so = 2 by rw [hso]; cases bo <;> simp)
  clear hside hso
  by_cases hlong : 150 < n ∨ 150 < n2
  · have HLG := Lib.hid hlong
    clear hlong x0 x1 hsz0
    have HB := Lib.hid hb0
    clear hb0
    go_enter Tryd.func5, Tryd.ntmps5
    go_wp2_with (go_at_call 8; refine (long_yes A A2 n c n2 c2 HLG.out _).mono ?_; rintro e w9 ⟨rfl, rfl⟩)
    go_ret
    exact ⟨rfl, HB.out⟩
  · have hn : ¬ 150 < n := by omega
    have hn2 : ¬ 150 < n2 := by omega
    have HNN := Lib.hid (And.intro hn hn2)
    clear hlong hn hn2
    by_cases hnn : n = n2
    · subst hnn
      go_enter Tryd.func5, Tryd.ntmps5
      go_wp2_with (go_at_call 8; refine (long_no A A2 n c n c2 HNN.out.1 HNN.out.2 _).mono ?_; rintro e w9 ⟨rfl, rfl⟩)
      generalize w.alloc (.cells #[.int .i64 lv, .bool bo] 34) = w2 at *
      have HB0 := Lib.hid hb0
      obtain ⟨outs, houts⟩ : ∃ z, z = rsv rs (wayOf lv) so cs (prsS rs cs) := ⟨_, rfl⟩
      have hres := fun W (hb : Below w.heap.size w W) => resolve_any w.heap.size A A2 n c c2 rs cs lv so W (HI.out.below hb) (HI2.out.below hb) hb.size (by have := HNN.out; omega) (HLA.out.below hb hpos)
      have hrr := fun W (hb : Below w.heap.size w W) => rresolve_any w.heap.size A A2 n c c2 rs cs lv so W (HI.out.below hb) (HI2.out.below hb) hb.size (by have := HNN.out; omega) HSO.out
      rw [← houts] at hres hrr
      have HR := Lib.hid hres
      have HRR := Lib.hid hrr
      have HSZ := Lib.hid (show w.heap.size < w2.heap.size by omega)
      clear hres houts hrr hb0
      go_upto_region 3 with (fail)
      go_region_held3 (fun W => W.cell? ⟨w.heap.size, 0, none⟩ = some (.int .i64 lv) ∧ W.cell? ⟨w.heap.size, 1, none⟩ = some (.bool bo)) (first | exact ⟨x0, x1⟩ | exact ⟨y0, y1⟩ | exact ⟨z0, z1⟩ | go_keep)
        (first
        | (go_at_call 16; refine (HSI.out _).mono ?_; rintro e w9 ⟨rfl, rfl⟩)
        | (go_at_call 15; refine (HR.out _ HB0.out.drew).mono ?_; rintro e w5 ⟨A5, c5, rfl, ho5, hb5⟩; have y0 := ((hb5.cell (p := ⟨w.heap.size, 0, none⟩) HSZ.out).trans x0); have y1 := ((hb5.cell (p := ⟨w.heap.size, 1, none⟩) HSZ.out).trans x1); have HO5 := Lib.hid ho5; have HB5 := Lib.hid (HB0.out.drew.trans (hb5.mono (Nat.le_of_lt HSZ.out))); have HSZ5 := Lib.hid (Nat.lt_of_lt_of_le HSZ.out hb5.size); clear ho5 hb5)
        | (go_at_call 17; refine (HRR.out _ HB5.out).mono ?_; rintro e w6 ⟨A6, c6, rfl, ho6, hb6⟩; have z0 := ((hb6.cell (p := ⟨w.heap.size, 0, none⟩) HSZ5.out).trans y0); have z1 := ((hb6.cell (p := ⟨w.heap.size, 1, none⟩) HSZ5.out).trans y1); have HO6 := Lib.hid ho6; have HO56 := Lib.hid (HO5.out.below hb6 (Nat.le_refl _)); have HB6 := Lib.hid (HB5.out.trans (hb6.mono HB5.out.size)); clear ho6 hb6)
        | (go_at_call 14; refine (same_any A5 A6 n c5 _ c6 _ outs _ HO56.out.ints HO6.out.ints).mono ?_; rintro e w7 ⟨rfl, q7, rfl⟩))
      all_goals
        go_wp2_with fail
        go_ret
        exact ⟨rfl, below_drewN HB6.out _⟩
    · have HNE := Lib.hid hnn
      clear hnn
      go_enter Tryd.func5, Tryd.ntmps5
      go_wp2_with (go_at_call 8; refine (long_no A A2 n c n2 c2 HNN.out.1 HNN.out.2 _).mono ?_; rintro e w9 ⟨rfl, rfl⟩)
      generalize w.alloc (.cells #[.int .i64 lv, .bool bo] 34) = w2 at *
      have HB0 := Lib.hid hb0
      clear hb0
      go_region_held3 (fun W => W.cell? ⟨w.heap.size, 0, none⟩ = some (.int .i64 lv) ∧ W.cell? ⟨w.heap.size, 1, none⟩ = some (.bool bo)) (first | exact ⟨x0, x1⟩ | go_keep)
        (first
        | (go_at_call 16; refine (HSI.out _).mono ?_; rintro e w9 ⟨rfl, rfl⟩)
        | (go_at_call 15; refine (resolve_uneven A A2 n c n2 c2 lv so HNE.out _).mono ?_; rintro e w5 ⟨rfl, rfl⟩)
        | (go_at_call 17; refine (rresolve_uneven A A2 n c n2 c2 lv so HNE.out _).mono ?_; rintro e w5 ⟨rfl, rfl⟩)
        | (go_at_call 14; refine (same_any none none 0 0 0 0 0 [] _ (Ints.nil_ _ _) (Ints.nil_ _ _)).mono ?_; rintro e w7 ⟨rfl, q7, rfl⟩))
      all_goals
        go_wp2_with fail
        go_ret
        exact ⟨rfl, below_drewN HB0.out _⟩

end Go.Proofs.YtbpaogmnaodcaaaDoor
