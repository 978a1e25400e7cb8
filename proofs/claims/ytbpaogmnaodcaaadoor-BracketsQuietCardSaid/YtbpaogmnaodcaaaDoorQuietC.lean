/- The walk of the law BracketsQuiet. Condition: the table of last signs lies as laid; the sort sorts. -/
import Derived.Test.YtbpaogmnaodcaaaDoorQuietB
import Derived.Deep.RegionWith
namespace Go.Proofs.YtbpaogmnaodcaaaDoor
open Go.RowKit

set_option maxRecDepth 100000 in
set_option maxHeartbeats 4000000 in
theorem quiet_walk (A A2 : Option Addr) (n c n2 c2 : Nat) (rs zs : List Int) (lv : Int) (bo : Bool) (w : World) (h : Runes w w.heap.size A n c rs) (h2 : Ints w w.heap.size A2 n2 c2 zs) (hL : Lasts w) (hS : SortOk) :
    Calls Tryd.prog 7 #[.slice A n c, .slice A2 n2 c2, .agg #[.int .i64 lv, .bool bo]] w fun e w' => e = .returned (.bool true) ∧ Below w.heap.size w w' := by
  have hcap := h.cap
  have hcap2 := h2.cap
  by_cases hlong : 150 < n ∨ 150 < n2
  · have HLG := Lib.hid hlong
    clear h h2 hlong hL hS
    go_enter Tryd.func7, Tryd.ntmps7
    go_wp2_with (go_at_call 8; refine (long_yes A A2 n c n2 c2 HLG.out _).mono ?_; rintro e w9 ⟨rfl, rfl⟩)
    go_ret
    exact ⟨rfl, (Below.refl _ _).alloc (Nat.le_refl _) _⟩
  · have hn : ¬ 150 < n := by omega
    have hn2 : ¬ 150 < n2 := by omega
    have HNN := Lib.hid (And.intro hn hn2)
    have hle : n ≤ 150 := by omega
    have hle2 : n2 ≤ 150 := by omega
    have hpos := hL.pos
    have hb0 : Below w.heap.size w (w.alloc (.cells #[.int .i64 lv, .bool bo] 34)) := (Below.refl _ _).alloc (Nat.le_refl _) _
    have hx0 := (cell2_lit w (.int .i64 lv) (.bool bo) 34 rfl)
    have hsz0 : w.heap.size < (w.alloc (.cells #[.int .i64 lv, .bool bo] 34)).heap.size := by simp
    have HI := Lib.hid h
    have HI2 := Lib.hid h2
    have HLA := Lib.hid hL
    have HSO := Lib.hid hS
    have HX0 := Lib.hid hx0
    have HL2 := Lib.hid h2.length
    clear h h2 hL hS hx0 hlong hn hn2
    go_enter Tryd.func7, Tryd.ntmps7
    go_wp2_with (go_at_call 8; refine (long_no A A2 n c n2 c2 HNN.out.1 HNN.out.2 _).mono ?_; rintro e w9 ⟨rfl, rfl⟩)
    generalize w.alloc (.cells #[.int .i64 lv, .bool bo] 34) = w2 at *
    have hs2 := hb0.size
    go_loopw [7, 8] (fun v7 v8 wr => ∃ (k c3 : Nat) (A3 : Option Addr) (ys : List Int), v7 = .slice A3 k c3 ∧ v8 = .int .i64 (k : Int) ∧ Own wr w2.heap.size 3 A3 k c3 ys ∧ (∀ y ∈ ys, Dull y) ∧ k ≤ n ∧ Below w2.heap.size w2 wr) (fun _ v8 _ => n - (intOf v8).toNat)
    case atStart => exact ⟨0, 0, none, [], rfl, rfl, Own.nil_ _ _ _, by simp, Nat.zero_le _, Below.refl _ _⟩
    case round =>
      obtain ⟨k, c3, A3, ys, rfl, rfl, how, hdu, hk, hbel⟩ := hrel
      have hsr := hbel.size
      have hoc := how.cap
      have HOW := Lib.hid how
      have HDU := Lib.hid hdu
      clear how hdu
      by_cases hlt : k < n
      · by_cases hl2 : k < n2
        · obtain ⟨x, hx⟩ : ∃ x, zs[k]? = some x := ⟨_, List.getElem?_eq_getElem (by rw [HL2.out]; exact hl2)⟩
          obtain ⟨b, of, rfl, hbb, hcx⟩ := ((HI2.out.below hb0).below (hbel.mono hs2)).get hx
          clear hx
          by_cases hx3 : x.tmod 3 = 0
          · have d1 : (x.tmod 3 == 0) = true := by simpa using hx3
            clear hx3
            go_wp2_with (at_builtin; refine wpList_append_ints _ rfl (.tmp 31) (.tmp 33) 23 rfl w2.heap.size 3 Tryd.underlying23 Tryd.infoInt A3 k c3 ys rfl (HOW.out.alloc _) (wr.heap.size + 1) (some ⟨wr.heap.size, 0, none⟩) 1 1 [13] rfl (Ints.lit_at _ [13] _ _ (by omega) rfl rfl (by simp)) (by omega) (by simp; omega) ?_; intro A4 c4 w4 ho4 hg4 hb4)
            go_roundw
            case rel => exact ⟨k + 1, c4, A4, ys ++ [13], rfl, by go_num, ho4, fun y hy => by
              rcases List.mem_append.1 hy with hy | hy
              · exact HDU.out y hy
              · simp at hy; subst hy; simp [Dull], by omega, (hbel.alloc hsr _).grown hg4 (by simp; omega) (fun g hg => (Own.block HOW.out g hg).1)⟩
            case measure => simp [intOf]; omega
          · have d1 : (x.tmod 3 == 0) = false := by simpa using hx3
            clear hx3
            go_wp2_with (at_builtin; refine wpList_append_ints _ rfl (.tmp 31) (.tmp 33) 23 rfl w2.heap.size 3 Tryd.underlying23 Tryd.infoInt A3 k c3 ys rfl (HOW.out.alloc _) (wr.heap.size + 1) (some ⟨wr.heap.size, 0, none⟩) 1 1 [14] rfl (Ints.lit_at _ [14] _ _ (by omega) rfl rfl (by simp)) (by omega) (by simp; omega) ?_; intro A4 c4 w4 ho4 hg4 hb4)
            go_roundw
            case rel => exact ⟨k + 1, c4, A4, ys ++ [14], rfl, by go_num, ho4, fun y hy => by
              rcases List.mem_append.1 hy with hy | hy
              · exact HDU.out y hy
              · simp at hy; subst hy; simp [Dull], by omega, (hbel.alloc hsr _).grown hg4 (by simp; omega) (fun g hg => (Own.block HOW.out g hg).1)⟩
            case measure => simp [intOf]; omega
        · have d1 : decide ((k : Int) < (n2 : Int)) = false := by simp; omega
          have d10 : decide (k < n2) = false := by simp; omega
          go_wp2_with (at_builtin; refine wpList_append_ints _ rfl (.tmp 31) (.tmp 33) 23 rfl w2.heap.size 3 Tryd.underlying23 Tryd.infoInt A3 k c3 ys rfl (HOW.out.alloc _) (wr.heap.size + 1) (some ⟨wr.heap.size, 0, none⟩) 1 1 [14] rfl (Ints.lit_at _ [14] _ _ (by omega) rfl rfl (by simp)) (by omega) (by simp; omega) ?_; intro A4 c4 w4 ho4 hg4 hb4)
          go_roundw
          case rel => exact ⟨k + 1, c4, A4, ys ++ [14], rfl, by go_num, ho4, fun y hy => by
            rcases List.mem_append.1 hy with hy | hy
            · exact HDU.out y hy
            · simp at hy; subst hy; simp [Dull], by omega, (hbel.alloc hsr _).grown hg4 (by simp; omega) (fun g hg => (Own.block HOW.out g hg).1)⟩
          case measure => simp [intOf]; omega
      · have hkn : k = n := by omega
        subst hkn
        have hb9 : Below w.heap.size w wr := hb0.trans (hbel.mono hs2)
        have hpl : w.heap.size < w2.heap.size := hsz0
        have c0 : wr.cell? ⟨w.heap.size, 0, none⟩ = some (.int .i64 lv) := (hbel.cell (p := ⟨w.heap.size, 0, none⟩) hpl).trans HX0.out.1
        have c1 : wr.cell? ⟨w.heap.size, 1, none⟩ = some (.bool bo) := (hbel.cell (p := ⟨w.heap.size, 1, none⟩) hpl).trans HX0.out.2
        have HI6 := Lib.hid ((HI.out.below hb9).more (Nat.le_trans hs2 hsr))
        have HO6 := Lib.hid HOW.out.ints
        obtain ⟨so, hso⟩ : ∃ x : Int, x = if bo then 2 else 1 := ⟨_, rfl⟩
        have hside : ∀ W, Calls Tryd.prog 16 #[.bool bo] W fun e w' => e = .returned (.int .i64 so) ∧ W = w' := fun W => by rw [hso]; exact side_any bo W
        have HSI := Lib.hid hside
        clear hside hso
        have HR := Lib.hid (resolve_dull wr.heap.size A A3 k c c3 rs ys lv so wr.drew HI6.out (Ints.drew HO6.out) (Nat.le_refl _) (by omega) (show Lasts wr from HLA.out.below hb9 hpos) HSO.out HDU.out)
        have HB9 := Lib.hid hb9
        have h0lt : ¬ k < k := Nat.lt_irrefl k
        clear hb9
        go_upto_region 11 with (fail)
        go_region_with (first
          | (go_at_call 16; refine (HSI.out _).mono ?_; rintro e w9 ⟨rfl, rfl⟩)
          | (go_at_call 15; refine HR.out.mono ?_; rintro e w5 ⟨A5, c5, rfl, ho5, hb5⟩)
          | (go_at_call 14; refine (same_any A5 A3 k c5 _ c3 _ ys _ ho5.ints ((Ints.drew HO6.out).below hb5)).mono ?_; rintro e w6 ⟨rfl, q6, rfl⟩))
        all_goals
          go_wp2_with fail
          go_ret
          exact ⟨rfl, below_drewN (HB9.out.drew.trans (hb5.mono (Nat.le_trans hs2 hsr))) _⟩

end Go.Proofs.YtbpaogmnaodcaaaDoor
