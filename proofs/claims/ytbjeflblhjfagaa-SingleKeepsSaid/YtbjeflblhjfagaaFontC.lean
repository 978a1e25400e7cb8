/- The walks of glyphs and maps, of a font that reads as its shape. Printed by wip/tools/g27c.py. No condition but the shape. -/
import Derived.Test.YtbjeflblhjfagaaFontB
namespace Go.Proofs.Ytbjeflblhjfagaa
open Go.RowKit

/-- What a check leaves: some answer. -/
def RetB (w : World) (p : Bool → Prop) (e : Ending) (w' : World) : Prop := ∃ b, e = .returned (.bool b) ∧ p b ∧ Below w.heap.size w w'

set_option maxRecDepth 100000 in
set_option maxHeartbeats 4000000 in
theorem glyphs_any (F : Fnt) (B : Nat) (w : World) (h : FntOk w B F) (hB : B ≤ w.heap.size) :
    Calls Try.prog 30 #[.agg #[.int .i64 F.em, .slice F.GA F.gn F.gc, .slice F.MA F.mn F.mc, .slice F.LA F.ln F.lc, .slice F.FA F.fn F.fc, .slice F.SA F.sn F.sc]] w (RetB w fun _ => True) := by
  obtain ⟨w1, hw1⟩ : ∃ z, z = w.alloc (.cells #[.int .i64 F.em, .slice F.GA F.gn F.gc, .slice F.MA F.mn F.mc, .slice F.LA F.ln F.lc, .slice F.FA F.fn F.fc, .slice F.SA F.sn F.sc] 28) := ⟨_, rfl⟩
  have hb1 : Below w.heap.size w w1 := by rw [hw1]; exact (Below.refl _ _).alloc (Nat.le_refl _) _
  have hs1 : w.heap.size < w1.heap.size := by rw [hw1]; simp
  have hfb : FBox w1 w.heap.size F := by rw [hw1]; exact FBox.new w F
  obtain ⟨f0, f1, f2, f3, f4, f5⟩ := hfb.cells
  have g0 := up_fact f0
  have g1 := up_fact f1
  have g2 := up_fact f2
  have g3 := up_fact f3
  have g4 := up_fact f4
  have g5 := up_fact f5
  have hA0 := Below.refl w1.heap.size w1
  clear f0 f1 f2 f3 f4 f5 hfb
  have HW1 := Lib.hid hw1
  clear hw1
  have HG := Lib.hid (h.hG.below (hb1.mono hB))
  have hcap := h.hG.cap
  clear h
  go_enter Try.func30, Try.ntmps30
  go_upto_region 1 with (fail)
  rw [← HW1.out]
  go_cut [16] (fun v W => ∃ t : Bool, v = .bool t ∧ Below w1.heap.size w1 W)
  case first =>
    go_wp2_with (first
      | (go_at_call 44; refine (within_any _ _ _ _).mono ?_; rintro e w9 ⟨rfl, rfl⟩)
      | fail)
    all_goals
      go_meet
      exact ⟨_, rfl, hA0⟩
  obtain ⟨t, rfl, hA0⟩ := hcut
  rcases t with _ | _
  rotate_left
  · go_wp2_with fail
    go_ret
    exact ⟨_, rfl, trivial, hb1.trans (hA0.mono (by omega))⟩
  go_wp2_with fail
  go_loopw [3] (fun v wr => ∃ k : Nat, v = .int .i64 (k : Int) ∧ k ≤ F.gn ∧ Below w1.heap.size w1 wr) (fun v _ => F.gn - (intOf v).toNat)
  case atStart => exact ⟨0, rfl, Nat.zero_le _, hA0⟩
  case round =>
    obtain ⟨k, rfl, hk, hA⟩ := hrel
    by_cases hlt : k < F.gn
    · obtain ⟨b, o, ad, ki, aa, Aca, nca, cca, eG, hbb, ⟨c0, c1, c2, c3⟩, _, _, _, hca⟩ := HG.out.atInfo hlt
      obtain ⟨zs, hzs⟩ := hca.ints
      have hcc := hca.cap
      rw [eG] at g1 ⊢
      have y0 := up_fact c0
      have y1 := up_fact c1
      have y2 := up_fact c2
      have y3 := up_fact c3
      have HZ := Lib.hid hzs
      clear c0 c1 c2 c3 hca hzs
      go_upto_region 7 with (fail)
      obtain ⟨w3, hw3⟩ : ∃ z, z = wr.alloc (.cells #[.int .i64 ad, .int .i64 ki, .int .i64 aa, .slice Aca nca cca] 81) := ⟨_, rfl⟩
      obtain ⟨bx, hbx⟩ : ∃ z, z = wr.heap.size := ⟨_, rfl⟩
      rw [← hw3, ← hbx]
      have hA3 := (show Below w1.heap.size w1 w3 by rw [hw3]; exact hA.alloc hA.size _)
      have hX : w3.heap[bx]? = some (.cells #[.int .i64 ad, .int .i64 ki, .int .i64 aa, .slice Aca nca cca] 81 (0, 0)) := by rw [hw3, hbx]; exact heap_alloc_new _ _
      have x0 := up_fact (show w3.cell? ⟨bx, 0, none⟩ = some (.int .i64 ad) by rw [cell_of_row _ _ 0 _ _ _ hX]; rfl)
      have x1 := up_fact (show w3.cell? ⟨bx, 1, none⟩ = some (.int .i64 ki) by rw [cell_of_row _ _ 1 _ _ _ hX]; rfl)
      have x2 := up_fact (show w3.cell? ⟨bx, 2, none⟩ = some (.int .i64 aa) by rw [cell_of_row _ _ 2 _ _ _ hX]; rfl)
      have x3 := up_fact (show w3.cell? ⟨bx, 3, none⟩ = some (.slice Aca nca cca) by rw [cell_of_row _ _ 3 _ _ _ hX]; rfl)
      have hC := Below.refl w3.heap.size w3
      clear hX hw3 hbx
      go_cut [67] (fun v W => ∃ t : Bool, v = .bool t ∧ Below w3.heap.size w3 W ∧ Below w1.heap.size w1 W)
      case first =>
        go_wp2_with (first
          | (go_at_call 44; refine (within_any _ _ _ _).mono ?_; rintro e w9 ⟨rfl, rfl⟩)
          | (go_at_call 45; refine (measure_any _ _).mono ?_; rintro e w9 ⟨rfl, rfl⟩)
          | (go_at_call 46; refine (rises_any B Aca nca cca zs _ (HZ.out.below (hA3.mono (by omega)))).mono ?_; rintro e w9 ⟨rfl, hb⟩; have hA3 := bgo hA3 hb; have hC := bgo hC hb; clear hb))
        all_goals
          go_meet
          exact ⟨_, rfl, hC, hA3⟩
      case rest =>
        obtain ⟨t, rfl, hC, hA3⟩ := hcut
        rcases t with _ | _
        · go_wp2_with fail
          go_loopw [5] (fun v wr => ∃ j : Nat, v = .int .i64 (j : Int) ∧ j ≤ nca ∧ Below w3.heap.size w3 wr ∧ Below w1.heap.size w1 wr) (fun v _ => nca - (intOf v).toNat)
          case atStart => exact ⟨0, rfl, Nat.zero_le _, hC, hA3⟩
          case round =>
            obtain ⟨j, rfl, hj, hC, hA⟩ := hrel
            by_cases hlj : j < nca
            · obtain ⟨b5, o5, rfl, _, hcz⟩ := HZ.out.getD hlj
              have y5 := up_fact hcz
              clear hcz
              go_wp2_with (go_at_call 45; refine (measure_any _ _).mono ?_; rintro e w9 ⟨rfl, rfl⟩)
              all_goals first
                | (go_ret; exact ⟨_, rfl, trivial, hb1.trans (hA.mono (by omega))⟩)
                | (go_roundw; (case rel => exact ⟨j + 1, by go_num, by omega, hC, hA⟩); (case measure => simp [intOf]; omega))
            · have h0 : decide ((j : Int) < (nca : Int)) = false := by simp; omega
              go_wp2_with fail
              go_roundw
              case rel => exact ⟨k + 1, by go_num, by omega, hA⟩
              case measure => simp [intOf]; omega
        · go_wp2_with fail
          go_ret
          exact ⟨_, rfl, trivial, hb1.trans (hA3.mono (by omega))⟩
    · have h0 : decide ((k : Int) < (F.gn : Int)) = false := by simp; omega
      go_wp2_with fail
      go_ret
      exact ⟨_, rfl, trivial, hb1.trans (hA.mono hb1.size)⟩

set_option maxRecDepth 100000 in
set_option maxHeartbeats 4000000 in
theorem maps_any (F : Fnt) (B : Nat) (w : World) (h : FntOk w B F) (hB : B ≤ w.heap.size) :
    Calls Try.prog 31 #[.agg #[.int .i64 F.em, .slice F.GA F.gn F.gc, .slice F.MA F.mn F.mc, .slice F.LA F.ln F.lc, .slice F.FA F.fn F.fc, .slice F.SA F.sn F.sc]] w (RetB w fun _ => True) := by
  obtain ⟨w1, hw1⟩ : ∃ z, z = w.alloc (.cells #[.int .i64 F.em, .slice F.GA F.gn F.gc, .slice F.MA F.mn F.mc, .slice F.LA F.ln F.lc, .slice F.FA F.fn F.fc, .slice F.SA F.sn F.sc] 28) := ⟨_, rfl⟩
  have hb1 : Below w.heap.size w w1 := by rw [hw1]; exact (Below.refl _ _).alloc (Nat.le_refl _) _
  have hs1 : w.heap.size < w1.heap.size := by rw [hw1]; simp
  have hfb : FBox w1 w.heap.size F := by rw [hw1]; exact FBox.new w F
  obtain ⟨f0, f1, f2, f3, f4, f5⟩ := hfb.cells
  have g0 := up_fact f0
  have g1 := up_fact f1
  have g2 := up_fact f2
  have g3 := up_fact f3
  have g4 := up_fact f4
  have g5 := up_fact f5
  have hA0 := Below.refl w1.heap.size w1
  clear f0 f1 f2 f3 f4 f5 hfb
  have HW1 := Lib.hid hw1
  clear hw1
  have HM := Lib.hid (h.hM.below (hb1.mono hB))
  have HS := Lib.hid (h.hS.below (hb1.mono hB))
  have hcap := h.hM.cap
  have hcapS := h.hS.cap
  clear h
  go_enter Try.func31, Try.ntmps31
  go_upto_region 1 with (fail)
  rw [← HW1.out]
  go_cut [15] (fun v W => ∃ t : Bool, v = .bool t ∧ Below w1.heap.size w1 W)
  case first =>
    go_wp2_with (first
      | fail)
    all_goals
      go_meet
      exact ⟨_, rfl, hA0⟩
  obtain ⟨t, rfl, hA0⟩ := hcut
  rcases t with _ | _
  rotate_left
  · go_wp2_with fail
    go_ret
    exact ⟨_, rfl, trivial, hb1.trans (hA0.mono (by omega))⟩
  go_wp2_with fail
  go_loopw [3] (fun v wr => ∃ k : Nat, v = .int .i64 (k : Int) ∧ k ≤ F.mn ∧ Below w1.heap.size w1 wr) (fun v _ => F.mn - (intOf v).toNat)
  case atStart => exact ⟨0, rfl, Nat.zero_le _, hA0⟩
  case round =>
    obtain ⟨k, rfl, hk, hA⟩ := hrel
    by_cases hlt : k < F.mn
    · obtain ⟨b, o, co, gl, eM, hbb, ⟨c0, c1⟩, _⟩ := HM.out.atMap hlt
      obtain ⟨j, hj⟩ : ∃ z, z = k - 1 := ⟨_, rfl⟩
      have hjn : j < F.mn := by omega
      obtain ⟨_, _, co2, gl2, eM2, _, ⟨c2, c3⟩, _⟩ := HM.out.atMap hjn
      rw [eM] at eM2
      cases eM2
      rw [eM] at g2 ⊢
      have y0 := up_fact c0
      have y1 := up_fact c1
      have y2 := up_fact c2
      have y3 := up_fact c3
      clear c0 c1 c2 c3
      have hw1 : 0 < k → IntKind.i64.wrap ((k : Int) - 1) = (j : Int) := fun h => by rw [IntKind.wrap_i64]; omega
      have HWR := Lib.hid hw1
      clear hj hw1
      go_upto_region 7 with (fail)
      obtain ⟨w3, hw3⟩ : ∃ z, z = wr.alloc (.cells #[.int .i32 co, .int .i64 gl] 85) := ⟨_, rfl⟩
      obtain ⟨bx, hbx⟩ : ∃ z, z = wr.heap.size := ⟨_, rfl⟩
      rw [← hw3, ← hbx]
      have hA3 := (show Below w1.heap.size w1 w3 by rw [hw3]; exact hA.alloc hA.size _)
      have hX : w3.heap[bx]? = some (.cells #[.int .i32 co, .int .i64 gl] 85 (0, 0)) := by rw [hw3, hbx]; exact heap_alloc_new _ _
      have x0 := up_fact (show w3.cell? ⟨bx, 0, none⟩ = some (.int .i32 co) by rw [cell_of_row _ _ 0 _ _ _ hX]; rfl)
      have x1 := up_fact (show w3.cell? ⟨bx, 1, none⟩ = some (.int .i64 gl) by rw [cell_of_row _ _ 1 _ _ _ hX]; rfl)
      have hC := Below.refl w3.heap.size w3
      clear hX hw3 hbx
      obtain ⟨t1, ht1⟩ : ∃ t, t = oneB co := ⟨_, rfl⟩
      have Ht1 := Lib.hid (show ∀ W, Calls Try.prog 47 #[.int .i32 co] W fun e w' => e = .returned (.bool t1) ∧ W = w' from fun W => by rw [ht1]; exact one_any co W)
      clear ht1
      obtain ⟨t2, ht2⟩ : ∃ t, t = thB F.gn gl := ⟨_, rfl⟩
      have Ht2 := Lib.hid (show ∀ W, Calls Try.prog 48 #[.agg #[.int .i64 F.em, .slice F.GA F.gn F.gc, .slice F.MA F.mn F.mc, .slice F.LA F.ln F.lc, .slice F.FA F.fn F.fc, .slice F.SA F.sn F.sc], .int .i64 gl] W fun e w' => e = .returned (.bool t2) ∧ Below W.heap.size W w' from fun W => by rw [ht2]; exact there_any F gl W)
      clear ht2
      rw [eM] at Ht2
      go_cut [54] (fun v W => ∃ t : Bool, v = .bool t ∧ Below w3.heap.size w3 W ∧ Below w1.heap.size w1 W)
      case first =>
        rcases t1 with _ | _
        · go_wp2_with fail
          have hU0 := bup hA3
          have hU1 := bup hC
          refine wp_region_up w3.heap.size (by kernel_rfl) (by kernel_rfl) ?_
          repeat (go_big_quiet_step ((first | (go_at_call 47; exact Calls.up_same (Ht1.out _)) | (go_at_call 48; exact Calls.up_of (Nat.le_refl _) (Ht2.out _)))))
          refine wpQuiet_nil (up_all fun w2 hb2 => ?_)
          have hA3 := bgo hA3 hb2
          have hC := bgo hC hb2
          clear hb2 hU0 hU1
          go_wp2_with fail
          go_meet
          exact ⟨_, rfl, hC, hA3⟩
        · rcases t2 with _ | _
          · go_wp2_with fail
            have hU0 := bup hA3
            have hU1 := bup hC
            refine wp_region_up w3.heap.size (by kernel_rfl) (by kernel_rfl) ?_
            repeat (go_big_quiet_step ((first | (go_at_call 47; exact Calls.up_same (Ht1.out _)) | (go_at_call 48; exact Calls.up_of (Nat.le_refl _) (Ht2.out _)))))
            refine wpQuiet_nil (up_all fun w2 hb2 => ?_)
            have hA3 := bgo hA3 hb2
            have hC := bgo hC hb2
            clear hb2 hU0 hU1
            go_wp2_with fail
            go_meet
            exact ⟨_, rfl, hC, hA3⟩
          · by_cases hk0 : k = 0
            · have d0 : decide ((0 : Int) < (k : Int)) = false := by simp; omega
              have d00 : decide (0 < k) = false := by simp; omega
              clear hk0
              go_wp2_with fail
              have hU0 := bup hA3
              have hU1 := bup hC
              refine wp_region_up w3.heap.size (by kernel_rfl) (by kernel_rfl) ?_
              repeat (go_big_quiet_step ((first | (go_at_call 47; exact Calls.up_same (Ht1.out _)) | (go_at_call 48; exact Calls.up_of (Nat.le_refl _) (Ht2.out _)))))
              refine wpQuiet_nil (up_all fun w2 hb2 => ?_)
              have hA3 := bgo hA3 hb2
              have hC := bgo hC hb2
              clear hb2 hU0 hU1
              go_wp2_with fail
              go_meet
              exact ⟨_, rfl, hC, hA3⟩
            · have d0 : decide ((0 : Int) < (k : Int)) = true := by simp; omega
              have d00 : decide (0 < k) = true := by simp; omega
              have hw1 := HWR.out (by omega)
              clear hk0
              by_cases hxy : co ≤ co2
              · have d1 : decide (co ≤ co2) = true := by simpa using hxy
                clear hxy
                go_wp2_with fail
                have hU0 := bup hA3
                have hU1 := bup hC
                refine wp_region_up w3.heap.size (by kernel_rfl) (by kernel_rfl) ?_
                repeat (go_big_quiet_step ((first | (go_at_call 47; exact Calls.up_same (Ht1.out _)) | (go_at_call 48; exact Calls.up_of (Nat.le_refl _) (Ht2.out _)))))
                refine wpQuiet_nil (up_all fun w2 hb2 => ?_)
                have hA3 := bgo hA3 hb2
                have hC := bgo hC hb2
                clear hb2 hU0 hU1
                go_wp2_with fail
                go_meet
                exact ⟨_, rfl, hC, hA3⟩
              · have d1 : decide (co ≤ co2) = false := by simpa using hxy
                clear hxy
                go_wp2_with fail
                have hU0 := bup hA3
                have hU1 := bup hC
                refine wp_region_up w3.heap.size (by kernel_rfl) (by kernel_rfl) ?_
                repeat (go_big_quiet_step ((first | (go_at_call 47; exact Calls.up_same (Ht1.out _)) | (go_at_call 48; exact Calls.up_of (Nat.le_refl _) (Ht2.out _)))))
                refine wpQuiet_nil (up_all fun w2 hb2 => ?_)
                have hA3 := bgo hA3 hb2
                have hC := bgo hC hb2
                clear hb2 hU0 hU1
                go_wp2_with fail
                go_meet
                exact ⟨_, rfl, hC, hA3⟩
      case rest =>
        obtain ⟨t, rfl, hC, hA3⟩ := hcut
        rcases t with _ | _
        · go_wp2_with fail
          go_roundw
          case rel => exact ⟨k + 1, by go_num, by omega, hA3⟩
          case measure => simp [intOf]; omega
        · go_wp2_with fail
          go_ret
          exact ⟨_, rfl, trivial, hb1.trans (hA3.mono (by omega))⟩
    · have h0 : decide ((k : Int) < (F.mn : Int)) = false := by simp; omega
      go_wp2_with fail
      obtain ⟨wo, hwo⟩ : ∃ wo : World, wo = wr := ⟨_, rfl⟩
      subst hwo
      go_loopw [5] (fun v wr => ∃ i : Nat, v = .int .i64 (i : Int) ∧ i ≤ F.sn ∧ Below w1.heap.size w1 wr) (fun v _ => F.sn - (intOf v).toNat)
      case atStart => exact ⟨0, rfl, Nat.zero_le _, hA⟩
      case round =>
        obtain ⟨i, rfl, hi, hA⟩ := hrel
        by_cases hli : i < F.sn
        · obtain ⟨b, o, As, ns, cs, eS, hbb, c0, hin⟩ := HS.out.atInts hli
          obtain ⟨zs, hzs⟩ := hin.ints
          rw [eS] at g5 ⊢
          have y0 := up_fact c0
          obtain ⟨t1, ht1⟩ : ∃ t, t = coB F.gn zs := ⟨_, rfl⟩
          have HT1 := Lib.hid (fun W (hW : Below w1.heap.size w1 W) => cover_any F B As ns cs zs W (hzs.below (hW.mono (by omega))) (by have := hW.size; omega))
          rw [← ht1, eS] at HT1
          have HUP := Lib.hid (bup hA)
          clear c0 hin hzs ht1
          go_wp2_with fail
          have hU0 := bup hA
          refine wp_region_up wr.heap.size (by kernel_rfl) (by kernel_rfl) ?_
          repeat (go_big_quiet_step ((first | (go_at_call 49; exact Calls.up_of (Nat.le_refl _) (HT1.out _ (HUP.out _))))))
          refine wpQuiet_nil (up_all fun w2 hb2 => ?_)
          have hA := bgo hA hb2
          clear hb2 hU0
          clear HUP
          rcases t1 with _ | _
          · go_wp2_with fail
            go_ret
            exact ⟨_, rfl, trivial, hb1.trans (hA.mono (by omega))⟩
          · go_wp2_with fail
            go_roundw
            case rel => exact ⟨i + 1, by go_num, by omega, hA⟩
            case measure => simp [intOf]; omega
        · have h0 : decide ((i : Int) < (F.sn : Int)) = false := by simp; omega
          go_wp2_with fail
          go_ret
          exact ⟨_, rfl, trivial, hb1.trans (hA.mono (by omega))⟩

end Go.Proofs.Ytbjeflblhjfagaa
