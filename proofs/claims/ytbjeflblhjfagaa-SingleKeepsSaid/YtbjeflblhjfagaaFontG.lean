/- The walks of marks. Condition: the font and the subtable read as their shapes. Printed by wip/tools/g27g.py. -/
import Derived.Test.YtbjeflblhjfagaaFontD
import Derived.Deep.RegionWith
namespace Go.Proofs.Ytbjeflblhjfagaa
open Go.RowKit

set_option maxRecDepth 100000 in
set_option maxHeartbeats 4000000 in
theorem marks_any (F : Fnt) (B : Nat) (l : Lk) (s : Sb) (w : World) (h : SbOk w B s) (hB : B ≤ w.heap.size) :
    Calls Try.prog 76 #[.agg #[.int .i64 F.em, .slice F.GA F.gn F.gc, .slice F.MA F.mn F.mc, .slice F.LA F.ln F.lc, .slice F.FA F.fn F.fc, .slice F.SA F.sn F.sc], .agg #[.int .i64 l.ki, .int .i64 l.fl, .int .i64 l.se, .slice l.su.A l.su.n l.su.c], .agg #[.slice s.co.A s.co.n s.co.c, .slice s.tt.A s.tt.n s.tt.c, .slice s.li.A s.li.n s.li.c, .slice s.ba.A s.ba.n s.ba.c, .slice s.inn.A s.inn.n s.inn.c, .slice s.ah.A s.ah.n s.ah.c, .slice s.ne.A s.ne.n s.ne.c, .slice s.va.A s.va.n s.va.c, .slice s.pr.A s.pr.n s.pr.c, .slice s.cu.A s.cu.n s.cu.c, .slice s.ma.A s.ma.n s.ma.c, .slice s.ho.A s.ho.n s.ho.c]] w (RetB w fun _ => True) := by
  have hcap := h.ma.cap
  have hcaph := h.ho.cap
  obtain ⟨wa, hwa⟩ : ∃ z, z = w.alloc (.cells #[.int .i64 F.em, .slice F.GA F.gn F.gc, .slice F.MA F.mn F.mc, .slice F.LA F.ln F.lc, .slice F.FA F.fn F.fc, .slice F.SA F.sn F.sc] 28) := ⟨_, rfl⟩
  have hba : Below w.heap.size w wa := by rw [hwa]; exact (Below.refl _ _).alloc (Nat.le_refl _) _
  have hsa : wa.heap.size = w.heap.size + 1 := by rw [hwa]; simp
  have hfa : FBox wa w.heap.size F := by rw [hwa]; exact FBox.new w F
  obtain ⟨wb, hwb⟩ : ∃ z, z = wa.alloc (.cells #[.int .i64 l.ki, .int .i64 l.fl, .int .i64 l.se, .slice l.su.A l.su.n l.su.c] 31) := ⟨_, rfl⟩
  have hbb : Below w.heap.size w wb := by rw [hwb]; exact hba.alloc (by omega) _
  have hsb : wb.heap.size = w.heap.size + 2 := by rw [hwb]; simp; omega
  have hfab : FBox wb w.heap.size F := by rw [hwb]; exact (heap_alloc_old _ _ (by omega)).trans hfa
  have hkb : KBox wb (w.heap.size + 1) l := by rw [hwb, ← hsa]; exact heap_alloc_new _ _
  obtain ⟨w1, hw1⟩ : ∃ z, z = wb.alloc (.cells #[.slice s.co.A s.co.n s.co.c, .slice s.tt.A s.tt.n s.tt.c, .slice s.li.A s.li.n s.li.c, .slice s.ba.A s.ba.n s.ba.c, .slice s.inn.A s.inn.n s.inn.c, .slice s.ah.A s.ah.n s.ah.c, .slice s.ne.A s.ne.n s.ne.c, .slice s.va.A s.va.n s.va.c, .slice s.pr.A s.pr.n s.pr.c, .slice s.cu.A s.cu.n s.cu.c, .slice s.ma.A s.ma.n s.ma.c, .slice s.ho.A s.ho.n s.ho.c] 62) := ⟨_, rfl⟩
  have hb1 : Below w.heap.size w w1 := by rw [hw1]; exact hbb.alloc (by omega) _
  have hfc : FBox w1 w.heap.size F := by rw [hw1]; exact (heap_alloc_old _ _ (by omega)).trans hfab
  have hkc : KBox w1 (w.heap.size + 1) l := by rw [hw1]; exact (heap_alloc_old _ _ (by omega)).trans hkb
  have hsc : SBox w1 (w.heap.size + 2) s := by rw [hw1, ← hsb]; exact heap_alloc_new _ _
  have hs1 : w.heap.size + 2 < w1.heap.size := by rw [hw1]; simp; omega
  obtain ⟨f0, f1, f2, f3, f4, f5⟩ := hfc.cells
  obtain ⟨e0, e1, e2, e3, e4, e5, e6, e7, e8, e9, e10, e11⟩ := hsc.cells
  obtain ⟨l0, l1, l2, l3⟩ := hkc.cells
  have g0 := up_fact f0
  have g1 := up_fact f1
  have g2 := up_fact f2
  have g3 := up_fact f3
  have g4 := up_fact f4
  have g5 := up_fact f5
  have k0 := up_fact e0
  have k1 := up_fact e1
  have k2 := up_fact e2
  have k3 := up_fact e3
  have k4 := up_fact e4
  have k5 := up_fact e5
  have k6 := up_fact e6
  have k7 := up_fact e7
  have k8 := up_fact e8
  have k9 := up_fact e9
  have k10 := up_fact e10
  have k11 := up_fact e11
  have h0 := up_fact l0
  have h1 := up_fact l1
  have h2 := up_fact l2
  have h3 := up_fact l3
  have hA0 := Below.refl w1.heap.size w1
  clear f0 f1 f2 f3 f4 f5 e0 e1 e2 e3 e4 e5 e6 e7 e8 e9 e10 e11 l0 l1 l2 l3 hfc hkc hsc hfab hkb hfa hba hbb
  have HW1 := Lib.hid hw1
  have HWA := Lib.hid hwa
  have HWB := Lib.hid hwb
  clear hw1 hwa hwb hsa hsb
  have HS := Lib.hid (h.below (hb1.mono hB))
  clear h
  go_enter Try.func76, Try.ntmps76
  go_upto_region 1 with (fail)
  rw [← HWA.out, ← HWB.out, ← HW1.out]
  have hBw : B ≤ w1.heap.size := by omega
  go_cut [23] (fun v W => ∃ t : Bool, v = .bool t ∧ Below w1.heap.size w1 W)
  case first =>
    go_wp2_with (first
      | fail)
    all_goals
      go_meet
      exact ⟨_, rfl, hA0⟩
  obtain ⟨t, rfl, hA0⟩ := hcut
  rcases t with _ | _
  rotate_left
  · go_wp2_with fail
    go_ret
    exact ⟨_, rfl, trivial, hb1.trans (hA0.mono (by omega))⟩
  go_wp2_with fail
  go_loopw [7] (fun v wr => ∃ k : Nat, v = .int .i64 (k : Int) ∧ k ≤ s.ma.n ∧ Below w1.heap.size w1 wr) (fun v _ => s.ma.n - (intOf v).toNat)
  case atStart => exact ⟨0, rfl, Nat.zero_le _, hA0⟩
  case round =>
    obtain ⟨k, rfl, hk, hA⟩ := hrel
    by_cases hlt : k < s.ma.n
    · obtain ⟨b, o, gl, cl, x0, y0, eM, hbb, ⟨c0, c1, c2, c3⟩, _⟩ := HS.out.ma.atMarkAt hlt
      obtain ⟨j, hj⟩ : ∃ z, z = k - 1 := ⟨_, rfl⟩
      have hjn : j < s.ma.n := by omega
      obtain ⟨_, _, gl2, _, _, _, eM2, _, ⟨d0, _⟩, _⟩ := HS.out.ma.atMarkAt hjn
      rw [eM] at eM2
      cases eM2
      rw [eM] at k10 ⊢
      have v0 := up_fact c0
      have v1 := up_fact c1
      have v2 := up_fact c2
      have v3 := up_fact c3
      have z0 := up_fact d0
      clear c0 c1 c2 c3 d0
      have HWR := Lib.hid (show 0 < k → IntKind.i64.wrap ((k : Int) - 1) = (j : Int) from fun h => by rw [IntKind.wrap_i64]; omega)
      clear hj
      go_upto_region 7 with (fail)
      obtain ⟨w3, hw3⟩ : ∃ z, z = wr.alloc (.cells #[.int .i64 gl, .int .i64 cl, .int .i64 x0, .int .i64 y0] 136) := ⟨_, rfl⟩
      obtain ⟨bx, hbx⟩ : ∃ z, z = wr.heap.size := ⟨_, rfl⟩
      rw [← hw3, ← hbx]
      have hA3 := (show Below w1.heap.size w1 w3 by rw [hw3]; exact hA.alloc hA.size _)
      have hX : w3.heap[bx]? = some (.cells #[.int .i64 gl, .int .i64 cl, .int .i64 x0, .int .i64 y0] 136 (0, 0)) := by rw [hw3, hbx]; exact heap_alloc_new _ _
      have xf0 := up_fact (show w3.cell? ⟨bx, 0, none⟩ = some (.int .i64 gl) by rw [cell_of_row _ _ 0 _ _ _ hX]; rfl)
      have xf1 := up_fact (show w3.cell? ⟨bx, 1, none⟩ = some (.int .i64 cl) by rw [cell_of_row _ _ 1 _ _ _ hX]; rfl)
      have xf2 := up_fact (show w3.cell? ⟨bx, 2, none⟩ = some (.int .i64 x0) by rw [cell_of_row _ _ 2 _ _ _ hX]; rfl)
      have xf3 := up_fact (show w3.cell? ⟨bx, 3, none⟩ = some (.int .i64 y0) by rw [cell_of_row _ _ 3 _ _ _ hX]; rfl)
      have hC := Below.refl w3.heap.size w3
      clear hX hw3 hbx
      obtain ⟨t1, ht1⟩ : ∃ t, t = thB F.gn gl := ⟨_, rfl⟩
      have Ht1 := Lib.hid (show ∀ W, Calls Try.prog 48 #[.agg #[.int .i64 F.em, .slice F.GA F.gn F.gc, .slice F.MA F.mn F.mc, .slice F.LA F.ln F.lc, .slice F.FA F.fn F.fc, .slice F.SA F.sn F.sc], .int .i64 gl] W fun e w' => e = .returned (.bool t1) ∧ Below W.heap.size W w' from fun W => by rw [ht1]; exact there_any F gl W)
      obtain ⟨t2, ht2⟩ : ∃ t, t = wiB cl 0 15 := ⟨_, rfl⟩
      have Ht2 := Lib.hid (show ∀ W, Calls Try.prog 44 #[.int .i64 cl, .int .i64 0, .int .i64 15] W fun e w' => e = .returned (.bool t2) ∧ W = w' from fun W => by rw [ht2]; exact within_any _ _ _ W)
      obtain ⟨t3, ht3⟩ : ∃ t, t = anB x0 y0 true := ⟨_, rfl⟩
      have Ht3 := Lib.hid (show ∀ W, Calls Try.prog 84 #[.agg #[.int .i64 x0, .int .i64 y0], .bool true] W fun e w' => e = .returned (.bool t3) ∧ Below W.heap.size W w' from fun W => by rw [ht3]; exact anchor_any x0 y0 true W)
      clear ht1 ht2 ht3
      go_cut [68] (fun v W => ∃ t : Bool, v = .bool t ∧ Below w1.heap.size w1 W ∧ Below w3.heap.size w3 W)
      case first =>
        rcases t1 with _ | _
        · go_wp2_with fail
          have hU0 := bup hA3
          have hU1 := bup hC
          refine wp_region_up w3.heap.size (by kernel_rfl) (by kernel_rfl) ?_
          repeat (go_big_quiet_step ((first | (go_at_call 48; exact Calls.up_of (Nat.le_refl _) (Ht1.out _)) | (go_at_call 44; exact Calls.up_same (Ht2.out _)) | (go_at_call 84; exact Calls.up_of (Nat.le_refl _) (Ht3.out _)))))
          refine wpQuiet_nil (up_all fun w2 hb2 => ?_)
          have hA3 := bgo hA3 hb2
          have hC := bgo hC hb2
          clear hb2 hU0 hU1
          go_wp2_with fail
          go_meet
          exact ⟨_, rfl, hA3, hC⟩
        · rcases t2 with _ | _
          · go_wp2_with fail
            have hU0 := bup hA3
            have hU1 := bup hC
            refine wp_region_up w3.heap.size (by kernel_rfl) (by kernel_rfl) ?_
            repeat (go_big_quiet_step ((first | (go_at_call 48; exact Calls.up_of (Nat.le_refl _) (Ht1.out _)) | (go_at_call 44; exact Calls.up_same (Ht2.out _)) | (go_at_call 84; exact Calls.up_of (Nat.le_refl _) (Ht3.out _)))))
            refine wpQuiet_nil (up_all fun w2 hb2 => ?_)
            have hA3 := bgo hA3 hb2
            have hC := bgo hC hb2
            clear hb2 hU0 hU1
            go_wp2_with fail
            go_meet
            exact ⟨_, rfl, hA3, hC⟩
          · rcases t3 with _ | _
            · go_wp2_with fail
              have hU0 := bup hA3
              have hU1 := bup hC
              refine wp_region_up w3.heap.size (by kernel_rfl) (by kernel_rfl) ?_
              repeat (go_big_quiet_step ((first | (go_at_call 48; exact Calls.up_of (Nat.le_refl _) (Ht1.out _)) | (go_at_call 44; exact Calls.up_same (Ht2.out _)) | (go_at_call 84; exact Calls.up_of (Nat.le_refl _) (Ht3.out _)))))
              refine wpQuiet_nil (up_all fun w2 hb2 => ?_)
              have hA3 := bgo hA3 hb2
              have hC := bgo hC hb2
              clear hb2 hU0 hU1
              go_wp2_with fail
              go_meet
              exact ⟨_, rfl, hA3, hC⟩
            · by_cases hk0 : k = 0
              · have q0 : decide ((0 : Int) < (k : Int)) = false := by simp; omega
                have q00 : decide (0 < k) = false := by simp; omega
                clear hk0
                go_wp2_with fail
                have hU0 := bup hA3
                have hU1 := bup hC
                refine wp_region_up w3.heap.size (by kernel_rfl) (by kernel_rfl) ?_
                repeat (go_big_quiet_step ((first | (go_at_call 48; exact Calls.up_of (Nat.le_refl _) (Ht1.out _)) | (go_at_call 44; exact Calls.up_same (Ht2.out _)) | (go_at_call 84; exact Calls.up_of (Nat.le_refl _) (Ht3.out _)))))
                refine wpQuiet_nil (up_all fun w2 hb2 => ?_)
                have hA3 := bgo hA3 hb2
                have hC := bgo hC hb2
                clear hb2 hU0 hU1
                go_wp2_with fail
                go_meet
                exact ⟨_, rfl, hA3, hC⟩
              · have q0 : decide ((0 : Int) < (k : Int)) = true := by simp; omega
                have q00 : decide (0 < k) = true := by simp; omega
                have hw1 := HWR.out (by omega)
                clear hk0
                by_cases hxy : gl ≤ gl2
                · have q1 : decide (gl ≤ gl2) = true := by simpa using hxy
                  clear hxy
                  go_wp2_with fail
                  have hU0 := bup hA3
                  have hU1 := bup hC
                  refine wp_region_up w3.heap.size (by kernel_rfl) (by kernel_rfl) ?_
                  repeat (go_big_quiet_step ((first | (go_at_call 48; exact Calls.up_of (Nat.le_refl _) (Ht1.out _)) | (go_at_call 44; exact Calls.up_same (Ht2.out _)) | (go_at_call 84; exact Calls.up_of (Nat.le_refl _) (Ht3.out _)))))
                  refine wpQuiet_nil (up_all fun w2 hb2 => ?_)
                  have hA3 := bgo hA3 hb2
                  have hC := bgo hC hb2
                  clear hb2 hU0 hU1
                  go_wp2_with fail
                  go_meet
                  exact ⟨_, rfl, hA3, hC⟩
                · have q1 : decide (gl ≤ gl2) = false := by simpa using hxy
                  clear hxy
                  go_wp2_with fail
                  have hU0 := bup hA3
                  have hU1 := bup hC
                  refine wp_region_up w3.heap.size (by kernel_rfl) (by kernel_rfl) ?_
                  repeat (go_big_quiet_step ((first | (go_at_call 48; exact Calls.up_of (Nat.le_refl _) (Ht1.out _)) | (go_at_call 44; exact Calls.up_same (Ht2.out _)) | (go_at_call 84; exact Calls.up_of (Nat.le_refl _) (Ht3.out _)))))
                  refine wpQuiet_nil (up_all fun w2 hb2 => ?_)
                  have hA3 := bgo hA3 hb2
                  have hC := bgo hC hb2
                  clear hb2 hU0 hU1
                  go_wp2_with fail
                  go_meet
                  exact ⟨_, rfl, hA3, hC⟩
      obtain ⟨t, rfl, hA3, hC⟩ := hcut
      rcases t with _ | _
      · go_wp2_with fail
        go_roundw
        case rel => exact ⟨k + 1, by go_num, by omega, hA3⟩
        case measure => simp [intOf]; omega
      · go_wp2_with fail
        go_ret
        exact ⟨_, rfl, trivial, hb1.trans (hA3.mono (by omega))⟩
    · have hz0 : decide ((k : Int) < (s.ma.n : Int)) = false := by simp; omega
      go_wp2_with fail
      obtain ⟨wo, hwo⟩ : ∃ wo : World, wo = wr := ⟨_, rfl⟩
      subst hwo
      clear hz0 hlt hk
      go_loopw [9] (fun v wr => ∃ i : Nat, v = .int .i64 (i : Int) ∧ i ≤ s.ho.n ∧ Below w1.heap.size w1 wr) (fun v _ => s.ho.n - (intOf v).toNat)
      case atStart => exact ⟨0, rfl, Nat.zero_le _, hA⟩
      case round =>
        obtain ⟨i, rfl, hi, hA⟩ := hrel
        by_cases hli : i < s.ho.n
        · obtain ⟨b, o, gl, Asp, nsp, csp, eM, hbb, ⟨c0, c1⟩, _, hsp⟩ := HS.out.ho.atHost hli
          obtain ⟨j, hj⟩ : ∃ z, z = i - 1 := ⟨_, rfl⟩
          have hjn : j < s.ho.n := by omega
          obtain ⟨_, _, gl2, _, _, _, eM2, _, ⟨d0, _⟩, _⟩ := HS.out.ho.atHost hjn
          rw [eM] at eM2
          cases eM2
          rw [eM] at k11 ⊢
          have v0 := up_fact c0
          have v1 := up_fact c1
          have z0 := up_fact d0
          have hcsp := hsp.cap
          have HP := Lib.hid hsp
          clear c0 c1 d0 hsp
          have HWR := Lib.hid (show 0 < i → IntKind.i64.wrap ((i : Int) - 1) = (j : Int) from fun h => by rw [IntKind.wrap_i64]; omega)
          clear hj
          go_upto_region 13 with (fail)
          obtain ⟨w3, hw3⟩ : ∃ z, z = wr.alloc (.cells #[.int .i64 gl, .slice Asp nsp csp] 139) := ⟨_, rfl⟩
          obtain ⟨bx, hbx⟩ : ∃ z, z = wr.heap.size := ⟨_, rfl⟩
          rw [← hw3, ← hbx]
          have hA3 := (show Below w1.heap.size w1 w3 by rw [hw3]; exact hA.alloc hA.size _)
          have hX : w3.heap[bx]? = some (.cells #[.int .i64 gl, .slice Asp nsp csp] 139 (0, 0)) := by rw [hw3, hbx]; exact heap_alloc_new _ _
          have xf0 := up_fact (show w3.cell? ⟨bx, 0, none⟩ = some (.int .i64 gl) by rw [cell_of_row _ _ 0 _ _ _ hX]; rfl)
          have xf1 := up_fact (show w3.cell? ⟨bx, 1, none⟩ = some (.slice Asp nsp csp) by rw [cell_of_row _ _ 1 _ _ _ hX]; rfl)
          have hC := Below.refl w3.heap.size w3
          clear hX hw3 hbx
          have hA4 := bgo hA3 (Below.refl w3.heap.size w3)
          go_upto_if 83 with (fail)
          go_cut [11] (fun v W => (∃ m : Int, v = .int .i64 m) ∧ W = w3)
          case first =>
            go_wp2_with fail
            all_goals
              go_meet
              exact ⟨⟨_, rfl⟩, rfl⟩
          obtain ⟨⟨m, rfl⟩, hwc⟩ := hcut
          have hwd := hwc.symm
          subst hwd
          clear hwc
          go_upto_region 16 with (fail)
          obtain ⟨t1, ht1⟩ : ∃ t, t = thB F.gn gl := ⟨_, rfl⟩
          have Ht1 := Lib.hid (show ∀ W, Calls Try.prog 48 #[.agg #[.int .i64 F.em, .slice F.GA F.gn F.gc, .slice F.MA F.mn F.mc, .slice F.LA F.ln F.lc, .slice F.FA F.fn F.fc, .slice F.SA F.sn F.sc], .int .i64 gl] W fun e w' => e = .returned (.bool t1) ∧ Below W.heap.size W w' from fun W => by rw [ht1]; exact there_any F gl W)
          obtain ⟨t2, ht2⟩ : ∃ t, t = wiB (nsp : Int) 1 m := ⟨_, rfl⟩
          have Ht2 := Lib.hid (show ∀ W, Calls Try.prog 44 #[.int .i64 (nsp : Int), .int .i64 1, .int .i64 m] W fun e w' => e = .returned (.bool t2) ∧ W = w' from fun W => by rw [ht2]; exact within_any _ _ _ W)
          clear ht1 ht2
          go_cut [112] (fun v W => ∃ t : Bool, v = .bool t ∧ Below w1.heap.size w1 W ∧ Below w3.heap.size w3 W)
          case first =>
            rcases t1 with _ | _
            · go_wp2_with fail
              have hU0 := bup hA3
              have hU1 := bup hC
              refine wp_region_up w3.heap.size (by kernel_rfl) (by kernel_rfl) ?_
              repeat (go_big_quiet_step ((first | (go_at_call 48; exact Calls.up_of (Nat.le_refl _) (Ht1.out _)) | (go_at_call 44; exact Calls.up_same (Ht2.out _)))))
              refine wpQuiet_nil (up_all fun w2 hb2 => ?_)
              have hA3 := bgo hA3 hb2
              have hC := bgo hC hb2
              clear hb2 hU0 hU1
              go_wp2_with fail
              go_meet
              exact ⟨_, rfl, hA3, hC⟩
            · rcases t2 with _ | _
              · go_wp2_with fail
                have hU0 := bup hA3
                have hU1 := bup hC
                refine wp_region_up w3.heap.size (by kernel_rfl) (by kernel_rfl) ?_
                repeat (go_big_quiet_step ((first | (go_at_call 48; exact Calls.up_of (Nat.le_refl _) (Ht1.out _)) | (go_at_call 44; exact Calls.up_same (Ht2.out _)))))
                refine wpQuiet_nil (up_all fun w2 hb2 => ?_)
                have hA3 := bgo hA3 hb2
                have hC := bgo hC hb2
                clear hb2 hU0 hU1
                go_wp2_with fail
                go_meet
                exact ⟨_, rfl, hA3, hC⟩
              · by_cases hk0 : i = 0
                · have q0 : decide ((0 : Int) < (i : Int)) = false := by simp; omega
                  have q00 : decide (0 < i) = false := by simp; omega
                  clear hk0
                  go_wp2_with fail
                  have hU0 := bup hA3
                  have hU1 := bup hC
                  refine wp_region_up w3.heap.size (by kernel_rfl) (by kernel_rfl) ?_
                  repeat (go_big_quiet_step ((first | (go_at_call 48; exact Calls.up_of (Nat.le_refl _) (Ht1.out _)) | (go_at_call 44; exact Calls.up_same (Ht2.out _)))))
                  refine wpQuiet_nil (up_all fun w2 hb2 => ?_)
                  have hA3 := bgo hA3 hb2
                  have hC := bgo hC hb2
                  clear hb2 hU0 hU1
                  go_wp2_with fail
                  go_meet
                  exact ⟨_, rfl, hA3, hC⟩
                · have q0 : decide ((0 : Int) < (i : Int)) = true := by simp; omega
                  have q00 : decide (0 < i) = true := by simp; omega
                  have hw1 := HWR.out (by omega)
                  clear hk0
                  by_cases hxy : gl ≤ gl2
                  · have q1 : decide (gl ≤ gl2) = true := by simpa using hxy
                    clear hxy
                    go_wp2_with fail
                    have hU0 := bup hA3
                    have hU1 := bup hC
                    refine wp_region_up w3.heap.size (by kernel_rfl) (by kernel_rfl) ?_
                    repeat (go_big_quiet_step ((first | (go_at_call 48; exact Calls.up_of (Nat.le_refl _) (Ht1.out _)) | (go_at_call 44; exact Calls.up_same (Ht2.out _)))))
                    refine wpQuiet_nil (up_all fun w2 hb2 => ?_)
                    have hA3 := bgo hA3 hb2
                    have hC := bgo hC hb2
                    clear hb2 hU0 hU1
                    go_wp2_with fail
                    go_meet
                    exact ⟨_, rfl, hA3, hC⟩
                  · have q1 : decide (gl ≤ gl2) = false := by simpa using hxy
                    clear hxy
                    go_wp2_with fail
                    have hU0 := bup hA3
                    have hU1 := bup hC
                    refine wp_region_up w3.heap.size (by kernel_rfl) (by kernel_rfl) ?_
                    repeat (go_big_quiet_step ((first | (go_at_call 48; exact Calls.up_of (Nat.le_refl _) (Ht1.out _)) | (go_at_call 44; exact Calls.up_same (Ht2.out _)))))
                    refine wpQuiet_nil (up_all fun w2 hb2 => ?_)
                    have hA3 := bgo hA3 hb2
                    have hC := bgo hC hb2
                    clear hb2 hU0 hU1
                    go_wp2_with fail
                    go_meet
                    exact ⟨_, rfl, hA3, hC⟩
          obtain ⟨t, rfl, hA3, hC⟩ := hcut
          rcases t with _ | _
          rotate_left
          · go_wp2_with fail
            go_ret
            exact ⟨_, rfl, trivial, hb1.trans (hA3.mono (by omega))⟩
          go_wp2_with fail
          obtain ⟨wq, hwq⟩ : ∃ wq : World, wq = wc := ⟨_, rfl⟩
          subst hwq
          go_loopw [12] (fun v wr => ∃ p : Nat, v = .int .i64 (p : Int) ∧ p ≤ nsp ∧ Below w1.heap.size w1 wr ∧ Below w3.heap.size w3 wr) (fun v _ => nsp - (intOf v).toNat)
          case atStart => exact ⟨0, rfl, Nat.zero_le _, hA3, hC⟩
          case round =>
            obtain ⟨p, rfl, hp, hA3, hC⟩ := hrel
            by_cases hlp : p < nsp
            · obtain ⟨b2, o2, Ar, nr, cr, eP, hbb2, c0, hin⟩ := HP.out.atSl hlp
              have hcr := hin.cap
              rw [eP] at xf1
              have y0 := up_fact c0
              have HIN := Lib.hid hin
              clear c0 hin
              by_cases h16 : 16 < nr
              · have q0 : decide ((16 : Int) < (nr : Int)) = true := by simp; omega
                have q00 : decide (16 < nr) = true := by simp; omega
                clear h16
                go_wp2_with fail
                go_ret
                exact ⟨_, rfl, trivial, hb1.trans (hA3.mono (by omega))⟩
              have q0 : decide ((16 : Int) < (nr : Int)) = false := by simp; omega
              have q00 : decide (16 < nr) = false := by simp; omega
              go_wp2_with fail
              obtain ⟨wp, hwp⟩ : ∃ wp : World, wp = wr := ⟨_, rfl⟩
              subst hwp
              go_loopw [13] (fun v wr => ∃ q : Nat, v = .int .i64 (q : Int) ∧ q ≤ nr ∧ Below w1.heap.size w1 wr ∧ Below w3.heap.size w3 wr) (fun v _ => nr - (intOf v).toNat)
              case atStart => exact ⟨0, rfl, Nat.zero_le _, hA3, hC⟩
              case round =>
                obtain ⟨q, rfl, hq, hA3, hC⟩ := hrel
                by_cases hlq : q < nr
                · obtain ⟨b4, o4, ha, x0, y9, rfl, hbb4, ⟨c0, c1, c2⟩, _⟩ := HIN.out.atSpot hlq
                  have s0 := up_fact c0
                  have s1 := up_fact c1
                  have s2 := up_fact c2
                  clear c0 c1 c2
                  obtain ⟨t1, ht1⟩ : ∃ t, t = anB x0 y9 ha := ⟨_, rfl⟩
                  have Ht1 := Lib.hid (show ∀ W, Calls Try.prog 84 #[.agg #[.int .i64 x0, .int .i64 y9], .bool ha] W fun e w' => e = .returned (.bool t1) ∧ Below W.heap.size W w' from fun W => by rw [ht1]; exact anchor_any x0 y9 ha W)
                  clear ht1
                  go_upto_region 26 with (fail)
                  go_cut [156] (fun v W => ∃ t : Bool, v = .bool t ∧ Below w1.heap.size w1 W ∧ Below w3.heap.size w3 W)
                  case first =>
                    have hU0 := bup hA3
                    have hU1 := bup hC
                    refine wp_region_up wr.heap.size (by kernel_rfl) (by kernel_rfl) ?_
                    repeat (go_big_quiet_step ((first | (go_at_call 84; exact Calls.up_of (Nat.le_refl _) (Ht1.out _)))))
                    refine wpQuiet_nil (up_all fun w2 hb2 => ?_)
                    have hA3 := bgo hA3 hb2
                    have hC := bgo hC hb2
                    clear hb2 hU0 hU1
                    go_wp2_with fail
                    go_meet
                    exact ⟨_, rfl, hA3, hC⟩
                  obtain ⟨t, rfl, hA3, hC⟩ := hcut
                  rcases t with _ | _
                  · go_wp2_with fail
                    go_roundw
                    case rel => exact ⟨q + 1, by go_num, by omega, hA3, hC⟩
                    case measure => simp [intOf]; omega
                  · go_wp2_with fail
                    go_ret
                    exact ⟨_, rfl, trivial, hb1.trans (hA3.mono (by omega))⟩
                · have hz1 : decide ((q : Int) < (nr : Int)) = false := by simp; omega
                  go_wp2_with fail
                  go_roundw
                  case rel => exact ⟨p + 1, by go_num, by omega, hA3, hC⟩
                  case measure => simp [intOf]; omega
            · have hz1 : decide ((p : Int) < (nsp : Int)) = false := by simp; omega
              go_wp2_with fail
              go_roundw
              case rel => exact ⟨i + 1, by go_num, by omega, hA3⟩
              case measure => simp [intOf]; omega
        · have hz1 : decide ((i : Int) < (s.ho.n : Int)) = false := by simp; omega
          go_wp2_with fail
          go_ret
          exact ⟨_, rfl, trivial, hb1.trans (hA.mono (by omega))⟩

end Go.Proofs.Ytbjeflblhjfagaa
