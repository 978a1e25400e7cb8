/- The walks of curs and around. Condition: the font and the subtable read as their shapes. Printed by wip/tools/g27f.py. -/
import Derived.Test.YtbjeflblhjfagaaFontD
import Derived.Deep.RegionWith
namespace Go.Proofs.Ytbjeflblhjfagaa
open Go.RowKit

set_option maxRecDepth 100000 in
set_option maxHeartbeats 4000000 in
theorem curs_any (F : Fnt) (B : Nat) (A : Option Addr) (n c : Nat) (w : World) (h : ShSl w B shCurs A n c) (hB : B ≤ w.heap.size) :
    Calls Try.prog 75 #[.agg #[.int .i64 F.em, .slice F.GA F.gn F.gc, .slice F.MA F.mn F.mc, .slice F.LA F.ln F.lc, .slice F.FA F.fn F.fc, .slice F.SA F.sn F.sc], .slice A n c] w (RetB w fun _ => True) := by
  have hcap := h.cap
  obtain ⟨w1, hw1⟩ : ∃ z, z = w.alloc (.cells #[.int .i64 F.em, .slice F.GA F.gn F.gc, .slice F.MA F.mn F.mc, .slice F.LA F.ln F.lc, .slice F.FA F.fn F.fc, .slice F.SA F.sn F.sc] 28) := ⟨_, rfl⟩
  have hb1 : Below w.heap.size w w1 := by rw [hw1]; exact (Below.refl _ _).alloc (Nat.le_refl _) _
  have hs1 : w.heap.size < w1.heap.size := by rw [hw1]; simp
  have hfb : FBox w1 w.heap.size F := by rw [hw1]; exact FBox.new w F
  obtain ⟨f0, f1, f2, f3, f4, f5⟩ := hfb.cells
  have g0 := up_fact f0
  have g1 := up_fact f1
  have g2 := up_fact f2
  have g3 := up_fact f3
  have g4 := up_fact f4
  have g5 := up_fact f5
  have hA0 := Below.refl w1.heap.size w1
  clear f0 f1 f2 f3 f4 f5 hfb
  have HW1 := Lib.hid hw1
  clear hw1
  have HI := Lib.hid (h.below (hb1.mono hB))
  clear h
  go_enter Try.func75, Try.ntmps75
  go_upto_region 1 with (fail)
  rw [← HW1.out]
  go_wp2_with fail
  go_loopw [5] (fun v wr => ∃ k : Nat, v = .int .i64 (k : Int) ∧ k ≤ n ∧ Below w1.heap.size w1 wr) (fun v _ => n - (intOf v).toNat)
  case atStart => exact ⟨0, rfl, Nat.zero_le _, hA0⟩
  case round =>
    obtain ⟨k, rfl, hk, hA⟩ := hrel
    by_cases hlt : k < n
    · obtain ⟨b, o, gl, he, hx, x0, y0, x1, y1, rfl, hbb, ⟨c0, c1, c2, c3, c4, c5, c6⟩, _⟩ := HI.out.atCurs hlt
      obtain ⟨j, hj⟩ : ∃ z, z = k - 1 := ⟨_, rfl⟩
      have hjn : j < n := by omega
      obtain ⟨_, _, gl2, _, _, _, _, _, _, e9, _, ⟨d0, _⟩, _⟩ := HI.out.atCurs hjn
      cases e9
      have v0 := up_fact c0
      have v1 := up_fact c1
      have v2 := up_fact c2
      have v3 := up_fact c3
      have v4 := up_fact c4
      have v5 := up_fact c5
      have v6 := up_fact c6
      have z0 := up_fact d0
      clear c0 c1 c2 c3 c4 c5 c6 d0
      have HWR := Lib.hid (show 0 < k → IntKind.i64.wrap ((k : Int) - 1) = (j : Int) from fun h => by rw [IntKind.wrap_i64]; omega)
      clear hj
      go_upto_region 5 with (fail)
      obtain ⟨w3, hw3⟩ : ∃ z, z = wr.alloc (.cells #[.int .i64 gl, .bool he, .bool hx, .int .i64 x0, .int .i64 y0, .int .i64 x1, .int .i64 y1] 133) := ⟨_, rfl⟩
      obtain ⟨bx, hbx⟩ : ∃ z, z = wr.heap.size := ⟨_, rfl⟩
      rw [← hw3, ← hbx]
      have hA3 := (show Below w1.heap.size w1 w3 by rw [hw3]; exact hA.alloc hA.size _)
      have hX : w3.heap[bx]? = some (.cells #[.int .i64 gl, .bool he, .bool hx, .int .i64 x0, .int .i64 y0, .int .i64 x1, .int .i64 y1] 133 (0, 0)) := by rw [hw3, hbx]; exact heap_alloc_new _ _
      have xf0 := up_fact (show w3.cell? ⟨bx, 0, none⟩ = some (.int .i64 gl) by rw [cell_of_row _ _ 0 _ _ _ hX]; rfl)
      have xf1 := up_fact (show w3.cell? ⟨bx, 1, none⟩ = some (.bool he) by rw [cell_of_row _ _ 1 _ _ _ hX]; rfl)
      have xf2 := up_fact (show w3.cell? ⟨bx, 2, none⟩ = some (.bool hx) by rw [cell_of_row _ _ 2 _ _ _ hX]; rfl)
      have xf3 := up_fact (show w3.cell? ⟨bx, 3, none⟩ = some (.int .i64 x0) by rw [cell_of_row _ _ 3 _ _ _ hX]; rfl)
      have xf4 := up_fact (show w3.cell? ⟨bx, 4, none⟩ = some (.int .i64 y0) by rw [cell_of_row _ _ 4 _ _ _ hX]; rfl)
      have xf5 := up_fact (show w3.cell? ⟨bx, 5, none⟩ = some (.int .i64 x1) by rw [cell_of_row _ _ 5 _ _ _ hX]; rfl)
      have xf6 := up_fact (show w3.cell? ⟨bx, 6, none⟩ = some (.int .i64 y1) by rw [cell_of_row _ _ 6 _ _ _ hX]; rfl)
      have hC := Below.refl w3.heap.size w3
      clear hX hw3 hbx
      obtain ⟨t1, ht1⟩ : ∃ t, t = thB F.gn gl := ⟨_, rfl⟩
      have Ht1 := Lib.hid (show ∀ W, Calls Try.prog 48 #[.agg #[.int .i64 F.em, .slice F.GA F.gn F.gc, .slice F.MA F.mn F.mc, .slice F.LA F.ln F.lc, .slice F.FA F.fn F.fc, .slice F.SA F.sn F.sc], .int .i64 gl] W fun e w' => e = .returned (.bool t1) ∧ Below W.heap.size W w' from fun W => by rw [ht1]; exact there_any F gl W)
      obtain ⟨t2, ht2⟩ : ∃ t, t = anB x0 y0 he := ⟨_, rfl⟩
      have Ht2 := Lib.hid (show ∀ W, Calls Try.prog 84 #[.agg #[.int .i64 x0, .int .i64 y0], .bool he] W fun e w' => e = .returned (.bool t2) ∧ Below W.heap.size W w' from fun W => by rw [ht2]; exact anchor_any x0 y0 he W)
      obtain ⟨t3, ht3⟩ : ∃ t, t = anB x1 y1 hx := ⟨_, rfl⟩
      have Ht3 := Lib.hid (show ∀ W, Calls Try.prog 84 #[.agg #[.int .i64 x1, .int .i64 y1], .bool hx] W fun e w' => e = .returned (.bool t3) ∧ Below W.heap.size W w' from fun W => by rw [ht3]; exact anchor_any x1 y1 hx W)
      clear ht1 ht2 ht3
      go_cut [52] (fun v W => ∃ t : Bool, v = .bool t ∧ Below w1.heap.size w1 W ∧ Below w3.heap.size w3 W)
      case first =>
        rcases t1 with _ | _
        · go_wp2_with fail
          have hU0 := bup hA3
          have hU1 := bup hC
          refine wp_region_up w3.heap.size (by kernel_rfl) (by kernel_rfl) ?_
          repeat (go_big_quiet_step ((first | (go_at_call 48; exact Calls.up_of (Nat.le_refl _) (Ht1.out _)) | (go_at_call_of 84 (Value.int .i64 x0); exact Calls.up_of (Nat.le_refl _) (Ht2.out _)) | (go_at_call_of 84 (Value.int .i64 x1); exact Calls.up_of (Nat.le_refl _) (Ht3.out _)))))
          refine wpQuiet_nil (up_all fun w2 hb2 => ?_)
          have hA3 := bgo hA3 hb2
          have hC := bgo hC hb2
          clear hb2 hU0 hU1
          go_wp2_with fail
          go_meet
          exact ⟨_, rfl, hA3, hC⟩
        · rcases t2 with _ | _
          · go_wp2_with fail
            have hU0 := bup hA3
            have hU1 := bup hC
            refine wp_region_up w3.heap.size (by kernel_rfl) (by kernel_rfl) ?_
            repeat (go_big_quiet_step ((first | (go_at_call 48; exact Calls.up_of (Nat.le_refl _) (Ht1.out _)) | (go_at_call_of 84 (Value.int .i64 x0); exact Calls.up_of (Nat.le_refl _) (Ht2.out _)) | (go_at_call_of 84 (Value.int .i64 x1); exact Calls.up_of (Nat.le_refl _) (Ht3.out _)))))
            refine wpQuiet_nil (up_all fun w2 hb2 => ?_)
            have hA3 := bgo hA3 hb2
            have hC := bgo hC hb2
            clear hb2 hU0 hU1
            go_wp2_with fail
            go_meet
            exact ⟨_, rfl, hA3, hC⟩
          · rcases t3 with _ | _
            · go_wp2_with fail
              have hU0 := bup hA3
              have hU1 := bup hC
              refine wp_region_up w3.heap.size (by kernel_rfl) (by kernel_rfl) ?_
              repeat (go_big_quiet_step ((first | (go_at_call 48; exact Calls.up_of (Nat.le_refl _) (Ht1.out _)) | (go_at_call_of 84 (Value.int .i64 x0); exact Calls.up_of (Nat.le_refl _) (Ht2.out _)) | (go_at_call_of 84 (Value.int .i64 x1); exact Calls.up_of (Nat.le_refl _) (Ht3.out _)))))
              refine wpQuiet_nil (up_all fun w2 hb2 => ?_)
              have hA3 := bgo hA3 hb2
              have hC := bgo hC hb2
              clear hb2 hU0 hU1
              go_wp2_with fail
              go_meet
              exact ⟨_, rfl, hA3, hC⟩
            · by_cases hk0 : k = 0
              · have q0 : decide ((0 : Int) < (k : Int)) = false := by simp; omega
                have q00 : decide (0 < k) = false := by simp; omega
                clear hk0
                go_wp2_with fail
                have hU0 := bup hA3
                have hU1 := bup hC
                refine wp_region_up w3.heap.size (by kernel_rfl) (by kernel_rfl) ?_
                repeat (go_big_quiet_step ((first | (go_at_call 48; exact Calls.up_of (Nat.le_refl _) (Ht1.out _)) | (go_at_call_of 84 (Value.int .i64 x0); exact Calls.up_of (Nat.le_refl _) (Ht2.out _)) | (go_at_call_of 84 (Value.int .i64 x1); exact Calls.up_of (Nat.le_refl _) (Ht3.out _)))))
                refine wpQuiet_nil (up_all fun w2 hb2 => ?_)
                have hA3 := bgo hA3 hb2
                have hC := bgo hC hb2
                clear hb2 hU0 hU1
                go_wp2_with fail
                go_meet
                exact ⟨_, rfl, hA3, hC⟩
              · have q0 : decide ((0 : Int) < (k : Int)) = true := by simp; omega
                have q00 : decide (0 < k) = true := by simp; omega
                have hw1 := HWR.out (by omega)
                clear hk0
                by_cases hxy : gl ≤ gl2
                · have q1 : decide (gl ≤ gl2) = true := by simpa using hxy
                  clear hxy
                  go_wp2_with fail
                  have hU0 := bup hA3
                  have hU1 := bup hC
                  refine wp_region_up w3.heap.size (by kernel_rfl) (by kernel_rfl) ?_
                  repeat (go_big_quiet_step ((first | (go_at_call 48; exact Calls.up_of (Nat.le_refl _) (Ht1.out _)) | (go_at_call_of 84 (Value.int .i64 x0); exact Calls.up_of (Nat.le_refl _) (Ht2.out _)) | (go_at_call_of 84 (Value.int .i64 x1); exact Calls.up_of (Nat.le_refl _) (Ht3.out _)))))
                  refine wpQuiet_nil (up_all fun w2 hb2 => ?_)
                  have hA3 := bgo hA3 hb2
                  have hC := bgo hC hb2
                  clear hb2 hU0 hU1
                  go_wp2_with fail
                  go_meet
                  exact ⟨_, rfl, hA3, hC⟩
                · have q1 : decide (gl ≤ gl2) = false := by simpa using hxy
                  clear hxy
                  go_wp2_with fail
                  have hU0 := bup hA3
                  have hU1 := bup hC
                  refine wp_region_up w3.heap.size (by kernel_rfl) (by kernel_rfl) ?_
                  repeat (go_big_quiet_step ((first | (go_at_call 48; exact Calls.up_of (Nat.le_refl _) (Ht1.out _)) | (go_at_call_of 84 (Value.int .i64 x0); exact Calls.up_of (Nat.le_refl _) (Ht2.out _)) | (go_at_call_of 84 (Value.int .i64 x1); exact Calls.up_of (Nat.le_refl _) (Ht3.out _)))))
                  refine wpQuiet_nil (up_all fun w2 hb2 => ?_)
                  have hA3 := bgo hA3 hb2
                  have hC := bgo hC hb2
                  clear hb2 hU0 hU1
                  go_wp2_with fail
                  go_meet
                  exact ⟨_, rfl, hA3, hC⟩
      obtain ⟨t, rfl, hA3, hC⟩ := hcut
      rcases t with _ | _
      · go_wp2_with fail
        go_roundw
        case rel => exact ⟨k + 1, by go_num, by omega, hA3⟩
        case measure => simp [intOf]; omega
      · go_wp2_with fail
        go_ret
        exact ⟨_, rfl, trivial, hb1.trans (hA3.mono (by omega))⟩
    · have h0 : decide ((k : Int) < (n : Int)) = false := by simp; omega
      go_wp2_with fail
      go_ret
      exact ⟨_, rfl, trivial, hb1.trans (hA.mono (by omega))⟩

set_option maxRecDepth 100000 in
set_option maxHeartbeats 4000000 in
theorem around_gen (F : Fnt) (LA : Option Addr) (hLA : F.LA = LA) (B : Nat) (l : Lk) (s : Sb) (w : World) (hF : FntOk w B F) (h : SbOk w B s) (hB : B ≤ w.heap.size) :
    Calls Try.prog 71 #[.agg #[.int .i64 F.em, .slice F.GA F.gn F.gc, .slice F.MA F.mn F.mc, .slice LA F.ln F.lc, .slice F.FA F.fn F.fc, .slice F.SA F.sn F.sc], .agg #[.int .i64 l.ki, .int .i64 l.fl, .int .i64 l.se, .slice l.su.A l.su.n l.su.c], .agg #[.slice s.co.A s.co.n s.co.c, .slice s.tt.A s.tt.n s.tt.c, .slice s.li.A s.li.n s.li.c, .slice s.ba.A s.ba.n s.ba.c, .slice s.inn.A s.inn.n s.inn.c, .slice s.ah.A s.ah.n s.ah.c, .slice s.ne.A s.ne.n s.ne.c, .slice s.va.A s.va.n s.va.c, .slice s.pr.A s.pr.n s.pr.c, .slice s.cu.A s.cu.n s.cu.c, .slice s.ma.A s.ma.n s.ma.c, .slice s.ho.A s.ho.n s.ho.c]] w (RetB w fun _ => True) := by
  have hcap := h.ne.cap
  have hcapi := h.inn.cap
  have hcapb := h.ba.cap
  have hcapa := h.ah.cap
  have hcapl := hF.hL.cap
  obtain ⟨wa, hwa⟩ : ∃ z, z = w.alloc (.cells #[.int .i64 F.em, .slice F.GA F.gn F.gc, .slice F.MA F.mn F.mc, .slice F.LA F.ln F.lc, .slice F.FA F.fn F.fc, .slice F.SA F.sn F.sc] 28) := ⟨_, rfl⟩
  have hba : Below w.heap.size w wa := by rw [hwa]; exact (Below.refl _ _).alloc (Nat.le_refl _) _
  have hsa : wa.heap.size = w.heap.size + 1 := by rw [hwa]; simp
  have hfa : FBox wa w.heap.size F := by rw [hwa]; exact FBox.new w F
  obtain ⟨wb, hwb⟩ : ∃ z, z = wa.alloc (.cells #[.int .i64 l.ki, .int .i64 l.fl, .int .i64 l.se, .slice l.su.A l.su.n l.su.c] 31) := ⟨_, rfl⟩
  have hbb : Below w.heap.size w wb := by rw [hwb]; exact hba.alloc (by omega) _
  have hsb : wb.heap.size = w.heap.size + 2 := by rw [hwb]; simp; omega
  have hfab : FBox wb w.heap.size F := by rw [hwb]; exact (heap_alloc_old _ _ (by omega)).trans hfa
  have hkb : KBox wb (w.heap.size + 1) l := by rw [hwb, ← hsa]; exact heap_alloc_new _ _
  obtain ⟨w1, hw1⟩ : ∃ z, z = wb.alloc (.cells #[.slice s.co.A s.co.n s.co.c, .slice s.tt.A s.tt.n s.tt.c, .slice s.li.A s.li.n s.li.c, .slice s.ba.A s.ba.n s.ba.c, .slice s.inn.A s.inn.n s.inn.c, .slice s.ah.A s.ah.n s.ah.c, .slice s.ne.A s.ne.n s.ne.c, .slice s.va.A s.va.n s.va.c, .slice s.pr.A s.pr.n s.pr.c, .slice s.cu.A s.cu.n s.cu.c, .slice s.ma.A s.ma.n s.ma.c, .slice s.ho.A s.ho.n s.ho.c] 62) := ⟨_, rfl⟩
  have hb1 : Below w.heap.size w w1 := by rw [hw1]; exact hbb.alloc (by omega) _
  have hfc : FBox w1 w.heap.size F := by rw [hw1]; exact (heap_alloc_old _ _ (by omega)).trans hfab
  have hkc : KBox w1 (w.heap.size + 1) l := by rw [hw1]; exact (heap_alloc_old _ _ (by omega)).trans hkb
  have hsc : SBox w1 (w.heap.size + 2) s := by rw [hw1, ← hsb]; exact heap_alloc_new _ _
  have hs1 : w.heap.size + 2 < w1.heap.size := by rw [hw1]; simp; omega
  obtain ⟨f0, f1, f2, f3, f4, f5⟩ := hfc.cells
  obtain ⟨e0, e1, e2, e3, e4, e5, e6, e7, e8, e9, e10, e11⟩ := hsc.cells
  obtain ⟨l0, l1, l2, l3⟩ := hkc.cells
  have g0 := up_fact f0
  have g1 := up_fact f1
  have g2 := up_fact f2
  have g3 := up_fact f3
  have g4 := up_fact f4
  have g5 := up_fact f5
  have k0 := up_fact e0
  have k1 := up_fact e1
  have k2 := up_fact e2
  have k3 := up_fact e3
  have k4 := up_fact e4
  have k5 := up_fact e5
  have k6 := up_fact e6
  have k7 := up_fact e7
  have k8 := up_fact e8
  have k9 := up_fact e9
  have k10 := up_fact e10
  have k11 := up_fact e11
  have h0 := up_fact l0
  have h1 := up_fact l1
  have h2 := up_fact l2
  have h3 := up_fact l3
  have hA0 := Below.refl w1.heap.size w1
  clear f0 f1 f2 f3 f4 f5 e0 e1 e2 e3 e4 e5 e6 e7 e8 e9 e10 e11 l0 l1 l2 l3 hfc hkc hsc hfab hkb hfa hba hbb
  have HW1 := Lib.hid hw1
  have HWA := Lib.hid hwa
  have HWB := Lib.hid hwb
  clear hw1 hwa hwb hsa hsb
  have HCinn := Lib.hid (fun lo W (hW : Below w1.heap.size w1 W) => covers_any F B s.inn.A s.inn.n s.inn.c lo W ((h.inn.below (hb1.mono hB)).below (hW.mono (by omega))) (by have := hW.size; omega))
  have HCba := Lib.hid (fun lo W (hW : Below w1.heap.size w1 W) => covers_any F B s.ba.A s.ba.n s.ba.c lo W ((h.ba.below (hb1.mono hB)).below (hW.mono (by omega))) (by have := hW.size; omega))
  have HCah := Lib.hid (fun lo W (hW : Below w1.heap.size w1 W) => covers_any F B s.ah.A s.ah.n s.ah.c lo W ((h.ah.below (hb1.mono hB)).below (hW.mono (by omega))) (by have := hW.size; omega))
  rw [hLA] at g3 HWA HCinn HCba HCah
  have HLA := Lib.hid hLA
  clear hLA
  have HS := Lib.hid (h.below (hb1.mono hB))
  have HL := Lib.hid (hF.hL.below (hb1.mono hB))
  clear h hF
  go_enter Try.func71, Try.ntmps71
  go_upto_region 1 with (fail)
  rw [← HWA.out, ← HWB.out, ← HW1.out]
  have hBw : B ≤ w1.heap.size := by omega
  go_cut [33] (fun v W => ∃ t : Bool, v = .bool t ∧ Below w1.heap.size w1 W)
  case first =>
    go_wp2_with (first
      | (go_at_call_of 72 (Value.slice s.inn.A s.inn.n s.inn.c); refine (HCinn.out _ _ hA0).mono ?_; rintro e w9 ⟨t9, rfl, _, hb⟩; have hA0 := bgo hA0 hb; clear hb)
      | (go_at_call_of 72 (Value.slice s.ba.A s.ba.n s.ba.c); refine (HCba.out _ _ hA0).mono ?_; rintro e w9 ⟨t9, rfl, _, hb⟩; have hA0 := bgo hA0 hb; clear hb)
      | (go_at_call_of 72 (Value.slice s.ah.A s.ah.n s.ah.c); refine (HCah.out _ _ hA0).mono ?_; rintro e w9 ⟨t9, rfl, _, hb⟩; have hA0 := bgo hA0 hb; clear hb)
      | fail)
    all_goals
      go_meet
      exact ⟨_, rfl, hA0⟩
  obtain ⟨t, rfl, hA0⟩ := hcut
  rcases t with _ | _
  rotate_left
  · go_wp2_with fail
    go_ret
    exact ⟨_, rfl, trivial, hb1.trans (hA0.mono (by omega))⟩
  go_wp2_with fail
  go_loopw [7] (fun v wr => ∃ k : Nat, v = .int .i64 (k : Int) ∧ k ≤ s.ne.n ∧ Below w1.heap.size w1 wr) (fun v _ => s.ne.n - (intOf v).toNat)
  case atStart => exact ⟨0, rfl, Nat.zero_le _, hA0⟩
  case round =>
    obtain ⟨k, rfl, hk, hA⟩ := hrel
    by_cases hlt : k < s.ne.n
    · obtain ⟨b, o, aa, lo, eN, hbb, ⟨c0, c1⟩, _⟩ := HS.out.ne.atNest hlt
      rw [eN] at k6 ⊢
      have v0 := up_fact c0
      have v1 := up_fact c1
      have hwi : IntKind.i64.wrap ((s.inn.n : Int) - 1) = (s.inn.n : Int) - 1 := by rw [IntKind.wrap_i64]; omega
      have hwl : IntKind.i64.wrap ((F.ln : Int) - 1) = (F.ln : Int) - 1 := by rw [IntKind.wrap_i64]; omega
      clear c0 c1
      go_upto_region 7 with (fail)
      obtain ⟨w3, hw3⟩ : ∃ z, z = wr.alloc (.cells #[.int .i64 aa, .int .i64 lo] 127) := ⟨_, rfl⟩
      obtain ⟨bx, hbx⟩ : ∃ z, z = wr.heap.size := ⟨_, rfl⟩
      rw [← hw3, ← hbx]
      have hA3 := (show Below w1.heap.size w1 w3 by rw [hw3]; exact hA.alloc hA.size _)
      have hX : w3.heap[bx]? = some (.cells #[.int .i64 aa, .int .i64 lo] 127 (0, 0)) := by rw [hw3, hbx]; exact heap_alloc_new _ _
      have xf0 := up_fact (show w3.cell? ⟨bx, 0, none⟩ = some (.int .i64 aa) by rw [cell_of_row _ _ 0 _ _ _ hX]; rfl)
      have xf1 := up_fact (show w3.cell? ⟨bx, 1, none⟩ = some (.int .i64 lo) by rw [cell_of_row _ _ 1 _ _ _ hX]; rfl)
      have hC := Below.refl w3.heap.size w3
      clear hX hw3 hbx
      obtain ⟨t1, ht1⟩ : ∃ t, t = wiB aa 0 ((s.inn.n : Int) - 1) := ⟨_, rfl⟩
      have Ht1 := Lib.hid (show ∀ W, Calls Try.prog 44 #[.int .i64 aa, .int .i64 0, .int .i64 ((s.inn.n : Int) - 1)] W fun e w' => e = .returned (.bool t1) ∧ W = w' from fun W => by rw [ht1]; exact within_any _ _ _ W)
      obtain ⟨t2, ht2⟩ : ∃ t, t = wiB lo 0 ((F.ln : Int) - 1) := ⟨_, rfl⟩
      have Ht2 := Lib.hid (show ∀ W, Calls Try.prog 44 #[.int .i64 lo, .int .i64 0, .int .i64 ((F.ln : Int) - 1)] W fun e w' => e = .returned (.bool t2) ∧ W = w' from fun W => by rw [ht2]; exact within_any _ _ _ W)
      have HT2 := Lib.hid ht2
      clear ht1 ht2
      go_cut [77] (fun v W => ∃ t : Bool, v = .bool t ∧ Below w1.heap.size w1 W ∧ Below w3.heap.size w3 W)
      case first =>
        rcases t1 with _ | _
        · go_wp2_with fail
          have hU0 := bup hA3
          have hU1 := bup hC
          refine wp_region_up w3.heap.size (by kernel_rfl) (by kernel_rfl) ?_
          repeat (go_big_quiet_step ((first | (go_at_call_of 44 (Value.int .i64 aa); exact Calls.up_same (Ht1.out _)) | (go_at_call_of 44 (Value.int .i64 lo); exact Calls.up_same (Ht2.out _)))))
          refine wpQuiet_nil (up_all fun w2 hb2 => ?_)
          have hA3 := bgo hA3 hb2
          have hC := bgo hC hb2
          clear hb2 hU0 hU1
          go_wp2_with fail
          go_meet
          exact ⟨_, rfl, hA3, hC⟩
        · rcases t2 with _ | _
          · go_wp2_with fail
            have hU0 := bup hA3
            have hU1 := bup hC
            refine wp_region_up w3.heap.size (by kernel_rfl) (by kernel_rfl) ?_
            repeat (go_big_quiet_step ((first | (go_at_call_of 44 (Value.int .i64 aa); exact Calls.up_same (Ht1.out _)) | (go_at_call_of 44 (Value.int .i64 lo); exact Calls.up_same (Ht2.out _)))))
            refine wpQuiet_nil (up_all fun w2 hb2 => ?_)
            have hA3 := bgo hA3 hb2
            have hC := bgo hC hb2
            clear hb2 hU0 hU1
            go_wp2_with fail
            go_meet
            exact ⟨_, rfl, hA3, hC⟩
          · have hlo : 0 ≤ lo ∧ lo ≤ (F.ln : Int) - 1 := by have := HT2.out; unfold wiB at this; simpa using this.symm
            obtain ⟨m, rfl⟩ : ∃ m : Nat, lo = (m : Int) := ⟨lo.toNat, by omega⟩
            have hml : m < F.ln := by omega
            obtain ⟨b5, o5, l2, eL, _, ⟨d0, _⟩, _⟩ := HL.out.look hml
            have eL2 := HLA.out.symm.trans eL
            subst eL2
            have v2 := up_fact d0
            obtain ⟨s1, hs1'⟩ : ∃ z, z = soI l2.ki := ⟨_, rfl⟩
            obtain ⟨s2, hs2'⟩ : ∃ z, z = soI l.ki := ⟨_, rfl⟩
            have Hso1 := Lib.hid (show ∀ W, Calls Try.prog 50 #[.int .i64 l2.ki] W fun e w' => e = .returned (.int .i64 s1) ∧ W = w' from fun W => by rw [hs1']; exact sorts_any _ W)
            have Hso2 := Lib.hid (show ∀ W, Calls Try.prog 50 #[.int .i64 l.ki] W fun e w' => e = .returned (.int .i64 s2) ∧ W = w' from fun W => by rw [hs2']; exact sorts_any _ W)
            clear d0 hs1' hs2' hlo
            by_cases hss : s1 = s2
            · have q1 : (s1 != s2) = false := by simpa using hss
              clear hss
              go_wp2_with fail
              have hU0 := bup hA3
              have hU1 := bup hC
              refine wp_region_up w3.heap.size (by kernel_rfl) (by kernel_rfl) ?_
              repeat (go_big_quiet_step ((first | (go_at_call_of 44 (Value.int .i64 aa); exact Calls.up_same (Ht1.out _)) | (go_at_call_of 44 (Value.int .i64 (m : Int)); exact Calls.up_same (Ht2.out _)) | (go_at_call_of 50 (Value.int .i64 l2.ki); exact Calls.up_same (Hso1.out _)) | (go_at_call_of 50 (Value.int .i64 l.ki); exact Calls.up_same (Hso2.out _)))))
              refine wpQuiet_nil (up_all fun w2 hb2 => ?_)
              have hA3 := bgo hA3 hb2
              have hC := bgo hC hb2
              clear hb2 hU0 hU1
              go_wp2_with fail
              go_meet
              exact ⟨_, rfl, hA3, hC⟩
            · have q1 : (s1 != s2) = true := by simpa using hss
              clear hss
              go_wp2_with fail
              have hU0 := bup hA3
              have hU1 := bup hC
              refine wp_region_up w3.heap.size (by kernel_rfl) (by kernel_rfl) ?_
              repeat (go_big_quiet_step ((first | (go_at_call_of 44 (Value.int .i64 aa); exact Calls.up_same (Ht1.out _)) | (go_at_call_of 44 (Value.int .i64 (m : Int)); exact Calls.up_same (Ht2.out _)) | (go_at_call_of 50 (Value.int .i64 l2.ki); exact Calls.up_same (Hso1.out _)) | (go_at_call_of 50 (Value.int .i64 l.ki); exact Calls.up_same (Hso2.out _)))))
              refine wpQuiet_nil (up_all fun w2 hb2 => ?_)
              have hA3 := bgo hA3 hb2
              have hC := bgo hC hb2
              clear hb2 hU0 hU1
              go_wp2_with fail
              go_meet
              exact ⟨_, rfl, hA3, hC⟩
      obtain ⟨t, rfl, hA3, hC⟩ := hcut
      rcases t with _ | _
      · go_wp2_with fail
        go_roundw
        case rel => exact ⟨k + 1, by go_num, by omega, hA3⟩
        case measure => simp [intOf]; omega
      · go_wp2_with fail
        go_ret
        exact ⟨_, rfl, trivial, hb1.trans (hA3.mono (by omega))⟩
    · have h0 : decide ((k : Int) < (s.ne.n : Int)) = false := by simp; omega
      go_wp2_with fail
      go_ret
      exact ⟨_, rfl, trivial, hb1.trans (hA.mono (by omega))⟩

theorem around_any (F : Fnt) (B : Nat) (l : Lk) (s : Sb) (w : World) (hF : FntOk w B F) (h : SbOk w B s) (hB : B ≤ w.heap.size) :
    Calls Try.prog 71 #[.agg #[.int .i64 F.em, .slice F.GA F.gn F.gc, .slice F.MA F.mn F.mc, .slice F.LA F.ln F.lc, .slice F.FA F.fn F.fc, .slice F.SA F.sn F.sc], .agg #[.int .i64 l.ki, .int .i64 l.fl, .int .i64 l.se, .slice l.su.A l.su.n l.su.c], .agg #[.slice s.co.A s.co.n s.co.c, .slice s.tt.A s.tt.n s.tt.c, .slice s.li.A s.li.n s.li.c, .slice s.ba.A s.ba.n s.ba.c, .slice s.inn.A s.inn.n s.inn.c, .slice s.ah.A s.ah.n s.ah.c, .slice s.ne.A s.ne.n s.ne.c, .slice s.va.A s.va.n s.va.c, .slice s.pr.A s.pr.n s.pr.c, .slice s.cu.A s.cu.n s.cu.c, .slice s.ma.A s.ma.n s.ma.c, .slice s.ho.A s.ho.n s.ho.c]] w (RetB w fun _ => True) := around_gen F F.LA rfl B l s w hF h hB

end Go.Proofs.Ytbjeflblhjfagaa
