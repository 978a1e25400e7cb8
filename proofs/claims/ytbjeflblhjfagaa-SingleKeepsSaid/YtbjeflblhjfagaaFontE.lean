/- The walks of ligs and pairs. Condition: the font and the subtable read as their shapes. Printed by wip/tools/g27e.py. -/
import Derived.Test.YtbjeflblhjfagaaFontD
import Derived.Deep.RegionWith
namespace Go.Proofs.Ytbjeflblhjfagaa
open Go.RowKit

set_option maxRecDepth 100000 in
set_option maxHeartbeats 4000000 in
theorem ligs_any (F : Fnt) (B : Nat) (s : Sb) (w : World) (h : SbOk w B s) (hB : B ≤ w.heap.size) :
    Calls Try.prog 70 #[.agg #[.int .i64 F.em, .slice F.GA F.gn F.gc, .slice F.MA F.mn F.mc, .slice F.LA F.ln F.lc, .slice F.FA F.fn F.fc, .slice F.SA F.sn F.sc], .agg #[.slice s.co.A s.co.n s.co.c, .slice s.tt.A s.tt.n s.tt.c, .slice s.li.A s.li.n s.li.c, .slice s.ba.A s.ba.n s.ba.c, .slice s.inn.A s.inn.n s.inn.c, .slice s.ah.A s.ah.n s.ah.c, .slice s.ne.A s.ne.n s.ne.c, .slice s.va.A s.va.n s.va.c, .slice s.pr.A s.pr.n s.pr.c, .slice s.cu.A s.cu.n s.cu.c, .slice s.ma.A s.ma.n s.ma.c, .slice s.ho.A s.ho.n s.ho.c]] w (RetB w fun _ => True) := by
  have hcap := h.li.cap
  obtain ⟨cov, hcov⟩ := h.co.ints
  have hcapc := hcov.cap
  obtain ⟨wa, hwa⟩ : ∃ z, z = w.alloc (.cells #[.int .i64 F.em, .slice F.GA F.gn F.gc, .slice F.MA F.mn F.mc, .slice F.LA F.ln F.lc, .slice F.FA F.fn F.fc, .slice F.SA F.sn F.sc] 28) := ⟨_, rfl⟩
  have hba : Below w.heap.size w wa := by rw [hwa]; exact (Below.refl _ _).alloc (Nat.le_refl _) _
  have hsa : wa.heap.size = w.heap.size + 1 := by rw [hwa]; simp
  have hfa : FBox wa w.heap.size F := by rw [hwa]; exact FBox.new w F
  obtain ⟨w1, hw1⟩ : ∃ z, z = wa.alloc (.cells #[.slice s.co.A s.co.n s.co.c, .slice s.tt.A s.tt.n s.tt.c, .slice s.li.A s.li.n s.li.c, .slice s.ba.A s.ba.n s.ba.c, .slice s.inn.A s.inn.n s.inn.c, .slice s.ah.A s.ah.n s.ah.c, .slice s.ne.A s.ne.n s.ne.c, .slice s.va.A s.va.n s.va.c, .slice s.pr.A s.pr.n s.pr.c, .slice s.cu.A s.cu.n s.cu.c, .slice s.ma.A s.ma.n s.ma.c, .slice s.ho.A s.ho.n s.ho.c] 62) := ⟨_, rfl⟩
  have hb1 : Below w.heap.size w w1 := by rw [hw1]; exact hba.alloc (by omega) _
  have hfb : FBox w1 w.heap.size F := by rw [hw1]; exact (heap_alloc_old _ _ (by omega)).trans hfa
  have hsb : SBox w1 (w.heap.size + 1) s := by rw [hw1, ← hsa]; exact heap_alloc_new _ _
  have hs1 : w.heap.size + 1 < w1.heap.size := by rw [hw1]; simp; omega
  obtain ⟨f0, f1, f2, f3, f4, f5⟩ := hfb.cells
  obtain ⟨e0, e1, e2, e3, e4, e5, e6, e7, e8, e9, e10, e11⟩ := hsb.cells
  have g0 := up_fact f0
  have g1 := up_fact f1
  have g2 := up_fact f2
  have g3 := up_fact f3
  have g4 := up_fact f4
  have g5 := up_fact f5
  have k0 := up_fact e0
  have k1 := up_fact e1
  have k2 := up_fact e2
  have k3 := up_fact e3
  have k4 := up_fact e4
  have k5 := up_fact e5
  have k6 := up_fact e6
  have k7 := up_fact e7
  have k8 := up_fact e8
  have k9 := up_fact e9
  have k10 := up_fact e10
  have k11 := up_fact e11
  have hA0 := Below.refl w1.heap.size w1
  clear f0 f1 f2 f3 f4 f5 e0 e1 e2 e3 e4 e5 e6 e7 e8 e9 e10 e11 hfb hsb hfa hba
  have HW1 := Lib.hid hw1
  have HWA := Lib.hid hwa
  clear hw1 hwa hsa
  have HL := Lib.hid (h.li.below (hb1.mono hB))
  have HC := Lib.hid (fun W (hW : Below w1.heap.size w1 W) => cover_any F B s.co.A s.co.n s.co.c cov W (hcov.below ((hb1.mono hB).trans (hW.mono (by omega)))) (by have := hW.size; omega))
  clear h hcov
  go_enter Try.func70, Try.ntmps70
  go_upto_region 1 with (fail)
  rw [← HWA.out, ← HW1.out]
  go_cut [22] (fun v W => ∃ t : Bool, v = .bool t ∧ Below w1.heap.size w1 W)
  case first =>
    go_wp2_with (first
      | (go_at_call 49; refine (HC.out _ hA0).mono ?_; rintro e w9 ⟨rfl, hb⟩; have hA0 := bgo hA0 hb; clear hb)
      | fail)
    all_goals
      go_meet
      exact ⟨_, rfl, hA0⟩
  obtain ⟨t, rfl, hA0⟩ := hcut
  rcases t with _ | _
  rotate_left
  · go_wp2_with fail
    go_ret
    exact ⟨_, rfl, trivial, hb1.trans (hA0.mono (by omega))⟩
  go_wp2_with fail
  go_loopw [5, 6] (fun v5 v6 wr => ∃ (i : Nat) (z : Int), v5 = .int .i64 z ∧ v6 = .int .i64 (i : Int) ∧ i ≤ s.li.n ∧ Below w1.heap.size w1 wr) (fun _ v6 _ => s.li.n - (intOf v6).toNat)
  case atStart => exact ⟨0, 0, rfl, rfl, Nat.zero_le _, hA0⟩
  case round =>
    obtain ⟨i, z, rfl, rfl, hi, hA⟩ := hrel
    by_cases hli : i < s.li.n
    · obtain ⟨b, o, Ar, nr, cr, eL, hbb, c0, hin⟩ := HL.out.atSl hli
      have hcr := hin.cap
      rw [eL] at k2 ⊢
      have y0 := up_fact c0
      have HIN := Lib.hid hin
      clear c0 hin
      go_upto_region 9 with (fail)
      go_wp2_with fail
      obtain ⟨wo, hwo⟩ : ∃ wo : World, wo = wr := ⟨_, rfl⟩
      subst hwo
      go_loopw [7] (fun v wr => ∃ k : Nat, v = .int .i64 (k : Int) ∧ k ≤ nr ∧ Below w1.heap.size w1 wr) (fun v _ => nr - (intOf v).toNat)
      case atStart => exact ⟨0, rfl, Nat.zero_le _, hA⟩
      case round =>
        obtain ⟨k, rfl, hk, hA⟩ := hrel
        by_cases hlk : k < nr
        · obtain ⟨b2, o2, Ap, np, cp, gl, rfl, hbb2, ⟨c0, c1⟩, hpa, _⟩ := HIN.out.atLig hlk
          obtain ⟨zs, hzs⟩ := hpa.ints
          have hcp := hzs.cap
          have y1 := up_fact c0
          have y2 := up_fact c1
          have HAL := Lib.hid (fun W (hW : Below w1.heap.size w1 W) => all_any F B Ap np cp zs W (hzs.below (hW.mono (by omega))) (by have := hW.size; omega))
          clear c0 c1 hpa hzs
          go_upto_region 12 with (fail)
          obtain ⟨w3, hw3⟩ : ∃ z, z = wr.alloc (.cells #[.slice Ap np cp, .int .i64 gl] 125) := ⟨_, rfl⟩
          obtain ⟨bx, hbx⟩ : ∃ z, z = wr.heap.size := ⟨_, rfl⟩
          rw [← hw3, ← hbx]
          have hA3 := (show Below w1.heap.size w1 w3 by rw [hw3]; exact hA.alloc hA.size _)
          have hX : w3.heap[bx]? = some (.cells #[.slice Ap np cp, .int .i64 gl] 125 (0, 0)) := by rw [hw3, hbx]; exact heap_alloc_new _ _
          have x0 := up_fact (show w3.cell? ⟨bx, 0, none⟩ = some (.slice Ap np cp) by rw [cell_of_row _ _ 0 _ _ _ hX]; rfl)
          have x1 := up_fact (show w3.cell? ⟨bx, 1, none⟩ = some (.int .i64 gl) by rw [cell_of_row _ _ 1 _ _ _ hX]; rfl)
          have hC := Below.refl w3.heap.size w3
          clear hX hw3 hbx
          go_cut [74] (fun v W => ∃ t : Bool, v = .bool t ∧ Below w1.heap.size w1 W ∧ Below w3.heap.size w3 W)
          case first =>
            go_wp2_with (first
              | (go_at_call 44; refine (within_any _ _ _ _).mono ?_; rintro e w9 ⟨rfl, rfl⟩)
              | (go_at_call 67; refine (HAL.out _ hA3).mono ?_; rintro e w9 ⟨rfl, hb⟩; have hA3 := bgo hA3 hb; have hC := bgo hC hb; clear hb)
              | (go_at_call 48; refine (there_any F gl _).mono ?_; rintro e w9 ⟨rfl, hb⟩; have hA3 := bgo hA3 hb; have hC := bgo hC hb; clear hb)
              | fail)
            all_goals
              go_meet
              exact ⟨_, rfl, hA3, hC⟩
          obtain ⟨t, rfl, hA3, hC⟩ := hcut
          rcases t with _ | _
          · go_wp2_with fail
            go_roundw
            case rel => exact ⟨k + 1, by go_num, by omega, hA3⟩
            case measure => simp [intOf]; omega
          · go_wp2_with fail
            go_ret
            exact ⟨_, rfl, trivial, hb1.trans (hA3.mono (by omega))⟩
        · have h0 : decide ((k : Int) < (nr : Int)) = false := by simp; omega
          go_wp2_with fail
          go_roundw
          case rel => exact ⟨i + 1, _, rfl, by go_num, by omega, hA⟩
          case measure => simp [intOf]; omega
    · have h0 : decide ((i : Int) < (s.li.n : Int)) = false := by simp; omega
      go_wp2_with fail
      go_ret
      exact ⟨_, rfl, trivial, hb1.trans (hA.mono (by omega))⟩

set_option maxRecDepth 100000 in
set_option maxHeartbeats 4000000 in
theorem pairs_any (F : Fnt) (B : Nat) (A : Option Addr) (n c : Nat) (w : World) (h : ShSl w B shPair A n c) (hB : B ≤ w.heap.size) :
    Calls Try.prog 74 #[.agg #[.int .i64 F.em, .slice F.GA F.gn F.gc, .slice F.MA F.mn F.mc, .slice F.LA F.ln F.lc, .slice F.FA F.fn F.fc, .slice F.SA F.sn F.sc], .slice A n c] w (RetB w fun _ => True) := by
  have hcap := h.cap
  obtain ⟨w1, hw1⟩ : ∃ z, z = w.alloc (.cells #[.int .i64 F.em, .slice F.GA F.gn F.gc, .slice F.MA F.mn F.mc, .slice F.LA F.ln F.lc, .slice F.FA F.fn F.fc, .slice F.SA F.sn F.sc] 28) := ⟨_, rfl⟩
  have hb1 : Below w.heap.size w w1 := by rw [hw1]; exact (Below.refl _ _).alloc (Nat.le_refl _) _
  have hs1 : w.heap.size < w1.heap.size := by rw [hw1]; simp
  have hfb : FBox w1 w.heap.size F := by rw [hw1]; exact FBox.new w F
  obtain ⟨f0, f1, f2, f3, f4, f5⟩ := hfb.cells
  have g0 := up_fact f0
  have g1 := up_fact f1
  have g2 := up_fact f2
  have g3 := up_fact f3
  have g4 := up_fact f4
  have g5 := up_fact f5
  have hA0 := Below.refl w1.heap.size w1
  clear f0 f1 f2 f3 f4 f5 hfb
  have HW1 := Lib.hid hw1
  clear hw1
  have HI := Lib.hid (h.below (hb1.mono hB))
  clear h
  go_enter Try.func74, Try.ntmps74
  go_upto_region 1 with (fail)
  rw [← HW1.out]
  go_wp2_with fail
  go_loopw [5] (fun v wr => ∃ k : Nat, v = .int .i64 (k : Int) ∧ k ≤ n ∧ Below w1.heap.size w1 wr) (fun v _ => n - (intOf v).toNat)
  case atStart => exact ⟨0, rfl, Nat.zero_le _, hA0⟩
  case round =>
    obtain ⟨k, rfl, hk, hA⟩ := hrel
    by_cases hlt : k < n
    · obtain ⟨b, o, fi, se, a0, a1, a2, b0, b1, b2, rfl, hbb, ⟨c0, c1, c2, c3, c4, c5, c6, c7⟩, _⟩ := HI.out.atPair hlt
      obtain ⟨j, hj⟩ : ∃ z, z = k - 1 := ⟨_, rfl⟩
      have hjn : j < n := by omega
      obtain ⟨_, _, fi2, se2, _, _, _, _, _, _, e9, _, ⟨d0, d1, _⟩, _⟩ := HI.out.atPair hjn
      cases e9
      have y0 := up_fact c0
      have y1 := up_fact c1
      have y2 := up_fact c2
      have y3 := up_fact c3
      have y4 := up_fact c4
      have y5 := up_fact c5
      have y6 := up_fact c6
      have y7 := up_fact c7
      have z0 := up_fact d0
      have z1 := up_fact d1
      clear c0 c1 c2 c3 c4 c5 c6 c7 d0 d1
      have HWR := Lib.hid (show 0 < k → IntKind.i64.wrap ((k : Int) - 1) = (j : Int) from fun h => by rw [IntKind.wrap_i64]; omega)
      clear hj
      go_upto_region 5 with (fail)
      obtain ⟨w3, hw3⟩ : ∃ z, z = wr.alloc (.cells #[.int .i64 fi, .int .i64 se, .int .i64 a0, .int .i64 a1, .int .i64 a2, .int .i64 b0, .int .i64 b1, .int .i64 b2] 129) := ⟨_, rfl⟩
      obtain ⟨bx, hbx⟩ : ∃ z, z = wr.heap.size := ⟨_, rfl⟩
      rw [← hw3, ← hbx]
      have hA3 := (show Below w1.heap.size w1 w3 by rw [hw3]; exact hA.alloc hA.size _)
      have hX : w3.heap[bx]? = some (.cells #[.int .i64 fi, .int .i64 se, .int .i64 a0, .int .i64 a1, .int .i64 a2, .int .i64 b0, .int .i64 b1, .int .i64 b2] 129 (0, 0)) := by rw [hw3, hbx]; exact heap_alloc_new _ _
      have x0 := up_fact (show w3.cell? ⟨bx, 0, none⟩ = some (.int .i64 fi) by rw [cell_of_row _ _ 0 _ _ _ hX]; rfl)
      have x1 := up_fact (show w3.cell? ⟨bx, 1, none⟩ = some (.int .i64 se) by rw [cell_of_row _ _ 1 _ _ _ hX]; rfl)
      have x2 := up_fact (show w3.cell? ⟨bx, 2, none⟩ = some (.int .i64 a0) by rw [cell_of_row _ _ 2 _ _ _ hX]; rfl)
      have x3 := up_fact (show w3.cell? ⟨bx, 3, none⟩ = some (.int .i64 a1) by rw [cell_of_row _ _ 3 _ _ _ hX]; rfl)
      have x4 := up_fact (show w3.cell? ⟨bx, 4, none⟩ = some (.int .i64 a2) by rw [cell_of_row _ _ 4 _ _ _ hX]; rfl)
      have x5 := up_fact (show w3.cell? ⟨bx, 5, none⟩ = some (.int .i64 b0) by rw [cell_of_row _ _ 5 _ _ _ hX]; rfl)
      have x6 := up_fact (show w3.cell? ⟨bx, 6, none⟩ = some (.int .i64 b1) by rw [cell_of_row _ _ 6 _ _ _ hX]; rfl)
      have x7 := up_fact (show w3.cell? ⟨bx, 7, none⟩ = some (.int .i64 b2) by rw [cell_of_row _ _ 7 _ _ _ hX]; rfl)
      have hC := Below.refl w3.heap.size w3
      clear hX hw3 hbx
      go_cut [40] (fun v W => ∃ t : Bool, v = .bool t ∧ Below w1.heap.size w1 W ∧ Below w3.heap.size w3 W)
      case first =>
        go_wp2_with (first
          | (go_at_call_of 48 (Value.int .i64 fi); refine (there_any F fi _).mono ?_; rintro e w9 ⟨rfl, hb⟩; have hA3 := bgo hA3 hb; have hC := bgo hC hb; clear hb)
          | (go_at_call_of 48 (Value.int .i64 se); refine (there_any F se _).mono ?_; rintro e w9 ⟨rfl, hb⟩; have hA3 := bgo hA3 hb; have hC := bgo hC hb; clear hb)
          | (go_at_call 73; refine (value_any _ _ _ _).mono ?_; rintro e w9 ⟨rfl, hb⟩; have hA3 := bgo hA3 hb; have hC := bgo hC hb; clear hb)
          | fail)
        all_goals
          go_meet
          exact ⟨_, rfl, hA3, hC⟩
      obtain ⟨t, rfl, hA3, hC⟩ := hcut
      rcases t with _ | _
      rotate_left
      · go_wp2_with fail
        go_ret
        exact ⟨_, rfl, trivial, hb1.trans (hA3.mono (by omega))⟩
      go_upto_region 7 with (fail)
      obtain ⟨wcc, hwcc⟩ : ∃ z : World, z = wc := ⟨_, rfl⟩
      subst hwcc
      go_cut [75] (fun v W => ∃ t : Bool, v = .bool t ∧ Below w1.heap.size w1 W ∧ Below w3.heap.size w3 W)
      case first =>
        by_cases hk0 : k = 0
        · have q0 : decide ((0 : Int) < (k : Int)) = false := by simp; omega
          have q00 : decide (0 < k) = false := by simp; omega
          clear hk0
          go_wp2_with fail
          have hU0 := bup hA3
          have hU1 := bup hC
          refine wp_region_up wcc.heap.size (by kernel_rfl) (by kernel_rfl) ?_
          repeat (go_big_quiet_step ((fail)))
          refine wpQuiet_nil (up_all fun w2 hb2 => ?_)
          have hA3 := bgo hA3 hb2
          have hC := bgo hC hb2
          clear hb2 hU0 hU1
          go_wp2_with fail
          go_meet
          exact ⟨_, rfl, hA3, hC⟩
        · have q0 : decide ((0 : Int) < (k : Int)) = true := by simp; omega
          have q00 : decide (0 < k) = true := by simp; omega
          have hw1 := HWR.out (by omega)
          clear hk0
          by_cases hxy : fi < fi2
          · have q1 : decide (fi < fi2) = true := by simpa using hxy
            clear hxy
            go_wp2_with fail
            have hU0 := bup hA3
            have hU1 := bup hC
            refine wp_region_up wcc.heap.size (by kernel_rfl) (by kernel_rfl) ?_
            repeat (go_big_quiet_step ((fail)))
            refine wpQuiet_nil (up_all fun w2 hb2 => ?_)
            have hA3 := bgo hA3 hb2
            have hC := bgo hC hb2
            clear hb2 hU0 hU1
            go_wp2_with fail
            go_meet
            exact ⟨_, rfl, hA3, hC⟩
          · have q1 : decide (fi < fi2) = false := by simpa using hxy
            clear hxy
            by_cases hee : fi = fi2
            · have q2 : (fi == fi2) = true := by simpa using hee
              clear hee
              by_cases hse : se ≤ se2
              · have q3 : decide (se ≤ se2) = true := by simpa using hse
                clear hse
                go_wp2_with fail
                have hU0 := bup hA3
                have hU1 := bup hC
                refine wp_region_up wcc.heap.size (by kernel_rfl) (by kernel_rfl) ?_
                repeat (go_big_quiet_step ((fail)))
                refine wpQuiet_nil (up_all fun w2 hb2 => ?_)
                have hA3 := bgo hA3 hb2
                have hC := bgo hC hb2
                clear hb2 hU0 hU1
                go_wp2_with fail
                go_meet
                exact ⟨_, rfl, hA3, hC⟩
              · have q3 : decide (se ≤ se2) = false := by simpa using hse
                clear hse
                go_wp2_with fail
                have hU0 := bup hA3
                have hU1 := bup hC
                refine wp_region_up wcc.heap.size (by kernel_rfl) (by kernel_rfl) ?_
                repeat (go_big_quiet_step ((fail)))
                refine wpQuiet_nil (up_all fun w2 hb2 => ?_)
                have hA3 := bgo hA3 hb2
                have hC := bgo hC hb2
                clear hb2 hU0 hU1
                go_wp2_with fail
                go_meet
                exact ⟨_, rfl, hA3, hC⟩
            · have q2 : (fi == fi2) = false := by simpa using hee
              clear hee
              go_wp2_with fail
              have hU0 := bup hA3
              have hU1 := bup hC
              refine wp_region_up wcc.heap.size (by kernel_rfl) (by kernel_rfl) ?_
              repeat (go_big_quiet_step ((fail)))
              refine wpQuiet_nil (up_all fun w2 hb2 => ?_)
              have hA3 := bgo hA3 hb2
              have hC := bgo hC hb2
              clear hb2 hU0 hU1
              go_wp2_with fail
              go_meet
              exact ⟨_, rfl, hA3, hC⟩
      obtain ⟨t, rfl, hA3, hC⟩ := hcut
      rcases t with _ | _
      · go_wp2_with fail
        go_roundw
        case rel => exact ⟨k + 1, by go_num, by omega, hA3⟩
        case measure => simp [intOf]; omega
      · go_wp2_with fail
        go_ret
        exact ⟨_, rfl, trivial, hb1.trans (hA3.mono (by omega))⟩
    · have h0 : decide ((k : Int) < (n : Int)) = false := by simp; omega
      go_wp2_with fail
      go_ret
      exact ⟨_, rfl, trivial, hb1.trans (hA.mono (by omega))⟩

end Go.Proofs.Ytbjeflblhjfagaa
