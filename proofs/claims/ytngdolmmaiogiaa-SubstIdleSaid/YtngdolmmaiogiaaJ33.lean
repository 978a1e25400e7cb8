/- Joined: FkI. -/
import Derived.Test.YtngdolmmaiogiaaJ28

/- The walk of hosts of the check. Condition: the rows are there. Printed by wip/tools/g32h.py. Printed by wip/tools. -/
namespace Go.Proofs.Ytngdolmmaiogiaa
open Go.RowKit

set_option maxRecDepth 100000 in
set_option maxHeartbeats 4000000 in
theorem khosts_any (F : Fnt) (kind : Int) (B : Nat) (A : Option Addr) (n c : Nat) (w : World) (hgn : F.gn ≤ 9223372036854775807) (h : ShSl w B shHost A n c) (hB : B ≤ w.heap.size) :
    Calls Try.prog 40 #[.agg #[.int .i64 F.em, .slice F.GA F.gn F.gc, .slice F.MA F.mn F.mc, .slice F.LA F.ln F.lc, .slice F.FA F.fn F.fc, .slice F.SA F.sn F.sc], .int .i64 kind, .slice A n c] w (RetB w (fun _ => True)) := by
  have hcap := h.cap
  have HI0 := Lib.hid h
  clear h
  obtain ⟨w1, hw_w1⟩ : ∃ z, z = w.alloc (.cells #[.int .i64 F.em, .slice F.GA F.gn F.gc, .slice F.MA F.mn F.mc, .slice F.LA F.ln F.lc, .slice F.FA F.fn F.fc, .slice F.SA F.sn F.sc] 71) := ⟨_, rfl⟩
  have hs_w1 : w1.heap.size = w.heap.size + 1 := by rw [hw_w1]; simp
  have hb_w1 : Below w.heap.size w w1 := by rw [hw_w1]; exact (Below.refl _ _).alloc (Nat.le_refl _) _
  have hx_0 : w1.heap[w.heap.size]? = some (.cells #[.int .i64 F.em, .slice F.GA F.gn F.gc, .slice F.MA F.mn F.mc, .slice F.LA F.ln F.lc, .slice F.FA F.fn F.fc, .slice F.SA F.sn F.sc] 71 (0, 0)) := by rw [hw_w1]; exact heap_alloc_new _ _
  have g0 := up_fact (show w1.cell? ⟨w.heap.size, 0, none⟩ = some (.int .i64 F.em) by rw [cell_of_row _ _ 0 _ _ _ hx_0]; rfl)
  have g1 := up_fact (show w1.cell? ⟨w.heap.size, 1, none⟩ = some (.slice F.GA F.gn F.gc) by rw [cell_of_row _ _ 1 _ _ _ hx_0]; rfl)
  have g2 := up_fact (show w1.cell? ⟨w.heap.size, 2, none⟩ = some (.slice F.MA F.mn F.mc) by rw [cell_of_row _ _ 2 _ _ _ hx_0]; rfl)
  have g3 := up_fact (show w1.cell? ⟨w.heap.size, 3, none⟩ = some (.slice F.LA F.ln F.lc) by rw [cell_of_row _ _ 3 _ _ _ hx_0]; rfl)
  have g4 := up_fact (show w1.cell? ⟨w.heap.size, 4, none⟩ = some (.slice F.FA F.fn F.fc) by rw [cell_of_row _ _ 4 _ _ _ hx_0]; rfl)
  have g5 := up_fact (show w1.cell? ⟨w.heap.size, 5, none⟩ = some (.slice F.SA F.sn F.sc) by rw [cell_of_row _ _ 5 _ _ _ hx_0]; rfl)
  have hA0 := Below.refl w1.heap.size w1
  have HS1 := Lib.hid hs_w1
  have hs1 : w.heap.size + 0 < w1.heap.size := by omega
  have HB1 := Lib.hid hb_w1
  have HW_w1 := Lib.hid hw_w1
  clear hw_w1 hs_w1 hb_w1
  clear hx_0
  have HI := Lib.hid (HI0.out.below (HB1.out.mono hB))
  by_cases hn : n ≤ 4096
  rotate_left
  · have q1 : decide ((4096 : Int) < (n : Int)) = true := by simp; omega
    have q2 : decide (4096 < n) = true := by simp; omega
    clear hn
    go_enter Try.func40, Try.ntmps40
    go_upto_region 1 with fail
    rw [← HW_w1.out]
    go_wp2_with fail
    go_ret
    exact ⟨false, rfl, trivial, HB1.out⟩
  have q1 : decide ((4096 : Int) < (n : Int)) = false := by simp; omega
  have q2 : decide (4096 < n) = false := by simp; omega
  clear hn
  go_enter Try.func40, Try.ntmps40
  go_upto_region 1 with fail
  rw [← HW_w1.out]
  go_upto_region 4 with fail
  go_upto_if 18 with fail
  go_cut [7] (fun v W => ∃ m : Int, v = .int .i64 m ∧ W = w1)
  case first =>
    by_cases h10 : kind = 10
    · have p1 : (kind == 10) = true := by simp [h10]
      clear h10
      go_wp2_with fail
      go_meet
      exact ⟨16, rfl, rfl⟩
    · have p1 : (kind == 10) = false := by simp [h10]
      clear h10
      go_wp2_with fail
      go_meet
      exact ⟨1, rfl, rfl⟩
  obtain ⟨m, rfl, hwc⟩ := hcut
  rw [hwc]
  clear hwc
  go_upto_region 7 with fail
  go_loopw [21] (fun v wr => ∃ k : Nat, v = .int .i64 (k : Int) ∧ k ≤ n ∧ Below w1.heap.size w1 wr) (fun v _ => n - (intOf v).toNat)
  case atStart => exact ⟨0, rfl, Nat.zero_le _, hA0⟩
  case round =>
    obtain ⟨k, rfl, hk, hA⟩ := hrel
    by_cases hin : k < n
    rotate_left
    · have r1 : decide ((k : Int) < (n : Int)) = false := by simp; omega
      have r2 : decide (k < n) = false := by simp; omega
      clear hin
      go_wp2_with fail
      go_ret
      exact ⟨true, rfl, trivial, HB1.out.trans (hA.mono (by omega))⟩
    · have r1 : decide ((k : Int) < (n : Int)) = true := by simp; omega
      have r2 : decide (k < n) = true := by simp; omega
      have sk : IntKind.i64.wrap ((k : Int) + 1) = (k : Int) + 1 := by rw [IntKind.wrap_i64]; omega
      obtain ⟨b, o, gl, Asp, nsp, csp, eA, hbb, ⟨c0, c1⟩, _, hsp⟩ := HI.out.atHost hin
      have hspc := hsp.cap
      have HSP := Lib.hid hsp
      obtain ⟨j, hj⟩ : ∃ z, z = k - 1 := ⟨_, rfl⟩
      have hjn : j < n := by omega
      have hjn1 : decide (j < n) = true := by simp; omega
      have hjn2 : decide ((j : Int) < (n : Int)) = true := by simp; omega
      obtain ⟨b', o', gl2, _, _, _, eA', _, ⟨d0, d1⟩, _⟩ := HI.out.atHost hjn
      obtain ⟨rfl, rfl⟩ : b = b' ∧ o = o' := by rw [eA] at eA'; cases eA'; exact ⟨rfl, rfl⟩
      have y0 := up_fact c0
      have y1 := up_fact c1
      have z0 := up_fact d0
      clear eA' c0 d0 c1 d1 hsp
      have HWR := Lib.hid (show 0 < k → IntKind.i64.wrap ((k : Int) - 1) = (j : Int) from fun h => by rw [IntKind.wrap_i64]; omega)
      have HEA := Lib.hid eA
      clear hj eA
      obtain ⟨t1, ht1⟩ : ∃ q, q = [gl].all (fkT F.gn) := ⟨_, rfl⟩
      have HT := Lib.hid (fun W {A2 : Option Addr} {n2 c2 : Nat} (_ : Below w1.heap.size w1 W) (hi : Ints W W.heap.size A2 n2 c2 [gl]) => show Calls Try.prog 26 #[.agg #[.int .i64 F.em, .slice F.GA F.gn F.gc, .slice F.MA F.mn F.mc, .slice F.LA F.ln F.lc, .slice F.FA F.fn F.fc, .slice F.SA F.sn F.sc], .slice A2 n2 c2] W (RetV W t1) from by rw [ht1]; exact kthere_any F W.heap.size A2 n2 c2 [gl] W hgn hi (Nat.le_refl _))
      clear ht1
      obtain ⟨t2, ht2⟩ : ∃ q, q = fkW (nsp : Int) 1 m := ⟨_, rfl⟩
      have HWI := Lib.hid (fun W => show Calls Try.prog 23 #[.int .i64 (nsp : Int), .int .i64 1, .int .i64 m] W (fun e w' => e = .returned (.bool t2) ∧ W = w') from by rw [ht2]; exact kwithin_any (nsp : Int) 1 m W)
      clear ht2
      rw [HEA.out]
      go_upto_region 9 with fail
      obtain ⟨w3, hw3⟩ : ∃ z, z = wr.alloc (.cells #[.int .i64 gl, .slice Asp nsp csp] 123) := ⟨_, rfl⟩
      obtain ⟨bx, hbx⟩ : ∃ z, z = wr.heap.size := ⟨_, rfl⟩
      rw [← hw3, ← hbx]
      have hA3 := (show Below w1.heap.size w1 w3 by rw [hw3]; exact hA.alloc hA.size _)
      have hX : w3.heap[bx]? = some (.cells #[.int .i64 gl, .slice Asp nsp csp] 123 (0, 0)) := by rw [hw3, hbx]; exact heap_alloc_new _ _
      have x0 := up_fact (show w3.cell? ⟨bx, 0, none⟩ = some (.int .i64 gl) by rw [cell_of_row _ _ 0 _ _ _ hX]; rfl)
      have x1 := up_fact (show w3.cell? ⟨bx, 1, none⟩ = some (.slice Asp nsp csp) by rw [cell_of_row _ _ 1 _ _ _ hX]; rfl)
      have hC := Below.refl w3.heap.size w3
      clear hX hw3 hbx
      go_cut [54] (fun v W => ∃ t : Bool, v = .bool t ∧ Below w1.heap.size w1 W ∧ Below w3.heap.size w3 W)
      case first =>
        cases t1 with
        | false =>
          go_wp2_with fail
          have hU0 := bup hA3
          have hU1 := bup hC
          refine wp_region_text (fun x => ∃ d : Up w3.heap.size w3, x = d.W) (fun i => i == 3 || i == 4 || i == 11) 29 rfl (by kernel_rfl) (by kernel_rfl) ⟨⟨w3.drew, (Below.refl _ _).drew⟩, rfl⟩ ?_
          obtain ⟨wd, hwd⟩ : ∃ z, z = w3.drew := ⟨_, rfl⟩
          rw [← hwd]
          have hAd : Below w1.heap.size w1 wd := by rw [hwd]; exact hA3.drew
          have hCd : Below w3.heap.size w3 wd := by rw [hwd]; exact hC.drew
          clear hwd
          refine wpE_seg (m' := 26) 3 29 0 _ rfl (by kernel_rfl) (Nat.le_of_ble_eq_true (by kernel_rfl)) ?_
          simp only [List.drop_zero, List.take_succ_cons, List.take_zero]
          repeat (go_big_quiet_step (fail))
          refine wpQuiet_nil ?_
          refine wpE_act 25 3 _ _ (by kernel_rfl) (Nat.le_of_ble_eq_true (by kernel_rfl)) ?_
          simp only [List.drop_succ_cons, List.drop_zero, List.take_succ_cons, List.take_zero]
          go_wp2_with fail
          refine Mid.intro ⟨⟨⟨_, (hCd.alloc hCd.size _)⟩, rfl⟩, ?_⟩
          refine wpE_act 24 4 _ _ (by kernel_rfl) (Nat.le_of_ble_eq_true (by kernel_rfl)) ?_
          simp only [List.drop_succ_cons, List.drop_zero, List.take_succ_cons, List.take_zero]
          go_wp2_with (first | (go_at_call 26; refine (HT.out _ (hAd.alloc hAd.size _) (Ints.lit1 _ _ _)).mono ?_; rintro e w4 ⟨rfl, hb4⟩; have hA4 := bgo (hAd.alloc hAd.size _) hb4; have hC4 := bgo (hCd.alloc hCd.size _) hb4))
          refine Mid.intro ⟨⟨⟨_, hC4⟩, rfl⟩, ?_⟩
          refine wpE_seg (m' := 18) 6 24 5 _ rfl (by kernel_rfl) (Nat.le_of_ble_eq_true (by kernel_rfl)) ?_
          simp only [List.drop_succ_cons, List.drop_zero, List.take_succ_cons, List.take_zero]
          repeat (go_big_quiet_step (fail))
          refine wpQuiet_nil ?_
          refine wpE_act 17 11 _ _ (by kernel_rfl) (Nat.le_of_ble_eq_true (by kernel_rfl)) ?_
          simp only [List.drop_succ_cons, List.drop_zero, List.take_succ_cons, List.take_zero]
          go_wp2_with fail
          refine Mid.intro ⟨⟨⟨_, hC4⟩, rfl⟩, ?_⟩
          refine wpE_seg (m' := 0) 17 17 12 _ rfl (by kernel_rfl) (Nat.le_of_ble_eq_true (by kernel_rfl)) ?_
          simp only [List.drop_succ_cons, List.drop_zero, List.take_succ_cons, List.take_zero]
          repeat (go_big_quiet_step (fail))
          refine wpQuiet_nil ?_
          refine wpE_nil ?_
          clear hU0 hU1
          go_wp2_with fail
          go_meet
          exact ⟨_, rfl, hA4, hC4⟩
        | true =>
          cases t2 with
          | false =>
            go_wp2_with fail
            have hU0 := bup hA3
            have hU1 := bup hC
            refine wp_region_text (fun x => ∃ d : Up w3.heap.size w3, x = d.W) (fun i => i == 3 || i == 4 || i == 11) 29 rfl (by kernel_rfl) (by kernel_rfl) ⟨⟨w3.drew, (Below.refl _ _).drew⟩, rfl⟩ ?_
            obtain ⟨wd, hwd⟩ : ∃ z, z = w3.drew := ⟨_, rfl⟩
            rw [← hwd]
            have hAd : Below w1.heap.size w1 wd := by rw [hwd]; exact hA3.drew
            have hCd : Below w3.heap.size w3 wd := by rw [hwd]; exact hC.drew
            clear hwd
            refine wpE_seg (m' := 26) 3 29 0 _ rfl (by kernel_rfl) (Nat.le_of_ble_eq_true (by kernel_rfl)) ?_
            simp only [List.drop_zero, List.take_succ_cons, List.take_zero]
            repeat (go_big_quiet_step (fail))
            refine wpQuiet_nil ?_
            refine wpE_act 25 3 _ _ (by kernel_rfl) (Nat.le_of_ble_eq_true (by kernel_rfl)) ?_
            simp only [List.drop_succ_cons, List.drop_zero, List.take_succ_cons, List.take_zero]
            go_wp2_with fail
            refine Mid.intro ⟨⟨⟨_, (hCd.alloc hCd.size _)⟩, rfl⟩, ?_⟩
            refine wpE_act 24 4 _ _ (by kernel_rfl) (Nat.le_of_ble_eq_true (by kernel_rfl)) ?_
            simp only [List.drop_succ_cons, List.drop_zero, List.take_succ_cons, List.take_zero]
            go_wp2_with (first | (go_at_call 26; refine (HT.out _ (hAd.alloc hAd.size _) (Ints.lit1 _ _ _)).mono ?_; rintro e w4 ⟨rfl, hb4⟩; have hA4 := bgo (hAd.alloc hAd.size _) hb4; have hC4 := bgo (hCd.alloc hCd.size _) hb4))
            refine Mid.intro ⟨⟨⟨_, hC4⟩, rfl⟩, ?_⟩
            refine wpE_seg (m' := 18) 6 24 5 _ rfl (by kernel_rfl) (Nat.le_of_ble_eq_true (by kernel_rfl)) ?_
            simp only [List.drop_succ_cons, List.drop_zero, List.take_succ_cons, List.take_zero]
            repeat (go_big_quiet_step (fail))
            refine wpQuiet_nil ?_
            refine wpE_act 17 11 _ _ (by kernel_rfl) (Nat.le_of_ble_eq_true (by kernel_rfl)) ?_
            simp only [List.drop_succ_cons, List.drop_zero, List.take_succ_cons, List.take_zero]
            go_wp2_with (first | (go_at_call 23; refine (HWI.out _).mono ?_; rintro e w9 ⟨rfl, rfl⟩))
            refine Mid.intro ⟨⟨⟨_, hC4⟩, rfl⟩, ?_⟩
            refine wpE_seg (m' := 0) 17 17 12 _ rfl (by kernel_rfl) (Nat.le_of_ble_eq_true (by kernel_rfl)) ?_
            simp only [List.drop_succ_cons, List.drop_zero, List.take_succ_cons, List.take_zero]
            repeat (go_big_quiet_step (fail))
            refine wpQuiet_nil ?_
            refine wpE_nil ?_
            clear hU0 hU1
            go_wp2_with fail
            go_meet
            exact ⟨_, rfl, hA4, hC4⟩
          | true =>
            by_cases hk0 : k = 0
            · have p1 : decide ((0 : Int) < (k : Int)) = false := by simp; omega
              have p2 : decide (0 < k) = false := by simp; omega
              clear hk0
              go_wp2_with fail
              have hU0 := bup hA3
              have hU1 := bup hC
              refine wp_region_text (fun x => ∃ d : Up w3.heap.size w3, x = d.W) (fun i => i == 3 || i == 4 || i == 11) 29 rfl (by kernel_rfl) (by kernel_rfl) ⟨⟨w3.drew, (Below.refl _ _).drew⟩, rfl⟩ ?_
              obtain ⟨wd, hwd⟩ : ∃ z, z = w3.drew := ⟨_, rfl⟩
              rw [← hwd]
              have hAd : Below w1.heap.size w1 wd := by rw [hwd]; exact hA3.drew
              have hCd : Below w3.heap.size w3 wd := by rw [hwd]; exact hC.drew
              clear hwd
              refine wpE_seg (m' := 26) 3 29 0 _ rfl (by kernel_rfl) (Nat.le_of_ble_eq_true (by kernel_rfl)) ?_
              simp only [List.drop_zero, List.take_succ_cons, List.take_zero]
              repeat (go_big_quiet_step (fail))
              refine wpQuiet_nil ?_
              refine wpE_act 25 3 _ _ (by kernel_rfl) (Nat.le_of_ble_eq_true (by kernel_rfl)) ?_
              simp only [List.drop_succ_cons, List.drop_zero, List.take_succ_cons, List.take_zero]
              go_wp2_with fail
              refine Mid.intro ⟨⟨⟨_, (hCd.alloc hCd.size _)⟩, rfl⟩, ?_⟩
              refine wpE_act 24 4 _ _ (by kernel_rfl) (Nat.le_of_ble_eq_true (by kernel_rfl)) ?_
              simp only [List.drop_succ_cons, List.drop_zero, List.take_succ_cons, List.take_zero]
              go_wp2_with (first | (go_at_call 26; refine (HT.out _ (hAd.alloc hAd.size _) (Ints.lit1 _ _ _)).mono ?_; rintro e w4 ⟨rfl, hb4⟩; have hA4 := bgo (hAd.alloc hAd.size _) hb4; have hC4 := bgo (hCd.alloc hCd.size _) hb4))
              refine Mid.intro ⟨⟨⟨_, hC4⟩, rfl⟩, ?_⟩
              refine wpE_seg (m' := 18) 6 24 5 _ rfl (by kernel_rfl) (Nat.le_of_ble_eq_true (by kernel_rfl)) ?_
              simp only [List.drop_succ_cons, List.drop_zero, List.take_succ_cons, List.take_zero]
              repeat (go_big_quiet_step (fail))
              refine wpQuiet_nil ?_
              refine wpE_act 17 11 _ _ (by kernel_rfl) (Nat.le_of_ble_eq_true (by kernel_rfl)) ?_
              simp only [List.drop_succ_cons, List.drop_zero, List.take_succ_cons, List.take_zero]
              go_wp2_with (first | (go_at_call 23; refine (HWI.out _).mono ?_; rintro e w9 ⟨rfl, rfl⟩))
              refine Mid.intro ⟨⟨⟨_, hC4⟩, rfl⟩, ?_⟩
              refine wpE_seg (m' := 0) 17 17 12 _ rfl (by kernel_rfl) (Nat.le_of_ble_eq_true (by kernel_rfl)) ?_
              simp only [List.drop_succ_cons, List.drop_zero, List.take_succ_cons, List.take_zero]
              repeat (go_big_quiet_step (fail))
              refine wpQuiet_nil ?_
              refine wpE_nil ?_
              clear hU0 hU1
              go_wp2_with fail
              go_meet
              exact ⟨_, rfl, hA4, hC4⟩
            · have p1 : decide ((0 : Int) < (k : Int)) = true := by simp; omega
              have p2 : decide (0 < k) = true := by simp; omega
              have hwr := HWR.out (by omega)
              clear hk0
              by_cases hxy : gl ≤ gl2
              · have p3 : decide (gl ≤ gl2) = true := by simpa using hxy
                clear hxy
                go_wp2_with fail
                have hU0 := bup hA3
                have hU1 := bup hC
                refine wp_region_text (fun x => ∃ d : Up w3.heap.size w3, x = d.W) (fun i => i == 3 || i == 4 || i == 11) 29 rfl (by kernel_rfl) (by kernel_rfl) ⟨⟨w3.drew, (Below.refl _ _).drew⟩, rfl⟩ ?_
                obtain ⟨wd, hwd⟩ : ∃ z, z = w3.drew := ⟨_, rfl⟩
                rw [← hwd]
                have hAd : Below w1.heap.size w1 wd := by rw [hwd]; exact hA3.drew
                have hCd : Below w3.heap.size w3 wd := by rw [hwd]; exact hC.drew
                clear hwd
                refine wpE_seg (m' := 26) 3 29 0 _ rfl (by kernel_rfl) (Nat.le_of_ble_eq_true (by kernel_rfl)) ?_
                simp only [List.drop_zero, List.take_succ_cons, List.take_zero]
                repeat (go_big_quiet_step (fail))
                refine wpQuiet_nil ?_
                refine wpE_act 25 3 _ _ (by kernel_rfl) (Nat.le_of_ble_eq_true (by kernel_rfl)) ?_
                simp only [List.drop_succ_cons, List.drop_zero, List.take_succ_cons, List.take_zero]
                go_wp2_with fail
                refine Mid.intro ⟨⟨⟨_, (hCd.alloc hCd.size _)⟩, rfl⟩, ?_⟩
                refine wpE_act 24 4 _ _ (by kernel_rfl) (Nat.le_of_ble_eq_true (by kernel_rfl)) ?_
                simp only [List.drop_succ_cons, List.drop_zero, List.take_succ_cons, List.take_zero]
                go_wp2_with (first | (go_at_call 26; refine (HT.out _ (hAd.alloc hAd.size _) (Ints.lit1 _ _ _)).mono ?_; rintro e w4 ⟨rfl, hb4⟩; have hA4 := bgo (hAd.alloc hAd.size _) hb4; have hC4 := bgo (hCd.alloc hCd.size _) hb4))
                refine Mid.intro ⟨⟨⟨_, hC4⟩, rfl⟩, ?_⟩
                refine wpE_seg (m' := 18) 6 24 5 _ rfl (by kernel_rfl) (Nat.le_of_ble_eq_true (by kernel_rfl)) ?_
                simp only [List.drop_succ_cons, List.drop_zero, List.take_succ_cons, List.take_zero]
                repeat (go_big_quiet_step (fail))
                refine wpQuiet_nil ?_
                refine wpE_act 17 11 _ _ (by kernel_rfl) (Nat.le_of_ble_eq_true (by kernel_rfl)) ?_
                simp only [List.drop_succ_cons, List.drop_zero, List.take_succ_cons, List.take_zero]
                go_wp2_with (first | (go_at_call 23; refine (HWI.out _).mono ?_; rintro e w9 ⟨rfl, rfl⟩))
                refine Mid.intro ⟨⟨⟨_, hC4⟩, rfl⟩, ?_⟩
                refine wpE_seg (m' := 0) 17 17 12 _ rfl (by kernel_rfl) (Nat.le_of_ble_eq_true (by kernel_rfl)) ?_
                simp only [List.drop_succ_cons, List.drop_zero, List.take_succ_cons, List.take_zero]
                repeat (go_big_quiet_step (fail))
                refine wpQuiet_nil ?_
                refine wpE_nil ?_
                clear hU0 hU1
                go_wp2_with fail
                go_meet
                exact ⟨_, rfl, hA4, hC4⟩
              · have p3 : decide (gl ≤ gl2) = false := by simpa using hxy
                clear hxy
                go_wp2_with fail
                have hU0 := bup hA3
                have hU1 := bup hC
                refine wp_region_text (fun x => ∃ d : Up w3.heap.size w3, x = d.W) (fun i => i == 3 || i == 4 || i == 11) 29 rfl (by kernel_rfl) (by kernel_rfl) ⟨⟨w3.drew, (Below.refl _ _).drew⟩, rfl⟩ ?_
                obtain ⟨wd, hwd⟩ : ∃ z, z = w3.drew := ⟨_, rfl⟩
                rw [← hwd]
                have hAd : Below w1.heap.size w1 wd := by rw [hwd]; exact hA3.drew
                have hCd : Below w3.heap.size w3 wd := by rw [hwd]; exact hC.drew
                clear hwd
                refine wpE_seg (m' := 26) 3 29 0 _ rfl (by kernel_rfl) (Nat.le_of_ble_eq_true (by kernel_rfl)) ?_
                simp only [List.drop_zero, List.take_succ_cons, List.take_zero]
                repeat (go_big_quiet_step (fail))
                refine wpQuiet_nil ?_
                refine wpE_act 25 3 _ _ (by kernel_rfl) (Nat.le_of_ble_eq_true (by kernel_rfl)) ?_
                simp only [List.drop_succ_cons, List.drop_zero, List.take_succ_cons, List.take_zero]
                go_wp2_with fail
                refine Mid.intro ⟨⟨⟨_, (hCd.alloc hCd.size _)⟩, rfl⟩, ?_⟩
                refine wpE_act 24 4 _ _ (by kernel_rfl) (Nat.le_of_ble_eq_true (by kernel_rfl)) ?_
                simp only [List.drop_succ_cons, List.drop_zero, List.take_succ_cons, List.take_zero]
                go_wp2_with (first | (go_at_call 26; refine (HT.out _ (hAd.alloc hAd.size _) (Ints.lit1 _ _ _)).mono ?_; rintro e w4 ⟨rfl, hb4⟩; have hA4 := bgo (hAd.alloc hAd.size _) hb4; have hC4 := bgo (hCd.alloc hCd.size _) hb4))
                refine Mid.intro ⟨⟨⟨_, hC4⟩, rfl⟩, ?_⟩
                refine wpE_seg (m' := 18) 6 24 5 _ rfl (by kernel_rfl) (Nat.le_of_ble_eq_true (by kernel_rfl)) ?_
                simp only [List.drop_succ_cons, List.drop_zero, List.take_succ_cons, List.take_zero]
                repeat (go_big_quiet_step (fail))
                refine wpQuiet_nil ?_
                refine wpE_act 17 11 _ _ (by kernel_rfl) (Nat.le_of_ble_eq_true (by kernel_rfl)) ?_
                simp only [List.drop_succ_cons, List.drop_zero, List.take_succ_cons, List.take_zero]
                go_wp2_with (first | (go_at_call 23; refine (HWI.out _).mono ?_; rintro e w9 ⟨rfl, rfl⟩))
                refine Mid.intro ⟨⟨⟨_, hC4⟩, rfl⟩, ?_⟩
                refine wpE_seg (m' := 0) 17 17 12 _ rfl (by kernel_rfl) (Nat.le_of_ble_eq_true (by kernel_rfl)) ?_
                simp only [List.drop_succ_cons, List.drop_zero, List.take_succ_cons, List.take_zero]
                repeat (go_big_quiet_step (fail))
                refine wpQuiet_nil ?_
                refine wpE_nil ?_
                clear hU0 hU1
                go_wp2_with fail
                go_meet
                exact ⟨_, rfl, hA4, hC4⟩
      obtain ⟨t, rfl, hA6, hC6⟩ := hcut
      clear hA3 hC
      rcases t with _ | _
      rotate_left
      · go_wp2_with fail
        go_ret
        exact ⟨false, rfl, trivial, HB1.out.trans (hA6.mono (by omega))⟩
      clear hjn hjn1 hjn2 HWR HT HWI z0 y0 y1
      go_upto_region 12 with fail
      obtain ⟨wo, hwo⟩ : ∃ wo : World, wo = wc := ⟨_, rfl⟩
      subst hwo
      go_loopw [58] (fun v wr => ∃ i : Nat, v = .int .i64 (i : Int) ∧ i ≤ nsp ∧ Below w1.heap.size w1 wr) (fun v _ => nsp - (intOf v).toNat)
      case atStart => exact ⟨0, rfl, Nat.zero_le _, hA6⟩
      case round =>
        obtain ⟨i, rfl, hi, hA⟩ := hrel
        by_cases hins : i < nsp
        rotate_left
        · have r3 : decide ((i : Int) < (nsp : Int)) = false := by simp; omega
          have r4 : decide (i < nsp) = false := by simp; omega
          clear hins
          go_wp2_with fail
          go_roundw
          case rel => exact ⟨k + 1, by go_num, by omega, hA⟩
          case measure => simp [intOf] <;> omega
        have r3 : decide ((i : Int) < (nsp : Int)) = true := by simp; omega
        have r4 : decide (i < nsp) = true := by simp; omega
        have si : IntKind.i64.wrap ((i : Int) + 1) = (i : Int) + 1 := by rw [IntKind.wrap_i64]; omega
        obtain ⟨b2, o2, A2, n2, c2, eA2, hbb2, d2, hpa⟩ := HSP.out.atSl hins
        have d2 := (hA.cell (p := ⟨b2, o2 + i, none⟩) (by show b2 < _; omega)).trans d2
        have hpac := hpa.cap
        have HPA := Lib.hid hpa
        have HEA2 := Lib.hid eA2
        clear hpa eA2
        rw [HEA2.out]
        by_cases h16 : n2 ≤ 16
        rotate_left
        · have u1 : decide ((16 : Int) < (n2 : Int)) = true := by simp; omega
          have u2 : decide (16 < n2) = true := by simp; omega
          clear h16
          go_wp2_with fail
          go_ret
          exact ⟨false, rfl, trivial, HB1.out.trans (hA.mono (by omega))⟩
        have u1 : decide ((16 : Int) < (n2 : Int)) = false := by simp; omega
        have u2 : decide (16 < n2) = false := by simp; omega
        clear h16
        go_upto_region 17 with fail
        obtain ⟨wo, hwo⟩ : ∃ wo : World, wo = wr := ⟨_, rfl⟩
        subst hwo
        go_loopw [67] (fun v wr => ∃ i : Nat, v = .int .i64 (i : Int) ∧ i ≤ n2 ∧ Below w1.heap.size w1 wr) (fun v _ => n2 - (intOf v).toNat)
        case atStart => exact ⟨0, rfl, Nat.zero_le _, hA⟩
        case round =>
          obtain ⟨s, rfl, hs, hA⟩ := hrel
          by_cases hinp : s < n2
          rotate_left
          · have r5 : decide ((s : Int) < (n2 : Int)) = false := by simp; omega
            have r6 : decide (s < n2) = false := by simp; omega
            clear hinp
            go_wp2_with fail
            go_roundw
            case rel => exact ⟨i + 1, by go_num, by omega, hA⟩
            case measure => simp [intOf] <;> omega
          have r5 : decide ((s : Int) < (n2 : Int)) = true := by simp; omega
          have r6 : decide (s < n2) = true := by simp; omega
          have ss : IntKind.i64.wrap ((s : Int) + 1) = (s : Int) + 1 := by rw [IntKind.wrap_i64]; omega
          obtain ⟨b3, o3, ha, px, py, eA3, hbb3, ⟨e0, e1, e2⟩, _⟩ := HPA.out.atSpot hinp
          have e0 := (hA.cell (p := ⟨b3, o3 + s * 3, none⟩) (by show b3 < _; omega)).trans e0
          have e1 := (hA.cell (p := ⟨b3, o3 + s * 3 + 1, none⟩) (by show b3 < _; omega)).trans e1
          have e2 := (hA.cell (p := ⟨b3, o3 + s * 3 + 2, none⟩) (by show b3 < _; omega)).trans e2
          have HEA3 := Lib.hid eA3
          clear eA3
          obtain ⟨t4, ht4⟩ : ∃ q, q = anK ha px py := ⟨_, rfl⟩
          have HN1 := Lib.hid (fun W (_ : Below w1.heap.size w1 W) => show Calls Try.prog 47 #[.bool ha, .agg #[.int .i64 px, .int .i64 py]] W (RetV W t4) from by rw [ht4]; exact kanchor_any ha px py W)
          clear ht4
          rw [HEA3.out]
          go_upto_region 19 with fail
          obtain ⟨w5, hw3⟩ : ∃ z, z = wr.alloc (.cells #[.bool ha, .int .i64 px, .int .i64 py] 126) := ⟨_, rfl⟩
          obtain ⟨by_, hbx⟩ : ∃ z, z = wr.heap.size := ⟨_, rfl⟩
          rw [← hw3, ← hbx]
          have hA5 := (show Below w1.heap.size w1 w5 by rw [hw3]; exact hA.alloc hA.size _)
          have hX : w5.heap[by_]? = some (.cells #[.bool ha, .int .i64 px, .int .i64 py] 126 (0, 0)) := by rw [hw3, hbx]; exact heap_alloc_new _ _
          have v0 := up_fact (show w5.cell? ⟨by_, 0, none⟩ = some (.bool ha) by rw [cell_of_row _ _ 0 _ _ _ hX]; rfl)
          have v1 := up_fact (show w5.cell? ⟨by_, 1, none⟩ = some (.int .i64 px) by rw [cell_of_row _ _ 1 _ _ _ hX]; rfl)
          have v2 := up_fact (show w5.cell? ⟨by_, 2, none⟩ = some (.int .i64 py) by rw [cell_of_row _ _ 2 _ _ _ hX]; rfl)
          have hC5 := Below.refl w5.heap.size w5
          clear hX hw3 hbx
          cases t4 with
          | false =>
            go_wp2_with (first | (go_at_call 47; refine (HN1.out _ hA5).mono ?_; rintro e w7 ⟨rfl, hb7⟩; have hA7 := bgo hA5 hb7))
            go_ret
            exact ⟨false, rfl, trivial, HB1.out.trans (hA7.mono (by omega))⟩
          | true =>
            go_wp2_with (first | (go_at_call 47; refine (HN1.out _ hA5).mono ?_; rintro e w7 ⟨rfl, hb7⟩; have hA7 := bgo hA5 hb7))
            go_roundw
            case rel => exact ⟨s + 1, by go_num, by omega, hA7⟩
            case measure => simp [intOf] <;> omega

end Go.Proofs.Ytngdolmmaiogiaa
