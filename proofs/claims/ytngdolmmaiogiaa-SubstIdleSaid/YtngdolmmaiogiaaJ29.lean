/- Joined: FkK. -/
import Derived.Test.YtngdolmmaiogiaaJ28

/- The walk of maps of the check. Condition: the font lies as one. Printed by wip/tools/g32j.py. Printed by wip/tools. -/
namespace Go.Proofs.Ytngdolmmaiogiaa
open Go.RowKit

set_option maxRecDepth 100000 in
set_option maxHeartbeats 4000000 in
theorem kmaps_any (F : Fnt) (B : Nat) (w : World) (hgn : F.gn ≤ 9223372036854775807) (h : FntOk w B F) (hB : B ≤ w.heap.size) :
    Calls Try.prog 18 #[.agg #[.int .i64 F.em, .slice F.GA F.gn F.gc, .slice F.MA F.mn F.mc, .slice F.LA F.ln F.lc, .slice F.FA F.fn F.fc, .slice F.SA F.sn F.sc]] w (RetB w (fun b => F.mn = 0 → F.sn = 0 → b = true)) := by
  have hcap := h.hM.cap
  have hcapS := h.hS.cap
  have HM0 := Lib.hid h.hM
  have HSS0 := Lib.hid h.hS
  clear h
  obtain ⟨w1, hw_w1⟩ : ∃ z, z = w.alloc (.cells #[.int .i64 F.em, .slice F.GA F.gn F.gc, .slice F.MA F.mn F.mc, .slice F.LA F.ln F.lc, .slice F.FA F.fn F.fc, .slice F.SA F.sn F.sc] 71) := ⟨_, rfl⟩
  have hs_w1 : w1.heap.size = w.heap.size + 1 := by rw [hw_w1]; simp
  have hb_w1 : Below w.heap.size w w1 := by rw [hw_w1]; exact (Below.refl _ _).alloc (Nat.le_refl _) _
  have hx_0 : w1.heap[w.heap.size]? = some (.cells #[.int .i64 F.em, .slice F.GA F.gn F.gc, .slice F.MA F.mn F.mc, .slice F.LA F.ln F.lc, .slice F.FA F.fn F.fc, .slice F.SA F.sn F.sc] 71 (0, 0)) := by rw [hw_w1]; exact heap_alloc_new _ _
  have g0 := up_fact (show w1.cell? ⟨w.heap.size, 0, none⟩ = some (.int .i64 F.em) by rw [cell_of_row _ _ 0 _ _ _ hx_0]; rfl)
  have g1 := up_fact (show w1.cell? ⟨w.heap.size, 1, none⟩ = some (.slice F.GA F.gn F.gc) by rw [cell_of_row _ _ 1 _ _ _ hx_0]; rfl)
  have g2 := up_fact (show w1.cell? ⟨w.heap.size, 2, none⟩ = some (.slice F.MA F.mn F.mc) by rw [cell_of_row _ _ 2 _ _ _ hx_0]; rfl)
  have g3 := up_fact (show w1.cell? ⟨w.heap.size, 3, none⟩ = some (.slice F.LA F.ln F.lc) by rw [cell_of_row _ _ 3 _ _ _ hx_0]; rfl)
  have g4 := up_fact (show w1.cell? ⟨w.heap.size, 4, none⟩ = some (.slice F.FA F.fn F.fc) by rw [cell_of_row _ _ 4 _ _ _ hx_0]; rfl)
  have g5 := up_fact (show w1.cell? ⟨w.heap.size, 5, none⟩ = some (.slice F.SA F.sn F.sc) by rw [cell_of_row _ _ 5 _ _ _ hx_0]; rfl)
  have hA0 := Below.refl w1.heap.size w1
  have HS1 := Lib.hid hs_w1
  have hs1 : w.heap.size + 0 < w1.heap.size := by omega
  have HB1 := Lib.hid hb_w1
  have HW_w1 := Lib.hid hw_w1
  clear hw_w1 hs_w1 hb_w1
  clear hx_0
  have HI := Lib.hid (HM0.out.below (HB1.out.mono hB))
  have HSS := Lib.hid (HSS0.out.below (HB1.out.mono hB))
  by_cases hm : F.mn ≤ 4096
  rotate_left
  · have q1 : decide ((4096 : Int) < (F.mn : Int)) = true := by simp; omega
    have q2 : decide (4096 < F.mn) = true := by simp; omega
    go_enter Try.func18, Try.ntmps18
    go_upto_region 1 with fail
    rw [← HW_w1.out]
    go_wp2_with fail
    go_ret
    exact ⟨false, rfl, (fun h1 h2 => by omega), HB1.out⟩
  have q1 : decide ((4096 : Int) < (F.mn : Int)) = false := by simp; omega
  have q2 : decide (4096 < F.mn) = false := by simp; omega
  by_cases hs : F.sn ≤ 16
  rotate_left
  · have q3 : decide ((16 : Int) < (F.sn : Int)) = true := by simp; omega
    have q4 : decide (16 < F.sn) = true := by simp; omega
    go_enter Try.func18, Try.ntmps18
    go_upto_region 1 with fail
    rw [← HW_w1.out]
    go_wp2_with fail
    go_ret
    exact ⟨false, rfl, (fun h1 h2 => by omega), HB1.out⟩
  have q3 : decide ((16 : Int) < (F.sn : Int)) = false := by simp; omega
  have q4 : decide (16 < F.sn) = false := by simp; omega
  clear hm hs
  go_enter Try.func18, Try.ntmps18
  go_upto_region 1 with fail
  rw [← HW_w1.out]
  go_upto_region 4 with fail
  go_loopw [23] (fun v wr => ∃ k : Nat, v = .int .i64 (k : Int) ∧ k ≤ F.mn ∧ Below w1.heap.size w1 wr) (fun v _ => F.mn - (intOf v).toNat)
  case atStart => exact ⟨0, rfl, Nat.zero_le _, hA0⟩
  case round =>
    obtain ⟨k, rfl, hk, hA⟩ := hrel
    by_cases hin : k < F.mn
    rotate_left
    · have r1 : decide ((k : Int) < (F.mn : Int)) = false := by simp; omega
      have r2 : decide (k < F.mn) = false := by simp; omega
      clear hin
      go_upto_region 10 with fail
      obtain ⟨wo, hwo⟩ : ∃ wo : World, wo = wr := ⟨_, rfl⟩
      subst hwo
      go_loopw [76] (fun v wr => ∃ i : Nat, v = .int .i64 (i : Int) ∧ i ≤ F.sn ∧ Below w1.heap.size w1 wr) (fun v _ => F.sn - (intOf v).toNat)
      case atStart => exact ⟨0, rfl, Nat.zero_le _, hA⟩
      case round =>
        obtain ⟨i, rfl, hi, hA⟩ := hrel
        by_cases hin2 : i < F.sn
        rotate_left
        · have r3 : decide ((i : Int) < (F.sn : Int)) = false := by simp; omega
          have r4 : decide (i < F.sn) = false := by simp; omega
          clear hin2
          go_wp2_with fail
          go_ret
          exact ⟨true, rfl, (fun _ _ => rfl), HB1.out.trans (hA.mono (by omega))⟩
        have r3 : decide ((i : Int) < (F.sn : Int)) = true := by simp; omega
        have r4 : decide (i < F.sn) = true := by simp; omega
        have si : IntKind.i64.wrap ((i : Int) + 1) = (i : Int) + 1 := by rw [IntKind.wrap_i64]; omega
        obtain ⟨b, o, A', n', c', eA, hbb, d0, hz⟩ := HSS.out.atInts hin2
        have d0 := (hA.cell (p := ⟨b, o + i, none⟩) (by show b < _; omega)).trans d0
        obtain ⟨zs, hzs⟩ := ShSl.ints hz
        have HEA := Lib.hid eA
        have HCO := Lib.hid (fun W (hW : Below w1.heap.size w1 W) => kcover_any F B A' n' c' zs W hgn (hzs.below (hW.mono (by omega))) (by have := hW.size; omega))
        clear hz hzs eA
        have hns : F.sn ≠ 0 := by omega
        rw [HEA.out]
        go_wp2_with (go_at_call 27; refine (HCO.out _ hA).mono ?_; rintro e w3 ⟨b3, rfl, hp3, hb3⟩; have hA3 := bgo hA hb3; clear hp3 hb3; rcases b3 with _ | _)
        · go_ret
          exact ⟨false, rfl, (fun _ h => absurd h hns), HB1.out.trans (hA3.mono (by omega))⟩
        · go_roundw
          case rel => exact ⟨i + 1, by go_num, by omega, hA3⟩
          case measure => simp [intOf] <;> omega
    · have r1 : decide ((k : Int) < (F.mn : Int)) = true := by simp; omega
      have r2 : decide (k < F.mn) = true := by simp; omega
      have sk : IntKind.i64.wrap ((k : Int) + 1) = (k : Int) + 1 := by rw [IntKind.wrap_i64]; omega
      have hmn : F.mn ≠ 0 := by omega
      obtain ⟨b, o, co, gl, eA, hbb, ⟨c0, c1⟩, _⟩ := HI.out.atMap hin
      obtain ⟨j, hj⟩ : ∃ z, z = k - 1 := ⟨_, rfl⟩
      have hjn : j < F.mn := by omega
      have hjn1 : decide (j < F.mn) = true := by simp; omega
      have hjn2 : decide ((j : Int) < (F.mn : Int)) = true := by simp; omega
      obtain ⟨b', o', co2, gl2, eA', _, ⟨d0, d1⟩, _⟩ := HI.out.atMap hjn
      obtain ⟨rfl, rfl⟩ : b = b' ∧ o = o' := by rw [eA] at eA'; cases eA'; exact ⟨rfl, rfl⟩
      have y0 := up_fact c0
      have y1 := up_fact c1
      have z0 := up_fact d0
      clear eA' c0 d0 c1 d1
      have HWR := Lib.hid (show 0 < k → IntKind.i64.wrap ((k : Int) - 1) = (j : Int) from fun h => by rw [IntKind.wrap_i64]; omega)
      rw [eA] at g2
      have HEA := Lib.hid eA
      clear hj eA
      obtain ⟨t1, ht1⟩ : ∃ q, q = [gl].all (fkT F.gn) := ⟨_, rfl⟩
      have HT := Lib.hid (fun W {A2 : Option Addr} {n2 c2 : Nat} (_ : Below w1.heap.size w1 W) (hi : Ints W W.heap.size A2 n2 c2 [gl]) => show Calls Try.prog 26 #[.agg #[.int .i64 F.em, .slice F.GA F.gn F.gc, .slice F.MA F.mn F.mc, .slice F.LA F.ln F.lc, .slice F.FA F.fn F.fc, .slice F.SA F.sn F.sc], .slice A2 n2 c2] W (RetV W t1) from by rw [ht1]; exact kthere_any F W.heap.size A2 n2 c2 [gl] W hgn hi (Nat.le_refl _))
      clear ht1
      rw [HEA.out] at HT
      rw [HEA.out]
      go_upto_region 6 with fail
      obtain ⟨w3, hw3⟩ : ∃ z, z = wr.alloc (.cells #[.int .i32 co, .int .i64 gl] 81) := ⟨_, rfl⟩
      obtain ⟨bx, hbx⟩ : ∃ z, z = wr.heap.size := ⟨_, rfl⟩
      rw [← hw3, ← hbx]
      have hA3 := (show Below w1.heap.size w1 w3 by rw [hw3]; exact hA.alloc hA.size _)
      have hX : w3.heap[bx]? = some (.cells #[.int .i32 co, .int .i64 gl] 81 (0, 0)) := by rw [hw3, hbx]; exact heap_alloc_new _ _
      have x0 := up_fact (show w3.cell? ⟨bx, 0, none⟩ = some (.int .i32 co) by rw [cell_of_row _ _ 0 _ _ _ hX]; rfl)
      have x1 := up_fact (show w3.cell? ⟨bx, 1, none⟩ = some (.int .i64 gl) by rw [cell_of_row _ _ 1 _ _ _ hX]; rfl)
      have hC := Below.refl w3.heap.size w3
      clear hX hw3 hbx
      go_cut [70] (fun v W => ∃ t : Bool, v = .bool t ∧ Below w1.heap.size w1 W)
      case first =>
        by_cases ha : co < 0
        · have a1 : decide (co < 0) = true := by simpa using ha
          clear ha
          go_wp2_with fail
          have hU0 := bup hA3
          have hU1 := bup hC
          refine wp_region_text (fun x => ∃ d : Up w3.heap.size w3, x = d.W) (fun i => i == 22 || i == 23) 43 rfl (by kernel_rfl) (by kernel_rfl) ⟨⟨w3.drew, (Below.refl _ _).drew⟩, rfl⟩ ?_
          obtain ⟨wd, hwd⟩ : ∃ z, z = w3.drew := ⟨_, rfl⟩
          rw [← hwd]
          have hAd : Below w1.heap.size w1 wd := by rw [hwd]; exact hA3.drew
          have hCd : Below w3.heap.size w3 wd := by rw [hwd]; exact hC.drew
          clear hwd
          refine wpE_seg (m' := 21) 22 43 0 _ rfl (by kernel_rfl) (Nat.le_of_ble_eq_true (by kernel_rfl)) ?_
          simp only [List.drop_zero, List.take_succ_cons, List.take_zero]
          repeat (go_big_quiet_step (fail))
          refine wpQuiet_nil ?_
          refine wpE_act 20 22 _ _ (by kernel_rfl) (Nat.le_of_ble_eq_true (by kernel_rfl)) ?_
          simp only [List.drop_succ_cons, List.drop_zero, List.take_succ_cons, List.take_zero]
          go_wp2_with fail
          refine Mid.intro ⟨⟨⟨_, hCd⟩, rfl⟩, ?_⟩
          refine wpE_act 19 23 _ _ (by kernel_rfl) (Nat.le_of_ble_eq_true (by kernel_rfl)) ?_
          simp only [List.drop_succ_cons, List.drop_zero, List.take_succ_cons, List.take_zero]
          go_wp2_with fail
          refine Mid.intro ⟨⟨⟨_, hCd⟩, rfl⟩, ?_⟩
          refine wpE_seg (m' := 0) 19 19 24 _ rfl (by kernel_rfl) (Nat.le_of_ble_eq_true (by kernel_rfl)) ?_
          simp only [List.drop_succ_cons, List.drop_zero, List.take_succ_cons, List.take_zero]
          repeat (go_big_quiet_step (fail))
          refine wpQuiet_nil ?_
          refine wpE_nil ?_
          clear hU0 hU1
          go_wp2_with fail
          go_meet
          exact ⟨_, rfl, hAd⟩
        have a1 : decide (co < 0) = false := by simpa using ha
        clear ha
        by_cases hb : 1114111 < co
        · have a2 : decide (1114111 < co) = true := by simpa using hb
          clear hb
          go_wp2_with fail
          have hU0 := bup hA3
          have hU1 := bup hC
          refine wp_region_text (fun x => ∃ d : Up w3.heap.size w3, x = d.W) (fun i => i == 22 || i == 23) 43 rfl (by kernel_rfl) (by kernel_rfl) ⟨⟨w3.drew, (Below.refl _ _).drew⟩, rfl⟩ ?_
          obtain ⟨wd, hwd⟩ : ∃ z, z = w3.drew := ⟨_, rfl⟩
          rw [← hwd]
          have hAd : Below w1.heap.size w1 wd := by rw [hwd]; exact hA3.drew
          have hCd : Below w3.heap.size w3 wd := by rw [hwd]; exact hC.drew
          clear hwd
          refine wpE_seg (m' := 21) 22 43 0 _ rfl (by kernel_rfl) (Nat.le_of_ble_eq_true (by kernel_rfl)) ?_
          simp only [List.drop_zero, List.take_succ_cons, List.take_zero]
          repeat (go_big_quiet_step (fail))
          refine wpQuiet_nil ?_
          refine wpE_act 20 22 _ _ (by kernel_rfl) (Nat.le_of_ble_eq_true (by kernel_rfl)) ?_
          simp only [List.drop_succ_cons, List.drop_zero, List.take_succ_cons, List.take_zero]
          go_wp2_with fail
          refine Mid.intro ⟨⟨⟨_, hCd⟩, rfl⟩, ?_⟩
          refine wpE_act 19 23 _ _ (by kernel_rfl) (Nat.le_of_ble_eq_true (by kernel_rfl)) ?_
          simp only [List.drop_succ_cons, List.drop_zero, List.take_succ_cons, List.take_zero]
          go_wp2_with fail
          refine Mid.intro ⟨⟨⟨_, hCd⟩, rfl⟩, ?_⟩
          refine wpE_seg (m' := 0) 19 19 24 _ rfl (by kernel_rfl) (Nat.le_of_ble_eq_true (by kernel_rfl)) ?_
          simp only [List.drop_succ_cons, List.drop_zero, List.take_succ_cons, List.take_zero]
          repeat (go_big_quiet_step (fail))
          refine wpQuiet_nil ?_
          refine wpE_nil ?_
          clear hU0 hU1
          go_wp2_with fail
          go_meet
          exact ⟨_, rfl, hAd⟩
        have a2 : decide (1114111 < co) = false := by simpa using hb
        clear hb
        by_cases hc : 55296 ≤ co
        · have a3 : decide (55296 ≤ co) = true := by simpa using hc
          clear hc
          by_cases hd : co ≤ 57343
          · have a4 : decide (co ≤ 57343) = true := by simpa using hd
            clear hd
            go_wp2_with fail
            have hU0 := bup hA3
            have hU1 := bup hC
            refine wp_region_text (fun x => ∃ d : Up w3.heap.size w3, x = d.W) (fun i => i == 22 || i == 23) 43 rfl (by kernel_rfl) (by kernel_rfl) ⟨⟨w3.drew, (Below.refl _ _).drew⟩, rfl⟩ ?_
            obtain ⟨wd, hwd⟩ : ∃ z, z = w3.drew := ⟨_, rfl⟩
            rw [← hwd]
            have hAd : Below w1.heap.size w1 wd := by rw [hwd]; exact hA3.drew
            have hCd : Below w3.heap.size w3 wd := by rw [hwd]; exact hC.drew
            clear hwd
            refine wpE_seg (m' := 21) 22 43 0 _ rfl (by kernel_rfl) (Nat.le_of_ble_eq_true (by kernel_rfl)) ?_
            simp only [List.drop_zero, List.take_succ_cons, List.take_zero]
            repeat (go_big_quiet_step (fail))
            refine wpQuiet_nil ?_
            refine wpE_act 20 22 _ _ (by kernel_rfl) (Nat.le_of_ble_eq_true (by kernel_rfl)) ?_
            simp only [List.drop_succ_cons, List.drop_zero, List.take_succ_cons, List.take_zero]
            go_wp2_with fail
            refine Mid.intro ⟨⟨⟨_, hCd⟩, rfl⟩, ?_⟩
            refine wpE_act 19 23 _ _ (by kernel_rfl) (Nat.le_of_ble_eq_true (by kernel_rfl)) ?_
            simp only [List.drop_succ_cons, List.drop_zero, List.take_succ_cons, List.take_zero]
            go_wp2_with fail
            refine Mid.intro ⟨⟨⟨_, hCd⟩, rfl⟩, ?_⟩
            refine wpE_seg (m' := 0) 19 19 24 _ rfl (by kernel_rfl) (Nat.le_of_ble_eq_true (by kernel_rfl)) ?_
            simp only [List.drop_succ_cons, List.drop_zero, List.take_succ_cons, List.take_zero]
            repeat (go_big_quiet_step (fail))
            refine wpQuiet_nil ?_
            refine wpE_nil ?_
            clear hU0 hU1
            go_wp2_with fail
            go_meet
            exact ⟨_, rfl, hAd⟩
          have a4 : decide (co ≤ 57343) = false := by simpa using hd
          clear hd
          cases t1 with
          | false =>
            go_wp2_with fail
            have hU0 := bup hA3
            have hU1 := bup hC
            refine wp_region_text (fun x => ∃ d : Up w3.heap.size w3, x = d.W) (fun i => i == 22 || i == 23) 43 rfl (by kernel_rfl) (by kernel_rfl) ⟨⟨w3.drew, (Below.refl _ _).drew⟩, rfl⟩ ?_
            obtain ⟨wd, hwd⟩ : ∃ z, z = w3.drew := ⟨_, rfl⟩
            rw [← hwd]
            have hAd : Below w1.heap.size w1 wd := by rw [hwd]; exact hA3.drew
            have hCd : Below w3.heap.size w3 wd := by rw [hwd]; exact hC.drew
            clear hwd
            refine wpE_seg (m' := 21) 22 43 0 _ rfl (by kernel_rfl) (Nat.le_of_ble_eq_true (by kernel_rfl)) ?_
            simp only [List.drop_zero, List.take_succ_cons, List.take_zero]
            repeat (go_big_quiet_step (fail))
            refine wpQuiet_nil ?_
            refine wpE_act 20 22 _ _ (by kernel_rfl) (Nat.le_of_ble_eq_true (by kernel_rfl)) ?_
            simp only [List.drop_succ_cons, List.drop_zero, List.take_succ_cons, List.take_zero]
            go_wp2_with fail
            refine Mid.intro ⟨⟨⟨_, (hCd.alloc hCd.size _)⟩, rfl⟩, ?_⟩
            refine wpE_act 19 23 _ _ (by kernel_rfl) (Nat.le_of_ble_eq_true (by kernel_rfl)) ?_
            simp only [List.drop_succ_cons, List.drop_zero, List.take_succ_cons, List.take_zero]
            go_wp2_with (first | (go_at_call 26; refine (HT.out _ (hAd.alloc hAd.size _) (Ints.lit1 _ _ _)).mono ?_; rintro e w4 ⟨rfl, hb4⟩; have hA4 := bgo (hAd.alloc hAd.size _) hb4; have hC4 := bgo (hCd.alloc hCd.size _) hb4))
            refine Mid.intro ⟨⟨⟨_, hC4⟩, rfl⟩, ?_⟩
            refine wpE_seg (m' := 0) 19 19 24 _ rfl (by kernel_rfl) (Nat.le_of_ble_eq_true (by kernel_rfl)) ?_
            simp only [List.drop_succ_cons, List.drop_zero, List.take_succ_cons, List.take_zero]
            repeat (go_big_quiet_step (fail))
            refine wpQuiet_nil ?_
            refine wpE_nil ?_
            clear hU0 hU1
            go_wp2_with fail
            go_meet
            exact ⟨_, rfl, hA4⟩
          | true =>
            by_cases hk0 : k = 0
            · have p1 : decide ((0 : Int) < (k : Int)) = false := by simp; omega
              have p2 : decide (0 < k) = false := by simp; omega
              clear hk0
              go_wp2_with fail
              have hU0 := bup hA3
              have hU1 := bup hC
              refine wp_region_text (fun x => ∃ d : Up w3.heap.size w3, x = d.W) (fun i => i == 22 || i == 23) 43 rfl (by kernel_rfl) (by kernel_rfl) ⟨⟨w3.drew, (Below.refl _ _).drew⟩, rfl⟩ ?_
              obtain ⟨wd, hwd⟩ : ∃ z, z = w3.drew := ⟨_, rfl⟩
              rw [← hwd]
              have hAd : Below w1.heap.size w1 wd := by rw [hwd]; exact hA3.drew
              have hCd : Below w3.heap.size w3 wd := by rw [hwd]; exact hC.drew
              clear hwd
              refine wpE_seg (m' := 21) 22 43 0 _ rfl (by kernel_rfl) (Nat.le_of_ble_eq_true (by kernel_rfl)) ?_
              simp only [List.drop_zero, List.take_succ_cons, List.take_zero]
              repeat (go_big_quiet_step (fail))
              refine wpQuiet_nil ?_
              refine wpE_act 20 22 _ _ (by kernel_rfl) (Nat.le_of_ble_eq_true (by kernel_rfl)) ?_
              simp only [List.drop_succ_cons, List.drop_zero, List.take_succ_cons, List.take_zero]
              go_wp2_with fail
              refine Mid.intro ⟨⟨⟨_, (hCd.alloc hCd.size _)⟩, rfl⟩, ?_⟩
              refine wpE_act 19 23 _ _ (by kernel_rfl) (Nat.le_of_ble_eq_true (by kernel_rfl)) ?_
              simp only [List.drop_succ_cons, List.drop_zero, List.take_succ_cons, List.take_zero]
              go_wp2_with (first | (go_at_call 26; refine (HT.out _ (hAd.alloc hAd.size _) (Ints.lit1 _ _ _)).mono ?_; rintro e w4 ⟨rfl, hb4⟩; have hA4 := bgo (hAd.alloc hAd.size _) hb4; have hC4 := bgo (hCd.alloc hCd.size _) hb4))
              refine Mid.intro ⟨⟨⟨_, hC4⟩, rfl⟩, ?_⟩
              refine wpE_seg (m' := 0) 19 19 24 _ rfl (by kernel_rfl) (Nat.le_of_ble_eq_true (by kernel_rfl)) ?_
              simp only [List.drop_succ_cons, List.drop_zero, List.take_succ_cons, List.take_zero]
              repeat (go_big_quiet_step (fail))
              refine wpQuiet_nil ?_
              refine wpE_nil ?_
              clear hU0 hU1
              go_wp2_with fail
              go_meet
              exact ⟨_, rfl, hA4⟩
            · have p1 : decide ((0 : Int) < (k : Int)) = true := by simp; omega
              have p2 : decide (0 < k) = true := by simp; omega
              have hwr := HWR.out (by omega)
              clear hk0
              by_cases hxy : co ≤ co2
              · have p3 : decide (co ≤ co2) = true := by simpa using hxy
                clear hxy
                go_wp2_with fail
                have hU0 := bup hA3
                have hU1 := bup hC
                refine wp_region_text (fun x => ∃ d : Up w3.heap.size w3, x = d.W) (fun i => i == 22 || i == 23) 43 rfl (by kernel_rfl) (by kernel_rfl) ⟨⟨w3.drew, (Below.refl _ _).drew⟩, rfl⟩ ?_
                obtain ⟨wd, hwd⟩ : ∃ z, z = w3.drew := ⟨_, rfl⟩
                rw [← hwd]
                have hAd : Below w1.heap.size w1 wd := by rw [hwd]; exact hA3.drew
                have hCd : Below w3.heap.size w3 wd := by rw [hwd]; exact hC.drew
                clear hwd
                refine wpE_seg (m' := 21) 22 43 0 _ rfl (by kernel_rfl) (Nat.le_of_ble_eq_true (by kernel_rfl)) ?_
                simp only [List.drop_zero, List.take_succ_cons, List.take_zero]
                repeat (go_big_quiet_step (fail))
                refine wpQuiet_nil ?_
                refine wpE_act 20 22 _ _ (by kernel_rfl) (Nat.le_of_ble_eq_true (by kernel_rfl)) ?_
                simp only [List.drop_succ_cons, List.drop_zero, List.take_succ_cons, List.take_zero]
                go_wp2_with fail
                refine Mid.intro ⟨⟨⟨_, (hCd.alloc hCd.size _)⟩, rfl⟩, ?_⟩
                refine wpE_act 19 23 _ _ (by kernel_rfl) (Nat.le_of_ble_eq_true (by kernel_rfl)) ?_
                simp only [List.drop_succ_cons, List.drop_zero, List.take_succ_cons, List.take_zero]
                go_wp2_with (first | (go_at_call 26; refine (HT.out _ (hAd.alloc hAd.size _) (Ints.lit1 _ _ _)).mono ?_; rintro e w4 ⟨rfl, hb4⟩; have hA4 := bgo (hAd.alloc hAd.size _) hb4; have hC4 := bgo (hCd.alloc hCd.size _) hb4))
                refine Mid.intro ⟨⟨⟨_, hC4⟩, rfl⟩, ?_⟩
                refine wpE_seg (m' := 0) 19 19 24 _ rfl (by kernel_rfl) (Nat.le_of_ble_eq_true (by kernel_rfl)) ?_
                simp only [List.drop_succ_cons, List.drop_zero, List.take_succ_cons, List.take_zero]
                repeat (go_big_quiet_step (fail))
                refine wpQuiet_nil ?_
                refine wpE_nil ?_
                clear hU0 hU1
                go_wp2_with fail
                go_meet
                exact ⟨_, rfl, hA4⟩
              · have p3 : decide (co ≤ co2) = false := by simpa using hxy
                clear hxy
                go_wp2_with fail
                have hU0 := bup hA3
                have hU1 := bup hC
                refine wp_region_text (fun x => ∃ d : Up w3.heap.size w3, x = d.W) (fun i => i == 22 || i == 23) 43 rfl (by kernel_rfl) (by kernel_rfl) ⟨⟨w3.drew, (Below.refl _ _).drew⟩, rfl⟩ ?_
                obtain ⟨wd, hwd⟩ : ∃ z, z = w3.drew := ⟨_, rfl⟩
                rw [← hwd]
                have hAd : Below w1.heap.size w1 wd := by rw [hwd]; exact hA3.drew
                have hCd : Below w3.heap.size w3 wd := by rw [hwd]; exact hC.drew
                clear hwd
                refine wpE_seg (m' := 21) 22 43 0 _ rfl (by kernel_rfl) (Nat.le_of_ble_eq_true (by kernel_rfl)) ?_
                simp only [List.drop_zero, List.take_succ_cons, List.take_zero]
                repeat (go_big_quiet_step (fail))
                refine wpQuiet_nil ?_
                refine wpE_act 20 22 _ _ (by kernel_rfl) (Nat.le_of_ble_eq_true (by kernel_rfl)) ?_
                simp only [List.drop_succ_cons, List.drop_zero, List.take_succ_cons, List.take_zero]
                go_wp2_with fail
                refine Mid.intro ⟨⟨⟨_, (hCd.alloc hCd.size _)⟩, rfl⟩, ?_⟩
                refine wpE_act 19 23 _ _ (by kernel_rfl) (Nat.le_of_ble_eq_true (by kernel_rfl)) ?_
                simp only [List.drop_succ_cons, List.drop_zero, List.take_succ_cons, List.take_zero]
                go_wp2_with (first | (go_at_call 26; refine (HT.out _ (hAd.alloc hAd.size _) (Ints.lit1 _ _ _)).mono ?_; rintro e w4 ⟨rfl, hb4⟩; have hA4 := bgo (hAd.alloc hAd.size _) hb4; have hC4 := bgo (hCd.alloc hCd.size _) hb4))
                refine Mid.intro ⟨⟨⟨_, hC4⟩, rfl⟩, ?_⟩
                refine wpE_seg (m' := 0) 19 19 24 _ rfl (by kernel_rfl) (Nat.le_of_ble_eq_true (by kernel_rfl)) ?_
                simp only [List.drop_succ_cons, List.drop_zero, List.take_succ_cons, List.take_zero]
                repeat (go_big_quiet_step (fail))
                refine wpQuiet_nil ?_
                refine wpE_nil ?_
                clear hU0 hU1
                go_wp2_with fail
                go_meet
                exact ⟨_, rfl, hA4⟩
        have a3 : decide (55296 ≤ co) = false := by simpa using hc
        clear hc
        cases t1 with
        | false =>
          go_wp2_with fail
          have hU0 := bup hA3
          have hU1 := bup hC
          refine wp_region_text (fun x => ∃ d : Up w3.heap.size w3, x = d.W) (fun i => i == 22 || i == 23) 43 rfl (by kernel_rfl) (by kernel_rfl) ⟨⟨w3.drew, (Below.refl _ _).drew⟩, rfl⟩ ?_
          obtain ⟨wd, hwd⟩ : ∃ z, z = w3.drew := ⟨_, rfl⟩
          rw [← hwd]
          have hAd : Below w1.heap.size w1 wd := by rw [hwd]; exact hA3.drew
          have hCd : Below w3.heap.size w3 wd := by rw [hwd]; exact hC.drew
          clear hwd
          refine wpE_seg (m' := 21) 22 43 0 _ rfl (by kernel_rfl) (Nat.le_of_ble_eq_true (by kernel_rfl)) ?_
          simp only [List.drop_zero, List.take_succ_cons, List.take_zero]
          repeat (go_big_quiet_step (fail))
          refine wpQuiet_nil ?_
          refine wpE_act 20 22 _ _ (by kernel_rfl) (Nat.le_of_ble_eq_true (by kernel_rfl)) ?_
          simp only [List.drop_succ_cons, List.drop_zero, List.take_succ_cons, List.take_zero]
          go_wp2_with fail
          refine Mid.intro ⟨⟨⟨_, (hCd.alloc hCd.size _)⟩, rfl⟩, ?_⟩
          refine wpE_act 19 23 _ _ (by kernel_rfl) (Nat.le_of_ble_eq_true (by kernel_rfl)) ?_
          simp only [List.drop_succ_cons, List.drop_zero, List.take_succ_cons, List.take_zero]
          go_wp2_with (first | (go_at_call 26; refine (HT.out _ (hAd.alloc hAd.size _) (Ints.lit1 _ _ _)).mono ?_; rintro e w4 ⟨rfl, hb4⟩; have hA4 := bgo (hAd.alloc hAd.size _) hb4; have hC4 := bgo (hCd.alloc hCd.size _) hb4))
          refine Mid.intro ⟨⟨⟨_, hC4⟩, rfl⟩, ?_⟩
          refine wpE_seg (m' := 0) 19 19 24 _ rfl (by kernel_rfl) (Nat.le_of_ble_eq_true (by kernel_rfl)) ?_
          simp only [List.drop_succ_cons, List.drop_zero, List.take_succ_cons, List.take_zero]
          repeat (go_big_quiet_step (fail))
          refine wpQuiet_nil ?_
          refine wpE_nil ?_
          clear hU0 hU1
          go_wp2_with fail
          go_meet
          exact ⟨_, rfl, hA4⟩
        | true =>
          by_cases hk0 : k = 0
          · have p1 : decide ((0 : Int) < (k : Int)) = false := by simp; omega
            have p2 : decide (0 < k) = false := by simp; omega
            clear hk0
            go_wp2_with fail
            have hU0 := bup hA3
            have hU1 := bup hC
            refine wp_region_text (fun x => ∃ d : Up w3.heap.size w3, x = d.W) (fun i => i == 22 || i == 23) 43 rfl (by kernel_rfl) (by kernel_rfl) ⟨⟨w3.drew, (Below.refl _ _).drew⟩, rfl⟩ ?_
            obtain ⟨wd, hwd⟩ : ∃ z, z = w3.drew := ⟨_, rfl⟩
            rw [← hwd]
            have hAd : Below w1.heap.size w1 wd := by rw [hwd]; exact hA3.drew
            have hCd : Below w3.heap.size w3 wd := by rw [hwd]; exact hC.drew
            clear hwd
            refine wpE_seg (m' := 21) 22 43 0 _ rfl (by kernel_rfl) (Nat.le_of_ble_eq_true (by kernel_rfl)) ?_
            simp only [List.drop_zero, List.take_succ_cons, List.take_zero]
            repeat (go_big_quiet_step (fail))
            refine wpQuiet_nil ?_
            refine wpE_act 20 22 _ _ (by kernel_rfl) (Nat.le_of_ble_eq_true (by kernel_rfl)) ?_
            simp only [List.drop_succ_cons, List.drop_zero, List.take_succ_cons, List.take_zero]
            go_wp2_with fail
            refine Mid.intro ⟨⟨⟨_, (hCd.alloc hCd.size _)⟩, rfl⟩, ?_⟩
            refine wpE_act 19 23 _ _ (by kernel_rfl) (Nat.le_of_ble_eq_true (by kernel_rfl)) ?_
            simp only [List.drop_succ_cons, List.drop_zero, List.take_succ_cons, List.take_zero]
            go_wp2_with (first | (go_at_call 26; refine (HT.out _ (hAd.alloc hAd.size _) (Ints.lit1 _ _ _)).mono ?_; rintro e w4 ⟨rfl, hb4⟩; have hA4 := bgo (hAd.alloc hAd.size _) hb4; have hC4 := bgo (hCd.alloc hCd.size _) hb4))
            refine Mid.intro ⟨⟨⟨_, hC4⟩, rfl⟩, ?_⟩
            refine wpE_seg (m' := 0) 19 19 24 _ rfl (by kernel_rfl) (Nat.le_of_ble_eq_true (by kernel_rfl)) ?_
            simp only [List.drop_succ_cons, List.drop_zero, List.take_succ_cons, List.take_zero]
            repeat (go_big_quiet_step (fail))
            refine wpQuiet_nil ?_
            refine wpE_nil ?_
            clear hU0 hU1
            go_wp2_with fail
            go_meet
            exact ⟨_, rfl, hA4⟩
          · have p1 : decide ((0 : Int) < (k : Int)) = true := by simp; omega
            have p2 : decide (0 < k) = true := by simp; omega
            have hwr := HWR.out (by omega)
            clear hk0
            by_cases hxy : co ≤ co2
            · have p3 : decide (co ≤ co2) = true := by simpa using hxy
              clear hxy
              go_wp2_with fail
              have hU0 := bup hA3
              have hU1 := bup hC
              refine wp_region_text (fun x => ∃ d : Up w3.heap.size w3, x = d.W) (fun i => i == 22 || i == 23) 43 rfl (by kernel_rfl) (by kernel_rfl) ⟨⟨w3.drew, (Below.refl _ _).drew⟩, rfl⟩ ?_
              obtain ⟨wd, hwd⟩ : ∃ z, z = w3.drew := ⟨_, rfl⟩
              rw [← hwd]
              have hAd : Below w1.heap.size w1 wd := by rw [hwd]; exact hA3.drew
              have hCd : Below w3.heap.size w3 wd := by rw [hwd]; exact hC.drew
              clear hwd
              refine wpE_seg (m' := 21) 22 43 0 _ rfl (by kernel_rfl) (Nat.le_of_ble_eq_true (by kernel_rfl)) ?_
              simp only [List.drop_zero, List.take_succ_cons, List.take_zero]
              repeat (go_big_quiet_step (fail))
              refine wpQuiet_nil ?_
              refine wpE_act 20 22 _ _ (by kernel_rfl) (Nat.le_of_ble_eq_true (by kernel_rfl)) ?_
              simp only [List.drop_succ_cons, List.drop_zero, List.take_succ_cons, List.take_zero]
              go_wp2_with fail
              refine Mid.intro ⟨⟨⟨_, (hCd.alloc hCd.size _)⟩, rfl⟩, ?_⟩
              refine wpE_act 19 23 _ _ (by kernel_rfl) (Nat.le_of_ble_eq_true (by kernel_rfl)) ?_
              simp only [List.drop_succ_cons, List.drop_zero, List.take_succ_cons, List.take_zero]
              go_wp2_with (first | (go_at_call 26; refine (HT.out _ (hAd.alloc hAd.size _) (Ints.lit1 _ _ _)).mono ?_; rintro e w4 ⟨rfl, hb4⟩; have hA4 := bgo (hAd.alloc hAd.size _) hb4; have hC4 := bgo (hCd.alloc hCd.size _) hb4))
              refine Mid.intro ⟨⟨⟨_, hC4⟩, rfl⟩, ?_⟩
              refine wpE_seg (m' := 0) 19 19 24 _ rfl (by kernel_rfl) (Nat.le_of_ble_eq_true (by kernel_rfl)) ?_
              simp only [List.drop_succ_cons, List.drop_zero, List.take_succ_cons, List.take_zero]
              repeat (go_big_quiet_step (fail))
              refine wpQuiet_nil ?_
              refine wpE_nil ?_
              clear hU0 hU1
              go_wp2_with fail
              go_meet
              exact ⟨_, rfl, hA4⟩
            · have p3 : decide (co ≤ co2) = false := by simpa using hxy
              clear hxy
              go_wp2_with fail
              have hU0 := bup hA3
              have hU1 := bup hC
              refine wp_region_text (fun x => ∃ d : Up w3.heap.size w3, x = d.W) (fun i => i == 22 || i == 23) 43 rfl (by kernel_rfl) (by kernel_rfl) ⟨⟨w3.drew, (Below.refl _ _).drew⟩, rfl⟩ ?_
              obtain ⟨wd, hwd⟩ : ∃ z, z = w3.drew := ⟨_, rfl⟩
              rw [← hwd]
              have hAd : Below w1.heap.size w1 wd := by rw [hwd]; exact hA3.drew
              have hCd : Below w3.heap.size w3 wd := by rw [hwd]; exact hC.drew
              clear hwd
              refine wpE_seg (m' := 21) 22 43 0 _ rfl (by kernel_rfl) (Nat.le_of_ble_eq_true (by kernel_rfl)) ?_
              simp only [List.drop_zero, List.take_succ_cons, List.take_zero]
              repeat (go_big_quiet_step (fail))
              refine wpQuiet_nil ?_
              refine wpE_act 20 22 _ _ (by kernel_rfl) (Nat.le_of_ble_eq_true (by kernel_rfl)) ?_
              simp only [List.drop_succ_cons, List.drop_zero, List.take_succ_cons, List.take_zero]
              go_wp2_with fail
              refine Mid.intro ⟨⟨⟨_, (hCd.alloc hCd.size _)⟩, rfl⟩, ?_⟩
              refine wpE_act 19 23 _ _ (by kernel_rfl) (Nat.le_of_ble_eq_true (by kernel_rfl)) ?_
              simp only [List.drop_succ_cons, List.drop_zero, List.take_succ_cons, List.take_zero]
              go_wp2_with (first | (go_at_call 26; refine (HT.out _ (hAd.alloc hAd.size _) (Ints.lit1 _ _ _)).mono ?_; rintro e w4 ⟨rfl, hb4⟩; have hA4 := bgo (hAd.alloc hAd.size _) hb4; have hC4 := bgo (hCd.alloc hCd.size _) hb4))
              refine Mid.intro ⟨⟨⟨_, hC4⟩, rfl⟩, ?_⟩
              refine wpE_seg (m' := 0) 19 19 24 _ rfl (by kernel_rfl) (Nat.le_of_ble_eq_true (by kernel_rfl)) ?_
              simp only [List.drop_succ_cons, List.drop_zero, List.take_succ_cons, List.take_zero]
              repeat (go_big_quiet_step (fail))
              refine wpQuiet_nil ?_
              refine wpE_nil ?_
              clear hU0 hU1
              go_wp2_with fail
              go_meet
              exact ⟨_, rfl, hA4⟩
      obtain ⟨t, rfl, hA6⟩ := hcut
      clear hA3 hC
      rcases t with _ | _
      · go_wp2_with fail
        go_roundw
        case rel => exact ⟨k + 1, by go_num, by omega, hA6⟩
        case measure => simp [intOf] <;> omega
      · go_wp2_with fail
        go_ret
        exact ⟨false, rfl, (fun h _ => absurd h hmn), HB1.out.trans (hA6.mono (by omega))⟩

end Go.Proofs.Ytngdolmmaiogiaa
