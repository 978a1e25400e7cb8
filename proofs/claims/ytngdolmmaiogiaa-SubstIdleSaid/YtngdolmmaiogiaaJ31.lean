/- Joined: FkG. -/
import Derived.Test.YtngdolmmaiogiaaJ28

/- The walk of curs of the check. Condition: the rows are there. Printed by wip/tools/g32g.py. Printed by wip/tools. -/
namespace Go.Proofs.Ytngdolmmaiogiaa
open Go.RowKit

set_option maxRecDepth 100000 in
set_option maxHeartbeats 4000000 in
theorem kcurs_any (F : Fnt) (B : Nat) (A : Option Addr) (n c : Nat) (w : World) (hgn : F.gn ≤ 9223372036854775807) (h : ShSl w B shCurs A n c) (hB : B ≤ w.heap.size) :
    Calls Try.prog 38 #[.agg #[.int .i64 F.em, .slice F.GA F.gn F.gc, .slice F.MA F.mn F.mc, .slice F.LA F.ln F.lc, .slice F.FA F.fn F.fc, .slice F.SA F.sn F.sc], .slice A n c] w (RetB w (fun _ => True)) := by
  have hcap := h.cap
  have HI0 := Lib.hid h
  clear h
  obtain ⟨w1, hw_w1⟩ : ∃ z, z = w.alloc (.cells #[.int .i64 F.em, .slice F.GA F.gn F.gc, .slice F.MA F.mn F.mc, .slice F.LA F.ln F.lc, .slice F.FA F.fn F.fc, .slice F.SA F.sn F.sc] 71) := ⟨_, rfl⟩
  have hs_w1 : w1.heap.size = w.heap.size + 1 := by rw [hw_w1]; simp
  have hb_w1 : Below w.heap.size w w1 := by rw [hw_w1]; exact (Below.refl _ _).alloc (Nat.le_refl _) _
  have hx_0 : w1.heap[w.heap.size]? = some (.cells #[.int .i64 F.em, .slice F.GA F.gn F.gc, .slice F.MA F.mn F.mc, .slice F.LA F.ln F.lc, .slice F.FA F.fn F.fc, .slice F.SA F.sn F.sc] 71 (0, 0)) := by rw [hw_w1]; exact heap_alloc_new _ _
  have g0 := up_fact (show w1.cell? ⟨w.heap.size, 0, none⟩ = some (.int .i64 F.em) by rw [cell_of_row _ _ 0 _ _ _ hx_0]; rfl)
  have g1 := up_fact (show w1.cell? ⟨w.heap.size, 1, none⟩ = some (.slice F.GA F.gn F.gc) by rw [cell_of_row _ _ 1 _ _ _ hx_0]; rfl)
  have g2 := up_fact (show w1.cell? ⟨w.heap.size, 2, none⟩ = some (.slice F.MA F.mn F.mc) by rw [cell_of_row _ _ 2 _ _ _ hx_0]; rfl)
  have g3 := up_fact (show w1.cell? ⟨w.heap.size, 3, none⟩ = some (.slice F.LA F.ln F.lc) by rw [cell_of_row _ _ 3 _ _ _ hx_0]; rfl)
  have g4 := up_fact (show w1.cell? ⟨w.heap.size, 4, none⟩ = some (.slice F.FA F.fn F.fc) by rw [cell_of_row _ _ 4 _ _ _ hx_0]; rfl)
  have g5 := up_fact (show w1.cell? ⟨w.heap.size, 5, none⟩ = some (.slice F.SA F.sn F.sc) by rw [cell_of_row _ _ 5 _ _ _ hx_0]; rfl)
  have hA0 := Below.refl w1.heap.size w1
  have HS1 := Lib.hid hs_w1
  have hs1 : w.heap.size + 0 < w1.heap.size := by omega
  have HB1 := Lib.hid hb_w1
  have HW_w1 := Lib.hid hw_w1
  clear hw_w1 hs_w1 hb_w1
  clear hx_0
  have HI := Lib.hid (HI0.out.below (HB1.out.mono hB))
  by_cases hn : n ≤ 4096
  rotate_left
  · have q1 : decide ((4096 : Int) < (n : Int)) = true := by simp; omega
    have q2 : decide (4096 < n) = true := by simp; omega
    clear hn
    go_enter Try.func38, Try.ntmps38
    go_upto_region 1 with fail
    rw [← HW_w1.out]
    go_wp2_with fail
    go_ret
    exact ⟨false, rfl, trivial, HB1.out⟩
  have q1 : decide ((4096 : Int) < (n : Int)) = false := by simp; omega
  have q2 : decide (4096 < n) = false := by simp; omega
  clear hn
  go_enter Try.func38, Try.ntmps38
  go_upto_region 1 with fail
  rw [← HW_w1.out]
  go_upto_region 4 with fail
  go_loopw [12] (fun v wr => ∃ k : Nat, v = .int .i64 (k : Int) ∧ k ≤ n ∧ Below w1.heap.size w1 wr) (fun v _ => n - (intOf v).toNat)
  case atStart => exact ⟨0, rfl, Nat.zero_le _, hA0⟩
  case round =>
    obtain ⟨k, rfl, hk, hA⟩ := hrel
    by_cases hin : k < n
    rotate_left
    · have r1 : decide ((k : Int) < (n : Int)) = false := by simp; omega
      have r2 : decide (k < n) = false := by simp; omega
      clear hin
      go_wp2_with fail
      go_ret
      exact ⟨true, rfl, trivial, HB1.out.trans (hA.mono (by omega))⟩
    · have r1 : decide ((k : Int) < (n : Int)) = true := by simp; omega
      have r2 : decide (k < n) = true := by simp; omega
      have sk : IntKind.i64.wrap ((k : Int) + 1) = (k : Int) + 1 := by rw [IntKind.wrap_i64]; omega
      obtain ⟨b, o, gl, he, hx, ex, ey, ux, uy, eA, hbb, ⟨c0, c1, c2, c3, c4, c5, c6⟩, _⟩ := HI.out.atCurs hin
      obtain ⟨j, hj⟩ : ∃ z, z = k - 1 := ⟨_, rfl⟩
      have hjn : j < n := by omega
      have hjn1 : decide (j < n) = true := by simp; omega
      have hjn2 : decide ((j : Int) < (n : Int)) = true := by simp; omega
      obtain ⟨b', o', gl2, _, _, _, _, _, _, eA', _, ⟨d0, d1, d2, d3, d4, d5, d6⟩, _⟩ := HI.out.atCurs hjn
      obtain ⟨rfl, rfl⟩ : b = b' ∧ o = o' := by rw [eA] at eA'; cases eA'; exact ⟨rfl, rfl⟩
      have y0 := up_fact c0
      have y1 := up_fact c1
      have y2 := up_fact c2
      have y3 := up_fact c3
      have y4 := up_fact c4
      have y5 := up_fact c5
      have y6 := up_fact c6
      have z0 := up_fact d0
      clear eA' c0 d0 c1 d1 c2 d2 c3 d3 c4 d4 c5 d5 c6 d6
      have HWR := Lib.hid (show 0 < k → IntKind.i64.wrap ((k : Int) - 1) = (j : Int) from fun h => by rw [IntKind.wrap_i64]; omega)
      have HEA := Lib.hid eA
      clear hj eA
      obtain ⟨t1, ht1⟩ : ∃ q, q = [gl].all (fkT F.gn) := ⟨_, rfl⟩
      have HT := Lib.hid (fun W {A2 : Option Addr} {n2 c2 : Nat} (_ : Below w1.heap.size w1 W) (hi : Ints W W.heap.size A2 n2 c2 [gl]) => show Calls Try.prog 26 #[.agg #[.int .i64 F.em, .slice F.GA F.gn F.gc, .slice F.MA F.mn F.mc, .slice F.LA F.ln F.lc, .slice F.FA F.fn F.fc, .slice F.SA F.sn F.sc], .slice A2 n2 c2] W (RetV W t1) from by rw [ht1]; exact kthere_any F W.heap.size A2 n2 c2 [gl] W hgn hi (Nat.le_refl _))
      clear ht1
      obtain ⟨t2, ht2⟩ : ∃ q, q = anK he ex ey := ⟨_, rfl⟩
      have HN1 := Lib.hid (fun W (_ : Below w1.heap.size w1 W) => show Calls Try.prog 47 #[.bool he, .agg #[.int .i64 ex, .int .i64 ey]] W (RetV W t2) from by rw [ht2]; exact kanchor_any he ex ey W)
      clear ht2
      obtain ⟨t3, ht3⟩ : ∃ q, q = anK hx ux uy := ⟨_, rfl⟩
      have HN2 := Lib.hid (fun W (_ : Below w1.heap.size w1 W) => show Calls Try.prog 47 #[.bool hx, .agg #[.int .i64 ux, .int .i64 uy]] W (RetV W t3) from by rw [ht3]; exact kanchor_any hx ux uy W)
      clear ht3
      rw [HEA.out]
      go_upto_region 6 with fail
      obtain ⟨w3, hw3⟩ : ∃ z, z = wr.alloc (.cells #[.int .i64 gl, .bool he, .bool hx, .int .i64 ex, .int .i64 ey, .int .i64 ux, .int .i64 uy] 117) := ⟨_, rfl⟩
      obtain ⟨bx, hbx⟩ : ∃ z, z = wr.heap.size := ⟨_, rfl⟩
      rw [← hw3, ← hbx]
      have hA3 := (show Below w1.heap.size w1 w3 by rw [hw3]; exact hA.alloc hA.size _)
      have hX : w3.heap[bx]? = some (.cells #[.int .i64 gl, .bool he, .bool hx, .int .i64 ex, .int .i64 ey, .int .i64 ux, .int .i64 uy] 117 (0, 0)) := by rw [hw3, hbx]; exact heap_alloc_new _ _
      have x0 := up_fact (show w3.cell? ⟨bx, 0, none⟩ = some (.int .i64 gl) by rw [cell_of_row _ _ 0 _ _ _ hX]; rfl)
      have x1 := up_fact (show w3.cell? ⟨bx, 1, none⟩ = some (.bool he) by rw [cell_of_row _ _ 1 _ _ _ hX]; rfl)
      have x2 := up_fact (show w3.cell? ⟨bx, 2, none⟩ = some (.bool hx) by rw [cell_of_row _ _ 2 _ _ _ hX]; rfl)
      have x3 := up_fact (show w3.cell? ⟨bx, 3, none⟩ = some (.int .i64 ex) by rw [cell_of_row _ _ 3 _ _ _ hX]; rfl)
      have x4 := up_fact (show w3.cell? ⟨bx, 4, none⟩ = some (.int .i64 ey) by rw [cell_of_row _ _ 4 _ _ _ hX]; rfl)
      have x5 := up_fact (show w3.cell? ⟨bx, 5, none⟩ = some (.int .i64 ux) by rw [cell_of_row _ _ 5 _ _ _ hX]; rfl)
      have x6 := up_fact (show w3.cell? ⟨bx, 6, none⟩ = some (.int .i64 uy) by rw [cell_of_row _ _ 6 _ _ _ hX]; rfl)
      have hC := Below.refl w3.heap.size w3
      clear hX hw3 hbx
      go_cut [53] (fun v W => ∃ t : Bool, v = .bool t ∧ Below w1.heap.size w1 W)
      case first =>
        cases t1 with
        | false =>
          go_wp2_with fail
          have hU0 := bup hA3
          have hU1 := bup hC
          refine wp_region_text (fun x => ∃ d : Up w3.heap.size w3, x = d.W) (fun i => i == 3 || i == 4 || i == 11 || i == 19) 37 rfl (by kernel_rfl) (by kernel_rfl) ⟨⟨w3.drew, (Below.refl _ _).drew⟩, rfl⟩ ?_
          obtain ⟨wd, hwd⟩ : ∃ z, z = w3.drew := ⟨_, rfl⟩
          rw [← hwd]
          have hAd : Below w1.heap.size w1 wd := by rw [hwd]; exact hA3.drew
          have hCd : Below w3.heap.size w3 wd := by rw [hwd]; exact hC.drew
          clear hwd
          refine wpE_seg (m' := 34) 3 37 0 _ rfl (by kernel_rfl) (Nat.le_of_ble_eq_true (by kernel_rfl)) ?_
          simp only [List.drop_zero, List.take_succ_cons, List.take_zero]
          repeat (go_big_quiet_step (fail))
          refine wpQuiet_nil ?_
          refine wpE_act 33 3 _ _ (by kernel_rfl) (Nat.le_of_ble_eq_true (by kernel_rfl)) ?_
          simp only [List.drop_succ_cons, List.drop_zero, List.take_succ_cons, List.take_zero]
          go_wp2_with fail
          refine Mid.intro ⟨⟨⟨_, (hCd.alloc hCd.size _)⟩, rfl⟩, ?_⟩
          refine wpE_act 32 4 _ _ (by kernel_rfl) (Nat.le_of_ble_eq_true (by kernel_rfl)) ?_
          simp only [List.drop_succ_cons, List.drop_zero, List.take_succ_cons, List.take_zero]
          go_wp2_with (first | (go_at_call 26; refine (HT.out _ (hAd.alloc hAd.size _) (Ints.lit1 _ _ _)).mono ?_; rintro e w4 ⟨rfl, hb4⟩; have hA4 := bgo (hAd.alloc hAd.size _) hb4; have hC4 := bgo (hCd.alloc hCd.size _) hb4))
          refine Mid.intro ⟨⟨⟨_, hC4⟩, rfl⟩, ?_⟩
          refine wpE_seg (m' := 26) 6 32 5 _ rfl (by kernel_rfl) (Nat.le_of_ble_eq_true (by kernel_rfl)) ?_
          simp only [List.drop_succ_cons, List.drop_zero, List.take_succ_cons, List.take_zero]
          repeat (go_big_quiet_step (fail))
          refine wpQuiet_nil ?_
          refine wpE_act 25 11 _ _ (by kernel_rfl) (Nat.le_of_ble_eq_true (by kernel_rfl)) ?_
          simp only [List.drop_succ_cons, List.drop_zero, List.take_succ_cons, List.take_zero]
          go_wp2_with fail
          refine Mid.intro ⟨⟨⟨_, hC4⟩, rfl⟩, ?_⟩
          refine wpE_seg (m' := 18) 7 25 12 _ rfl (by kernel_rfl) (Nat.le_of_ble_eq_true (by kernel_rfl)) ?_
          simp only [List.drop_succ_cons, List.drop_zero, List.take_succ_cons, List.take_zero]
          repeat (go_big_quiet_step (fail))
          refine wpQuiet_nil ?_
          refine wpE_act 17 19 _ _ (by kernel_rfl) (Nat.le_of_ble_eq_true (by kernel_rfl)) ?_
          simp only [List.drop_succ_cons, List.drop_zero, List.take_succ_cons, List.take_zero]
          go_wp2_with fail
          refine Mid.intro ⟨⟨⟨_, hC4⟩, rfl⟩, ?_⟩
          refine wpE_seg (m' := 0) 17 17 20 _ rfl (by kernel_rfl) (Nat.le_of_ble_eq_true (by kernel_rfl)) ?_
          simp only [List.drop_succ_cons, List.drop_zero, List.take_succ_cons, List.take_zero]
          repeat (go_big_quiet_step (fail))
          refine wpQuiet_nil ?_
          refine wpE_nil ?_
          clear hU0 hU1
          go_wp2_with fail
          go_meet
          exact ⟨_, rfl, hA4⟩
        | true =>
          cases t2 with
          | false =>
            go_wp2_with fail
            have hU0 := bup hA3
            have hU1 := bup hC
            refine wp_region_text (fun x => ∃ d : Up w3.heap.size w3, x = d.W) (fun i => i == 3 || i == 4 || i == 11 || i == 19) 37 rfl (by kernel_rfl) (by kernel_rfl) ⟨⟨w3.drew, (Below.refl _ _).drew⟩, rfl⟩ ?_
            obtain ⟨wd, hwd⟩ : ∃ z, z = w3.drew := ⟨_, rfl⟩
            rw [← hwd]
            have hAd : Below w1.heap.size w1 wd := by rw [hwd]; exact hA3.drew
            have hCd : Below w3.heap.size w3 wd := by rw [hwd]; exact hC.drew
            clear hwd
            refine wpE_seg (m' := 34) 3 37 0 _ rfl (by kernel_rfl) (Nat.le_of_ble_eq_true (by kernel_rfl)) ?_
            simp only [List.drop_zero, List.take_succ_cons, List.take_zero]
            repeat (go_big_quiet_step (fail))
            refine wpQuiet_nil ?_
            refine wpE_act 33 3 _ _ (by kernel_rfl) (Nat.le_of_ble_eq_true (by kernel_rfl)) ?_
            simp only [List.drop_succ_cons, List.drop_zero, List.take_succ_cons, List.take_zero]
            go_wp2_with fail
            refine Mid.intro ⟨⟨⟨_, (hCd.alloc hCd.size _)⟩, rfl⟩, ?_⟩
            refine wpE_act 32 4 _ _ (by kernel_rfl) (Nat.le_of_ble_eq_true (by kernel_rfl)) ?_
            simp only [List.drop_succ_cons, List.drop_zero, List.take_succ_cons, List.take_zero]
            go_wp2_with (first | (go_at_call 26; refine (HT.out _ (hAd.alloc hAd.size _) (Ints.lit1 _ _ _)).mono ?_; rintro e w4 ⟨rfl, hb4⟩; have hA4 := bgo (hAd.alloc hAd.size _) hb4; have hC4 := bgo (hCd.alloc hCd.size _) hb4))
            refine Mid.intro ⟨⟨⟨_, hC4⟩, rfl⟩, ?_⟩
            refine wpE_seg (m' := 26) 6 32 5 _ rfl (by kernel_rfl) (Nat.le_of_ble_eq_true (by kernel_rfl)) ?_
            simp only [List.drop_succ_cons, List.drop_zero, List.take_succ_cons, List.take_zero]
            repeat (go_big_quiet_step (fail))
            refine wpQuiet_nil ?_
            refine wpE_act 25 11 _ _ (by kernel_rfl) (Nat.le_of_ble_eq_true (by kernel_rfl)) ?_
            simp only [List.drop_succ_cons, List.drop_zero, List.take_succ_cons, List.take_zero]
            go_wp2_with (first | (go_at_call 47; refine (HN1.out _ hA4).mono ?_; rintro e w5 ⟨rfl, hb5⟩; have hA5 := bgo hA4 hb5; have hC5 := bgo hC4 hb5))
            refine Mid.intro ⟨⟨⟨_, hC5⟩, rfl⟩, ?_⟩
            refine wpE_seg (m' := 18) 7 25 12 _ rfl (by kernel_rfl) (Nat.le_of_ble_eq_true (by kernel_rfl)) ?_
            simp only [List.drop_succ_cons, List.drop_zero, List.take_succ_cons, List.take_zero]
            repeat (go_big_quiet_step (fail))
            refine wpQuiet_nil ?_
            refine wpE_act 17 19 _ _ (by kernel_rfl) (Nat.le_of_ble_eq_true (by kernel_rfl)) ?_
            simp only [List.drop_succ_cons, List.drop_zero, List.take_succ_cons, List.take_zero]
            go_wp2_with fail
            refine Mid.intro ⟨⟨⟨_, hC5⟩, rfl⟩, ?_⟩
            refine wpE_seg (m' := 0) 17 17 20 _ rfl (by kernel_rfl) (Nat.le_of_ble_eq_true (by kernel_rfl)) ?_
            simp only [List.drop_succ_cons, List.drop_zero, List.take_succ_cons, List.take_zero]
            repeat (go_big_quiet_step (fail))
            refine wpQuiet_nil ?_
            refine wpE_nil ?_
            clear hU0 hU1
            go_wp2_with fail
            go_meet
            exact ⟨_, rfl, hA5⟩
          | true =>
            cases t3 with
            | false =>
              go_wp2_with fail
              have hU0 := bup hA3
              have hU1 := bup hC
              refine wp_region_text (fun x => ∃ d : Up w3.heap.size w3, x = d.W) (fun i => i == 3 || i == 4 || i == 11 || i == 19) 37 rfl (by kernel_rfl) (by kernel_rfl) ⟨⟨w3.drew, (Below.refl _ _).drew⟩, rfl⟩ ?_
              obtain ⟨wd, hwd⟩ : ∃ z, z = w3.drew := ⟨_, rfl⟩
              rw [← hwd]
              have hAd : Below w1.heap.size w1 wd := by rw [hwd]; exact hA3.drew
              have hCd : Below w3.heap.size w3 wd := by rw [hwd]; exact hC.drew
              clear hwd
              refine wpE_seg (m' := 34) 3 37 0 _ rfl (by kernel_rfl) (Nat.le_of_ble_eq_true (by kernel_rfl)) ?_
              simp only [List.drop_zero, List.take_succ_cons, List.take_zero]
              repeat (go_big_quiet_step (fail))
              refine wpQuiet_nil ?_
              refine wpE_act 33 3 _ _ (by kernel_rfl) (Nat.le_of_ble_eq_true (by kernel_rfl)) ?_
              simp only [List.drop_succ_cons, List.drop_zero, List.take_succ_cons, List.take_zero]
              go_wp2_with fail
              refine Mid.intro ⟨⟨⟨_, (hCd.alloc hCd.size _)⟩, rfl⟩, ?_⟩
              refine wpE_act 32 4 _ _ (by kernel_rfl) (Nat.le_of_ble_eq_true (by kernel_rfl)) ?_
              simp only [List.drop_succ_cons, List.drop_zero, List.take_succ_cons, List.take_zero]
              go_wp2_with (first | (go_at_call 26; refine (HT.out _ (hAd.alloc hAd.size _) (Ints.lit1 _ _ _)).mono ?_; rintro e w4 ⟨rfl, hb4⟩; have hA4 := bgo (hAd.alloc hAd.size _) hb4; have hC4 := bgo (hCd.alloc hCd.size _) hb4))
              refine Mid.intro ⟨⟨⟨_, hC4⟩, rfl⟩, ?_⟩
              refine wpE_seg (m' := 26) 6 32 5 _ rfl (by kernel_rfl) (Nat.le_of_ble_eq_true (by kernel_rfl)) ?_
              simp only [List.drop_succ_cons, List.drop_zero, List.take_succ_cons, List.take_zero]
              repeat (go_big_quiet_step (fail))
              refine wpQuiet_nil ?_
              refine wpE_act 25 11 _ _ (by kernel_rfl) (Nat.le_of_ble_eq_true (by kernel_rfl)) ?_
              simp only [List.drop_succ_cons, List.drop_zero, List.take_succ_cons, List.take_zero]
              go_wp2_with (first | (go_at_call 47; refine (HN1.out _ hA4).mono ?_; rintro e w5 ⟨rfl, hb5⟩; have hA5 := bgo hA4 hb5; have hC5 := bgo hC4 hb5))
              refine Mid.intro ⟨⟨⟨_, hC5⟩, rfl⟩, ?_⟩
              refine wpE_seg (m' := 18) 7 25 12 _ rfl (by kernel_rfl) (Nat.le_of_ble_eq_true (by kernel_rfl)) ?_
              simp only [List.drop_succ_cons, List.drop_zero, List.take_succ_cons, List.take_zero]
              repeat (go_big_quiet_step (fail))
              refine wpQuiet_nil ?_
              refine wpE_act 17 19 _ _ (by kernel_rfl) (Nat.le_of_ble_eq_true (by kernel_rfl)) ?_
              simp only [List.drop_succ_cons, List.drop_zero, List.take_succ_cons, List.take_zero]
              go_wp2_with (first | (go_at_call 47; refine (HN2.out _ hA5).mono ?_; rintro e w6 ⟨rfl, hb6⟩; have hA6 := bgo hA5 hb6; have hC6 := bgo hC5 hb6))
              refine Mid.intro ⟨⟨⟨_, hC6⟩, rfl⟩, ?_⟩
              refine wpE_seg (m' := 0) 17 17 20 _ rfl (by kernel_rfl) (Nat.le_of_ble_eq_true (by kernel_rfl)) ?_
              simp only [List.drop_succ_cons, List.drop_zero, List.take_succ_cons, List.take_zero]
              repeat (go_big_quiet_step (fail))
              refine wpQuiet_nil ?_
              refine wpE_nil ?_
              clear hU0 hU1
              go_wp2_with fail
              go_meet
              exact ⟨_, rfl, hA6⟩
            | true =>
              by_cases hk0 : k = 0
              · have p1 : decide ((0 : Int) < (k : Int)) = false := by simp; omega
                have p2 : decide (0 < k) = false := by simp; omega
                clear hk0
                go_wp2_with fail
                have hU0 := bup hA3
                have hU1 := bup hC
                refine wp_region_text (fun x => ∃ d : Up w3.heap.size w3, x = d.W) (fun i => i == 3 || i == 4 || i == 11 || i == 19) 37 rfl (by kernel_rfl) (by kernel_rfl) ⟨⟨w3.drew, (Below.refl _ _).drew⟩, rfl⟩ ?_
                obtain ⟨wd, hwd⟩ : ∃ z, z = w3.drew := ⟨_, rfl⟩
                rw [← hwd]
                have hAd : Below w1.heap.size w1 wd := by rw [hwd]; exact hA3.drew
                have hCd : Below w3.heap.size w3 wd := by rw [hwd]; exact hC.drew
                clear hwd
                refine wpE_seg (m' := 34) 3 37 0 _ rfl (by kernel_rfl) (Nat.le_of_ble_eq_true (by kernel_rfl)) ?_
                simp only [List.drop_zero, List.take_succ_cons, List.take_zero]
                repeat (go_big_quiet_step (fail))
                refine wpQuiet_nil ?_
                refine wpE_act 33 3 _ _ (by kernel_rfl) (Nat.le_of_ble_eq_true (by kernel_rfl)) ?_
                simp only [List.drop_succ_cons, List.drop_zero, List.take_succ_cons, List.take_zero]
                go_wp2_with fail
                refine Mid.intro ⟨⟨⟨_, (hCd.alloc hCd.size _)⟩, rfl⟩, ?_⟩
                refine wpE_act 32 4 _ _ (by kernel_rfl) (Nat.le_of_ble_eq_true (by kernel_rfl)) ?_
                simp only [List.drop_succ_cons, List.drop_zero, List.take_succ_cons, List.take_zero]
                go_wp2_with (first | (go_at_call 26; refine (HT.out _ (hAd.alloc hAd.size _) (Ints.lit1 _ _ _)).mono ?_; rintro e w4 ⟨rfl, hb4⟩; have hA4 := bgo (hAd.alloc hAd.size _) hb4; have hC4 := bgo (hCd.alloc hCd.size _) hb4))
                refine Mid.intro ⟨⟨⟨_, hC4⟩, rfl⟩, ?_⟩
                refine wpE_seg (m' := 26) 6 32 5 _ rfl (by kernel_rfl) (Nat.le_of_ble_eq_true (by kernel_rfl)) ?_
                simp only [List.drop_succ_cons, List.drop_zero, List.take_succ_cons, List.take_zero]
                repeat (go_big_quiet_step (fail))
                refine wpQuiet_nil ?_
                refine wpE_act 25 11 _ _ (by kernel_rfl) (Nat.le_of_ble_eq_true (by kernel_rfl)) ?_
                simp only [List.drop_succ_cons, List.drop_zero, List.take_succ_cons, List.take_zero]
                go_wp2_with (first | (go_at_call 47; refine (HN1.out _ hA4).mono ?_; rintro e w5 ⟨rfl, hb5⟩; have hA5 := bgo hA4 hb5; have hC5 := bgo hC4 hb5))
                refine Mid.intro ⟨⟨⟨_, hC5⟩, rfl⟩, ?_⟩
                refine wpE_seg (m' := 18) 7 25 12 _ rfl (by kernel_rfl) (Nat.le_of_ble_eq_true (by kernel_rfl)) ?_
                simp only [List.drop_succ_cons, List.drop_zero, List.take_succ_cons, List.take_zero]
                repeat (go_big_quiet_step (fail))
                refine wpQuiet_nil ?_
                refine wpE_act 17 19 _ _ (by kernel_rfl) (Nat.le_of_ble_eq_true (by kernel_rfl)) ?_
                simp only [List.drop_succ_cons, List.drop_zero, List.take_succ_cons, List.take_zero]
                go_wp2_with (first | (go_at_call 47; refine (HN2.out _ hA5).mono ?_; rintro e w6 ⟨rfl, hb6⟩; have hA6 := bgo hA5 hb6; have hC6 := bgo hC5 hb6))
                refine Mid.intro ⟨⟨⟨_, hC6⟩, rfl⟩, ?_⟩
                refine wpE_seg (m' := 0) 17 17 20 _ rfl (by kernel_rfl) (Nat.le_of_ble_eq_true (by kernel_rfl)) ?_
                simp only [List.drop_succ_cons, List.drop_zero, List.take_succ_cons, List.take_zero]
                repeat (go_big_quiet_step (fail))
                refine wpQuiet_nil ?_
                refine wpE_nil ?_
                clear hU0 hU1
                go_wp2_with fail
                go_meet
                exact ⟨_, rfl, hA6⟩
              · have p1 : decide ((0 : Int) < (k : Int)) = true := by simp; omega
                have p2 : decide (0 < k) = true := by simp; omega
                have hwr := HWR.out (by omega)
                clear hk0
                by_cases hxy : gl ≤ gl2
                · have p3 : decide (gl ≤ gl2) = true := by simpa using hxy
                  clear hxy
                  go_wp2_with fail
                  have hU0 := bup hA3
                  have hU1 := bup hC
                  refine wp_region_text (fun x => ∃ d : Up w3.heap.size w3, x = d.W) (fun i => i == 3 || i == 4 || i == 11 || i == 19) 37 rfl (by kernel_rfl) (by kernel_rfl) ⟨⟨w3.drew, (Below.refl _ _).drew⟩, rfl⟩ ?_
                  obtain ⟨wd, hwd⟩ : ∃ z, z = w3.drew := ⟨_, rfl⟩
                  rw [← hwd]
                  have hAd : Below w1.heap.size w1 wd := by rw [hwd]; exact hA3.drew
                  have hCd : Below w3.heap.size w3 wd := by rw [hwd]; exact hC.drew
                  clear hwd
                  refine wpE_seg (m' := 34) 3 37 0 _ rfl (by kernel_rfl) (Nat.le_of_ble_eq_true (by kernel_rfl)) ?_
                  simp only [List.drop_zero, List.take_succ_cons, List.take_zero]
                  repeat (go_big_quiet_step (fail))
                  refine wpQuiet_nil ?_
                  refine wpE_act 33 3 _ _ (by kernel_rfl) (Nat.le_of_ble_eq_true (by kernel_rfl)) ?_
                  simp only [List.drop_succ_cons, List.drop_zero, List.take_succ_cons, List.take_zero]
                  go_wp2_with fail
                  refine Mid.intro ⟨⟨⟨_, (hCd.alloc hCd.size _)⟩, rfl⟩, ?_⟩
                  refine wpE_act 32 4 _ _ (by kernel_rfl) (Nat.le_of_ble_eq_true (by kernel_rfl)) ?_
                  simp only [List.drop_succ_cons, List.drop_zero, List.take_succ_cons, List.take_zero]
                  go_wp2_with (first | (go_at_call 26; refine (HT.out _ (hAd.alloc hAd.size _) (Ints.lit1 _ _ _)).mono ?_; rintro e w4 ⟨rfl, hb4⟩; have hA4 := bgo (hAd.alloc hAd.size _) hb4; have hC4 := bgo (hCd.alloc hCd.size _) hb4))
                  refine Mid.intro ⟨⟨⟨_, hC4⟩, rfl⟩, ?_⟩
                  refine wpE_seg (m' := 26) 6 32 5 _ rfl (by kernel_rfl) (Nat.le_of_ble_eq_true (by kernel_rfl)) ?_
                  simp only [List.drop_succ_cons, List.drop_zero, List.take_succ_cons, List.take_zero]
                  repeat (go_big_quiet_step (fail))
                  refine wpQuiet_nil ?_
                  refine wpE_act 25 11 _ _ (by kernel_rfl) (Nat.le_of_ble_eq_true (by kernel_rfl)) ?_
                  simp only [List.drop_succ_cons, List.drop_zero, List.take_succ_cons, List.take_zero]
                  go_wp2_with (first | (go_at_call 47; refine (HN1.out _ hA4).mono ?_; rintro e w5 ⟨rfl, hb5⟩; have hA5 := bgo hA4 hb5; have hC5 := bgo hC4 hb5))
                  refine Mid.intro ⟨⟨⟨_, hC5⟩, rfl⟩, ?_⟩
                  refine wpE_seg (m' := 18) 7 25 12 _ rfl (by kernel_rfl) (Nat.le_of_ble_eq_true (by kernel_rfl)) ?_
                  simp only [List.drop_succ_cons, List.drop_zero, List.take_succ_cons, List.take_zero]
                  repeat (go_big_quiet_step (fail))
                  refine wpQuiet_nil ?_
                  refine wpE_act 17 19 _ _ (by kernel_rfl) (Nat.le_of_ble_eq_true (by kernel_rfl)) ?_
                  simp only [List.drop_succ_cons, List.drop_zero, List.take_succ_cons, List.take_zero]
                  go_wp2_with (first | (go_at_call 47; refine (HN2.out _ hA5).mono ?_; rintro e w6 ⟨rfl, hb6⟩; have hA6 := bgo hA5 hb6; have hC6 := bgo hC5 hb6))
                  refine Mid.intro ⟨⟨⟨_, hC6⟩, rfl⟩, ?_⟩
                  refine wpE_seg (m' := 0) 17 17 20 _ rfl (by kernel_rfl) (Nat.le_of_ble_eq_true (by kernel_rfl)) ?_
                  simp only [List.drop_succ_cons, List.drop_zero, List.take_succ_cons, List.take_zero]
                  repeat (go_big_quiet_step (fail))
                  refine wpQuiet_nil ?_
                  refine wpE_nil ?_
                  clear hU0 hU1
                  go_wp2_with fail
                  go_meet
                  exact ⟨_, rfl, hA6⟩
                · have p3 : decide (gl ≤ gl2) = false := by simpa using hxy
                  clear hxy
                  go_wp2_with fail
                  have hU0 := bup hA3
                  have hU1 := bup hC
                  refine wp_region_text (fun x => ∃ d : Up w3.heap.size w3, x = d.W) (fun i => i == 3 || i == 4 || i == 11 || i == 19) 37 rfl (by kernel_rfl) (by kernel_rfl) ⟨⟨w3.drew, (Below.refl _ _).drew⟩, rfl⟩ ?_
                  obtain ⟨wd, hwd⟩ : ∃ z, z = w3.drew := ⟨_, rfl⟩
                  rw [← hwd]
                  have hAd : Below w1.heap.size w1 wd := by rw [hwd]; exact hA3.drew
                  have hCd : Below w3.heap.size w3 wd := by rw [hwd]; exact hC.drew
                  clear hwd
                  refine wpE_seg (m' := 34) 3 37 0 _ rfl (by kernel_rfl) (Nat.le_of_ble_eq_true (by kernel_rfl)) ?_
                  simp only [List.drop_zero, List.take_succ_cons, List.take_zero]
                  repeat (go_big_quiet_step (fail))
                  refine wpQuiet_nil ?_
                  refine wpE_act 33 3 _ _ (by kernel_rfl) (Nat.le_of_ble_eq_true (by kernel_rfl)) ?_
                  simp only [List.drop_succ_cons, List.drop_zero, List.take_succ_cons, List.take_zero]
                  go_wp2_with fail
                  refine Mid.intro ⟨⟨⟨_, (hCd.alloc hCd.size _)⟩, rfl⟩, ?_⟩
                  refine wpE_act 32 4 _ _ (by kernel_rfl) (Nat.le_of_ble_eq_true (by kernel_rfl)) ?_
                  simp only [List.drop_succ_cons, List.drop_zero, List.take_succ_cons, List.take_zero]
                  go_wp2_with (first | (go_at_call 26; refine (HT.out _ (hAd.alloc hAd.size _) (Ints.lit1 _ _ _)).mono ?_; rintro e w4 ⟨rfl, hb4⟩; have hA4 := bgo (hAd.alloc hAd.size _) hb4; have hC4 := bgo (hCd.alloc hCd.size _) hb4))
                  refine Mid.intro ⟨⟨⟨_, hC4⟩, rfl⟩, ?_⟩
                  refine wpE_seg (m' := 26) 6 32 5 _ rfl (by kernel_rfl) (Nat.le_of_ble_eq_true (by kernel_rfl)) ?_
                  simp only [List.drop_succ_cons, List.drop_zero, List.take_succ_cons, List.take_zero]
                  repeat (go_big_quiet_step (fail))
                  refine wpQuiet_nil ?_
                  refine wpE_act 25 11 _ _ (by kernel_rfl) (Nat.le_of_ble_eq_true (by kernel_rfl)) ?_
                  simp only [List.drop_succ_cons, List.drop_zero, List.take_succ_cons, List.take_zero]
                  go_wp2_with (first | (go_at_call 47; refine (HN1.out _ hA4).mono ?_; rintro e w5 ⟨rfl, hb5⟩; have hA5 := bgo hA4 hb5; have hC5 := bgo hC4 hb5))
                  refine Mid.intro ⟨⟨⟨_, hC5⟩, rfl⟩, ?_⟩
                  refine wpE_seg (m' := 18) 7 25 12 _ rfl (by kernel_rfl) (Nat.le_of_ble_eq_true (by kernel_rfl)) ?_
                  simp only [List.drop_succ_cons, List.drop_zero, List.take_succ_cons, List.take_zero]
                  repeat (go_big_quiet_step (fail))
                  refine wpQuiet_nil ?_
                  refine wpE_act 17 19 _ _ (by kernel_rfl) (Nat.le_of_ble_eq_true (by kernel_rfl)) ?_
                  simp only [List.drop_succ_cons, List.drop_zero, List.take_succ_cons, List.take_zero]
                  go_wp2_with (first | (go_at_call 47; refine (HN2.out _ hA5).mono ?_; rintro e w6 ⟨rfl, hb6⟩; have hA6 := bgo hA5 hb6; have hC6 := bgo hC5 hb6))
                  refine Mid.intro ⟨⟨⟨_, hC6⟩, rfl⟩, ?_⟩
                  refine wpE_seg (m' := 0) 17 17 20 _ rfl (by kernel_rfl) (Nat.le_of_ble_eq_true (by kernel_rfl)) ?_
                  simp only [List.drop_succ_cons, List.drop_zero, List.take_succ_cons, List.take_zero]
                  repeat (go_big_quiet_step (fail))
                  refine wpQuiet_nil ?_
                  refine wpE_nil ?_
                  clear hU0 hU1
                  go_wp2_with fail
                  go_meet
                  exact ⟨_, rfl, hA6⟩
      obtain ⟨t, rfl, hA6⟩ := hcut
      clear hA3 hC
      rcases t with _ | _
      · go_wp2_with fail
        go_roundw
        case rel => exact ⟨k + 1, by go_num, by omega, hA6⟩
        case measure => simp [intOf] <;> omega
      · go_wp2_with fail
        go_ret
        exact ⟨false, rfl, trivial, HB1.out.trans (hA6.mono (by omega))⟩

end Go.Proofs.Ytngdolmmaiogiaa
