/- The walk of lookups. Condition: the font reads as its shape. Printed by wip/tools/g27i.py. -/
import Derived.Test.YtbjeflblhjfagaaFontI0
import Derived.StillTailTactics
namespace Go.Proofs.Ytbjeflblhjfagaa
open Go.RowKit

set_option maxRecDepth 100000 in
set_option maxHeartbeats 4000000 in
theorem lookups_any (F : Fnt) (B : Nat) (ls : List PL) (w : World) (h : FntOk w B F) (hls : LksR w B F.LA F.ln F.lc ls) (hB : B ≤ w.heap.size) :
    Calls Try.prog 32 #[.agg #[.int .i64 F.em, .slice F.GA F.gn F.gc, .slice F.MA F.mn F.mc, .slice F.LA F.ln F.lc, .slice F.FA F.fn F.fc, .slice F.SA F.sn F.sc]] w (RetB w (LkP ls)) := by
  have hcap := hls.cap
  have hln := hls.1
  obtain ⟨w1, hw1⟩ : ∃ z, z = w.alloc (.cells #[.int .i64 F.em, .slice F.GA F.gn F.gc, .slice F.MA F.mn F.mc, .slice F.LA F.ln F.lc, .slice F.FA F.fn F.fc, .slice F.SA F.sn F.sc] 28) := ⟨_, rfl⟩
  have hb1 : Below w.heap.size w w1 := by rw [hw1]; exact (Below.refl _ _).alloc (Nat.le_refl _) _
  have hs1 : w.heap.size < w1.heap.size := by rw [hw1]; simp
  have hfb : FBox w1 w.heap.size F := by rw [hw1]; exact FBox.new w F
  obtain ⟨f0, f1, f2, f3, f4, f5⟩ := hfb.cells
  have g0 := up_fact f0
  have g1 := up_fact f1
  have g2 := up_fact f2
  have g3 := up_fact f3
  have g4 := up_fact f4
  have g5 := up_fact f5
  have hA0 := Below.refl w1.heap.size w1
  clear f0 f1 f2 f3 f4 f5 hfb
  have HW1 := Lib.hid hw1
  clear hw1
  have HF := Lib.hid (h.below (hb1.mono hB))
  have HLS := Lib.hid (hls.below (hb1.mono hB))
  have HLN := Lib.hid hln
  clear h hls hln
  go_enter Try.func32, Try.ntmps32
  go_upto_region 1 with (fail)
  rw [← HW1.out]
  have hBw : B ≤ w1.heap.size := by omega
  by_cases h64 : 64 < F.ln
  · have q0 : decide ((64 : Int) < (F.ln : Int)) = true := by simp; omega
    have q00 : decide (64 < F.ln) = true := by simp; omega
    clear h64
    go_wp2_with fail
    go_ret
    exact ⟨_, rfl, LkP.false, hb1.trans (hA0.mono (by omega))⟩
  have q0 : decide ((64 : Int) < (F.ln : Int)) = false := by simp; omega
  have q00 : decide (64 < F.ln) = false := by simp; omega
  clear h64
  go_wp2_with fail
  go_loopw [3] (fun v wr => ∃ k : Nat, v = .int .i64 (k : Int) ∧ k ≤ F.ln ∧ (∀ i, i < k → LkOne (ls.getD i nL)) ∧ Below w1.heap.size w1 wr) (fun v _ => F.ln - (intOf v).toNat)
  case atStart => exact ⟨0, rfl, Nat.zero_le _, fun i hi => by omega, hA0⟩
  case round =>
    obtain ⟨k, rfl, hk, hall, hA⟩ := hrel
    have HALL := Lib.hid hall
    clear hall
    by_cases hlt : k < F.ln
    · obtain ⟨b, o, l, eL, hbb, ⟨c0, c1, c2, c3⟩, hki, hsub⟩ := HLS.out.2.2.2 k hlt
      obtain ⟨pl, hpl⟩ : ∃ p, p = ls.getD k nL := ⟨_, rfl⟩
      rw [← hpl] at hki hsub
      have HPL := Lib.hid hpl
      have HKI := Lib.hid hki
      have HSUBS := Lib.hid hsub
      have hcaps := hsub.cap
      have hsn := hsub.1
      have HSN := Lib.hid hsn
      have HCALL := Lib.hid (fun s cov tos W (hW : Below w1.heap.size w1 W) (h1 : SbOk w1 B s) (h2 : Ints w1 B s.co.A s.co.n s.co.c cov) (h3 : Grd w1 B s.tt.A s.tt.n s.tt.c tos) => sub_any F B l s cov tos W (HF.out.below (hW.mono hBw)) (h1.below (hW.mono hBw)) (h2.below (hW.mono hBw)) (h3.below (hW.mono hBw)) (by have := hW.size; omega))
      rw [eL] at g3 HCALL ⊢
      have v0 := up_fact c0
      have v1 := up_fact c1
      have v2 := up_fact c2
      have v3 := up_fact c3
      clear c0 c1 c2 c3 hpl hki hsub hsn
      go_upto_region 7 with (fail)
      obtain ⟨w3, hw3⟩ : ∃ z, z = wr.alloc (.cells #[.int .i64 l.ki, .int .i64 l.fl, .int .i64 l.se, .slice l.su.A l.su.n l.su.c] 31) := ⟨_, rfl⟩
      obtain ⟨bx, hbx⟩ : ∃ z, z = wr.heap.size := ⟨_, rfl⟩
      rw [← hw3, ← hbx]
      have hA3 := (show Below w1.heap.size w1 w3 by rw [hw3]; exact hA.alloc hA.size _)
      have hX : w3.heap[bx]? = some (.cells #[.int .i64 l.ki, .int .i64 l.fl, .int .i64 l.se, .slice l.su.A l.su.n l.su.c] 31 (0, 0)) := by rw [hw3, hbx]; exact heap_alloc_new _ _
      have xf0 := up_fact (show w3.cell? ⟨bx, 0, none⟩ = some (.int .i64 l.ki) by rw [cell_of_row _ _ 0 _ _ _ hX]; rfl)
      have xf1 := up_fact (show w3.cell? ⟨bx, 1, none⟩ = some (.int .i64 l.fl) by rw [cell_of_row _ _ 1 _ _ _ hX]; rfl)
      have xf2 := up_fact (show w3.cell? ⟨bx, 2, none⟩ = some (.int .i64 l.se) by rw [cell_of_row _ _ 2 _ _ _ hX]; rfl)
      have xf3 := up_fact (show w3.cell? ⟨bx, 3, none⟩ = some (.slice l.su.A l.su.n l.su.c) by rw [cell_of_row _ _ 3 _ _ _ hX]; rfl)
      have hC := Below.refl w3.heap.size w3
      clear hX hw3 hbx
      go_cut [50] (fun v W => ∃ t : Bool, v = .bool t ∧ Below w1.heap.size w1 W ∧ Below w3.heap.size w3 W ∧ (t = false → l.su.n ≤ 64))
      case first =>
        by_cases hs64 : 64 < l.su.n
        · have r0 : decide ((64 : Int) < (l.su.n : Int)) = true := by simp; omega
          have r00 : decide (64 < l.su.n) = true := by simp; omega
          clear hs64
          go_wp2_with (first
            | (go_at_call 50; refine (sorts_any _ _).mono ?_; rintro e w9 ⟨rfl, rfl⟩)
            | (go_at_call 44; refine (within_any _ _ _ _).mono ?_; rintro e w9 ⟨rfl, rfl⟩))
          all_goals
            go_meet
            exact ⟨_, rfl, hA3, hC, fun h => by first | cases h | (simp_all; done)⟩
        · have r0 : decide ((64 : Int) < (l.su.n : Int)) = false := by simp; omega
          have r00 : decide (64 < l.su.n) = false := by simp; omega
          have HN := Lib.hid (show l.su.n ≤ 64 by omega)
          clear hs64
          go_wp2_with (first
            | (go_at_call 50; refine (sorts_any _ _).mono ?_; rintro e w9 ⟨rfl, rfl⟩)
            | (go_at_call 44; refine (within_any _ _ _ _).mono ?_; rintro e w9 ⟨rfl, rfl⟩))
          all_goals
            go_meet
            exact ⟨_, rfl, hA3, hC, fun _ => HN.out⟩
      obtain ⟨t, rfl, hA3, hC, hE⟩ := hcut
      have HE := Lib.hid hE
      clear hE
      rcases t with _ | _
      rotate_left
      · go_wp2_with fail
        go_ret
        exact ⟨_, rfl, LkP.false, hb1.trans (hA3.mono (by omega))⟩
      go_upto_region 9 with (fail)
      obtain ⟨wy, hwy⟩ : ∃ z : World, z = wc := ⟨_, rfl⟩
      subst hwy
      go_cut [77] (fun v W => ∃ t : Bool, v = .bool t ∧ Below w1.heap.size w1 W ∧ Below w3.heap.size w3 W)
      case first =>
        go_wp2_with (first
          | (go_at_call 44; refine (within_any _ _ _ _).mono ?_; rintro e w9 ⟨rfl, rfl⟩))
        all_goals
          go_meet
          exact ⟨_, rfl, hA3, hC⟩
      obtain ⟨t, rfl, hA3, hC⟩ := hcut
      rcases t with _ | _
      rotate_left
      · go_wp2_with fail
        go_ret
        exact ⟨_, rfl, LkP.false, hb1.trans (hA3.mono (by omega))⟩
      go_wp2_with fail
      obtain ⟨wq, hwq⟩ : ∃ wq : World, wq = wc := ⟨_, rfl⟩
      subst hwq
      go_loopw [5] (fun v wr => ∃ j : Nat, v = .int .i64 (j : Int) ∧ j ≤ l.su.n ∧ (∀ i, i < j → SubP pl.1 (pl.2.getD i nS).1 (pl.2.getD i nS).2 true) ∧ Below w1.heap.size w1 wr ∧ Below w3.heap.size w3 wr) (fun v _ => l.su.n - (intOf v).toNat)
      case atStart => exact ⟨0, rfl, Nat.zero_le _, fun i hi => by omega, hA3, hC⟩
      case round =>
        obtain ⟨j, rfl, hj, hall, hA3, hC⟩ := hrel
        have HALLS := Lib.hid hall
        clear hall
        by_cases hlj : j < l.su.n
        · obtain ⟨b2, o2, s, eS, hbb2, ⟨c0, c1, c2, c3, c4, c5, c6, c7, c8, c9, c10, c11⟩, hok, hco, hto⟩ := HSUBS.out.2.2.2 j hlj
          obtain ⟨ps, hps⟩ : ∃ p, p = pl.2.getD j nS := ⟨_, rfl⟩
          rw [← hps] at hco hto
          have HPS := Lib.hid hps
          have HC2 := Lib.hid (fun W hW => HCALL.out s ps.1 ps.2 W hW hok hco hto)
          rw [eS] at xf3 HC2
          have y0 := up_fact c0
          have y1 := up_fact c1
          have y2 := up_fact c2
          have y3 := up_fact c3
          have y4 := up_fact c4
          have y5 := up_fact c5
          have y6 := up_fact c6
          have y7 := up_fact c7
          have y8 := up_fact c8
          have y9 := up_fact c9
          have y10 := up_fact c10
          have y11 := up_fact c11
          clear c0 c1 c2 c3 c4 c5 c6 c7 c8 c9 c10 c11 hok hco hto hps
          go_upto_region 14 with (fail)
          go_still_tail 7, (by kernel_rfl)
          change wpList _ _ _ _ _ wr.drew
          have hA3 := hA3.drew
          have hC := hC.drew
          generalize wr.drew = w2 at *
          go_wp2_with (go_at_call 51; refine (HC2.out _ hA3).mono ?_; rintro e w9 ⟨t9, rfl, hp, hb⟩; have HP := Lib.hid hp; have hA3 := bgo hA3 hb; have hC := bgo hC hb; clear hb hp; rcases t9 with _ | _)
          · go_ret
            exact ⟨_, rfl, LkP.false, hb1.trans (hA3.mono (by omega))⟩
          · go_roundw
            case rel => exact ⟨j + 1, by go_num, by omega, all_succ HALLS.out (by have h1 := HP.out; rw [HKI.out, HPS.out] at h1; exact h1), hA3, hC⟩
            case measure => simp [intOf]; omega
        · have hz1 : decide ((j : Int) < (l.su.n : Int)) = false := by simp; omega
          have HJ := Lib.hid (show j = l.su.n by omega)
          go_wp2_with fail
          go_roundw
          case rel => exact ⟨k + 1, by go_num, by omega, all_succ HALL.out (by rw [← HPL.out]; exact ⟨by rw [HSN.out]; exact HE.out (by first | rfl | trivial), fun i hi => HALLS.out i (by rw [HJ.out, ← HSN.out]; exact hi)⟩), hA3⟩
          case measure => simp [intOf]; omega
    · obtain rfl : k = F.ln := by omega
      have hz : ¬ F.ln < F.ln := Nat.lt_irrefl _
      go_wp2_with fail
      go_ret
      exact ⟨_, rfl, fun _ i hi => HALL.out i (by rw [← HLN.out]; exact hi), hb1.trans (hA.mono (by omega))⟩

end Go.Proofs.Ytbjeflblhjfagaa
