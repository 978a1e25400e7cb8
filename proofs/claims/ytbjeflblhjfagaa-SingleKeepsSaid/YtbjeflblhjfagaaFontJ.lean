/- The walk of feats. Condition: the font reads as its shape. Printed by wip/tools/g27j.py. -/
import Derived.Test.YtbjeflblhjfagaaFontD0
import Derived.Deep.RegionWith
namespace Go.Proofs.Ytbjeflblhjfagaa
open Go.RowKit

set_option maxRecDepth 100000 in
set_option maxHeartbeats 4000000 in
theorem feats_any (F : Fnt) (B : Nat) (w : World) (h : FntOk w B F) (hB : B ≤ w.heap.size) :
    Calls Try.prog 33 #[.agg #[.int .i64 F.em, .slice F.GA F.gn F.gc, .slice F.MA F.mn F.mc, .slice F.LA F.ln F.lc, .slice F.FA F.fn F.fc, .slice F.SA F.sn F.sc]] w (RetB w fun _ => True) := by
  have hcap := h.hF.cap
  have hcapl := h.hL.cap
  obtain ⟨w1, hw1⟩ : ∃ z, z = w.alloc (.cells #[.int .i64 F.em, .slice F.GA F.gn F.gc, .slice F.MA F.mn F.mc, .slice F.LA F.ln F.lc, .slice F.FA F.fn F.fc, .slice F.SA F.sn F.sc] 28) := ⟨_, rfl⟩
  have hb1 : Below w.heap.size w w1 := by rw [hw1]; exact (Below.refl _ _).alloc (Nat.le_refl _) _
  have hs1 : w.heap.size < w1.heap.size := by rw [hw1]; simp
  have hfb : FBox w1 w.heap.size F := by rw [hw1]; exact FBox.new w F
  obtain ⟨f0, f1, f2, f3, f4, f5⟩ := hfb.cells
  have g0 := up_fact f0
  have g1 := up_fact f1
  have g2 := up_fact f2
  have g3 := up_fact f3
  have g4 := up_fact f4
  have g5 := up_fact f5
  have hA0 := Below.refl w1.heap.size w1
  clear f0 f1 f2 f3 f4 f5 hfb
  have HW1 := Lib.hid hw1
  clear hw1
  have HF := Lib.hid (h.hF.below (hb1.mono hB))
  clear h
  go_enter Try.func33, Try.ntmps33
  go_upto_region 1 with (fail)
  rw [← HW1.out]
  have hBw : B ≤ w1.heap.size := by omega
  by_cases h64 : 64 < F.fn
  · have q0 : decide ((64 : Int) < (F.fn : Int)) = true := by simp; omega
    have q00 : decide (64 < F.fn) = true := by simp; omega
    clear h64
    go_wp2_with fail
    go_ret
    exact ⟨_, rfl, trivial, hb1.trans (hA0.mono (by omega))⟩
  have q0 : decide ((64 : Int) < (F.fn : Int)) = false := by simp; omega
  have q00 : decide (64 < F.fn) = false := by simp; omega
  clear h64
  go_wp2_with fail
  go_loopw [3] (fun v wr => ∃ k : Nat, v = .int .i64 (k : Int) ∧ k ≤ F.fn ∧ Below w1.heap.size w1 wr) (fun v _ => F.fn - (intOf v).toNat)
  case atStart => exact ⟨0, rfl, Nat.zero_le _, hA0⟩
  case round =>
    obtain ⟨k, rfl, hk, hA⟩ := hrel
    by_cases hlt : k < F.fn
    · obtain ⟨b, o, ta, sc, Alo, nlo, clo, eF, hbb, ⟨c0, c1, c2⟩, hta, _, hlo⟩ := HF.out.atFeat hlt
      obtain ⟨zs, hzs⟩ := hlo.ints
      have hcz := hzs.cap
      rw [eF] at g4 ⊢
      have v0 := up_fact c0
      have v1 := up_fact c1
      have v2 := up_fact c2
      have HZ := Lib.hid hzs
      clear c0 c1 c2 hlo hzs
      go_upto_region 7 with (fail)
      obtain ⟨w3, hw3⟩ : ∃ z, z = wr.alloc (.cells #[.string ta, .int .i64 sc, .slice Alo nlo clo] 92) := ⟨_, rfl⟩
      obtain ⟨bx, hbx⟩ : ∃ z, z = wr.heap.size := ⟨_, rfl⟩
      rw [← hw3, ← hbx]
      have hA3 := (show Below w1.heap.size w1 w3 by rw [hw3]; exact hA.alloc hA.size _)
      have hX : w3.heap[bx]? = some (.cells #[.string ta, .int .i64 sc, .slice Alo nlo clo] 92 (0, 0)) := by rw [hw3, hbx]; exact heap_alloc_new _ _
      have xf0 := up_fact (show w3.cell? ⟨bx, 0, none⟩ = some (.string ta) by rw [cell_of_row _ _ 0 _ _ _ hX]; rfl)
      have xf1 := up_fact (show w3.cell? ⟨bx, 1, none⟩ = some (.int .i64 sc) by rw [cell_of_row _ _ 1 _ _ _ hX]; rfl)
      have xf2 := up_fact (show w3.cell? ⟨bx, 2, none⟩ = some (.slice Alo nlo clo) by rw [cell_of_row _ _ 2 _ _ _ hX]; rfl)
      have hC := Below.refl w3.heap.size w3
      clear hX hw3 hbx
      go_cut [45] (fun v W => ∃ t : Bool, v = .bool t ∧ Below w1.heap.size w1 W ∧ Below w3.heap.size w3 W ∧ (t = false → ta.size = 4))
      case first =>
        by_cases hs4 : ta.size = 4
        · have r0 : ((ta.size : Int) != 4) = false := by simp [hs4]
          have HN := Lib.hid hs4
          clear hs4
          go_wp2_with (first
            | (go_at_call 44; refine (within_any _ _ _ _).mono ?_; rintro e w9 ⟨rfl, rfl⟩)
            | (go_at_call 46; refine (rises_any B Alo nlo clo zs _ (HZ.out.below (hA3.mono hBw))).mono ?_; rintro e w9 ⟨rfl, hb⟩; have hA3 := bgo hA3 hb; have hC := bgo hC hb; clear hb))
          all_goals
            go_meet
            exact ⟨_, rfl, hA3, hC, fun _ => HN.out⟩
        · have r0 : ((ta.size : Int) != 4) = true := by simp [bne]; omega
          clear hs4
          go_wp2_with (first
            | (go_at_call 44; refine (within_any _ _ _ _).mono ?_; rintro e w9 ⟨rfl, rfl⟩)
            | (go_at_call 46; refine (rises_any B Alo nlo clo zs _ (HZ.out.below (hA3.mono hBw))).mono ?_; rintro e w9 ⟨rfl, hb⟩; have hA3 := bgo hA3 hb; have hC := bgo hC hb; clear hb))
          all_goals
            go_meet
            exact ⟨_, rfl, hA3, hC, fun h => by first | cases h | (simp_all; done)⟩
      obtain ⟨t, rfl, hA3, hC, hE⟩ := hcut
      have HE := Lib.hid hE
      clear hE
      rcases t with _ | _
      rotate_left
      · go_wp2_with fail
        go_ret
        exact ⟨_, rfl, trivial, hb1.trans (hA3.mono (by omega))⟩
      have hs4 := HE.out (by first | rfl | trivial)
      go_wp2_with fail
      obtain ⟨wq, hwq⟩ : ∃ wq : World, wq = wc := ⟨_, rfl⟩
      subst hwq
      go_loopw [5] (fun v wr => ∃ j : Nat, v = .int .i64 (j : Int) ∧ j ≤ 4 ∧ Below w1.heap.size w1 wr ∧ Below w3.heap.size w3 wr) (fun v _ => 4 - (intOf v).toNat)
      case atStart => exact ⟨0, rfl, Nat.zero_le _, hA3, hC⟩
      case round =>
        obtain ⟨j, rfl, hj, hA3, hC⟩ := hrel
        by_cases hlj : j < 4
        · have hjs : j < ta.size := by omega
          go_wp2_with fail
          all_goals first
            | (go_ret; exact ⟨_, rfl, trivial, hb1.trans (hA3.mono (by omega))⟩)
            | (go_roundw; (case rel => exact ⟨j + 1, by go_num, by omega, hA3, hC⟩); (case measure => simp [intOf]; omega))
        · have hz1 : decide ((j : Int) < (4 : Int)) = false := by simp; omega
          go_wp2_with fail
          obtain ⟨wp, hwp⟩ : ∃ wp : World, wp = wr := ⟨_, rfl⟩
          subst hwp
          go_loopw [6] (fun v wr => ∃ p : Nat, v = .int .i64 (p : Int) ∧ p ≤ nlo ∧ Below w1.heap.size w1 wr ∧ Below w3.heap.size w3 wr) (fun v _ => nlo - (intOf v).toNat)
          case atStart => exact ⟨0, rfl, Nat.zero_le _, hA3, hC⟩
          case round =>
            obtain ⟨p, rfl, hp, hA3, hC⟩ := hrel
            by_cases hlp : p < nlo
            · obtain ⟨b5, o5, eZ, _, hcz5⟩ := HZ.out.getD hlp
              obtain ⟨x, hx⟩ : ∃ x, x = zs.getD p 0 := ⟨_, rfl⟩
              rw [← hx] at hcz5
              have y5 := up_fact hcz5
              rw [eZ] at xf2
              have hwl : IntKind.i64.wrap ((F.ln : Int) - 1) = (F.ln : Int) - 1 := by rw [IntKind.wrap_i64]; omega
              clear hcz5 hx
              obtain ⟨t1, ht1⟩ : ∃ t, t = wiB x 0 ((F.ln : Int) - 1) := ⟨_, rfl⟩
              have Ht1 := Lib.hid (show ∀ W, Calls Try.prog 44 #[.int .i64 x, .int .i64 0, .int .i64 ((F.ln : Int) - 1)] W fun e w' => e = .returned (.bool t1) ∧ W = w' from fun W => by rw [ht1]; exact within_any _ _ _ W)
              clear ht1
              go_upto_region 17 with (fail)
              go_cut [79] (fun v W => ∃ t : Bool, v = .bool t ∧ Below w1.heap.size w1 W ∧ Below w3.heap.size w3 W)
              case first =>
                have hU0 := bup hA3
                have hU1 := bup hC
                refine wp_region_up wr.heap.size (by kernel_rfl) (by kernel_rfl) ?_
                repeat (go_big_quiet_step ((first | (go_at_call 44; exact Calls.up_same (Ht1.out _)))))
                refine wpQuiet_nil (up_all fun w2 hb2 => ?_)
                have hA3 := bgo hA3 hb2
                have hC := bgo hC hb2
                clear hb2 hU0 hU1
                go_wp2_with fail
                go_meet
                exact ⟨_, rfl, hA3, hC⟩
              obtain ⟨t, rfl, hA3, hC⟩ := hcut
              rcases t with _ | _
              · go_wp2_with fail
                go_roundw
                case rel => exact ⟨p + 1, by go_num, by omega, hA3, hC⟩
                case measure => simp [intOf]; omega
              · go_wp2_with fail
                go_ret
                exact ⟨_, rfl, trivial, hb1.trans (hA3.mono (by omega))⟩
            · have hz2 : decide ((p : Int) < (nlo : Int)) = false := by simp; omega
              go_wp2_with fail
              obtain ⟨wt, hwt⟩ : ∃ wt : World, wt = wr := ⟨_, rfl⟩
              subst hwt
              go_loopw [7] (fun v wr => ∃ q : Nat, v = .int .i64 (q : Int) ∧ q ≤ k ∧ Below w1.heap.size w1 wr ∧ Below w3.heap.size w3 wr) (fun v _ => k - (intOf v).toNat)
              case atStart => exact ⟨0, rfl, Nat.zero_le _, hA3, hC⟩
              case round =>
                obtain ⟨q, rfl, hq, hA3, hC⟩ := hrel
                by_cases hlq : q < k
                · obtain ⟨_, _, tb, sd, _, _, _, eF2, _, ⟨c0, c1, _⟩, _, _, _⟩ := HF.out.atFeat (k := q) (by omega)
                  rw [eF] at eF2
                  cases eF2
                  have hqn : q < F.fn := by omega
                  have z0 := up_fact c0
                  have z1 := up_fact c1
                  clear c0 c1
                  go_upto_region 22 with (fail)
                  obtain ⟨wv, hwv⟩ : ∃ wv : World, wv = wr := ⟨_, rfl⟩
                  subst hwv
                  go_cut [104] (fun v W => ∃ t : Bool, v = .bool t ∧ Below w1.heap.size w1 W ∧ Below w3.heap.size w3 W)
                  case first =>
                    obtain ⟨e1, he1⟩ : ∃ e : Bool, (tb.toList == ta.toList) = e := ⟨_, rfl⟩
                    obtain ⟨e2, he2⟩ : ∃ e : Bool, (sd == sc) = e := ⟨_, rfl⟩
                    rcases e1 with _ | _
                    · have hU0 := bup hA3
                      have hU1 := bup hC
                      refine wp_region_up wv.heap.size (by kernel_rfl) (by kernel_rfl) ?_
                      repeat (go_big_quiet_step ((fail)))
                      refine wpQuiet_nil (up_all fun w2 hb2 => ?_)
                      have hA3 := bgo hA3 hb2
                      have hC := bgo hC hb2
                      clear hb2 hU0 hU1
                      go_wp2_with fail
                      go_meet
                      exact ⟨_, rfl, hA3, hC⟩
                    · have hU0 := bup hA3
                      have hU1 := bup hC
                      refine wp_region_up wv.heap.size (by kernel_rfl) (by kernel_rfl) ?_
                      repeat (go_big_quiet_step ((fail)))
                      refine wpQuiet_nil (up_all fun w2 hb2 => ?_)
                      have hA3 := bgo hA3 hb2
                      have hC := bgo hC hb2
                      clear hb2 hU0 hU1
                      go_wp2_with fail
                      go_meet
                      exact ⟨_, rfl, hA3, hC⟩
                  obtain ⟨t, rfl, hA3, hC⟩ := hcut
                  rcases t with _ | _
                  · go_wp2_with fail
                    go_roundw
                    case rel => exact ⟨q + 1, by go_num, by omega, hA3, hC⟩
                    case measure => simp [intOf]; omega
                  · go_wp2_with fail
                    go_ret
                    exact ⟨_, rfl, trivial, hb1.trans (hA3.mono (by omega))⟩
                · have hz3 : decide ((q : Int) < (k : Int)) = false := by simp; omega
                  go_wp2_with fail
                  go_roundw
                  case rel => exact ⟨k + 1, by go_num, by omega, hA3⟩
                  case measure => simp [intOf]; omega
    · have hz4 : decide ((k : Int) < (F.fn : Int)) = false := by simp; omega
      go_wp2_with fail
      go_ret
      exact ⟨_, rfl, trivial, hb1.trans (hA.mono (by omega))⟩

end Go.Proofs.Ytbjeflblhjfagaa
