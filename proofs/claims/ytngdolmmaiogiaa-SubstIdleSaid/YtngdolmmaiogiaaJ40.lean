/- Joined: LawB. -/
import Derived.Test.YtngdolmmaiogiaaJ39

/- The walks of light, may. Condition: what they read reads as plain data. Printed by wip/tools/g32p.py. Printed by wip/tools. -/
namespace Go.Proofs.Ytngdolmmaiogiaa
open Go.RowKit

set_option maxRecDepth 100000 in
set_option maxHeartbeats 4000000 in
theorem light_any (F : Fnt) (B : Nat) (st : Nat) (nn : Int) (w : World) (h : FntOk w B F) (hB : B ≤ w.heap.size) (hst : st ≤ 1000) :
    Calls Try.prog 6 #[.agg #[.int .i64 F.em, .slice F.GA F.gn F.gc, .slice F.MA F.mn F.mc, .slice F.LA F.ln F.lc, .slice F.FA F.fn F.fc, .slice F.SA F.sn F.sc], .int .i64 (st : Int), .int .i64 nn] w (RetB w (fun _ => True)) := by
  have HF0 := Lib.hid h
  have hlc := h.hL.cap
  clear h
  obtain ⟨w1, hw_w1⟩ : ∃ z, z = w.alloc (.cells #[.int .i64 F.em, .slice F.GA F.gn F.gc, .slice F.MA F.mn F.mc, .slice F.LA F.ln F.lc, .slice F.FA F.fn F.fc, .slice F.SA F.sn F.sc] 28) := ⟨_, rfl⟩
  have hs_w1 : w1.heap.size = w.heap.size + 1 := by rw [hw_w1]; simp
  have hb_w1 : Below w.heap.size w w1 := by rw [hw_w1]; exact (Below.refl _ _).alloc (Nat.le_refl _) _
  have hx_0 : w1.heap[w.heap.size]? = some (.cells #[.int .i64 F.em, .slice F.GA F.gn F.gc, .slice F.MA F.mn F.mc, .slice F.LA F.ln F.lc, .slice F.FA F.fn F.fc, .slice F.SA F.sn F.sc] 28 (0, 0)) := by rw [hw_w1]; exact heap_alloc_new _ _
  have g0 := up_fact (show w1.cell? ⟨w.heap.size, 0, none⟩ = some (.int .i64 F.em) by rw [cell_of_row _ _ 0 _ _ _ hx_0]; rfl)
  have g1 := up_fact (show w1.cell? ⟨w.heap.size, 1, none⟩ = some (.slice F.GA F.gn F.gc) by rw [cell_of_row _ _ 1 _ _ _ hx_0]; rfl)
  have g2 := up_fact (show w1.cell? ⟨w.heap.size, 2, none⟩ = some (.slice F.MA F.mn F.mc) by rw [cell_of_row _ _ 2 _ _ _ hx_0]; rfl)
  have g3 := up_fact (show w1.cell? ⟨w.heap.size, 3, none⟩ = some (.slice F.LA F.ln F.lc) by rw [cell_of_row _ _ 3 _ _ _ hx_0]; rfl)
  have g4 := up_fact (show w1.cell? ⟨w.heap.size, 4, none⟩ = some (.slice F.FA F.fn F.fc) by rw [cell_of_row _ _ 4 _ _ _ hx_0]; rfl)
  have g5 := up_fact (show w1.cell? ⟨w.heap.size, 5, none⟩ = some (.slice F.SA F.sn F.sc) by rw [cell_of_row _ _ 5 _ _ _ hx_0]; rfl)
  have hA0 := Below.refl w1.heap.size w1
  have HS1 := Lib.hid hs_w1
  have hs1 : w.heap.size + 0 < w1.heap.size := by omega
  have HB1 := Lib.hid hb_w1
  have HW_w1 := Lib.hid hw_w1
  clear hw_w1 hs_w1 hb_w1
  clear hx_0
  have HL := Lib.hid (HF0.out.hL.below (HB1.out.mono hB))
  go_enter Try.func6, Try.ntmps6
  go_upto_region 1 with fail
  rw [← HW_w1.out]
  go_upto_region 3 with fail
  go_loopw [7, 8, 22] (fun v7 v8 v wr => ∃ (a b : Int) (k : Nat), v7 = .int .i64 a ∧ v8 = .int .i64 b ∧ v = .int .i64 (k : Int) ∧ k ≤ F.ln ∧ Below w1.heap.size w1 wr) (fun _ _ v _ => F.ln - (intOf v).toNat)
  case atStart => exact ⟨1, 0, 0, rfl, rfl, rfl, Nat.zero_le _, hA0⟩
  case round =>
    obtain ⟨lo, ne, k, rfl, rfl, rfl, hk, hA⟩ := hrel
    by_cases hin : k < F.ln
    rotate_left
    · have q1 : decide ((k : Int) < (F.ln : Int)) = false := by simp; omega
      have q2 : decide (k < F.ln) = false := by simp; omega
      clear hin
      go_upto_region 19 with fail
      obtain ⟨wo, hwo⟩ : ∃ wo : World, wo = wr := ⟨_, rfl⟩
      subst hwo
      go_loopw [15, 16] (fun v15 v16 wr => ∃ (z : Int) (i : Nat), v15 = .int .i64 z ∧ v16 = .int .i64 (i : Int) ∧ i ≤ 8 ∧ Below w1.heap.size w1 wr) (fun _ v _ => 8 - (intOf v).toNat)
      case atStart => exact ⟨1, 0, rfl, rfl, by omega, hA⟩
      case round =>
        obtain ⟨z, i, rfl, rfl, hi, hA⟩ := hrel
        have si : IntKind.i64.wrap ((i : Int) + 1) = (i : Int) + 1 := by rw [IntKind.wrap_i64]; omega
        by_cases hgo : i < 8 ∧ z < 1000
        · have r1 : decide ((i : Int) < 8) = true := by simp; omega
          have r2 : decide (i < 8) = true := by simp; omega
          have r3 : decide (z < 1000) = true := by simp; omega
          have hi8 := hgo.1
          clear hgo
          go_wp2_with fail
          go_roundw
          case rel => exact ⟨_, i + 1, rfl, by go_num, by omega, hA⟩
          case measure => simp [intOf] <;> omega
        · have HN := Lib.hid hgo
          clear hgo
          go_upto_region 19 with fail
          go_cut [60] (fun v W => v = .bool false ∧ W = wr)
          case first =>
            by_cases h8 : i < 8
            · have r1 : decide ((i : Int) < 8) = true := by simp; omega
              have r2 : decide (i < 8) = true := by simp; omega
              have r3 : decide (z < 1000) = false := by
                have := HN.out
                simp; omega
              clear h8
              go_wp2_with fail
              go_meet
              exact ⟨rfl, rfl⟩
            · have r1 : decide ((i : Int) < 8) = false := by simp; omega
              have r2 : decide (i < 8) = false := by simp; omega
              clear h8
              go_wp2_with fail
              go_meet
              exact ⟨rfl, rfl⟩
          obtain ⟨rfl, hwc⟩ := hcut
          subst hwc
          go_upto_region 24 with fail
          obtain ⟨wo, hwo⟩ : ∃ wo : World, wo = wc := ⟨_, rfl⟩
          subst hwo
          go_loopw [2, 18] (fun v2 v18 wr => ∃ (y : Int) (j : Nat), v2 = .int .i64 y ∧ v18 = .int .i64 (j : Int) ∧ j ≤ st ∧ Below w1.heap.size w1 wr) (fun _ v _ => st - (intOf v).toNat)
          case atStart => exact ⟨_, 0, rfl, rfl, Nat.zero_le _, hA⟩
          case round =>
            obtain ⟨y, j, rfl, rfl, hj, hA⟩ := hrel
            have sj : IntKind.i64.wrap ((j : Int) + 1) = (j : Int) + 1 := by rw [IntKind.wrap_i64]; omega
            by_cases hgo : j < st ∧ y ≤ 1000
            · have r1 : decide ((j : Int) < (st : Int)) = true := by simp; omega
              have r2 : decide (j < st) = true := by simp; omega
              have r3 : decide (y ≤ 1000) = true := by simp; omega
              have hjs := hgo.1
              clear hgo
              go_wp2_with fail
              go_roundw
              case rel => exact ⟨_, j + 1, rfl, by go_num, by omega, hA⟩
              case measure => simp [intOf] <;> omega
            · have HM := Lib.hid hgo
              clear hgo
              go_upto_region 24 with fail
              go_cut [78] (fun v W => v = .bool false ∧ W = wr)
              case first =>
                by_cases h8 : j < st
                · have r1 : decide ((j : Int) < (st : Int)) = true := by simp; omega
                  have r2 : decide (j < st) = true := by simp; omega
                  have r3 : decide (y ≤ 1000) = false := by
                    have := HM.out
                    simp; omega
                  clear h8
                  go_wp2_with fail
                  go_meet
                  exact ⟨rfl, rfl⟩
                · have r1 : decide ((j : Int) < (st : Int)) = false := by simp; omega
                  have r2 : decide (j < st) = false := by simp; omega
                  clear h8
                  go_wp2_with fail
                  go_meet
                  exact ⟨rfl, rfl⟩
              obtain ⟨rfl, hwc⟩ := hcut
              subst hwc
              go_wp2_with fail
              go_ret
              exact ⟨_, rfl, trivial, HB1.out.trans (hA.mono (by omega))⟩
    · have q1 : decide ((k : Int) < (F.ln : Int)) = true := by simp; omega
      have q2 : decide (k < F.ln) = true := by simp; omega
      have sk : IntKind.i64.wrap ((k : Int) + 1) = (k : Int) + 1 := by rw [IntKind.wrap_i64]; omega
      obtain ⟨b, o, l, eA, hbb, ⟨c0, c1, c2, c3⟩, hlk⟩ := HL.out.look hin
      have y0 := (hA.cell (p := ⟨b, o + k * 4, none⟩) (by show b < _; omega)).trans c0
      have y1 := (hA.cell (p := ⟨b, o + k * 4 + 1, none⟩) (by show b < _; omega)).trans c1
      have y2 := (hA.cell (p := ⟨b, o + k * 4 + 2, none⟩) (by show b < _; omega)).trans c2
      have y3 := (hA.cell (p := ⟨b, o + k * 4 + 3, none⟩) (by show b < _; omega)).trans c3
      have HK := Lib.hid (show ShSl w1 B shSub l.su.A l.su.n l.su.c from hlk)
      have hkc := HK.out.cap
      have HEA := Lib.hid eA
      clear c0 c1 c2 c3 eA hlk
      rw [HEA.out]
      go_upto_region 5 with fail
      obtain ⟨w3, hw3⟩ : ∃ z, z = wr.alloc (.cells #[.int .i64 l.ki, .int .i64 l.fl, .int .i64 l.se, .slice l.su.A l.su.n l.su.c] 36) := ⟨_, rfl⟩
      obtain ⟨bx, hbx⟩ : ∃ z, z = wr.heap.size := ⟨_, rfl⟩
      rw [← hw3, ← hbx]
      have hA3 := (show Below w1.heap.size w1 w3 by rw [hw3]; exact hA.alloc hA.size _)
      have hX : w3.heap[bx]? = some (.cells #[.int .i64 l.ki, .int .i64 l.fl, .int .i64 l.se, .slice l.su.A l.su.n l.su.c] 36 (0, 0)) := by rw [hw3, hbx]; exact heap_alloc_new _ _
      have x0 := up_fact (show w3.cell? ⟨bx, 0, none⟩ = some (.int .i64 l.ki) by rw [cell_of_row _ _ 0 _ _ _ hX]; rfl)
      have x1 := up_fact (show w3.cell? ⟨bx, 1, none⟩ = some (.int .i64 l.fl) by rw [cell_of_row _ _ 1 _ _ _ hX]; rfl)
      have x2 := up_fact (show w3.cell? ⟨bx, 2, none⟩ = some (.int .i64 l.se) by rw [cell_of_row _ _ 2 _ _ _ hX]; rfl)
      have x3 := up_fact (show w3.cell? ⟨bx, 3, none⟩ = some (.slice l.su.A l.su.n l.su.c) by rw [cell_of_row _ _ 3 _ _ _ hX]; rfl)
      have hC := Below.refl w3.heap.size w3
      clear hX hw3 hbx
      go_upto_region 6 with fail
      obtain ⟨wo, hwo⟩ : ∃ wo : World, wo = w3 := ⟨_, rfl⟩
      subst hwo
      go_loopw [7, 8, 29] (fun v7 v8 v wr => ∃ (a b : Int) (j : Nat), v7 = .int .i64 a ∧ v8 = .int .i64 b ∧ v = .int .i64 (j : Int) ∧ j ≤ l.su.n ∧ Below w1.heap.size w1 wr ∧ Below wo.heap.size wo wr) (fun _ _ v _ => l.su.n - (intOf v).toNat)
      case atStart => exact ⟨_, _, 0, rfl, rfl, rfl, Nat.zero_le _, hA3, hC⟩
      case round =>
        obtain ⟨lo, ne, j, rfl, rfl, rfl, hj, hA, hC⟩ := hrel
        by_cases hinj : j < l.su.n
        rotate_left
        · have r1 : decide ((j : Int) < (l.su.n : Int)) = false := by simp; omega
          have r2 : decide (j < l.su.n) = false := by simp; omega
          clear hinj
          go_wp2_with fail
          go_roundw
          case rel => exact ⟨_, _, k + 1, rfl, rfl, by go_num, by omega, hA⟩
          case measure => simp [intOf] <;> omega
        have r1 : decide ((j : Int) < (l.su.n : Int)) = true := by simp; omega
        have r2 : decide (j < l.su.n) = true := by simp; omega
        have sj : IntKind.i64.wrap ((j : Int) + 1) = (j : Int) + 1 := by rw [IntKind.wrap_i64]; omega
        obtain ⟨b2, o2, s, eA2, hbb2, ⟨d0, d1, d2, d3, d4, d5, d6, d7, d8, d9, d10, d11⟩, hsb⟩ := HK.out.sub hinj
        have e0 := (hA.cell (p := ⟨b2, o2 + j * 12, none⟩) (by show b2 < _; omega)).trans d0
        have e1 := (hA.cell (p := ⟨b2, o2 + j * 12 + 1, none⟩) (by show b2 < _; omega)).trans d1
        have e2 := (hA.cell (p := ⟨b2, o2 + j * 12 + 2, none⟩) (by show b2 < _; omega)).trans d2
        have e3 := (hA.cell (p := ⟨b2, o2 + j * 12 + 3, none⟩) (by show b2 < _; omega)).trans d3
        have e4 := (hA.cell (p := ⟨b2, o2 + j * 12 + 4, none⟩) (by show b2 < _; omega)).trans d4
        have e5 := (hA.cell (p := ⟨b2, o2 + j * 12 + 5, none⟩) (by show b2 < _; omega)).trans d5
        have e6 := (hA.cell (p := ⟨b2, o2 + j * 12 + 6, none⟩) (by show b2 < _; omega)).trans d6
        have e7 := (hA.cell (p := ⟨b2, o2 + j * 12 + 7, none⟩) (by show b2 < _; omega)).trans d7
        have e8 := (hA.cell (p := ⟨b2, o2 + j * 12 + 8, none⟩) (by show b2 < _; omega)).trans d8
        have e9 := (hA.cell (p := ⟨b2, o2 + j * 12 + 9, none⟩) (by show b2 < _; omega)).trans d9
        have e10 := (hA.cell (p := ⟨b2, o2 + j * 12 + 10, none⟩) (by show b2 < _; omega)).trans d10
        have e11 := (hA.cell (p := ⟨b2, o2 + j * 12 + 11, none⟩) (by show b2 < _; omega)).trans d11
        have htc := hsb.tt.cap
        have hnc := hsb.ne.cap
        have HTT := Lib.hid hsb.tt
        have HEA2 := Lib.hid eA2
        clear d0 d1 d2 d3 d4 d5 d6 d7 d8 d9 d10 d11 eA2 hsb
        rw [HEA2.out]
        go_upto_region 8 with fail
        obtain ⟨w5, hw3⟩ : ∃ z, z = wr.alloc (.cells #[.slice s.co.A s.co.n s.co.c, .slice s.tt.A s.tt.n s.tt.c, .slice s.li.A s.li.n s.li.c, .slice s.ba.A s.ba.n s.ba.c, .slice s.inn.A s.inn.n s.inn.c, .slice s.ah.A s.ah.n s.ah.c, .slice s.ne.A s.ne.n s.ne.c, .slice s.va.A s.va.n s.va.c, .slice s.pr.A s.pr.n s.pr.c, .slice s.cu.A s.cu.n s.cu.c, .slice s.ma.A s.ma.n s.ma.c, .slice s.ho.A s.ho.n s.ho.c] 60) := ⟨_, rfl⟩
        obtain ⟨by_, hbx⟩ : ∃ z, z = wr.heap.size := ⟨_, rfl⟩
        rw [← hw3, ← hbx]
        have hA5 := (show Below w1.heap.size w1 w5 by rw [hw3]; exact hA.alloc hA.size _)
        have hX : w5.heap[by_]? = some (.cells #[.slice s.co.A s.co.n s.co.c, .slice s.tt.A s.tt.n s.tt.c, .slice s.li.A s.li.n s.li.c, .slice s.ba.A s.ba.n s.ba.c, .slice s.inn.A s.inn.n s.inn.c, .slice s.ah.A s.ah.n s.ah.c, .slice s.ne.A s.ne.n s.ne.c, .slice s.va.A s.va.n s.va.c, .slice s.pr.A s.pr.n s.pr.c, .slice s.cu.A s.cu.n s.cu.c, .slice s.ma.A s.ma.n s.ma.c, .slice s.ho.A s.ho.n s.ho.c] 60 (0, 0)) := by rw [hw3, hbx]; exact heap_alloc_new _ _
        have v0 := up_fact (show w5.cell? ⟨by_, 0, none⟩ = some (.slice s.co.A s.co.n s.co.c) by rw [cell_of_row _ _ 0 _ _ _ hX]; rfl)
        have v1 := up_fact (show w5.cell? ⟨by_, 1, none⟩ = some (.slice s.tt.A s.tt.n s.tt.c) by rw [cell_of_row _ _ 1 _ _ _ hX]; rfl)
        have v2 := up_fact (show w5.cell? ⟨by_, 2, none⟩ = some (.slice s.li.A s.li.n s.li.c) by rw [cell_of_row _ _ 2 _ _ _ hX]; rfl)
        have v3 := up_fact (show w5.cell? ⟨by_, 3, none⟩ = some (.slice s.ba.A s.ba.n s.ba.c) by rw [cell_of_row _ _ 3 _ _ _ hX]; rfl)
        have v4 := up_fact (show w5.cell? ⟨by_, 4, none⟩ = some (.slice s.inn.A s.inn.n s.inn.c) by rw [cell_of_row _ _ 4 _ _ _ hX]; rfl)
        have v5 := up_fact (show w5.cell? ⟨by_, 5, none⟩ = some (.slice s.ah.A s.ah.n s.ah.c) by rw [cell_of_row _ _ 5 _ _ _ hX]; rfl)
        have v6 := up_fact (show w5.cell? ⟨by_, 6, none⟩ = some (.slice s.ne.A s.ne.n s.ne.c) by rw [cell_of_row _ _ 6 _ _ _ hX]; rfl)
        have v7 := up_fact (show w5.cell? ⟨by_, 7, none⟩ = some (.slice s.va.A s.va.n s.va.c) by rw [cell_of_row _ _ 7 _ _ _ hX]; rfl)
        have v8 := up_fact (show w5.cell? ⟨by_, 8, none⟩ = some (.slice s.pr.A s.pr.n s.pr.c) by rw [cell_of_row _ _ 8 _ _ _ hX]; rfl)
        have v9 := up_fact (show w5.cell? ⟨by_, 9, none⟩ = some (.slice s.cu.A s.cu.n s.cu.c) by rw [cell_of_row _ _ 9 _ _ _ hX]; rfl)
        have v10 := up_fact (show w5.cell? ⟨by_, 10, none⟩ = some (.slice s.ma.A s.ma.n s.ma.c) by rw [cell_of_row _ _ 10 _ _ _ hX]; rfl)
        have v11 := up_fact (show w5.cell? ⟨by_, 11, none⟩ = some (.slice s.ho.A s.ho.n s.ho.c) by rw [cell_of_row _ _ 11 _ _ _ hX]; rfl)
        have hC5 := Below.refl w5.heap.size w5
        have HALo := Lib.hid (show Below wo.heap.size wo w5 by rw [hw3]; exact hC.alloc hC.size _)
        clear hX hw3 hbx
        have hC6 := (show Below wo.heap.size wo w5 from HALo.out)
        go_upto_if 35 with fail
        go_cut [8] (fun v W => ∃ b : Int, v = .int .i64 b ∧ W = w5)
        case first =>
          by_cases h4 : l.ki = 4
          · have u1 : (l.ki == 4) = true := by simp [h4]
            clear h4
            go_wp2_with fail
            all_goals
              go_meet
              exact ⟨_, rfl, rfl⟩
          · have u1 : (l.ki == 4) = false := by simp [h4]
            clear h4
            go_wp2_with fail
            go_meet
            exact ⟨_, rfl, rfl⟩
        obtain ⟨ne2, rfl, hwc⟩ := hcut
        subst hwc
        go_upto_region 11 with fail
        obtain ⟨wp, hwp⟩ : ∃ wp : World, wp = wc := ⟨_, rfl⟩
        subst hwp
        go_loopw [7, 44] (fun v7 v wr => ∃ (a : Int) (t : Nat), v7 = .int .i64 a ∧ v = .int .i64 (t : Int) ∧ t ≤ s.tt.n ∧ Below w1.heap.size w1 wr ∧ Below wo.heap.size wo wr) (fun _ v _ => s.tt.n - (intOf v).toNat)
        case atStart => exact ⟨_, 0, rfl, rfl, Nat.zero_le _, hA5, hC6⟩
        case round =>
          obtain ⟨lo, t, rfl, rfl, ht, hA, hC⟩ := hrel
          by_cases hint : t < s.tt.n
          rotate_left
          · have r3 : decide ((t : Int) < (s.tt.n : Int)) = false := by simp; omega
            have r4 : decide (t < s.tt.n) = false := by simp; omega
            clear hint
            go_wp2_with fail
            go_roundw
            case rel => exact ⟨_, _, j + 1, rfl, rfl, by go_num, by omega, hA, hC⟩
            case measure => simp [intOf] <;> omega
          have r3 : decide ((t : Int) < (s.tt.n : Int)) = true := by simp; omega
          have r4 : decide (t < s.tt.n) = true := by simp; omega
          have stt : IntKind.i64.wrap ((t : Int) + 1) = (t : Int) + 1 := by rw [IntKind.wrap_i64]; omega
          obtain ⟨b4, o4, A4, n4, c4, eA4, hbb4, f4, hz4⟩ := HTT.out.atInts hint
          have f4 := (hA.cell (p := ⟨b4, o4 + t, none⟩) (by show b4 < _; omega)).trans f4
          have hz4 := hz4.cap
          rw [eA4]
          go_wp2_with fail
          go_roundw
          case rel => exact ⟨_, t + 1, rfl, by go_num, by omega, hA, hC⟩
          case measure => simp [intOf] <;> omega


set_option maxRecDepth 100000 in
set_option maxHeartbeats 4000000 in
theorem may_any (F : Fnt) (B : Nat) (ls : List PK) (Ls : List LkS) (A : Option Addr) (n c : Nat) (gs : List Gl) (w : World) (h : FntOk w B F) (hLs : SlR w B 4 (LkR2 w B) F.LA F.ln F.lc Ls) (hL : SlR w B 4 (LkR w B) F.LA F.ln F.lc ls) (hG : GlsR w B A n c gs) (hB : B ≤ w.heap.size) :
    Calls Try.prog 5 #[.agg #[.int .i64 F.em, .slice F.GA F.gn F.gc, .slice F.MA F.mn F.mc, .slice F.LA F.ln F.lc, .slice F.FA F.fn F.fc, .slice F.SA F.sn F.sc], .slice A n c] w (RetB w (fun b => b = true → n ≤ 40 ∧ (∀ x ∈ Ls, FkGood F.gn ls x) ∧ ∀ g ∈ gs, 0 ≤ g.id ∧ g.id < (F.gn : Int))) := by
  have HF0 := Lib.hid h
  have HLS0 := Lib.hid hLs
  have HL0 := Lib.hid hL
  have HG0 := Lib.hid hG
  have hgc := hG.cap
  have hgl := hG.length
  have hfc := h.hG.cap
  clear h hLs hL hG
  obtain ⟨w1, hw_w1⟩ : ∃ z, z = w.alloc (.cells #[.int .i64 F.em, .slice F.GA F.gn F.gc, .slice F.MA F.mn F.mc, .slice F.LA F.ln F.lc, .slice F.FA F.fn F.fc, .slice F.SA F.sn F.sc] 28) := ⟨_, rfl⟩
  have hs_w1 : w1.heap.size = w.heap.size + 1 := by rw [hw_w1]; simp
  have hb_w1 : Below w.heap.size w w1 := by rw [hw_w1]; exact (Below.refl _ _).alloc (Nat.le_refl _) _
  have hx_0 : w1.heap[w.heap.size]? = some (.cells #[.int .i64 F.em, .slice F.GA F.gn F.gc, .slice F.MA F.mn F.mc, .slice F.LA F.ln F.lc, .slice F.FA F.fn F.fc, .slice F.SA F.sn F.sc] 28 (0, 0)) := by rw [hw_w1]; exact heap_alloc_new _ _
  have g0 := up_fact (show w1.cell? ⟨w.heap.size, 0, none⟩ = some (.int .i64 F.em) by rw [cell_of_row _ _ 0 _ _ _ hx_0]; rfl)
  have g1 := up_fact (show w1.cell? ⟨w.heap.size, 1, none⟩ = some (.slice F.GA F.gn F.gc) by rw [cell_of_row _ _ 1 _ _ _ hx_0]; rfl)
  have g2 := up_fact (show w1.cell? ⟨w.heap.size, 2, none⟩ = some (.slice F.MA F.mn F.mc) by rw [cell_of_row _ _ 2 _ _ _ hx_0]; rfl)
  have g3 := up_fact (show w1.cell? ⟨w.heap.size, 3, none⟩ = some (.slice F.LA F.ln F.lc) by rw [cell_of_row _ _ 3 _ _ _ hx_0]; rfl)
  have g4 := up_fact (show w1.cell? ⟨w.heap.size, 4, none⟩ = some (.slice F.FA F.fn F.fc) by rw [cell_of_row _ _ 4 _ _ _ hx_0]; rfl)
  have g5 := up_fact (show w1.cell? ⟨w.heap.size, 5, none⟩ = some (.slice F.SA F.sn F.sc) by rw [cell_of_row _ _ 5 _ _ _ hx_0]; rfl)
  have hA0 := Below.refl w1.heap.size w1
  have HS1 := Lib.hid hs_w1
  have hs1 : w.heap.size + 0 < w1.heap.size := by omega
  have HB1 := Lib.hid hb_w1
  have HW_w1 := Lib.hid hw_w1
  clear hw_w1 hs_w1 hb_w1
  clear hx_0
  have HUP := Lib.hid (show ∀ W, Below w1.heap.size w1 W → Below B w W ∧ B ≤ W.heap.size ∧ Below w.heap.size w W from fun W hW => ⟨(HB1.out.mono hB).trans (hW.mono (by omega)), by have := hW.size; omega, HB1.out.trans (hW.mono (by omega))⟩)
  have HCK := Lib.hid (fun W (hW : Below w1.heap.size w1 W) => kcheck_any F B ls Ls W (HF0.out.below (HUP.out W hW).1) (SlR.below HLS0.out (HUP.out W hW).1 fun _ _ h => h.below (HUP.out W hW).1) (SlR.below HL0.out (HUP.out W hW).1 fun _ _ h => LkR.below h (HUP.out W hW).1) (HUP.out W hW).2.1)
  by_cases h40 : n ≤ 40
  rotate_left
  · have q1 : decide ((40 : Int) < (n : Int)) = true := by simp; omega
    have q2 : decide (40 < n) = true := by simp; omega
    clear h40
    go_enter Try.func5, Try.ntmps5
    go_upto_region 1 with fail
    rw [← HW_w1.out]
    go_wp2_with fail
    go_ret
    exact ⟨false, rfl, (fun h => by cases h), HB1.out⟩
  have q1 : decide ((40 : Int) < (n : Int)) = false := by simp; omega
  have q2 : decide (40 < n) = false := by simp; omega
  go_enter Try.func5, Try.ntmps5
  go_upto_region 1 with fail
  rw [← HW_w1.out]
  go_cut [14] (fun v W => ∃ t : Bool, v = .bool t ∧ Below w1.heap.size w1 W ∧ Hid (t = false → ∀ x ∈ Ls, FkGood F.gn ls x))
  case first =>
    go_wp2_with (first | (go_at_call 12; refine (HCK.out _ hA0).mono ?_; rintro e w4 ⟨b4, rfl, hp4, hb4⟩; have HP4 := Lib.hid hp4; have hA4 := bgo hA0 hb4; clear hp4 hb4; rcases b4 with _ | _))
    · go_meet
      exact ⟨true, rfl, hA4, Lib.hid (fun h => by cases h)⟩
    · go_meet
      exact ⟨false, rfl, hA4, Lib.hid (fun _ => HP4.out.1 (by trivial))⟩
  obtain ⟨t, rfl, hA2, HT⟩ := hcut
  rcases t with _ | _
  rotate_left
  · go_wp2_with fail
    go_ret
    exact ⟨false, rfl, (fun h => by cases h), HB1.out.trans (hA2.mono (by omega))⟩
  have HGD := Lib.hid (HT.out (by trivial))
  clear HT
  go_upto_region 4 with fail
  obtain ⟨wo, hwo⟩ : ∃ wo : World, wo = wc := ⟨_, rfl⟩
  subst hwo
  go_loopw [17] (fun v wr => ∃ k : Nat, v = .int .i64 (k : Int) ∧ k ≤ n ∧ Below w1.heap.size w1 wr ∧ Hid (∀ g ∈ gs.take k, 0 ≤ g.id ∧ g.id < (F.gn : Int))) (fun v _ => n - (intOf v).toNat)
  case atStart => exact ⟨0, rfl, Nat.zero_le _, hA2, Lib.hid (fun g hg => by simp at hg)⟩
  case round =>
    obtain ⟨k, rfl, hk, hA, HPRE⟩ := hrel
    by_cases hin : k < n
    rotate_left
    · have r1 : decide ((k : Int) < (n : Int)) = false := by simp; omega
      have r2 : decide (k < n) = false := by simp; omega
      have HALL := Lib.hid (show ∀ g ∈ gs, 0 ≤ g.id ∧ g.id < (F.gn : Int) by have h0 := HPRE.out; rwa [List.take_of_length_le (by omega)] at h0)
      clear hin
      go_wp2_with fail
      go_ret
      exact ⟨true, rfl, (fun _ => ⟨h40, HGD.out, HALL.out⟩), HB1.out.trans (hA.mono (by omega))⟩
    have r1 : decide ((k : Int) < (n : Int)) = true := by simp; omega
    have r2 : decide (k < n) = true := by simp; omega
    have sk : IntKind.i64.wrap ((k : Int) + 1) = (k : Int) + 1 := by rw [IntKind.wrap_i64]; omega
    obtain ⟨b, o, g, eA, hbb, hg, c0, c1, c2, c3, c4, c5, c6, c7, c8, c9⟩ := HG0.out.at_ hin
    have y0 := ((HUP.out _ hA).1.cell (p := ⟨b, o + k * 10, none⟩) (by show b < _; omega)).trans c0
    have y1 := ((HUP.out _ hA).1.cell (p := ⟨b, o + k * 10 + 1, none⟩) (by show b < _; omega)).trans c1
    have y2 := ((HUP.out _ hA).1.cell (p := ⟨b, o + k * 10 + 2, none⟩) (by show b < _; omega)).trans c2
    have y3 := ((HUP.out _ hA).1.cell (p := ⟨b, o + k * 10 + 3, none⟩) (by show b < _; omega)).trans c3
    have y4 := ((HUP.out _ hA).1.cell (p := ⟨b, o + k * 10 + 4, none⟩) (by show b < _; omega)).trans c4
    have y5 := ((HUP.out _ hA).1.cell (p := ⟨b, o + k * 10 + 5, none⟩) (by show b < _; omega)).trans c5
    have y6 := ((HUP.out _ hA).1.cell (p := ⟨b, o + k * 10 + 6, none⟩) (by show b < _; omega)).trans c6
    have y7 := ((HUP.out _ hA).1.cell (p := ⟨b, o + k * 10 + 7, none⟩) (by show b < _; omega)).trans c7
    have y8 := ((HUP.out _ hA).1.cell (p := ⟨b, o + k * 10 + 8, none⟩) (by show b < _; omega)).trans c8
    have y9 := ((HUP.out _ hA).1.cell (p := ⟨b, o + k * 10 + 9, none⟩) (by show b < _; omega)).trans c9
    have HEA := Lib.hid eA
    have HGK := Lib.hid hg
    clear eA hg c0 c1 c2 c3 c4 c5 c6 c7 c8 c9
    rw [HEA.out]
    go_upto_region 6 with fail
    obtain ⟨w3, hw3⟩ : ∃ z, z = wr.alloc (.cells #[.int .i64 g.id, .int .i64 g.cl, .int .i64 g.ad, .int .i64 g.dx, .int .i64 g.dy, .int .i64 g.tw, .int .i64 g.hg, .int .i64 g.li, .int .i64 g.co, .int .i64 g.ma] 38) := ⟨_, rfl⟩
    obtain ⟨bx, hbx⟩ : ∃ z, z = wr.heap.size := ⟨_, rfl⟩
    rw [← hw3, ← hbx]
    have hA3 := (show Below w1.heap.size w1 w3 by rw [hw3]; exact hA.alloc hA.size _)
    have hX : w3.heap[bx]? = some (.cells #[.int .i64 g.id, .int .i64 g.cl, .int .i64 g.ad, .int .i64 g.dx, .int .i64 g.dy, .int .i64 g.tw, .int .i64 g.hg, .int .i64 g.li, .int .i64 g.co, .int .i64 g.ma] 38 (0, 0)) := by rw [hw3, hbx]; exact heap_alloc_new _ _
    have x0 := up_fact (show w3.cell? ⟨bx, 0, none⟩ = some (.int .i64 g.id) by rw [cell_of_row _ _ 0 _ _ _ hX]; rfl)
    have x1 := up_fact (show w3.cell? ⟨bx, 1, none⟩ = some (.int .i64 g.cl) by rw [cell_of_row _ _ 1 _ _ _ hX]; rfl)
    have x2 := up_fact (show w3.cell? ⟨bx, 2, none⟩ = some (.int .i64 g.ad) by rw [cell_of_row _ _ 2 _ _ _ hX]; rfl)
    have x3 := up_fact (show w3.cell? ⟨bx, 3, none⟩ = some (.int .i64 g.dx) by rw [cell_of_row _ _ 3 _ _ _ hX]; rfl)
    have x4 := up_fact (show w3.cell? ⟨bx, 4, none⟩ = some (.int .i64 g.dy) by rw [cell_of_row _ _ 4 _ _ _ hX]; rfl)
    have x5 := up_fact (show w3.cell? ⟨bx, 5, none⟩ = some (.int .i64 g.tw) by rw [cell_of_row _ _ 5 _ _ _ hX]; rfl)
    have x6 := up_fact (show w3.cell? ⟨bx, 6, none⟩ = some (.int .i64 g.hg) by rw [cell_of_row _ _ 6 _ _ _ hX]; rfl)
    have x7 := up_fact (show w3.cell? ⟨bx, 7, none⟩ = some (.int .i64 g.li) by rw [cell_of_row _ _ 7 _ _ _ hX]; rfl)
    have x8 := up_fact (show w3.cell? ⟨bx, 8, none⟩ = some (.int .i64 g.co) by rw [cell_of_row _ _ 8 _ _ _ hX]; rfl)
    have x9 := up_fact (show w3.cell? ⟨bx, 9, none⟩ = some (.int .i64 g.ma) by rw [cell_of_row _ _ 9 _ _ _ hX]; rfl)
    have hC := Below.refl w3.heap.size w3
    clear hX hw3 hbx
    by_cases h0 : 0 ≤ g.id
    rotate_left
    · have u1 : decide (g.id < 0) = true := by simp; omega
      go_wp2_with fail
      go_ret
      exact ⟨false, rfl, (fun h => by cases h), HB1.out.trans (hA3.mono (by omega))⟩
    have u1 : decide (g.id < 0) = false := by simp; omega
    by_cases h1 : g.id < (F.gn : Int)
    rotate_left
    · have u2 : decide ((F.gn : Int) ≤ g.id) = true := by simp; omega
      go_wp2_with fail
      go_ret
      exact ⟨false, rfl, (fun h => by cases h), HB1.out.trans (hA3.mono (by omega))⟩
    have u2 : decide ((F.gn : Int) ≤ g.id) = false := by simp; omega
    by_cases h2 : (1099511627776 : Int) < g.li
    · have u3 : decide ((1099511627776 : Int) < g.li) = true := by simp; omega
      go_wp2_with fail
      go_ret
      exact ⟨false, rfl, (fun h => by cases h), HB1.out.trans (hA3.mono (by omega))⟩
    have u3 : decide ((1099511627776 : Int) < g.li) = false := by simp; omega
    have HOK := Lib.hid (show 0 ≤ g.id ∧ g.id < (F.gn : Int) from ⟨h0, h1⟩)
    go_wp2_with fail
    go_roundw
    case rel => exact ⟨k + 1, by go_num, by omega, hA3, Lib.hid (fun x hx => by
      rw [List.take_add_one, HGK.out, Option.toList_some, List.mem_append, List.mem_singleton] at hx
      rcases hx with hx | rfl
      · exact HPRE.out x hx
      · exact HOK.out)⟩
    case measure => simp [intOf] <;> omega

end Go.Proofs.Ytngdolmmaiogiaa
