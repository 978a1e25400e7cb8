/- Joined: MatA. -/
import Derived.Test.YtngdolmmaiogiaaJ07
import Derived.Test.YtngdolmmaiogiaaJ15
import Derived.Deep.RegionHeld3
import Derived.BigRegion
import Derived.OwnWalk

/- The walk of context.Match. Condition: what it reads reads as plain data. Printed by wip/tools. -/
namespace Go.Proofs.Ytngdolmmaiogiaa
open Go.RowKit

set_option maxRecDepth 100000 in
set_option maxHeartbeats 4000000 in
theorem match_any (F : Fnt) (B : Nat) (P : PFt) (l : Lk) (A : Option Addr) (n c : Nat) (gs : List Gl) (su : List PSu) (p : Nat) (w : World) (hF : FtR w B F P) (hK : KsR w B l.su.A l.su.n l.su.c su) (hsm : ∀ s ∈ su, s.inn.length ≤ 1000 ∧ s.ba.length ≤ 1000 ∧ s.ah.length ≤ 1000) (hI : GlsR w B A n c gs) (hB : B ≤ w.heap.size) (hp : p < n) :
    Calls Try.prog 43 #[.agg #[.int .i64 F.em, .slice F.GA F.gn F.gc, .slice F.MA F.mn F.mc, .slice F.LA F.ln F.lc, .slice F.FA F.fn F.fc, .slice F.SA F.sn F.sc], .agg #[.int .i64 l.ki, .int .i64 l.fl, .int .i64 l.se, .slice l.su.A l.su.n l.su.c], .slice A n c, .int .i64 (p : Int)] w (RetMat w (matB P l su gs p)) := by
  have HF := Lib.hid hF
  have HI := Lib.hid hI
  have HKS := Lib.hid hK
  have HSM := Lib.hid hsm
  have hcap := hI.cap
  have hcaps := SlR.cap hK
  have hlen := hI.length
  have hlens := SlR.length hK
  clear hI hF hK hsm
  obtain ⟨wb1, hw_wb1⟩ : ∃ z, z = w.alloc (.cells #[.int .i64 F.em, .slice F.GA F.gn F.gc, .slice F.MA F.mn F.mc, .slice F.LA F.ln F.lc, .slice F.FA F.fn F.fc, .slice F.SA F.sn F.sc] 28) := ⟨_, rfl⟩
  have hs_wb1 : wb1.heap.size = w.heap.size + 1 := by rw [hw_wb1]; simp
  have hb_wb1 : Below w.heap.size w wb1 := by rw [hw_wb1]; exact (Below.refl _ _).alloc (Nat.le_refl _) _
  have hx_0 : wb1.heap[w.heap.size]? = some (.cells #[.int .i64 F.em, .slice F.GA F.gn F.gc, .slice F.MA F.mn F.mc, .slice F.LA F.ln F.lc, .slice F.FA F.fn F.fc, .slice F.SA F.sn F.sc] 28 (0, 0)) := by rw [hw_wb1]; exact heap_alloc_new _ _
  obtain ⟨w1, hw_w1⟩ : ∃ z, z = wb1.alloc (.cells #[.int .i64 l.ki, .int .i64 l.fl, .int .i64 l.se, .slice l.su.A l.su.n l.su.c] 36) := ⟨_, rfl⟩
  have hs_w1 : w1.heap.size = w.heap.size + 2 := by rw [hw_w1]; simp <;> omega
  have hb_w1 : Below w.heap.size w w1 := by rw [hw_w1]; exact hb_wb1.alloc (by omega) _
  have hx_1 : w1.heap[w.heap.size + 1]? = some (.cells #[.int .i64 l.ki, .int .i64 l.fl, .int .i64 l.se, .slice l.su.A l.su.n l.su.c] 36 (0, 0)) := by rw [hw_w1]; exact (hs_wb1 ▸ heap_alloc_new wb1 _)
  have hx_0 : w1.heap[w.heap.size]? = some (.cells #[.int .i64 F.em, .slice F.GA F.gn F.gc, .slice F.MA F.mn F.mc, .slice F.LA F.ln F.lc, .slice F.FA F.fn F.fc, .slice F.SA F.sn F.sc] 28 (0, 0)) := by rw [hw_w1]; exact (heap_alloc_old _ _ (by omega)).trans hx_0
  have g0 := up_fact (show w1.cell? ⟨w.heap.size, 0, none⟩ = some (.int .i64 F.em) by rw [cell_of_row _ _ 0 _ _ _ hx_0]; rfl)
  have g1 := up_fact (show w1.cell? ⟨w.heap.size, 1, none⟩ = some (.slice F.GA F.gn F.gc) by rw [cell_of_row _ _ 1 _ _ _ hx_0]; rfl)
  have g2 := up_fact (show w1.cell? ⟨w.heap.size, 2, none⟩ = some (.slice F.MA F.mn F.mc) by rw [cell_of_row _ _ 2 _ _ _ hx_0]; rfl)
  have g3 := up_fact (show w1.cell? ⟨w.heap.size, 3, none⟩ = some (.slice F.LA F.ln F.lc) by rw [cell_of_row _ _ 3 _ _ _ hx_0]; rfl)
  have g4 := up_fact (show w1.cell? ⟨w.heap.size, 4, none⟩ = some (.slice F.FA F.fn F.fc) by rw [cell_of_row _ _ 4 _ _ _ hx_0]; rfl)
  have g5 := up_fact (show w1.cell? ⟨w.heap.size, 5, none⟩ = some (.slice F.SA F.sn F.sc) by rw [cell_of_row _ _ 5 _ _ _ hx_0]; rfl)
  have h0 := up_fact (show w1.cell? ⟨w.heap.size + 1, 0, none⟩ = some (.int .i64 l.ki) by rw [cell_of_row _ _ 0 _ _ _ hx_1]; rfl)
  have h1 := up_fact (show w1.cell? ⟨w.heap.size + 1, 1, none⟩ = some (.int .i64 l.fl) by rw [cell_of_row _ _ 1 _ _ _ hx_1]; rfl)
  have h2 := up_fact (show w1.cell? ⟨w.heap.size + 1, 2, none⟩ = some (.int .i64 l.se) by rw [cell_of_row _ _ 2 _ _ _ hx_1]; rfl)
  have h3 := up_fact (show w1.cell? ⟨w.heap.size + 1, 3, none⟩ = some (.slice l.su.A l.su.n l.su.c) by rw [cell_of_row _ _ 3 _ _ _ hx_1]; rfl)
  have hA0 := Below.refl w1.heap.size w1
  have HS1 := Lib.hid hs_w1
  have hs1 : w.heap.size + 1 < w1.heap.size := by omega
  have HB1 := Lib.hid hb_w1
  have HW_wb1 := Lib.hid hw_wb1
  have HW_w1 := Lib.hid hw_w1
  clear hw_wb1 hs_wb1 hb_wb1 hw_w1 hs_w1 hb_w1
  clear hx_0 hx_1
  have HB := Lib.hid hB
  have HBW := Lib.hid (HB1.out.mono hB)
  have HROW := Lib.hid (fun W (hW : Below w1.heap.size w1 W) As ns cs ss p' (hS : Grd W B As ns cs ss) (hp' : p' < n) (hns : ns ≤ 100000) => row_any F B P l A n c gs As ns cs ss p' W (HF.out.below (HBW.out.trans (hW.mono (by have := HB.out; omega)))) (HI.out.below (HBW.out.trans (hW.mono (by have := HB.out; omega)))) hS (by have := HB.out; have := hW.size; omega) hp' hns)
  have HBACK := Lib.hid (fun W (hW : Below w1.heap.size w1 W) As ns cs ss p' (hS : Grd W B As ns cs ss) (hp' : p' < n) (hns : ns ≤ 100000) => back_any F B P l A n c gs As ns cs ss p' W (HF.out.below (HBW.out.trans (hW.mono (by have := HB.out; omega)))) (HI.out.below (HBW.out.trans (hW.mono (by have := HB.out; omega)))) hS (by have := HB.out; have := hW.size; omega) hp' hns)
  have HI1 := Lib.hid (HI.out.below HBW.out)
  have HKS1 := Lib.hid (KsR.below HKS.out HBW.out)
  obtain ⟨tot, htot⟩ : ∃ z, z = matB P l su gs p := ⟨_, rfl⟩
  rw [← htot]
  have HTOT := Lib.hid htot
  clear htot
  obtain ⟨b2, o2, g, rfl, hbb2, hg, d0, -⟩ := HI1.out.at_ hp
  have d1 := up_fact d0
  have HG := Lib.hid hg
  clear d0 hg
  have z0 : decide ((p : Int) < 0) = false := by simp
  have z1 : decide ((n : Int) ≤ (p : Int)) = false := by simp; omega
  have z2 : decide (n ≤ p) = false := by simp; omega
  go_enter Try.func43, Try.ntmps43
  go_upto_region 1 with fail
  rw [← HW_wb1.out]
  rw [← HW_w1.out]
  go_wp2_with fail
  go_loopw [31] (fun v wr => ∃ j : Nat, v = .int .i64 (j : Int) ∧ j ≤ l.su.n ∧ tot = matL (mat1 P l gs p) (su.drop j) j ∧ Below w1.heap.size w1 wr) (fun v _ => l.su.n - (intOf v).toNat)
  case atStart => exact ⟨0, rfl, Nat.zero_le _, HTOT.out, hA0⟩
  case round =>
    clear hA0
    obtain ⟨j, rfl, hj, htr, hA⟩ := hrel
    have HTR := Lib.hid htr
    clear htr
    by_cases hlt : j < l.su.n
    · have z9 : decide ((j : Int) < (l.su.n : Int)) = true := by simp; omega
      obtain ⟨q, b, o, cs, hq, eA, hbb, hc, s, rfl, hs⟩ := SlR.at_ HKS1.out hlt
      have HQ := Lib.hid hq
      have HS := Lib.hid hs
      have HEA := Lib.hid eA
      have y0 := up_fact (show w1.cell? ⟨b, o + j * 12, none⟩ = _ from hc 0 _ rfl)
      have y1 := up_fact (hc 1 _ rfl)
      have y2 := up_fact (hc 2 _ rfl)
      have y3 := up_fact (hc 3 _ rfl)
      have y4 := up_fact (hc 4 _ rfl)
      have y5 := up_fact (hc 5 _ rfl)
      have y6 := up_fact (hc 6 _ rfl)
      have y7 := up_fact (hc 7 _ rfl)
      have y8 := up_fact (hc 8 _ rfl)
      have y9 := up_fact (hc 9 _ rfl)
      have y10 := up_fact (hc 10 _ rfl)
      have y11 := up_fact (hc 11 _ rfl)
      have hcin := hs.inn.cap
      have hlin := hs.inn.1
      have hcba := hs.ba.cap
      have hlba := hs.ba.1
      have hcah := hs.ah.cap
      have hlah := hs.ah.1
      have hsq := HSM.out q (List.mem_of_getElem? hq)
      clear hq hs eA hc
      rw [HEA.out] at h3 HROW HBACK ⊢
      go_upto_region 6 with fail
      obtain ⟨w3, hw3⟩ : ∃ z, z = wr.alloc (.cells #[.slice s.co.A s.co.n s.co.c, .slice s.tt.A s.tt.n s.tt.c, .slice s.li.A s.li.n s.li.c, .slice s.ba.A s.ba.n s.ba.c, .slice s.inn.A s.inn.n s.inn.c, .slice s.ah.A s.ah.n s.ah.c, .slice s.ne.A s.ne.n s.ne.c, .slice s.va.A s.va.n s.va.c, .slice s.pr.A s.pr.n s.pr.c, .slice s.cu.A s.cu.n s.cu.c, .slice s.ma.A s.ma.n s.ma.c, .slice s.ho.A s.ho.n s.ho.c] 60) := ⟨_, rfl⟩
      obtain ⟨bx, hbx⟩ : ∃ z, z = wr.heap.size := ⟨_, rfl⟩
      rw [← hw3, ← hbx]
      have hA3 := (show Below w1.heap.size w1 w3 by rw [hw3]; exact hA.alloc hA.size _)
      have hX : w3.heap[bx]? = some (.cells #[.slice s.co.A s.co.n s.co.c, .slice s.tt.A s.tt.n s.tt.c, .slice s.li.A s.li.n s.li.c, .slice s.ba.A s.ba.n s.ba.c, .slice s.inn.A s.inn.n s.inn.c, .slice s.ah.A s.ah.n s.ah.c, .slice s.ne.A s.ne.n s.ne.c, .slice s.va.A s.va.n s.va.c, .slice s.pr.A s.pr.n s.pr.c, .slice s.cu.A s.cu.n s.cu.c, .slice s.ma.A s.ma.n s.ma.c, .slice s.ho.A s.ho.n s.ho.c] 60 (0, 0)) := by rw [hw3, hbx]; exact heap_alloc_new _ _
      have xf0 := up_fact (show w3.cell? ⟨bx, 0, none⟩ = some (.slice s.co.A s.co.n s.co.c) by rw [cell_of_row _ _ 0 _ _ _ hX]; rfl)
      have xf1 := up_fact (show w3.cell? ⟨bx, 1, none⟩ = some (.slice s.tt.A s.tt.n s.tt.c) by rw [cell_of_row _ _ 1 _ _ _ hX]; rfl)
      have xf2 := up_fact (show w3.cell? ⟨bx, 2, none⟩ = some (.slice s.li.A s.li.n s.li.c) by rw [cell_of_row _ _ 2 _ _ _ hX]; rfl)
      have xf3 := up_fact (show w3.cell? ⟨bx, 3, none⟩ = some (.slice s.ba.A s.ba.n s.ba.c) by rw [cell_of_row _ _ 3 _ _ _ hX]; rfl)
      have xf4 := up_fact (show w3.cell? ⟨bx, 4, none⟩ = some (.slice s.inn.A s.inn.n s.inn.c) by rw [cell_of_row _ _ 4 _ _ _ hX]; rfl)
      have xf5 := up_fact (show w3.cell? ⟨bx, 5, none⟩ = some (.slice s.ah.A s.ah.n s.ah.c) by rw [cell_of_row _ _ 5 _ _ _ hX]; rfl)
      have xf6 := up_fact (show w3.cell? ⟨bx, 6, none⟩ = some (.slice s.ne.A s.ne.n s.ne.c) by rw [cell_of_row _ _ 6 _ _ _ hX]; rfl)
      have xf7 := up_fact (show w3.cell? ⟨bx, 7, none⟩ = some (.slice s.va.A s.va.n s.va.c) by rw [cell_of_row _ _ 7 _ _ _ hX]; rfl)
      have xf8 := up_fact (show w3.cell? ⟨bx, 8, none⟩ = some (.slice s.pr.A s.pr.n s.pr.c) by rw [cell_of_row _ _ 8 _ _ _ hX]; rfl)
      have xf9 := up_fact (show w3.cell? ⟨bx, 9, none⟩ = some (.slice s.cu.A s.cu.n s.cu.c) by rw [cell_of_row _ _ 9 _ _ _ hX]; rfl)
      have xf10 := up_fact (show w3.cell? ⟨bx, 10, none⟩ = some (.slice s.ma.A s.ma.n s.ma.c) by rw [cell_of_row _ _ 10 _ _ _ hX]; rfl)
      have xf11 := up_fact (show w3.cell? ⟨bx, 11, none⟩ = some (.slice s.ho.A s.ho.n s.ho.c) by rw [cell_of_row _ _ 11 _ _ _ hX]; rfl)
      have hC := Below.refl w3.heap.size w3
      clear hX hw3 hbx
      clear y0 y1 y2 y3 y4 y5 y6 y7 y8 y9 y10 y11
      by_cases hin0 : s.inn.n = 0
      · have HF1 := Lib.hid (show mat1 P l gs p q = none by unfold mat1; rw [show q.inn = [] from List.eq_nil_of_length_eq_zero (by omega)])
        have q0 : ((s.inn.n : Int) == 0) = true := by simp [hin0]
        have q1 : (s.inn.n == 0) = true := by simp [hin0]
        have hU0 := bup hA3
        have hU1 := bup hC
        have HUP := Lib.hid (bup hA3)
        refine wp_region_up w3.heap.size (by kernel_rfl) (by kernel_rfl) ?_
        repeat (go_big_quiet_step (fail))
        refine wpQuiet_nil (up_all fun w4 hb2 => ?_)
        have hA3 := bgo hA3 hb2
        have hC := bgo hC hb2
        clear hb2 HUP hU0 hU1
        go_wp2_with fail
        go_roundw
        case rel => exact ⟨j + 1, by go_num, by omega, matL_none HTR.out HQ.out (HF1.out), hA3⟩
        case measure => simp [intOf] <;> omega
      · obtain ⟨b4, o4, A4, n4, c4, eI, hb4, e0, hin⟩ := HS.out.inn.2.2.2 0 (by omega)
        have e1 := up_fact (show w1.cell? ⟨b4, o4, none⟩ = _ from e0)
        have HEI := Lib.hid eI
        obtain ⟨i0, ir, hir⟩ : ∃ i0 ir, q.inn = i0 :: ir := by
          cases hqi : q.inn with
          | nil => rw [hqi] at hlin; simp at hlin; omega
          | cons i0 ir => exact ⟨i0, ir, rfl⟩
        rw [hir] at hin
        have HIN := Lib.hid (show Ints w1 B A4 n4 c4 i0 from hin)
        have HIR := Lib.hid hir
        obtain ⟨t, ht⟩ : ∃ t, t = hasB i0 g.id := ⟨_, rfl⟩
        have HC := Lib.hid (show ∀ W, Below w1.heap.size w1 W → Calls Try.prog 53 #[.slice A4 n4 c4, .int .i64 g.id] W fun e w' => e = .returned (.bool t) ∧ Below W.heap.size W w' from fun W hW => by rw [ht]; exact contains_any B A4 n4 c4 i0 g.id W (HIN.out.below (hW.mono (by have := HB.out; omega))) (by have := HB.out; have := hW.size; omega))
        have HT := Lib.hid ht
        have q0 : ((s.inn.n : Int) == 0) = false := by simp [hin0]
        have q1 : (s.inn.n == 0) = false := by simp [hin0]
        have hpos : 0 < s.inn.n := by omega
        clear e0 hin eI hir ht
        rw [HEI.out] at xf4
        have hU0 := bup hA3
        have hU1 := bup hC
        have HUP := Lib.hid (bup hA3)
        refine wp_region_up w3.heap.size (by kernel_rfl) (by kernel_rfl) ?_
        repeat (go_big_quiet_step ((first | (go_at_call 53; exact Calls.up_of (Nat.le_refl _) (HC.out _ (HUP.out _))))))
        refine wpQuiet_nil (up_all fun w4 hb2 => ?_)
        have hA3 := bgo hA3 hb2
        have hC := bgo hC hb2
        clear hb2 HUP hU0 hU1
        rcases t with _ | _
        · have HF1 := Lib.hid (show mat1 P l gs p q = none by unfold mat1; rw [HIR.out]; simp only [HG.out, ← HT.out]; rfl)
          go_wp2_with fail
          go_roundw
          case rel => exact ⟨j + 1, by go_num, by omega, matL_none HTR.out HQ.out (HF1.out), hA3⟩
          case measure => simp [intOf] <;> omega
        · have hgt := Grd.tail' (HEI.out ▸ HS.out.inn) hpos
          rw [HIR.out] at hgt
          obtain ⟨At, hAt⟩ : ∃ z : Option Addr, (if s.inn.c = 1 then some ⟨b4, o4, none⟩ else some ⟨b4, o4 + 1, none⟩) = z := ⟨_, rfl⟩
          rw [hAt] at hgt
          have HGT := Lib.hid (show Grd w1 B At (s.inn.n - 1) (s.inn.c - 1) ir from hgt)
          obtain ⟨r1, hr1⟩ : ∃ z, z = rowB P l gs p ir := ⟨_, rfl⟩
          have HR1L := Lib.hid (fun z (hz : r1 = some z) => stB_length (show rowB P l gs p ir = some z from hr1 ▸ hz))
          have HR1T := Lib.hid (fun z (hz : r1 = some z) => stB_lt (show rowB P l gs p ir = some z from hr1 ▸ hz))
          have HR1 := Lib.hid hr1
          obtain ⟨r1n, hr1n⟩ : ∃ z, z = r1.map natI := ⟨_, rfl⟩
          have HR1N := Lib.hid hr1n
          have HROW7 := Lib.hid (fun W (hW : Below w1.heap.size w1 W) => show Calls Try.prog 54 #[.agg #[.int .i64 F.em, .slice F.GA F.gn F.gc, .slice F.MA F.mn F.mc, .slice F.LA F.ln F.lc, .slice F.FA F.fn F.fc, .slice F.SA F.sn F.sc], .agg #[.int .i64 l.ki, .int .i64 l.fl, .int .i64 l.se, .slice (some ⟨b, o, none⟩) l.su.n l.su.c], .slice (some ⟨b2, o2, none⟩) n c, .int .i64 (p : Int), .slice At (s.inn.n - 1) (s.inn.c - 1)] W (RetTo W r1n) from by
            have h0 := HROW.out W hW At (s.inn.n - 1) (s.inn.c - 1) ir p (HGT.out.below (hW.mono (by have := HB.out; omega))) hp (by omega)
            rw [← hr1, ← hr1n] at h0
            exact h0)
          clear hr1 hr1n hgt
          have sl1 : 1 ≤ s.inn.n := hpos
          have sl2 : (1 : Int) ≤ (s.inn.n : Int) := by omega
          have sl3 : ¬ s.inn.n < 1 := by omega
          have sl4 : decide (1 ≤ s.inn.n) = true := by simp; omega
          have sl5 : decide ((1 : Int) ≤ (s.inn.n : Int)) = true := by simp; omega
          have sl6 : decide (s.inn.n < 1) = false := by simp; omega
          have sl7 : 1 ≤ s.inn.c := by omega
          go_wp2_with fail
          go_region_held3 (fun W => W.cell? ⟨w.heap.size, 0, none⟩ = some (.int .i64 F.em) ∧ W.cell? ⟨w.heap.size, 1, none⟩ = some (.slice F.GA F.gn F.gc) ∧ W.cell? ⟨w.heap.size, 2, none⟩ = some (.slice F.MA F.mn F.mc) ∧ W.cell? ⟨w.heap.size, 3, none⟩ = some (.slice F.LA F.ln F.lc) ∧ W.cell? ⟨w.heap.size, 4, none⟩ = some (.slice F.FA F.fn F.fc) ∧ W.cell? ⟨w.heap.size, 5, none⟩ = some (.slice F.SA F.sn F.sc) ∧ W.cell? ⟨w.heap.size + 1, 0, none⟩ = some (.int .i64 l.ki) ∧ W.cell? ⟨w.heap.size + 1, 1, none⟩ = some (.int .i64 l.fl) ∧ W.cell? ⟨w.heap.size + 1, 2, none⟩ = some (.int .i64 l.se) ∧ W.cell? ⟨w.heap.size + 1, 3, none⟩ = some (.slice (some ⟨b, o, none⟩) l.su.n l.su.c) ∧ W.cell? ⟨bx, 4, none⟩ = some (.slice (some ⟨b4, o4, none⟩) s.inn.n s.inn.c)) (first | exact ⟨g0 w4 hA3, g1 w4 hA3, g2 w4 hA3, g3 w4 hA3, g4 w4 hA3, g5 w4 hA3, h0 w4 hA3, h1 w4 hA3, h2 w4 hA3, h3 w4 hA3, xf4 w4 hC⟩ | exact ⟨g0 w5 hA5, g1 w5 hA5, g2 w5 hA5, g3 w5 hA5, g4 w5 hA5, g5 w5 hA5, h0 w5 hA5, h1 w5 hA5, h2 w5 hA5, h3 w5 hA5, xf4 w5 hC5⟩)
            (first
              | (go_at_call 54; refine (HROW7.out _ (bgo hA3 ((Below.refl _ _).drew))).mono ?_; rintro e w5 ⟨A5, c5, rfl, hi5, hb5⟩; have hA5 := bgo hA3 (((Below.refl w4.heap.size w4).drew).trans hb5); have hC5 := bgo hC (((Below.refl w4.heap.size w4).drew).trans hb5))
          )
          clear hA3 hC hb5 hAt
          have HI5 := Lib.hid hi5
          clear hi5
          rcases r1 with _ | rest
          · obtain rfl : r1n = none := HR1N.out
            simp only [ Option.getD_none, Option.isSome_none, List.length_nil]
            have HF1 := Lib.hid (show mat1 P l gs p q = none by unfold mat1; rw [HIR.out]; simp only [HG.out, ← HT.out, ← HR1.out]; rfl)
            go_wp2_with fail
            go_roundw
            case rel => exact ⟨j + 1, by go_num, by omega, matL_none HTR.out HQ.out (HF1.out), hA5⟩
            case measure => simp [intOf] <;> omega
          · obtain rfl : r1n = some (natI rest) := HR1N.out
            simp only [Option.getD_some, Option.isSome_some, natI_length]
            have HRL := Lib.hid (HR1L.out rest rfl)
            obtain ⟨m, hm⟩ : ∃ m, m = rest.length := ⟨_, rfl⟩
            have HI5 := Lib.hid (show Ints w5 w5.heap.size A5 m c5 (natI rest) from by have h0 := HI5.out; simp only [Option.getD_some, natI_length] at h0; rw [hm]; exact h0)
            rw [← hm]
            have hmb : m ≤ 1000 := by have := HRL.out; have := congrArg List.length HIR.out; simp at this; omega
            have HM := Lib.hid hm
            clear hm
            obtain ⟨r2, hr2⟩ : ∃ z, z = backB P l gs p q.ba := ⟨_, rfl⟩
            have HR2 := Lib.hid hr2
            obtain ⟨r2n, hr2n⟩ : ∃ z, z = r2.map natI := ⟨_, rfl⟩
            have HR2N := Lib.hid hr2n
            have HBACK10 := Lib.hid (fun W (hW : Below w1.heap.size w1 W) => show Calls Try.prog 55 #[.agg #[.int .i64 F.em, .slice F.GA F.gn F.gc, .slice F.MA F.mn F.mc, .slice F.LA F.ln F.lc, .slice F.FA F.fn F.fc, .slice F.SA F.sn F.sc], .agg #[.int .i64 l.ki, .int .i64 l.fl, .int .i64 l.se, .slice (some ⟨b, o, none⟩) l.su.n l.su.c], .slice (some ⟨b2, o2, none⟩) n c, .int .i64 (p : Int), .slice s.ba.A s.ba.n s.ba.c] W (RetTo W r2n) from by
              have h0 := HBACK.out W hW s.ba.A s.ba.n s.ba.c q.ba p (HS.out.ba.below (hW.mono (by have := HB.out; omega))) hp (by omega)
              rw [← hr2, ← hr2n] at h0
              exact h0)
            clear hr2 hr2n
            have HW5 := Lib.hid (show w1.heap.size ≤ w5.heap.size from hA5.size)
            have HC5 := Lib.hid (show w3.heap.size ≤ w5.heap.size from hC5.size)
            go_upto_region 11 with (first
              | (at_builtin; refine wpList_append_ints _ rfl (.tmp 67) (.tmp 68) 51 rfl w5.heap.size 3 Try.underlying51 infoInt (some ⟨w5.heap.size, 0, none⟩) 1 1 [(p : Int)] rfl (Own.lit w5 [(p : Int)] _ _ (Nat.le_refl _) (by unfold maxLen; omega) rfl rfl) w5.heap.size A5 m c5 (natI rest) rfl (HI5.out.alloc (Nat.le_refl _) _) (by omega) (by simp) ?_; intro A6 c6 w6 ho6 hg6 hb6; have hA6 := below_append (hA5.alloc HW5.out (.cells #[.int .i64 (p : Int)] 3)) (by have := HW5.out; simp; omega) hg6 (Own.lit w5 [(p : Int)] _ _ (Nat.le_refl _) (by unfold maxLen; omega) rfl rfl) HW5.out; have hC6 := below_append (hC5.alloc HC5.out (.cells #[.int .i64 (p : Int)] 3)) (by have := HC5.out; simp; omega) hg6 (Own.lit w5 [(p : Int)] _ _ (Nat.le_refl _) (by unfold maxLen; omega) rfl rfl) HC5.out)
              | (go_at_call 55; refine (HBACK10.out _ hA6).mono ?_; rintro e w7 ⟨A7, c7, rfl, hi7, hb7⟩; have hA7 := bgo hA6 hb7; have hC7 := bgo hC6 hb7))
            have HI7 := Lib.hid hi7
            have HO6 := Lib.hid ho6
            have HB7 := Lib.hid hb7
            have HC6 := Lib.hid hC6
            have HA6 := Lib.hid hA6
            clear hi7 ho6 hb7 hb6 hg6 hA6 hC6 hA5 hC5
            rcases r2 with _ | bk
            · obtain rfl : r2n = none := HR2N.out
              simp only [Option.getD_none, Option.isSome_none, List.length_nil]
              have HF1 := Lib.hid (show mat1 P l gs p q = none by unfold mat1; rw [HIR.out]; simp only [HG.out, ← HT.out, ← HR1.out, ← HR2.out]; rfl)
              go_wp2_with fail
              go_roundw
              case rel => exact ⟨j + 1, by go_num, by omega, matL_none HTR.out HQ.out (HF1.out), hA7⟩
              case measure => simp [intOf] <;> omega
            · obtain rfl : r2n = some (natI bk) := HR2N.out
              simp only [Option.getD_some, Option.isSome_some, natI_length]
              obtain ⟨q3, hq3⟩ : ∃ z, z = (p :: rest).getD rest.length 0 := ⟨_, rfl⟩
              have hq3n : q3 < n := by
                have h0 := HR1T.out rest rfl
                rw [hq3, List.getD_eq_getElem?_getD, List.getElem?_eq_getElem (by simp)]
                have hm0 := List.getElem_mem (l := p :: rest) (n := rest.length) (by simp)
                rcases List.mem_cons.1 hm0 with h1 | h1
                · rw [Option.getD_some, h1]; exact hp
                · rw [Option.getD_some]; have := h0 _ h1; omega
              obtain ⟨gb, x, eA6, hgb1, hgb2, hx, cx, -⟩ := HO6.out.at_ (k := m) (by omega)
              have hxq : x = (q3 : Int) := by
                have h1 : ((p : Int) :: natI rest)[m]? = some x := hx
                have h2 : (natI (p :: rest))[m]? = some x := h1
                unfold natI at h2
                rw [List.getElem?_map] at h2
                rw [hq3, List.getD_eq_getElem?_getD, ← HM.out]
                cases h3 : (p :: rest)[m]? with
                | none => rw [h3] at h2; cases h2
                | some y => rw [h3] at h2; cases h2; rfl
              rw [hxq] at cx
              have cx7 := up_fact cx
              have hB67 := HB7.out
              subst eA6
              obtain ⟨r3, hr3⟩ : ∃ z, z = rowB P l gs q3 q.ah := ⟨_, rfl⟩
              have HR3 := Lib.hid hr3
              obtain ⟨r3n, hr3n⟩ : ∃ z, z = r3.map natI := ⟨_, rfl⟩
              have HR3N := Lib.hid hr3n
              have HROW12 := Lib.hid (fun W (hW : Below w1.heap.size w1 W) => show Calls Try.prog 54 #[.agg #[.int .i64 F.em, .slice F.GA F.gn F.gc, .slice F.MA F.mn F.mc, .slice F.LA F.ln F.lc, .slice F.FA F.fn F.fc, .slice F.SA F.sn F.sc], .agg #[.int .i64 l.ki, .int .i64 l.fl, .int .i64 l.se, .slice (some ⟨b, o, none⟩) l.su.n l.su.c], .slice (some ⟨b2, o2, none⟩) n c, .int .i64 (q3 : Int), .slice s.ah.A s.ah.n s.ah.c] W (RetTo W r3n) from by
                have h0 := HROW.out W hW s.ah.A s.ah.n s.ah.c q.ah q3 (HS.out.ah.below (hW.mono (by have := HB.out; omega))) hq3n (by omega)
                rw [← hr3, ← hr3n] at h0
                exact h0)
              have HQ3 := Lib.hid hq3
              have hsb : IntKind.i64.wrap (((1 + m : Nat) : Int) - 1) = (m : Int) := by rw [IntKind.wrap_i64]; omega
              have hsb2 : IntKind.i64.wrap (1 + (m : Int) - 1) = (m : Int) := by rw [IntKind.wrap_i64]; omega
              have hlm : m < 1 + m := by omega
              have hlm1 : (m : Int) < 1 + (m : Int) := by omega
              have hlm2 : (0 : Int) ≤ (m : Int) := by omega
              have hlm3 : decide (m < 1 + m) = true := by simp
              have hlm4 : (m : Int) < ((1 + m : Nat) : Int) := by omega
              clear hr3 hr3n hx hxq cx hq3
              go_wp2_with fail
              go_region_held3 (fun W => W.cell? ⟨w.heap.size, 0, none⟩ = some (.int .i64 F.em) ∧ W.cell? ⟨w.heap.size, 1, none⟩ = some (.slice F.GA F.gn F.gc) ∧ W.cell? ⟨w.heap.size, 2, none⟩ = some (.slice F.MA F.mn F.mc) ∧ W.cell? ⟨w.heap.size, 3, none⟩ = some (.slice F.LA F.ln F.lc) ∧ W.cell? ⟨w.heap.size, 4, none⟩ = some (.slice F.FA F.fn F.fc) ∧ W.cell? ⟨w.heap.size, 5, none⟩ = some (.slice F.SA F.sn F.sc) ∧ W.cell? ⟨w.heap.size + 1, 0, none⟩ = some (.int .i64 l.ki) ∧ W.cell? ⟨w.heap.size + 1, 1, none⟩ = some (.int .i64 l.fl) ∧ W.cell? ⟨w.heap.size + 1, 2, none⟩ = some (.int .i64 l.se) ∧ W.cell? ⟨w.heap.size + 1, 3, none⟩ = some (.slice (some ⟨b, o, none⟩) l.su.n l.su.c) ∧ W.cell? ⟨bx, 5, none⟩ = some (.slice s.ah.A s.ah.n s.ah.c) ∧ W.cell? ⟨gb, m, none⟩ = some (.int .i64 (q3 : Int))) (first | exact ⟨g0 w7 hA7, g1 w7 hA7, g2 w7 hA7, g3 w7 hA7, g4 w7 hA7, g5 w7 hA7, h0 w7 hA7, h1 w7 hA7, h2 w7 hA7, h3 w7 hA7, xf5 w7 hC7, cx7 w7 hB67⟩ | exact ⟨g0 w8 hA8, g1 w8 hA8, g2 w8 hA8, g3 w8 hA8, g4 w8 hA8, g5 w8 hA8, h0 w8 hA8, h1 w8 hA8, h2 w8 hA8, h3 w8 hA8, xf5 w8 hC8, cx7 w8 hB68⟩)
                (first
                  | (go_at_call 54; refine (HROW12.out _ (bgo hA7 ((Below.refl _ _).drew))).mono ?_; rintro e w8 ⟨A8, c8, rfl, hi8, hb8⟩; have hA8 := bgo hA7 (((Below.refl w7.heap.size w7).drew).trans hb8); have hC8 := bgo hC7 (((Below.refl w7.heap.size w7).drew).trans hb8); have hB68 := bgo hB67 (((Below.refl w7.heap.size w7).drew).trans hb8))
              )
              have HO8 := Lib.hid (HO6.out.ints.below hB68)
              have hsz8 := hB68.size
              have HI8 := Lib.hid hi8
              clear hi8 hb8 hA7 hC7 hB67 hB68
              rcases r3 with _ | ah3
              · obtain rfl : r3n = none := HR3N.out
                simp only [Option.getD_none, Option.isSome_none, List.length_nil]
                have HF1 := Lib.hid (show mat1 P l gs p q = none by unfold mat1; rw [HIR.out]; simp only [HG.out, ← HT.out, ← HR1.out, ← HR2.out, ← HQ3.out, ← HR3.out]; rfl)
                go_wp2_with fail
                go_roundw
                case rel => exact ⟨j + 1, by go_num, by omega, matL_none HTR.out HQ.out (HF1.out), hA8⟩
                case measure => simp [intOf] <;> omega
              · obtain rfl : r3n = some (natI ah3) := HR3N.out
                simp only [Option.getD_some, Option.isSome_some, natI_length]
                have HF1 := Lib.hid (show mat1 P l gs p q = some (p :: rest) by unfold mat1; rw [HIR.out]; simp only [HG.out, ← HT.out, ← HR1.out, ← HR2.out, ← HQ3.out, ← HR3.out]; rfl)
                have HEND := Lib.hid (matL_some HTR.out HQ.out HF1.out)
                go_wp2_with fail
                go_ret3
                rw [HEND.out]
                have e1 : (p :: rest).length = 1 + m := by rw [HM.out, List.length_cons]; omega
                refine ⟨some ⟨gb, 0, none⟩, c6, by rw [e1]; rfl, ?_, (fun x hx => by cases hx; show w.heap.size ≤ gb; have := HW5.out; omega), HB1.out.trans (hA8.mono (by have := HB.out; omega))⟩
                rw [e1]
                exact HO8.out.more (by omega)
    · have hjn : j = su.length := by omega
      have z9 : decide ((j : Int) < (l.su.n : Int)) = false := by simp; omega
      have HEND := Lib.hid (show tot = none from matL_end (by have := HTR.out; rw [hjn] at this; exact this))
      go_wp2_with fail
      go_ret3
      rw [HEND.out]
      exact ⟨rfl, HB1.out.trans (hA.mono (by have := HB.out; omega))⟩

end Go.Proofs.Ytngdolmmaiogiaa
