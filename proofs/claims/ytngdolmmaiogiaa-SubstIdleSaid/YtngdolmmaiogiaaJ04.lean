/- Joined: SkipA. -/
import Derived.Test.YtngdolmmaiogiaaJ03

/- The walks of skip.marks and Skips. Condition: the font reads as plain data. Printed by wip/tools. -/
namespace Go.Proofs.Ytngdolmmaiogiaa
open Go.RowKit

def inB (ss : List (List Int)) (se g : Int) : Bool := if 0 ≤ se then hasB (ss.getD se.toNat []) g else false
/-- the class of marks that are seen -/
def clB (fl : Int) : Int := IntKind.i64.wrap (Int.tdiv fl 256)
def marksB (P : PFt) (se fl g : Int) : Bool :=
  if (bits BinOp.and IntKind.i64 fl 8 != 0) = true then true
  else if ((bits BinOp.and IntKind.i64 fl 16 != 0) && !inB P.ss se g) = true then true
  else (clB fl != 0) && (clB fl != (infB P.gi g).2)
/-- is a glyph not seen? -/
def skipK (P : PFt) (se fl kd g : Int) : Bool := if kd = 1 then bits BinOp.and IntKind.i64 fl 2 != 0 else if kd = 2 then bits BinOp.and IntKind.i64 fl 4 != 0 else if kd = 3 then marksB P se fl g else false
def skipB (P : PFt) (fl se g : Int) : Bool := skipK P se (max fl 0) (infB P.gi g).1 g
set_option maxRecDepth 100000 in
set_option maxHeartbeats 4000000 in
theorem marks_any (F : Fnt) (B : Nat) (P : PFt) (l : Lk) (fl g : Int) (w : World) (h : FtR w B F P) (hB : B ≤ w.heap.size) :
    Calls Try.prog 49 #[.agg #[.int .i64 F.em, .slice F.GA F.gn F.gc, .slice F.MA F.mn F.mc, .slice F.LA F.ln F.lc, .slice F.FA F.fn F.fc, .slice F.SA F.sn F.sc], .agg #[.int .i64 l.ki, .int .i64 l.fl, .int .i64 l.se, .slice l.su.A l.su.n l.su.c], .int .i64 fl, .int .i64 g] w (fun e w' => e = .returned (.bool (marksB P l.se fl g)) ∧ Below w.heap.size w w') := by
  have HF := Lib.hid h
  have hcap := h.ss.cap
  clear h
  obtain ⟨wb1, hw_wb1⟩ : ∃ z, z = w.alloc (.cells #[.int .i64 F.em, .slice F.GA F.gn F.gc, .slice F.MA F.mn F.mc, .slice F.LA F.ln F.lc, .slice F.FA F.fn F.fc, .slice F.SA F.sn F.sc] 28) := ⟨_, rfl⟩
  have hs_wb1 : wb1.heap.size = w.heap.size + 1 := by rw [hw_wb1]; simp
  have hb_wb1 : Below w.heap.size w wb1 := by rw [hw_wb1]; exact (Below.refl _ _).alloc (Nat.le_refl _) _
  have hx_0 : wb1.heap[w.heap.size]? = some (.cells #[.int .i64 F.em, .slice F.GA F.gn F.gc, .slice F.MA F.mn F.mc, .slice F.LA F.ln F.lc, .slice F.FA F.fn F.fc, .slice F.SA F.sn F.sc] 28 (0, 0)) := by rw [hw_wb1]; exact heap_alloc_new _ _
  obtain ⟨w1, hw_w1⟩ : ∃ z, z = wb1.alloc (.cells #[.int .i64 l.ki, .int .i64 l.fl, .int .i64 l.se, .slice l.su.A l.su.n l.su.c] 36) := ⟨_, rfl⟩
  have hs_w1 : w1.heap.size = w.heap.size + 2 := by rw [hw_w1]; simp <;> omega
  have hb_w1 : Below w.heap.size w w1 := by rw [hw_w1]; exact hb_wb1.alloc (by omega) _
  have hx_1 : w1.heap[w.heap.size + 1]? = some (.cells #[.int .i64 l.ki, .int .i64 l.fl, .int .i64 l.se, .slice l.su.A l.su.n l.su.c] 36 (0, 0)) := by rw [hw_w1]; exact (hs_wb1 ▸ heap_alloc_new wb1 _)
  have hx_0 : w1.heap[w.heap.size]? = some (.cells #[.int .i64 F.em, .slice F.GA F.gn F.gc, .slice F.MA F.mn F.mc, .slice F.LA F.ln F.lc, .slice F.FA F.fn F.fc, .slice F.SA F.sn F.sc] 28 (0, 0)) := by rw [hw_w1]; exact (heap_alloc_old _ _ (by omega)).trans hx_0
  have g0 := up_fact (show w1.cell? ⟨w.heap.size, 0, none⟩ = some (.int .i64 F.em) by rw [cell_of_row _ _ 0 _ _ _ hx_0]; rfl)
  have g1 := up_fact (show w1.cell? ⟨w.heap.size, 1, none⟩ = some (.slice F.GA F.gn F.gc) by rw [cell_of_row _ _ 1 _ _ _ hx_0]; rfl)
  have g2 := up_fact (show w1.cell? ⟨w.heap.size, 2, none⟩ = some (.slice F.MA F.mn F.mc) by rw [cell_of_row _ _ 2 _ _ _ hx_0]; rfl)
  have g3 := up_fact (show w1.cell? ⟨w.heap.size, 3, none⟩ = some (.slice F.LA F.ln F.lc) by rw [cell_of_row _ _ 3 _ _ _ hx_0]; rfl)
  have g4 := up_fact (show w1.cell? ⟨w.heap.size, 4, none⟩ = some (.slice F.FA F.fn F.fc) by rw [cell_of_row _ _ 4 _ _ _ hx_0]; rfl)
  have g5 := up_fact (show w1.cell? ⟨w.heap.size, 5, none⟩ = some (.slice F.SA F.sn F.sc) by rw [cell_of_row _ _ 5 _ _ _ hx_0]; rfl)
  have h0 := up_fact (show w1.cell? ⟨w.heap.size + 1, 0, none⟩ = some (.int .i64 l.ki) by rw [cell_of_row _ _ 0 _ _ _ hx_1]; rfl)
  have h1 := up_fact (show w1.cell? ⟨w.heap.size + 1, 1, none⟩ = some (.int .i64 l.fl) by rw [cell_of_row _ _ 1 _ _ _ hx_1]; rfl)
  have h2 := up_fact (show w1.cell? ⟨w.heap.size + 1, 2, none⟩ = some (.int .i64 l.se) by rw [cell_of_row _ _ 2 _ _ _ hx_1]; rfl)
  have h3 := up_fact (show w1.cell? ⟨w.heap.size + 1, 3, none⟩ = some (.slice l.su.A l.su.n l.su.c) by rw [cell_of_row _ _ 3 _ _ _ hx_1]; rfl)
  have hA0 := Below.refl w1.heap.size w1
  have HS1 := Lib.hid hs_w1
  have hs1 : w.heap.size + 1 < w1.heap.size := by omega
  have HB1 := Lib.hid hb_w1
  have HW_wb1 := Lib.hid hw_wb1
  have HW_w1 := Lib.hid hw_w1
  clear hw_wb1 hs_wb1 hb_wb1 hw_w1 hs_w1 hb_w1
  clear hx_0 hx_1
  have HB := Lib.hid hB
  have HAT := Lib.hid (fun W (hW : Below w1.heap.size w1 W) => attach_any F B P.gi g W (HF.out.gi.below ((HB1.out.mono HB.out).trans (hW.mono (by have := HB.out; omega))) fun _ _ h => h.below ((HB1.out.mono HB.out).trans (hW.mono (by have := HB.out; omega)))) (by have := HB.out; have := hW.size; omega))
  have hwq : IntKind.i64.wrap (Int.tdiv fl 256) = clB fl := rfl
  by_cases h8 : (bits BinOp.and IntKind.i64 fl 8 != 0) = true
  · have HM := Lib.hid (show marksB P l.se fl g = true by unfold marksB; rw [if_pos h8])
    go_enter Try.func49, Try.ntmps49
    go_upto_region 1 with (fail)
    rw [← HW_wb1.out]
    rw [← HW_w1.out]
    go_wp2_with fail
    go_ret
    rw [HM.out]
    exact ⟨rfl, HB1.out.trans (hA0.mono (by omega))⟩
  rw [Bool.not_eq_true] at h8
  by_cases h16 : (bits BinOp.and IntKind.i64 fl 16 != 0) = true
  · by_cases hs0 : 0 ≤ l.se
    · obtain ⟨k, hk⟩ : ∃ k : Nat, l.se = (k : Int) := ⟨l.se.toNat, by omega⟩
      by_cases hkn : k < F.sn
      · obtain ⟨b, o, A', n', c', eA, hbb, c0, hin⟩ := (HF.out.ss.below (HB1.out.mono HB.out)).2.2.2 k hkn
        obtain ⟨t, ht⟩ : ∃ t, t = hasB (P.ss.getD k []) g := ⟨_, rfl⟩
        have HIN := Lib.hid (show inB P.ss l.se g = t by unfold inB; rw [hk, if_pos (by omega), Int.toNat_natCast, ht])
        have HC := Lib.hid (show ∀ W, Below w1.heap.size w1 W → Calls Try.prog 53 #[.slice A' n' c', .int .i64 g] W fun e w' => e = .returned (.bool t) ∧ Below W.heap.size W w' from fun W hW => by rw [ht]; exact contains_any B A' n' c' _ g W (hin.below (hW.mono (by have := HB.out; omega))) (by have := HB.out; have := hW.size; omega))
        have HK := Lib.hid hk
        have HEA := Lib.hid eA
        have c1 := up_fact c0
        have z0 : decide (0 ≤ (k : Int)) = true := by simp
        have z1 : decide ((k : Int) < (F.sn : Int)) = true := by simp; omega
        have z2 : decide (k < F.sn) = true := by simp; omega
        clear hk ht hin eA c0
        rw [HEA.out] at g5 HAT
        rw [HK.out] at h2
        rcases t with _ | _
        · have HM := Lib.hid (show marksB P l.se fl g = true by unfold marksB; rw [if_neg (by simp [h8]), HIN.out, if_pos (by simp [h16])])
          go_enter Try.func49, Try.ntmps49
          go_upto_region 1 with (fail)
          rw [← HW_wb1.out]
          rw [← HW_w1.out]
          go_wp2_with (first
            | (go_at_call 53; refine (HC.out _ hA0).mono ?_; rintro e w9 ⟨rfl, hb⟩; have hA0 := bgo hA0 hb; clear hb)
            | fail)
          go_ret
          rw [HM.out]
          exact ⟨rfl, HB1.out.trans (hA0.mono (by omega))⟩
        · by_cases hc : (clB fl != 0) = true
          · have HM := Lib.hid (show marksB P l.se fl g = (clB fl != (infB P.gi g).2) by unfold marksB; rw [if_neg (by simp [h8]), HIN.out, if_neg (by simp)]; simp [hc])
            go_enter Try.func49, Try.ntmps49
            go_upto_region 1 with (fail)
            rw [← HW_wb1.out]
            rw [← HW_w1.out]
            go_wp2_with (first
              | (go_at_call 53; refine (HC.out _ hA0).mono ?_; rintro e w9 ⟨rfl, hb⟩; have hA0 := bgo hA0 hb; clear hb)
              | (go_at_call 58; refine (HAT.out _ hA0).mono ?_; rintro e w9 ⟨rfl, hb⟩; have hA0 := bgo hA0 hb; clear hb))
            go_ret
            rw [HM.out]
            exact ⟨rfl, HB1.out.trans (hA0.mono (by omega))⟩
          · rw [Bool.not_eq_true] at hc
            have HM := Lib.hid (show marksB P l.se fl g = false by unfold marksB; rw [if_neg (by simp [h8]), HIN.out, if_neg (by simp)]; simp [hc])
            go_enter Try.func49, Try.ntmps49
            go_upto_region 1 with (fail)
            rw [← HW_wb1.out]
            rw [← HW_w1.out]
            go_wp2_with (first
              | (go_at_call 53; refine (HC.out _ hA0).mono ?_; rintro e w9 ⟨rfl, hb⟩; have hA0 := bgo hA0 hb; clear hb)
              | (go_at_call 58; refine (HAT.out _ hA0).mono ?_; rintro e w9 ⟨rfl, hb⟩; have hA0 := bgo hA0 hb; clear hb))
            go_ret
            rw [HM.out]
            exact ⟨rfl, HB1.out.trans (hA0.mono (by omega))⟩
      · have HIN := Lib.hid (show inB P.ss l.se g = false by unfold inB; rw [if_pos hs0, List.getD_eq_getElem?_getD, List.getElem?_eq_none (by have := HF.out.ss.1; omega)]; rfl)
        have HM := Lib.hid (show marksB P l.se fl g = true by unfold marksB; rw [if_neg (by simp [h8]), HIN.out, if_pos (by simp [h16])])
        have z0 : decide (0 ≤ l.se) = true := by simp; omega
        have z1 : decide (l.se < (F.sn : Int)) = false := by simp; omega
        clear hk hkn
        go_enter Try.func49, Try.ntmps49
        go_upto_region 1 with (fail)
        rw [← HW_wb1.out]
        rw [← HW_w1.out]
        go_wp2_with fail
        go_ret
        rw [HM.out]
        exact ⟨rfl, HB1.out.trans (hA0.mono (by omega))⟩
    · have HIN := Lib.hid (show inB P.ss l.se g = false by unfold inB; rw [if_neg hs0])
      have HM := Lib.hid (show marksB P l.se fl g = true by unfold marksB; rw [if_neg (by simp [h8]), HIN.out, if_pos (by simp [h16])])
      have z0 : decide (0 ≤ l.se) = false := by simp; omega
      go_enter Try.func49, Try.ntmps49
      go_upto_region 1 with (fail)
      rw [← HW_wb1.out]
      rw [← HW_w1.out]
      go_wp2_with fail
      go_ret
      rw [HM.out]
      exact ⟨rfl, HB1.out.trans (hA0.mono (by omega))⟩
  · rw [Bool.not_eq_true] at h16
    by_cases hc : (clB fl != 0) = true
    · have HM := Lib.hid (show marksB P l.se fl g = (clB fl != (infB P.gi g).2) by unfold marksB; simp [*])
      go_enter Try.func49, Try.ntmps49
      go_upto_region 1 with (fail)
      rw [← HW_wb1.out]
      rw [← HW_w1.out]
      go_wp2_with (first
        | (go_at_call 53; refine (HC.out _ hA0).mono ?_; rintro e w9 ⟨rfl, hb⟩; have hA0 := bgo hA0 hb; clear hb)
        | (go_at_call 58; refine (HAT.out _ hA0).mono ?_; rintro e w9 ⟨rfl, hb⟩; have hA0 := bgo hA0 hb; clear hb))
      go_ret
      rw [HM.out]
      exact ⟨rfl, HB1.out.trans (hA0.mono (by omega))⟩
    · rw [Bool.not_eq_true] at hc
      have HM := Lib.hid (show marksB P l.se fl g = false by unfold marksB; simp [*])
      go_enter Try.func49, Try.ntmps49
      go_upto_region 1 with (fail)
      rw [← HW_wb1.out]
      rw [← HW_w1.out]
      go_wp2_with (first
        | (go_at_call 53; refine (HC.out _ hA0).mono ?_; rintro e w9 ⟨rfl, hb⟩; have hA0 := bgo hA0 hb; clear hb)
        | (go_at_call 58; refine (HAT.out _ hA0).mono ?_; rintro e w9 ⟨rfl, hb⟩; have hA0 := bgo hA0 hb; clear hb))
      go_ret
      rw [HM.out]
      exact ⟨rfl, HB1.out.trans (hA0.mono (by omega))⟩

set_option maxRecDepth 100000 in
set_option maxHeartbeats 4000000 in
theorem skips_any (F : Fnt) (B : Nat) (P : PFt) (l : Lk) (g : Int) (w : World) (h : FtR w B F P) (hB : B ≤ w.heap.size) :
    Calls Try.prog 41 #[.agg #[.int .i64 F.em, .slice F.GA F.gn F.gc, .slice F.MA F.mn F.mc, .slice F.LA F.ln F.lc, .slice F.FA F.fn F.fc, .slice F.SA F.sn F.sc], .agg #[.int .i64 l.ki, .int .i64 l.fl, .int .i64 l.se, .slice l.su.A l.su.n l.su.c], .int .i64 g] w (fun e w' => e = .returned (.bool (skipB P l.fl l.se g)) ∧ Below w.heap.size w w') := by
  have HF := Lib.hid h
  clear h
  obtain ⟨wb1, hw_wb1⟩ : ∃ z, z = w.alloc (.cells #[.int .i64 F.em, .slice F.GA F.gn F.gc, .slice F.MA F.mn F.mc, .slice F.LA F.ln F.lc, .slice F.FA F.fn F.fc, .slice F.SA F.sn F.sc] 28) := ⟨_, rfl⟩
  have hs_wb1 : wb1.heap.size = w.heap.size + 1 := by rw [hw_wb1]; simp
  have hb_wb1 : Below w.heap.size w wb1 := by rw [hw_wb1]; exact (Below.refl _ _).alloc (Nat.le_refl _) _
  have hx_0 : wb1.heap[w.heap.size]? = some (.cells #[.int .i64 F.em, .slice F.GA F.gn F.gc, .slice F.MA F.mn F.mc, .slice F.LA F.ln F.lc, .slice F.FA F.fn F.fc, .slice F.SA F.sn F.sc] 28 (0, 0)) := by rw [hw_wb1]; exact heap_alloc_new _ _
  obtain ⟨w1, hw_w1⟩ : ∃ z, z = wb1.alloc (.cells #[.int .i64 l.ki, .int .i64 l.fl, .int .i64 l.se, .slice l.su.A l.su.n l.su.c] 36) := ⟨_, rfl⟩
  have hs_w1 : w1.heap.size = w.heap.size + 2 := by rw [hw_w1]; simp <;> omega
  have hb_w1 : Below w.heap.size w w1 := by rw [hw_w1]; exact hb_wb1.alloc (by omega) _
  have hx_1 : w1.heap[w.heap.size + 1]? = some (.cells #[.int .i64 l.ki, .int .i64 l.fl, .int .i64 l.se, .slice l.su.A l.su.n l.su.c] 36 (0, 0)) := by rw [hw_w1]; exact (hs_wb1 ▸ heap_alloc_new wb1 _)
  have hx_0 : w1.heap[w.heap.size]? = some (.cells #[.int .i64 F.em, .slice F.GA F.gn F.gc, .slice F.MA F.mn F.mc, .slice F.LA F.ln F.lc, .slice F.FA F.fn F.fc, .slice F.SA F.sn F.sc] 28 (0, 0)) := by rw [hw_w1]; exact (heap_alloc_old _ _ (by omega)).trans hx_0
  have g0 := up_fact (show w1.cell? ⟨w.heap.size, 0, none⟩ = some (.int .i64 F.em) by rw [cell_of_row _ _ 0 _ _ _ hx_0]; rfl)
  have g1 := up_fact (show w1.cell? ⟨w.heap.size, 1, none⟩ = some (.slice F.GA F.gn F.gc) by rw [cell_of_row _ _ 1 _ _ _ hx_0]; rfl)
  have g2 := up_fact (show w1.cell? ⟨w.heap.size, 2, none⟩ = some (.slice F.MA F.mn F.mc) by rw [cell_of_row _ _ 2 _ _ _ hx_0]; rfl)
  have g3 := up_fact (show w1.cell? ⟨w.heap.size, 3, none⟩ = some (.slice F.LA F.ln F.lc) by rw [cell_of_row _ _ 3 _ _ _ hx_0]; rfl)
  have g4 := up_fact (show w1.cell? ⟨w.heap.size, 4, none⟩ = some (.slice F.FA F.fn F.fc) by rw [cell_of_row _ _ 4 _ _ _ hx_0]; rfl)
  have g5 := up_fact (show w1.cell? ⟨w.heap.size, 5, none⟩ = some (.slice F.SA F.sn F.sc) by rw [cell_of_row _ _ 5 _ _ _ hx_0]; rfl)
  have h0 := up_fact (show w1.cell? ⟨w.heap.size + 1, 0, none⟩ = some (.int .i64 l.ki) by rw [cell_of_row _ _ 0 _ _ _ hx_1]; rfl)
  have h1 := up_fact (show w1.cell? ⟨w.heap.size + 1, 1, none⟩ = some (.int .i64 l.fl) by rw [cell_of_row _ _ 1 _ _ _ hx_1]; rfl)
  have h2 := up_fact (show w1.cell? ⟨w.heap.size + 1, 2, none⟩ = some (.int .i64 l.se) by rw [cell_of_row _ _ 2 _ _ _ hx_1]; rfl)
  have h3 := up_fact (show w1.cell? ⟨w.heap.size + 1, 3, none⟩ = some (.slice l.su.A l.su.n l.su.c) by rw [cell_of_row _ _ 3 _ _ _ hx_1]; rfl)
  have hA0 := Below.refl w1.heap.size w1
  have HS1 := Lib.hid hs_w1
  have hs1 : w.heap.size + 1 < w1.heap.size := by omega
  have HB1 := Lib.hid hb_w1
  have HW_wb1 := Lib.hid hw_wb1
  have HW_w1 := Lib.hid hw_w1
  clear hw_wb1 hs_wb1 hb_wb1 hw_w1 hs_w1 hb_w1
  clear hx_0 hx_1
  have HB := Lib.hid hB
  obtain ⟨kd, hkd⟩ : ∃ z, z = (infB P.gi g).1 := ⟨_, rfl⟩
  have HKI := Lib.hid (show ∀ W, Below w1.heap.size w1 W → Calls Try.prog 48 #[.agg #[.int .i64 F.em, .slice F.GA F.gn F.gc, .slice F.MA F.mn F.mc, .slice F.LA F.ln F.lc, .slice F.FA F.fn F.fc, .slice F.SA F.sn F.sc], .int .i64 g] W fun e w' => e = .returned (.int .i64 kd) ∧ Below W.heap.size W w' from fun W (hW : Below w1.heap.size w1 W) => by rw [hkd]; exact gkind_any F B P.gi g W (HF.out.gi.below ((HB1.out.mono HB.out).trans (hW.mono (by have := HB.out; omega))) fun _ _ h => h.below ((HB1.out.mono HB.out).trans (hW.mono (by have := HB.out; omega)))) (by have := HB.out; have := hW.size; omega))
  have HMK := Lib.hid (fun fl W (hW : Below w1.heap.size w1 W) => marks_any F B P l fl g W (HF.out.below ((HB1.out.mono HB.out).trans (hW.mono (by have := HB.out; omega)))) (by have := HB.out; have := hW.size; omega))
  have HM := Lib.hid (show skipB P l.fl l.se g = skipK P l.se (max l.fl 0) kd g by unfold skipB; rw [hkd])
  clear hkd
  by_cases hn : 0 < l.fl
  · have HMX := Lib.hid (show max l.fl 0 = l.fl by omega)
    have n1 : decide (l.fl < 0) = false := by simp; omega
    have n2 : decide (0 < l.fl) = true := by simp; omega
    have n3 : ¬ l.fl < 0 := by omega
    have n4 : ¬ l.fl ≤ 0 := by omega
    by_cases k1 : kd = 1
    · subst k1
      have HM2 := Lib.hid (show skipK P l.se l.fl 1 g = (bits BinOp.and IntKind.i64 l.fl 2 != 0) by unfold skipK; simp)
      go_enter Try.func41, Try.ntmps41
      go_upto_region 1 with (fail)
      rw [← HW_wb1.out]
      rw [← HW_w1.out]
      go_wp2_with (first
        | (go_at_call 48; refine (HKI.out _ hA0).mono ?_; rintro e w9 ⟨rfl, hb⟩; have hA0 := bgo hA0 hb; clear hb)
        | (go_at_call 49; refine (HMK.out _ _ hA0).mono ?_; rintro e w9 ⟨rfl, hb⟩; have hA0 := bgo hA0 hb; clear hb))
      go_ret
      rw [HM.out, HMX.out, HM2.out]
      exact ⟨rfl, HB1.out.trans (hA0.mono (by omega))⟩
    by_cases k2 : kd = 2
    · subst k2
      have HM2 := Lib.hid (show skipK P l.se l.fl 2 g = (bits BinOp.and IntKind.i64 l.fl 4 != 0) by unfold skipK; simp)
      go_enter Try.func41, Try.ntmps41
      go_upto_region 1 with (fail)
      rw [← HW_wb1.out]
      rw [← HW_w1.out]
      go_wp2_with (first
        | (go_at_call 48; refine (HKI.out _ hA0).mono ?_; rintro e w9 ⟨rfl, hb⟩; have hA0 := bgo hA0 hb; clear hb)
        | (go_at_call 49; refine (HMK.out _ _ hA0).mono ?_; rintro e w9 ⟨rfl, hb⟩; have hA0 := bgo hA0 hb; clear hb))
      go_ret
      rw [HM.out, HMX.out, HM2.out]
      exact ⟨rfl, HB1.out.trans (hA0.mono (by omega))⟩
    by_cases k3 : kd = 3
    · subst k3
      have HM2 := Lib.hid (show skipK P l.se l.fl 3 g = marksB P l.se l.fl g by unfold skipK; simp)
      go_enter Try.func41, Try.ntmps41
      go_upto_region 1 with (fail)
      rw [← HW_wb1.out]
      rw [← HW_w1.out]
      go_wp2_with (first
        | (go_at_call 48; refine (HKI.out _ hA0).mono ?_; rintro e w9 ⟨rfl, hb⟩; have hA0 := bgo hA0 hb; clear hb)
        | (go_at_call 49; refine (HMK.out _ _ hA0).mono ?_; rintro e w9 ⟨rfl, hb⟩; have hA0 := bgo hA0 hb; clear hb))
      go_ret
      rw [HM.out, HMX.out, HM2.out]
      exact ⟨rfl, HB1.out.trans (hA0.mono (by omega))⟩
    · have HM2 := Lib.hid (show skipK P l.se l.fl kd g = false by unfold skipK; simp [k1, k2, k3])
      have q1 : (kd == 1) = false := by simp [k1]
      have q2 : (kd == 2) = false := by simp [k2]
      have q3 : (kd == 3) = false := by simp [k3]
      go_enter Try.func41, Try.ntmps41
      go_upto_region 1 with (fail)
      rw [← HW_wb1.out]
      rw [← HW_w1.out]
      go_wp2_with (first
        | (go_at_call 48; refine (HKI.out _ hA0).mono ?_; rintro e w9 ⟨rfl, hb⟩; have hA0 := bgo hA0 hb; clear hb)
        | (go_at_call 49; refine (HMK.out _ _ hA0).mono ?_; rintro e w9 ⟨rfl, hb⟩; have hA0 := bgo hA0 hb; clear hb))
      go_ret
      rw [HM.out, HMX.out, HM2.out]
      exact ⟨rfl, HB1.out.trans (hA0.mono (by omega))⟩
  by_cases hn0 : l.fl = 0
  · have HMX := Lib.hid (show max l.fl 0 = 0 by omega)
    rw [hn0] at h1 HMK
    clear hn hn0
    by_cases k1 : kd = 1
    · subst k1
      have HM2 := Lib.hid (show skipK P l.se 0 1 g = (bits BinOp.and IntKind.i64 0 2 != 0) by unfold skipK; simp)
      go_enter Try.func41, Try.ntmps41
      go_upto_region 1 with (fail)
      rw [← HW_wb1.out]
      rw [← HW_w1.out]
      go_wp2_with (first
        | (go_at_call 48; refine (HKI.out _ hA0).mono ?_; rintro e w9 ⟨rfl, hb⟩; have hA0 := bgo hA0 hb; clear hb)
        | (go_at_call 49; refine (HMK.out _ _ hA0).mono ?_; rintro e w9 ⟨rfl, hb⟩; have hA0 := bgo hA0 hb; clear hb))
      go_ret
      rw [HM.out, HMX.out, HM2.out]
      exact ⟨rfl, HB1.out.trans (hA0.mono (by omega))⟩
    by_cases k2 : kd = 2
    · subst k2
      have HM2 := Lib.hid (show skipK P l.se 0 2 g = (bits BinOp.and IntKind.i64 0 4 != 0) by unfold skipK; simp)
      go_enter Try.func41, Try.ntmps41
      go_upto_region 1 with (fail)
      rw [← HW_wb1.out]
      rw [← HW_w1.out]
      go_wp2_with (first
        | (go_at_call 48; refine (HKI.out _ hA0).mono ?_; rintro e w9 ⟨rfl, hb⟩; have hA0 := bgo hA0 hb; clear hb)
        | (go_at_call 49; refine (HMK.out _ _ hA0).mono ?_; rintro e w9 ⟨rfl, hb⟩; have hA0 := bgo hA0 hb; clear hb))
      go_ret
      rw [HM.out, HMX.out, HM2.out]
      exact ⟨rfl, HB1.out.trans (hA0.mono (by omega))⟩
    by_cases k3 : kd = 3
    · subst k3
      have HM2 := Lib.hid (show skipK P l.se 0 3 g = marksB P l.se 0 g by unfold skipK; simp)
      go_enter Try.func41, Try.ntmps41
      go_upto_region 1 with (fail)
      rw [← HW_wb1.out]
      rw [← HW_w1.out]
      go_wp2_with (first
        | (go_at_call 48; refine (HKI.out _ hA0).mono ?_; rintro e w9 ⟨rfl, hb⟩; have hA0 := bgo hA0 hb; clear hb)
        | (go_at_call 49; refine (HMK.out _ _ hA0).mono ?_; rintro e w9 ⟨rfl, hb⟩; have hA0 := bgo hA0 hb; clear hb))
      go_ret
      rw [HM.out, HMX.out, HM2.out]
      exact ⟨rfl, HB1.out.trans (hA0.mono (by omega))⟩
    · have HM2 := Lib.hid (show skipK P l.se 0 kd g = false by unfold skipK; simp [k1, k2, k3])
      have q1 : (kd == 1) = false := by simp [k1]
      have q2 : (kd == 2) = false := by simp [k2]
      have q3 : (kd == 3) = false := by simp [k3]
      go_enter Try.func41, Try.ntmps41
      go_upto_region 1 with (fail)
      rw [← HW_wb1.out]
      rw [← HW_w1.out]
      go_wp2_with (first
        | (go_at_call 48; refine (HKI.out _ hA0).mono ?_; rintro e w9 ⟨rfl, hb⟩; have hA0 := bgo hA0 hb; clear hb)
        | (go_at_call 49; refine (HMK.out _ _ hA0).mono ?_; rintro e w9 ⟨rfl, hb⟩; have hA0 := bgo hA0 hb; clear hb))
      go_ret
      rw [HM.out, HMX.out, HM2.out]
      exact ⟨rfl, HB1.out.trans (hA0.mono (by omega))⟩
  · have HMX := Lib.hid (show max l.fl 0 = 0 by omega)
    have n1 : decide (l.fl < 0) = true := by simp; omega
    have n2 : decide (0 < l.fl) = false := by simp; omega
    have n3 : l.fl < 0 := by omega
    have n4 : ¬ 0 ≤ l.fl := by omega
    by_cases k1 : kd = 1
    · subst k1
      have HM2 := Lib.hid (show skipK P l.se 0 1 g = (bits BinOp.and IntKind.i64 0 2 != 0) by unfold skipK; simp)
      go_enter Try.func41, Try.ntmps41
      go_upto_region 1 with (fail)
      rw [← HW_wb1.out]
      rw [← HW_w1.out]
      go_wp2_with (first
        | (go_at_call 48; refine (HKI.out _ hA0).mono ?_; rintro e w9 ⟨rfl, hb⟩; have hA0 := bgo hA0 hb; clear hb)
        | (go_at_call 49; refine (HMK.out _ _ hA0).mono ?_; rintro e w9 ⟨rfl, hb⟩; have hA0 := bgo hA0 hb; clear hb))
      go_ret
      rw [HM.out, HMX.out, HM2.out]
      exact ⟨rfl, HB1.out.trans (hA0.mono (by omega))⟩
    by_cases k2 : kd = 2
    · subst k2
      have HM2 := Lib.hid (show skipK P l.se 0 2 g = (bits BinOp.and IntKind.i64 0 4 != 0) by unfold skipK; simp)
      go_enter Try.func41, Try.ntmps41
      go_upto_region 1 with (fail)
      rw [← HW_wb1.out]
      rw [← HW_w1.out]
      go_wp2_with (first
        | (go_at_call 48; refine (HKI.out _ hA0).mono ?_; rintro e w9 ⟨rfl, hb⟩; have hA0 := bgo hA0 hb; clear hb)
        | (go_at_call 49; refine (HMK.out _ _ hA0).mono ?_; rintro e w9 ⟨rfl, hb⟩; have hA0 := bgo hA0 hb; clear hb))
      go_ret
      rw [HM.out, HMX.out, HM2.out]
      exact ⟨rfl, HB1.out.trans (hA0.mono (by omega))⟩
    by_cases k3 : kd = 3
    · subst k3
      have HM2 := Lib.hid (show skipK P l.se 0 3 g = marksB P l.se 0 g by unfold skipK; simp)
      go_enter Try.func41, Try.ntmps41
      go_upto_region 1 with (fail)
      rw [← HW_wb1.out]
      rw [← HW_w1.out]
      go_wp2_with (first
        | (go_at_call 48; refine (HKI.out _ hA0).mono ?_; rintro e w9 ⟨rfl, hb⟩; have hA0 := bgo hA0 hb; clear hb)
        | (go_at_call 49; refine (HMK.out _ _ hA0).mono ?_; rintro e w9 ⟨rfl, hb⟩; have hA0 := bgo hA0 hb; clear hb))
      go_ret
      rw [HM.out, HMX.out, HM2.out]
      exact ⟨rfl, HB1.out.trans (hA0.mono (by omega))⟩
    · have HM2 := Lib.hid (show skipK P l.se 0 kd g = false by unfold skipK; simp [k1, k2, k3])
      have q1 : (kd == 1) = false := by simp [k1]
      have q2 : (kd == 2) = false := by simp [k2]
      have q3 : (kd == 3) = false := by simp [k3]
      go_enter Try.func41, Try.ntmps41
      go_upto_region 1 with (fail)
      rw [← HW_wb1.out]
      rw [← HW_w1.out]
      go_wp2_with (first
        | (go_at_call 48; refine (HKI.out _ hA0).mono ?_; rintro e w9 ⟨rfl, hb⟩; have hA0 := bgo hA0 hb; clear hb)
        | (go_at_call 49; refine (HMK.out _ _ hA0).mono ?_; rintro e w9 ⟨rfl, hb⟩; have hA0 := bgo hA0 hb; clear hb))
      go_ret
      rw [HM.out, HMX.out, HM2.out]
      exact ⟨rfl, HB1.out.trans (hA0.mono (by omega))⟩

end Go.Proofs.Ytngdolmmaiogiaa
