/- Joined: RevA RevB OwnAt CtxA. -/
import Derived.Test.YtngdolmmaiogiaaJ07
import Derived.Test.YtngdolmmaiogiaaJ03
import Derived.Deep.RegionHeld3
import Derived.BigRegion
import Derived.OwnWalk
import Derived.Test.YtngdolmmaiogiaaJ09
import Derived.Test.YtngdolmmaiogiaaJ13
import Derived.Test.YtngdolmmaiogiaaJ00
import Derived.Test.YtngdolmmaiogiaaJ08

/- The walk of reverse.Holds. Condition: what it reads reads as plain data. Printed by wip/tools. -/
namespace Go.Proofs.Ytngdolmmaiogiaa
open Go.RowKit

/-- does one subtable of a reverse lookup do at a place? -/
def rev1 (P : PFt) (l : Lk) (gs : List Gl) (p : Nat) (s : PSu) : Option (List Nat) :=
  match gs[p]? with
  | none => none
  | some g => if hasB s.co g.id then match backB P l gs p s.ba with
    | none => none
    | some _ => match rowB P l gs p s.ah with
      | none => none
      | some _ => some []
    else none
def revB (P : PFt) (l : Lk) (su : List PSu) (gs : List Gl) (p : Nat) : Option (Nat × List Nat) := matL (rev1 P l gs p) su 0
/-- What Holds leaves. -/
def RetHolds (w : World) : Option (Nat × List Nat) → Ending → World → Prop
  | none, e, w' => e = .returned (.tuple #[.int .i64 0, .bool false]) ∧ Below w.heap.size w w'
  | some (i, _), e, w' => e = .returned (.tuple #[.int .i64 (i : Int), .bool true]) ∧ Below w.heap.size w w'
set_option maxRecDepth 100000 in
set_option maxHeartbeats 4000000 in
theorem holds_any (F : Fnt) (B : Nat) (P : PFt) (l : Lk) (A : Option Addr) (n c : Nat) (gs : List Gl) (su : List PSu) (p : Nat) (w : World) (hki : l.ki = 5) (hF : FtR w B F P) (hK : KsR w B l.su.A l.su.n l.su.c su) (hsm : ∀ s ∈ su, True ∧ s.ba.length ≤ 1000 ∧ s.ah.length ≤ 1000) (hI : GlsR w B A n c gs) (hB : B ≤ w.heap.size) (hp : p < n) :
    Calls Try.prog 63 #[.agg #[.int .i64 F.em, .slice F.GA F.gn F.gc, .slice F.MA F.mn F.mc, .slice F.LA F.ln F.lc, .slice F.FA F.fn F.fc, .slice F.SA F.sn F.sc], .agg #[.int .i64 l.ki, .int .i64 l.fl, .int .i64 l.se, .slice l.su.A l.su.n l.su.c], .slice A n c, .int .i64 (p : Int)] w (RetHolds w (revB P l su gs p)) := by
  have HF := Lib.hid hF
  have HI := Lib.hid hI
  have HKS := Lib.hid hK
  have HSM := Lib.hid hsm
  have hcap := hI.cap
  have hcaps := SlR.cap hK
  have hlen := hI.length
  have hlens := SlR.length hK
  clear hI hF hK hsm
  obtain ⟨wb1, hw_wb1⟩ : ∃ z, z = w.alloc (.cells #[.int .i64 F.em, .slice F.GA F.gn F.gc, .slice F.MA F.mn F.mc, .slice F.LA F.ln F.lc, .slice F.FA F.fn F.fc, .slice F.SA F.sn F.sc] 28) := ⟨_, rfl⟩
  have hs_wb1 : wb1.heap.size = w.heap.size + 1 := by rw [hw_wb1]; simp
  have hb_wb1 : Below w.heap.size w wb1 := by rw [hw_wb1]; exact (Below.refl _ _).alloc (Nat.le_refl _) _
  have hx_0 : wb1.heap[w.heap.size]? = some (.cells #[.int .i64 F.em, .slice F.GA F.gn F.gc, .slice F.MA F.mn F.mc, .slice F.LA F.ln F.lc, .slice F.FA F.fn F.fc, .slice F.SA F.sn F.sc] 28 (0, 0)) := by rw [hw_wb1]; exact heap_alloc_new _ _
  obtain ⟨w1, hw_w1⟩ : ∃ z, z = wb1.alloc (.cells #[.int .i64 l.ki, .int .i64 l.fl, .int .i64 l.se, .slice l.su.A l.su.n l.su.c] 36) := ⟨_, rfl⟩
  have hs_w1 : w1.heap.size = w.heap.size + 2 := by rw [hw_w1]; simp <;> omega
  have hb_w1 : Below w.heap.size w w1 := by rw [hw_w1]; exact hb_wb1.alloc (by omega) _
  have hx_1 : w1.heap[w.heap.size + 1]? = some (.cells #[.int .i64 l.ki, .int .i64 l.fl, .int .i64 l.se, .slice l.su.A l.su.n l.su.c] 36 (0, 0)) := by rw [hw_w1]; exact (hs_wb1 ▸ heap_alloc_new wb1 _)
  have hx_0 : w1.heap[w.heap.size]? = some (.cells #[.int .i64 F.em, .slice F.GA F.gn F.gc, .slice F.MA F.mn F.mc, .slice F.LA F.ln F.lc, .slice F.FA F.fn F.fc, .slice F.SA F.sn F.sc] 28 (0, 0)) := by rw [hw_w1]; exact (heap_alloc_old _ _ (by omega)).trans hx_0
  have g0 := up_fact (show w1.cell? ⟨w.heap.size, 0, none⟩ = some (.int .i64 F.em) by rw [cell_of_row _ _ 0 _ _ _ hx_0]; rfl)
  have g1 := up_fact (show w1.cell? ⟨w.heap.size, 1, none⟩ = some (.slice F.GA F.gn F.gc) by rw [cell_of_row _ _ 1 _ _ _ hx_0]; rfl)
  have g2 := up_fact (show w1.cell? ⟨w.heap.size, 2, none⟩ = some (.slice F.MA F.mn F.mc) by rw [cell_of_row _ _ 2 _ _ _ hx_0]; rfl)
  have g3 := up_fact (show w1.cell? ⟨w.heap.size, 3, none⟩ = some (.slice F.LA F.ln F.lc) by rw [cell_of_row _ _ 3 _ _ _ hx_0]; rfl)
  have g4 := up_fact (show w1.cell? ⟨w.heap.size, 4, none⟩ = some (.slice F.FA F.fn F.fc) by rw [cell_of_row _ _ 4 _ _ _ hx_0]; rfl)
  have g5 := up_fact (show w1.cell? ⟨w.heap.size, 5, none⟩ = some (.slice F.SA F.sn F.sc) by rw [cell_of_row _ _ 5 _ _ _ hx_0]; rfl)
  have h0 := up_fact (show w1.cell? ⟨w.heap.size + 1, 0, none⟩ = some (.int .i64 l.ki) by rw [cell_of_row _ _ 0 _ _ _ hx_1]; rfl)
  have h1 := up_fact (show w1.cell? ⟨w.heap.size + 1, 1, none⟩ = some (.int .i64 l.fl) by rw [cell_of_row _ _ 1 _ _ _ hx_1]; rfl)
  have h2 := up_fact (show w1.cell? ⟨w.heap.size + 1, 2, none⟩ = some (.int .i64 l.se) by rw [cell_of_row _ _ 2 _ _ _ hx_1]; rfl)
  have h3 := up_fact (show w1.cell? ⟨w.heap.size + 1, 3, none⟩ = some (.slice l.su.A l.su.n l.su.c) by rw [cell_of_row _ _ 3 _ _ _ hx_1]; rfl)
  have hA0 := Below.refl w1.heap.size w1
  have HS1 := Lib.hid hs_w1
  have hs1 : w.heap.size + 1 < w1.heap.size := by omega
  have HB1 := Lib.hid hb_w1
  have HW_wb1 := Lib.hid hw_wb1
  have HW_w1 := Lib.hid hw_w1
  clear hw_wb1 hs_wb1 hb_wb1 hw_w1 hs_w1 hb_w1
  clear hx_0 hx_1
  have HB := Lib.hid hB
  have HBW := Lib.hid (HB1.out.mono hB)
  have HROW := Lib.hid (fun W (hW : Below w1.heap.size w1 W) As ns cs ss p' (hS : Grd W B As ns cs ss) (hp' : p' < n) (hns : ns ≤ 100000) => row_any F B P l A n c gs As ns cs ss p' W (HF.out.below (HBW.out.trans (hW.mono (by have := HB.out; omega)))) (HI.out.below (HBW.out.trans (hW.mono (by have := HB.out; omega)))) hS (by have := HB.out; have := hW.size; omega) hp' hns)
  have HBACK := Lib.hid (fun W (hW : Below w1.heap.size w1 W) As ns cs ss p' (hS : Grd W B As ns cs ss) (hp' : p' < n) (hns : ns ≤ 100000) => back_any F B P l A n c gs As ns cs ss p' W (HF.out.below (HBW.out.trans (hW.mono (by have := HB.out; omega)))) (HI.out.below (HBW.out.trans (hW.mono (by have := HB.out; omega)))) hS (by have := HB.out; have := hW.size; omega) hp' hns)
  have HI1 := Lib.hid (HI.out.below HBW.out)
  have HKS1 := Lib.hid (KsR.below HKS.out HBW.out)
  obtain ⟨tot, htot⟩ : ∃ z, z = revB P l su gs p := ⟨_, rfl⟩
  rw [← htot]
  have HTOT := Lib.hid htot
  clear htot
  obtain ⟨b2, o2, g, rfl, hbb2, hg, d0, -⟩ := HI1.out.at_ hp
  have d1 := up_fact d0
  have HG := Lib.hid hg
  clear d0 hg
  have z0 : decide ((p : Int) < 0) = false := by simp
  have z1 : decide ((n : Int) ≤ (p : Int)) = false := by simp; omega
  have z2 : decide (n ≤ p) = false := by simp; omega
  have z3 : (l.ki != 5) = false := by simp [hki]
  clear hki
  go_enter Try.func63, Try.ntmps63
  go_upto_region 1 with fail
  rw [← HW_wb1.out]
  rw [← HW_w1.out]
  go_wp2_with fail
  go_loopw [34] (fun v wr => ∃ j : Nat, v = .int .i64 (j : Int) ∧ j ≤ l.su.n ∧ tot = matL (rev1 P l gs p) (su.drop j) j ∧ Below w1.heap.size w1 wr) (fun v _ => l.su.n - (intOf v).toNat)
  case atStart => exact ⟨0, rfl, Nat.zero_le _, HTOT.out, hA0⟩
  case round =>
    clear hA0
    obtain ⟨j, rfl, hj, htr, hA⟩ := hrel
    have HTR := Lib.hid htr
    clear htr
    by_cases hlt : j < l.su.n
    · have z9 : decide ((j : Int) < (l.su.n : Int)) = true := by simp; omega
      obtain ⟨q, b, o, cs, hq, eA, hbb, hc, s, rfl, hs⟩ := SlR.at_ HKS1.out hlt
      have HQ := Lib.hid hq
      have HS := Lib.hid hs
      have HEA := Lib.hid eA
      have y0 := up_fact (show w1.cell? ⟨b, o + j * 12, none⟩ = _ from hc 0 _ rfl)
      have y1 := up_fact (hc 1 _ rfl)
      have y2 := up_fact (hc 2 _ rfl)
      have y3 := up_fact (hc 3 _ rfl)
      have y4 := up_fact (hc 4 _ rfl)
      have y5 := up_fact (hc 5 _ rfl)
      have y6 := up_fact (hc 6 _ rfl)
      have y7 := up_fact (hc 7 _ rfl)
      have y8 := up_fact (hc 8 _ rfl)
      have y9 := up_fact (hc 9 _ rfl)
      have y10 := up_fact (hc 10 _ rfl)
      have y11 := up_fact (hc 11 _ rfl)
      have hcba := hs.ba.cap
      have hlba := hs.ba.1
      have hcah := hs.ah.cap
      have hlah := hs.ah.1
      have hcco := hs.co.cap
      have hsq := HSM.out q (List.mem_of_getElem? hq)
      clear hq hs eA hc
      rw [HEA.out] at h3 HROW HBACK ⊢
      go_upto_region 6 with fail
      obtain ⟨w3, hw3⟩ : ∃ z, z = wr.alloc (.cells #[.slice s.co.A s.co.n s.co.c, .slice s.tt.A s.tt.n s.tt.c, .slice s.li.A s.li.n s.li.c, .slice s.ba.A s.ba.n s.ba.c, .slice s.inn.A s.inn.n s.inn.c, .slice s.ah.A s.ah.n s.ah.c, .slice s.ne.A s.ne.n s.ne.c, .slice s.va.A s.va.n s.va.c, .slice s.pr.A s.pr.n s.pr.c, .slice s.cu.A s.cu.n s.cu.c, .slice s.ma.A s.ma.n s.ma.c, .slice s.ho.A s.ho.n s.ho.c] 60) := ⟨_, rfl⟩
      obtain ⟨bx, hbx⟩ : ∃ z, z = wr.heap.size := ⟨_, rfl⟩
      rw [← hw3, ← hbx]
      have hA3 := (show Below w1.heap.size w1 w3 by rw [hw3]; exact hA.alloc hA.size _)
      have hX : w3.heap[bx]? = some (.cells #[.slice s.co.A s.co.n s.co.c, .slice s.tt.A s.tt.n s.tt.c, .slice s.li.A s.li.n s.li.c, .slice s.ba.A s.ba.n s.ba.c, .slice s.inn.A s.inn.n s.inn.c, .slice s.ah.A s.ah.n s.ah.c, .slice s.ne.A s.ne.n s.ne.c, .slice s.va.A s.va.n s.va.c, .slice s.pr.A s.pr.n s.pr.c, .slice s.cu.A s.cu.n s.cu.c, .slice s.ma.A s.ma.n s.ma.c, .slice s.ho.A s.ho.n s.ho.c] 60 (0, 0)) := by rw [hw3, hbx]; exact heap_alloc_new _ _
      have xf0 := up_fact (show w3.cell? ⟨bx, 0, none⟩ = some (.slice s.co.A s.co.n s.co.c) by rw [cell_of_row _ _ 0 _ _ _ hX]; rfl)
      have xf1 := up_fact (show w3.cell? ⟨bx, 1, none⟩ = some (.slice s.tt.A s.tt.n s.tt.c) by rw [cell_of_row _ _ 1 _ _ _ hX]; rfl)
      have xf2 := up_fact (show w3.cell? ⟨bx, 2, none⟩ = some (.slice s.li.A s.li.n s.li.c) by rw [cell_of_row _ _ 2 _ _ _ hX]; rfl)
      have xf3 := up_fact (show w3.cell? ⟨bx, 3, none⟩ = some (.slice s.ba.A s.ba.n s.ba.c) by rw [cell_of_row _ _ 3 _ _ _ hX]; rfl)
      have xf4 := up_fact (show w3.cell? ⟨bx, 4, none⟩ = some (.slice s.inn.A s.inn.n s.inn.c) by rw [cell_of_row _ _ 4 _ _ _ hX]; rfl)
      have xf5 := up_fact (show w3.cell? ⟨bx, 5, none⟩ = some (.slice s.ah.A s.ah.n s.ah.c) by rw [cell_of_row _ _ 5 _ _ _ hX]; rfl)
      have xf6 := up_fact (show w3.cell? ⟨bx, 6, none⟩ = some (.slice s.ne.A s.ne.n s.ne.c) by rw [cell_of_row _ _ 6 _ _ _ hX]; rfl)
      have xf7 := up_fact (show w3.cell? ⟨bx, 7, none⟩ = some (.slice s.va.A s.va.n s.va.c) by rw [cell_of_row _ _ 7 _ _ _ hX]; rfl)
      have xf8 := up_fact (show w3.cell? ⟨bx, 8, none⟩ = some (.slice s.pr.A s.pr.n s.pr.c) by rw [cell_of_row _ _ 8 _ _ _ hX]; rfl)
      have xf9 := up_fact (show w3.cell? ⟨bx, 9, none⟩ = some (.slice s.cu.A s.cu.n s.cu.c) by rw [cell_of_row _ _ 9 _ _ _ hX]; rfl)
      have xf10 := up_fact (show w3.cell? ⟨bx, 10, none⟩ = some (.slice s.ma.A s.ma.n s.ma.c) by rw [cell_of_row _ _ 10 _ _ _ hX]; rfl)
      have xf11 := up_fact (show w3.cell? ⟨bx, 11, none⟩ = some (.slice s.ho.A s.ho.n s.ho.c) by rw [cell_of_row _ _ 11 _ _ _ hX]; rfl)
      have hC := Below.refl w3.heap.size w3
      clear hX hw3 hbx
      clear y0 y1 y2 y3 y4 y5 y6 y7 y8 y9 y10 y11
      obtain ⟨ix, hix⟩ : ∃ z, z = ixI q.co g.id := ⟨_, rfl⟩
      obtain ⟨x0, hx0⟩ : ∃ z : Int, z = ((ix.getD 0 : Nat) : Int) := ⟨_, rfl⟩
      obtain ⟨t, ht⟩ : ∃ z, z = ix.isSome := ⟨_, rfl⟩
      have HC := Lib.hid (show ∀ W, Below w1.heap.size w1 W → Calls Try.prog 64 #[.slice s.co.A s.co.n s.co.c, .int .i64 g.id] W fun e w' => e = .returned (.tuple #[.int .i64 x0, .bool t]) ∧ Below W.heap.size W w' from fun W hW => by rw [hx0, ht, hix]; exact index_any B s.co.A s.co.n s.co.c q.co g.id W (HS.out.co.below (hW.mono (by have := HB.out; omega))))
      have HT := Lib.hid (show t = hasB q.co g.id by rw [ht, hix]; rfl)
      clear hix hx0 ht
      have hU0 := bup hA3
      have hU1 := bup hC
      have HUP := Lib.hid (bup hA3)
      refine wp_region_up w3.heap.size (by kernel_rfl) (by kernel_rfl) ?_
      repeat (go_big_quiet_step ((first | (go_at_call 64; exact Calls.up_of (Nat.le_refl _) (HC.out _ (HUP.out _))))))
      refine wpQuiet_nil (up_all fun w4 hb2 => ?_)
      have hA3 := bgo hA3 hb2
      have hC := bgo hC hb2
      clear hb2 HUP hU0 hU1
      rcases t with _ | _
      · have HF1 := Lib.hid (show rev1 P l gs p q = none by unfold rev1; simp only [HG.out, ← HT.out]; rfl)
        go_wp2_with fail
        go_roundw
        case rel => exact ⟨j + 1, by go_num, by omega, matL_none HTR.out HQ.out (HF1.out), hA3⟩
        case measure => simp [intOf] <;> omega
      · skip
        obtain ⟨r2, hr2⟩ : ∃ z, z = backB P l gs p q.ba := ⟨_, rfl⟩
        have HR2 := Lib.hid hr2
        obtain ⟨r2n, hr2n⟩ : ∃ z, z = r2.map natI := ⟨_, rfl⟩
        have HR2N := Lib.hid hr2n
        have HB8 := Lib.hid (fun W (hW : Below w1.heap.size w1 W) => show Calls Try.prog 55 #[.agg #[.int .i64 F.em, .slice F.GA F.gn F.gc, .slice F.MA F.mn F.mc, .slice F.LA F.ln F.lc, .slice F.FA F.fn F.fc, .slice F.SA F.sn F.sc], .agg #[.int .i64 l.ki, .int .i64 l.fl, .int .i64 l.se, .slice (some ⟨b, o, none⟩) l.su.n l.su.c], .slice (some ⟨b2, o2, none⟩) n c, .int .i64 (p : Int), .slice s.ba.A s.ba.n s.ba.c] W (RetTo W r2n) from by
          have h0 := HBACK.out W hW _ _ _ q.ba p (HS.out.ba.below (hW.mono (by have := HB.out; omega))) hp (by omega)
          rw [← hr2, ← hr2n] at h0
          exact h0)
        clear hr2 hr2n
        go_upto_region 9 with (go_at_call 55; refine (HB8.out _ hA3).mono ?_; rintro e w5 ⟨A5, c5, rfl, hi5, hb5⟩; have hA5 := bgo hA3 hb5; have hC5 := bgo hC hb5)
        clear hi5 hb5 hA3 hC
        rcases r2 with _ | bk
        · obtain rfl : r2n = none := HR2N.out
          simp only [Option.getD_none, Option.isSome_none, List.length_nil]
          have HF1 := Lib.hid (show rev1 P l gs p q = none by unfold rev1; simp only [HG.out, ← HT.out, ← HR2.out]; rfl)
          go_wp2_with fail
          go_roundw
          case rel => exact ⟨j + 1, by go_num, by omega, matL_none HTR.out HQ.out (HF1.out), hA5⟩
          case measure => simp [intOf] <;> omega
        · obtain rfl : r2n = some (natI bk) := HR2N.out
          simp only [Option.getD_some, Option.isSome_some, natI_length]
          obtain ⟨r3, hr3⟩ : ∃ z, z = rowB P l gs p q.ah := ⟨_, rfl⟩
          have HR3 := Lib.hid hr3
          obtain ⟨r3n, hr3n⟩ : ∃ z, z = r3.map natI := ⟨_, rfl⟩
          have HR3N := Lib.hid hr3n
          have HR10 := Lib.hid (fun W (hW : Below w1.heap.size w1 W) => show Calls Try.prog 54 #[.agg #[.int .i64 F.em, .slice F.GA F.gn F.gc, .slice F.MA F.mn F.mc, .slice F.LA F.ln F.lc, .slice F.FA F.fn F.fc, .slice F.SA F.sn F.sc], .agg #[.int .i64 l.ki, .int .i64 l.fl, .int .i64 l.se, .slice (some ⟨b, o, none⟩) l.su.n l.su.c], .slice (some ⟨b2, o2, none⟩) n c, .int .i64 (p : Int), .slice s.ah.A s.ah.n s.ah.c] W (RetTo W r3n) from by
            have h0 := HROW.out W hW _ _ _ q.ah p (HS.out.ah.below (hW.mono (by have := HB.out; omega))) hp (by omega)
            rw [← hr3, ← hr3n] at h0
            exact h0)
          clear hr3 hr3n
          go_upto_region 11 with (go_at_call 54; refine (HR10.out _ hA5).mono ?_; rintro e w6 ⟨A6, c6, rfl, hi6, hb6⟩; have hA6 := bgo hA5 hb6; have hC6 := bgo hC5 hb6)
          clear hi6 hb6 hA5 hC5
          rcases r3 with _ | ah3
          · obtain rfl : r3n = none := HR3N.out
            simp only [Option.getD_none, Option.isSome_none, List.length_nil]
            have HF1 := Lib.hid (show rev1 P l gs p q = none by unfold rev1; simp only [HG.out, ← HT.out, ← HR2.out, ← HR3.out]; rfl)
            go_wp2_with fail
            go_roundw
            case rel => exact ⟨j + 1, by go_num, by omega, matL_none HTR.out HQ.out (HF1.out), hA6⟩
            case measure => simp [intOf] <;> omega
          · obtain rfl : r3n = some (natI ah3) := HR3N.out
            simp only [Option.getD_some, Option.isSome_some, natI_length]
            have HF1 := Lib.hid (show rev1 P l gs p q = some [] by unfold rev1; simp only [HG.out, ← HT.out, ← HR2.out, ← HR3.out]; rfl)
            have HEND := Lib.hid (matL_some HTR.out HQ.out HF1.out)
            go_wp2_with fail
            go_ret2
            rw [HEND.out]
            exact ⟨rfl, HB1.out.trans (hA6.mono (by have := HB.out; omega))⟩
    · have hjn : j = su.length := by omega
      have z9 : decide ((j : Int) < (l.su.n : Int)) = false := by simp; omega
      have HEND := Lib.hid (show tot = none from matL_end (by have := HTR.out; rw [hjn] at this; exact this))
      go_wp2_with fail
      go_ret2
      rw [HEND.out]
      exact ⟨rfl, HB1.out.trans (hA.mono (by have := HB.out; omega))⟩

end Go.Proofs.Ytngdolmmaiogiaa

/- The walk of reverse.Apply. Condition: what it reads reads as plain data. Printed by wip/tools. -/
namespace Go.Proofs.Ytngdolmmaiogiaa
open Go.RowKit

theorem matL_idx {f : PSu → Option (List Nat)} : ∀ {su : List PSu} {j i : Nat} {x : List Nat}, matL f su j = some (i, x) → ∃ s, j ≤ i ∧ su[i - j]? = some s ∧ f s = some x
  | [], _, _, _, h => by cases h
  | s :: r, j, i, x, h => by
    unfold matL at h
    split at h
    · rename_i y hy
      cases h
      exact ⟨s, Nat.le_refl _, by rw [Nat.sub_self]; rfl, hy⟩
    · obtain ⟨s', h1, h2, h3⟩ := matL_idx h
      refine ⟨s', by omega, ?_, h3⟩
      rw [show i - j = (i - (j + 1)) + 1 by omega]
      exact h2
def setid (z : Int) (g : Gl) : Gl := ⟨z, g.cl, g.ad, g.dx, g.dy, g.tw, g.hg, g.li, g.co, g.ma⟩
/-- what a subtable of a reverse lookup does at a place -/
def revOut (s : PSu) (gs : List Gl) (p : Nat) (g : Gl) : List Gl :=
  match s.tt[(ixI s.co g.id).getD 0]? with
  | some (z :: _) => gs.take p ++ setid z g :: gs.drop (p + 1)
  | _ => gs
def revAp (P : PFt) (l : Lk) (su : List PSu) (gs : List Gl) (p : Nat) : Option (List Gl) :=
  match revB P l su gs p with
  | none => none
  | some (i, _) => match su[i]?, gs[p]? with
    | some s, some g => some (revOut s gs p g)
    | _, _ => none
theorem GRow.putId {w : World} {base n c b k : Nat} {pre r : List Gl} {x : Gl} (h : GRow w base (some ⟨b, 0, none⟩) n c (pre ++ x :: r)) (hk : pre.length = k) (y : Int) : GRow (w.setCell ⟨b, k * 10, none⟩ (.int .i64 y)) base (some ⟨b, 0, none⟩) n c (pre ++ setid y x :: r) := by
  subst hk
  refine ⟨by have := h.1; simp at this ⊢; omega, ?_⟩
  have h1 := (World.ownsRow.stored h.2 (pre.length * 10) (.int .i64 y)).1
  have h2 : (glCells (pre ++ x :: r)).set (pre.length * 10) (.int .i64 y) = glCells (pre ++ setid y x :: r) := by
    have e1 : glCells (pre ++ x :: r) = glCells pre ++ (x.cells ++ glCells r) := by rw [glCells_append]; rfl
    have e2 : glCells (pre ++ setid y x :: r) = glCells pre ++ ((setid y x).cells ++ glCells r) := by rw [glCells_append]; rfl
    rw [e1, e2, List.set_append_right _ _ (by rw [glCells_length]; omega), glCells_length, Nat.sub_self]
    rfl
  rw [h2] at h1
  exact h1
/-- What reverse.Apply leaves. -/
def RetRev (w : World) (n : Nat) : Option (List Gl) → Ending → World → Prop
  | none, e, w' => ∃ A c, e = .returned (.tuple #[.slice A n c, .bool false]) ∧ Below w.heap.size w w'
  | some gs, e, w' => ∃ A c, e = .returned (.tuple #[.slice A n c, .bool true]) ∧ gs.length = n ∧ GlsR w' w'.heap.size A n c gs ∧ Below w.heap.size w w'
theorem lt_of_some' {α : Type} {l : List α} {p : Nat} {g : α} (h : l[p]? = some g) : p < l.length := by
  rcases Nat.lt_or_ge p l.length with h1 | h1
  · exact h1
  · rw [List.getElem?_eq_none h1] at h; cases h
theorem split_at {l : List Gl} {p : Nat} {g : Gl} (h : l[p]? = some g) : l = l.take p ++ g :: l.drop (p + 1) := by
  have h1 := drop_of_get h
  rw [← h1, List.take_append_drop]
set_option maxRecDepth 100000 in
set_option maxHeartbeats 4000000 in
theorem rvapply_any (F : Fnt) (B : Nat) (P : PFt) (l : Lk) (A : Option Addr) (n c : Nat) (gs : List Gl) (su : List PSu) (p : Nat) (w : World) (hki : l.ki = 5) (hF : FtR w B F P) (hK : KsR w B l.su.A l.su.n l.su.c su) (hsm : ∀ s ∈ su, True ∧ s.ba.length ≤ 1000 ∧ s.ah.length ≤ 1000) (hI : GlsR w B A n c gs) (hB : B ≤ w.heap.size) (hp : p < n) (hn : n ≤ 90000) :
    Calls Try.prog 52 #[.agg #[.int .i64 F.em, .slice F.GA F.gn F.gc, .slice F.MA F.mn F.mc, .slice F.LA F.ln F.lc, .slice F.FA F.fn F.fc, .slice F.SA F.sn F.sc], .agg #[.int .i64 l.ki, .int .i64 l.fl, .int .i64 l.se, .slice l.su.A l.su.n l.su.c], .slice A n c, .int .i64 (p : Int)] w (RetRev w n (revAp P l su gs p)) := by
  obtain ⟨ba, oa, g, rfl, hbb, hg, cg0, -⟩ := hI.at_ hp
  have hcap := hI.cap
  have hlen := hI.length
  have HGL := Lib.hid hlen
  have HF := Lib.hid hF
  have HI := Lib.hid hI
  have HKS := Lib.hid hK
  have HSM := Lib.hid hsm
  have HG := Lib.hid hg
  clear hI hF hK hsm hg cg0
  obtain ⟨wb1, hw_wb1⟩ : ∃ z, z = w.alloc (.cells #[.int .i64 F.em, .slice F.GA F.gn F.gc, .slice F.MA F.mn F.mc, .slice F.LA F.ln F.lc, .slice F.FA F.fn F.fc, .slice F.SA F.sn F.sc] 28) := ⟨_, rfl⟩
  have hs_wb1 : wb1.heap.size = w.heap.size + 1 := by rw [hw_wb1]; simp
  have hb_wb1 : Below w.heap.size w wb1 := by rw [hw_wb1]; exact (Below.refl _ _).alloc (Nat.le_refl _) _
  have hx_0 : wb1.heap[w.heap.size]? = some (.cells #[.int .i64 F.em, .slice F.GA F.gn F.gc, .slice F.MA F.mn F.mc, .slice F.LA F.ln F.lc, .slice F.FA F.fn F.fc, .slice F.SA F.sn F.sc] 28 (0, 0)) := by rw [hw_wb1]; exact heap_alloc_new _ _
  obtain ⟨w1, hw_w1⟩ : ∃ z, z = wb1.alloc (.cells #[.int .i64 l.ki, .int .i64 l.fl, .int .i64 l.se, .slice l.su.A l.su.n l.su.c] 36) := ⟨_, rfl⟩
  have hs_w1 : w1.heap.size = w.heap.size + 2 := by rw [hw_w1]; simp <;> omega
  have hb_w1 : Below w.heap.size w w1 := by rw [hw_w1]; exact hb_wb1.alloc (by omega) _
  have hx_1 : w1.heap[w.heap.size + 1]? = some (.cells #[.int .i64 l.ki, .int .i64 l.fl, .int .i64 l.se, .slice l.su.A l.su.n l.su.c] 36 (0, 0)) := by rw [hw_w1]; exact (hs_wb1 ▸ heap_alloc_new wb1 _)
  have hx_0 : w1.heap[w.heap.size]? = some (.cells #[.int .i64 F.em, .slice F.GA F.gn F.gc, .slice F.MA F.mn F.mc, .slice F.LA F.ln F.lc, .slice F.FA F.fn F.fc, .slice F.SA F.sn F.sc] 28 (0, 0)) := by rw [hw_w1]; exact (heap_alloc_old _ _ (by omega)).trans hx_0
  have g0 := up_fact (show w1.cell? ⟨w.heap.size, 0, none⟩ = some (.int .i64 F.em) by rw [cell_of_row _ _ 0 _ _ _ hx_0]; rfl)
  have g1 := up_fact (show w1.cell? ⟨w.heap.size, 1, none⟩ = some (.slice F.GA F.gn F.gc) by rw [cell_of_row _ _ 1 _ _ _ hx_0]; rfl)
  have g2 := up_fact (show w1.cell? ⟨w.heap.size, 2, none⟩ = some (.slice F.MA F.mn F.mc) by rw [cell_of_row _ _ 2 _ _ _ hx_0]; rfl)
  have g3 := up_fact (show w1.cell? ⟨w.heap.size, 3, none⟩ = some (.slice F.LA F.ln F.lc) by rw [cell_of_row _ _ 3 _ _ _ hx_0]; rfl)
  have g4 := up_fact (show w1.cell? ⟨w.heap.size, 4, none⟩ = some (.slice F.FA F.fn F.fc) by rw [cell_of_row _ _ 4 _ _ _ hx_0]; rfl)
  have g5 := up_fact (show w1.cell? ⟨w.heap.size, 5, none⟩ = some (.slice F.SA F.sn F.sc) by rw [cell_of_row _ _ 5 _ _ _ hx_0]; rfl)
  have h0 := up_fact (show w1.cell? ⟨w.heap.size + 1, 0, none⟩ = some (.int .i64 l.ki) by rw [cell_of_row _ _ 0 _ _ _ hx_1]; rfl)
  have h1 := up_fact (show w1.cell? ⟨w.heap.size + 1, 1, none⟩ = some (.int .i64 l.fl) by rw [cell_of_row _ _ 1 _ _ _ hx_1]; rfl)
  have h2 := up_fact (show w1.cell? ⟨w.heap.size + 1, 2, none⟩ = some (.int .i64 l.se) by rw [cell_of_row _ _ 2 _ _ _ hx_1]; rfl)
  have h3 := up_fact (show w1.cell? ⟨w.heap.size + 1, 3, none⟩ = some (.slice l.su.A l.su.n l.su.c) by rw [cell_of_row _ _ 3 _ _ _ hx_1]; rfl)
  have hA0 := Below.refl w1.heap.size w1
  have HS1 := Lib.hid hs_w1
  have hs1 : w.heap.size + 1 < w1.heap.size := by omega
  have HB1 := Lib.hid hb_w1
  have HW_wb1 := Lib.hid hw_wb1
  have HW_w1 := Lib.hid hw_w1
  clear hw_wb1 hs_wb1 hb_wb1 hw_w1 hs_w1 hb_w1
  clear hx_0 hx_1
  have HB := Lib.hid hB
  have HBW := Lib.hid (HB1.out.mono hB)
  obtain ⟨ba', oa', g', e', _, hg', cg0, -⟩ := (HI.out.below HBW.out).at_ hp
  cases e'
  rw [HG.out] at hg'
  cases hg'
  have cg := up_fact cg0
  clear cg0
  obtain ⟨r, hr⟩ : ∃ z, z = revB P l su gs p := ⟨_, rfl⟩
  have HHO := Lib.hid (fun W (hW : Below w1.heap.size w1 W) => show Calls Try.prog 63 #[.agg #[.int .i64 F.em, .slice F.GA F.gn F.gc, .slice F.MA F.mn F.mc, .slice F.LA F.ln F.lc, .slice F.FA F.fn F.fc, .slice F.SA F.sn F.sc], .agg #[.int .i64 l.ki, .int .i64 l.fl, .int .i64 l.se, .slice l.su.A l.su.n l.su.c], .slice (some ⟨ba, oa, none⟩) n c, .int .i64 (p : Int)] W (RetHolds W r) from by rw [hr]; exact holds_any F B P l (some ⟨ba, oa, none⟩) n c gs su p W hki (HF.out.below (HBW.out.trans (hW.mono (by have := HB.out; omega)))) (KsR.below HKS.out (HBW.out.trans (hW.mono (by have := HB.out; omega)))) HSM.out (HI.out.below (HBW.out.trans (hW.mono (by have := HB.out; omega)))) (by have := HB.out; have := hW.size; omega) hp)
  have HR := Lib.hid hr.symm
  clear hr hki
  rcases r with _ | ⟨i, xx⟩
  · have HNONE := Lib.hid (show revAp P l su gs p = none by unfold revAp; rw [HR.out])
    go_enter Try.func52, Try.ntmps52
    go_upto_region 1 with fail
    rw [← HW_wb1.out]
    rw [← HW_w1.out]
    go_wp2_with (first
      | (go_at_call 21; refine ((gclone_any B (some ⟨ba, oa, none⟩) n c gs _ (HI.out.below HBW.out) (by have := HB.out; omega) (by omega)).mono (fun _ _ h => h.n HGL.out)).mono ?_; rintro e w2 ⟨A2, c2, rfl, ho2, hb2⟩; have hb2q := hb2)
      | (go_at_call 63; refine (HHO.out _ hb2q).mono ?_; rintro e w3 ⟨rfl, hb3⟩))
    go_ret2
    rw [HNONE.out]
    exact ⟨A2, c2, rfl, HB1.out.trans ((hb2q.trans (hb3.mono hb2q.size)).mono (by omega))⟩
  · obtain ⟨q, _, hq, hf⟩ := matL_idx HR.out
    rw [Nat.sub_zero] at hq
    have hhas : hasB q.co g.id = true := by
      unfold rev1 at hf
      rw [HG.out] at hf
      dsimp only at hf
      split at hf
      · assumption
      · cases hf
    obtain ⟨k, hk⟩ : ∃ k, ixI q.co g.id = some k := Option.isSome_iff_exists.1 hhas
    have hil : i < l.su.n := by rw [← SlR.length HKS.out]; exact lt_of_some' hq
    obtain ⟨q', b, o, cs, hq', eA, hbb', hc, s, rfl, hs⟩ := SlR.at_ (KsR.below HKS.out HBW.out) hil
    rw [hq] at hq'
    cases hq'
    have HEA := Lib.hid eA
    have HS := Lib.hid hs
    have y0 := up_fact (show w1.cell? ⟨b, o + i * 12, none⟩ = _ from hc 0 _ rfl)
    have y1 := up_fact (show w1.cell? ⟨b, o + i * 12 + 1, none⟩ = _ from hc 1 _ rfl)
    have HIX := Lib.hid (show ∀ W, Below w1.heap.size w1 W → Calls Try.prog 64 #[.slice s.co.A s.co.n s.co.c, .int .i64 g.id] W fun e w' => e = .returned (.tuple #[.int .i64 (k : Int), .bool true]) ∧ Below W.heap.size W w' from fun W hW => by
      have h0 := index_any B s.co.A s.co.n s.co.c q.co g.id W (HS.out.co.below (hW.mono (by have := HB.out; omega)))
      rw [hk] at h0
      exact h0)
    have HRES := Lib.hid (show revAp P l su gs p = some (revOut q gs p g) by unfold revAp; rw [HR.out]; simp only [hq, HG.out])
    have HK := Lib.hid hk
    have hctt := hs.tt.cap
    have hltt := hs.tt.1
    have hcaps := SlR.cap HKS.out
    clear hq hf hhas hk eA hs hc
    have z9 : decide ((i : Int) < (l.su.n : Int)) = true := by simp; omega
    go_enter Try.func52, Try.ntmps52
    go_upto_region 1 with fail
    rw [← HW_wb1.out]
    rw [← HW_w1.out]
    rw [HEA.out] at h3 HHO
    go_upto_region 5 with (first
      | (go_at_call 21; refine ((gclone_any B (some ⟨ba, oa, none⟩) n c gs _ (HI.out.below HBW.out) (by have := HB.out; omega) (by omega)).mono (fun _ _ h => h.n HGL.out)).mono ?_; rintro e w2 ⟨A2, c2, rfl, ho2, hb2⟩; have hb2q := hb2)
      | (go_at_call 63; refine (HHO.out _ hb2q).mono ?_; rintro e w3 ⟨rfl, hb3⟩))
    have hA := hb2q.trans (hb3.mono hb2q.size)
    have HO3 := Lib.hid (ho2.below hb3 (Nat.le_refl _))
    clear hb2 hb2q hb3 ho2 HHO
    have hU0 := bup hA
    have HUP := Lib.hid (bup hA)
    refine wp_region_up w3.heap.size (by kernel_rfl) (by kernel_rfl) ?_
    repeat (go_big_quiet_step ((first | (go_at_call 64; exact Calls.up_of (Nat.le_refl _) (HIX.out _ (HUP.out _))))))
    refine wpQuiet_nil (up_all fun w4 hb2 => ?_)
    have hA := bgo hA hb2
    have HO4 := Lib.hid (HO3.out.below hb2 (Nat.le_refl _))
    clear hb2 HUP hU0
    by_cases hkt : k < s.tt.n
    · obtain ⟨b5, o5, A5, n5, c5, e5, _, ct, hin⟩ := HS.out.tt.2.2.2 k hkt
      have u5 := up_fact ct
      have HE5 := Lib.hid e5
      have hl5 := hin.length
      have HIN := Lib.hid hin
      have z1 : decide ((k : Int) < (s.tt.n : Int)) = true := by simp; omega
      have z2 : decide (k < s.tt.n) = true := by simp; omega
      have HTT := Lib.hid (show q.tt[k]? = some (q.tt.getD k []) by rw [List.getD_eq_getElem?_getD, List.getElem?_eq_getElem (by omega)]; rfl)
      clear ct e5 hin
      rw [HE5.out] at y1
      by_cases hn5 : n5 = 0
      · have HREV := Lib.hid (show revOut q gs p g = gs by
          unfold revOut
          rw [HK.out]
          show (match q.tt[k]? with | some (z :: _) => gs.take p ++ setid z g :: gs.drop (p + 1) | _ => gs) = gs
          rw [HTT.out, List.eq_nil_of_length_eq_zero (by omega : (q.tt.getD k []).length = 0)])
        have z3 : decide ((0 : Int) < (n5 : Int)) = false := by simp; omega
        have z4 : decide (0 < n5) = false := by simp; omega
        go_wp2_with fail
        go_ret2
        rw [HRES.out, HREV.out]
        exact ⟨A2, c2, rfl, HGL.out, HO4.out.gls, HB1.out.trans (hA.mono (by omega))⟩
      · obtain ⟨b6, o6, z, e6, _, hz, cz⟩ := HIN.out.at_ (k := 0) (by omega)
        have u6 := up_fact (show w1.cell? ⟨b6, o6, none⟩ = _ from cz)
        have HE6 := Lib.hid e6
        have HREV := Lib.hid (show revOut q gs p g = gs.take p ++ setid z g :: gs.drop (p + 1) by
          unfold revOut
          rw [HK.out]
          show (match q.tt[k]? with | some (z :: _) => gs.take p ++ setid z g :: gs.drop (p + 1) | _ => gs) = _
          rw [HTT.out]
          cases hq : q.tt.getD k [] with
          | nil => rw [hq] at hz; cases hz
          | cons a r => rw [hq] at hz; cases hz; rfl)
        have z3 : decide ((0 : Int) < (n5 : Int)) = true := by simp; omega
        have z4 : decide (0 < n5) = true := by simp; omega
        have z5 : 0 < n5 := by omega
        clear cz e6 hz
        rw [HE6.out] at u5
        obtain ⟨b7, rfl, hb71, hb72, -⟩ := HO4.out.form (.inl (by omega))
        obtain ⟨b7', o7, g7, e7, _, hg7, cc7, -⟩ := (HO4.out.gls).at_ hp
        cases e7
        rw [Nat.zero_add] at cc7
        have fr7 : w4.frozen? ⟨b7, p * 10, none⟩ = false := by
          obtain ⟨b8, e8, _, _, cur, h8, _⟩ := HO4.out.form (.inl (by omega))
          cases e8
          exact frozen_of_row _ _ _ _ _ h8
        have hput := GRow.putId (k := p) (b := b7) (by have h0 := HO4.out; rw [split_at HG.out] at h0; exact h0) (by rw [List.length_take, HGL.out]; omega) z
        have HPUT := Lib.hid hput
        have hb8 := HB1.out.trans (hA.mono (by omega))
        have HB8 := Lib.hid (hb8.setCell (p := ⟨b7, p * 10, none⟩) (show w.heap.size ≤ b7 by omega) (.int .i64 z))
        clear hput hb8 hg7
        go_wp2_with fail
        go_ret2
        rw [HRES.out, HREV.out]
        have hl8 : (gs.take p ++ setid z g :: gs.drop (p + 1)).length = n := HPUT.out.1
        exact ⟨_, c2, rfl, hl8, HPUT.out.gls, HB8.out⟩
    · have HREV := Lib.hid (show revOut q gs p g = gs by
        unfold revOut
        rw [HK.out]
        show (match q.tt[k]? with | some (z :: _) => gs.take p ++ setid z g :: gs.drop (p + 1) | _ => gs) = gs
        rw [List.getElem?_eq_none (by omega)])
      have z1 : decide ((k : Int) < (s.tt.n : Int)) = false := by simp; omega
      have z2 : decide (k < s.tt.n) = false := by simp; omega
      go_wp2_with fail
      go_ret2
      rw [HRES.out, HREV.out]
      exact ⟨A2, c2, rfl, HGL.out, HO4.out.gls, HB1.out.trans (hA.mono (by omega))⟩

end Go.Proofs.Ytngdolmmaiogiaa

/- Where an element of a row of the call's own lies. Over any program. No condition. -/
namespace Go.Proofs.Ytngdolmmaiogiaa
open Go.RowKit
theorem Own.at_ {w : World} {base : Nat} {e : TypeId} {A : Option Addr} {n c : Nat} {zs : List Int} {k : Nat} (h : Own w base e A n c zs) (hk : k < n) : ∃ g x, A = some ⟨g, 0, none⟩ ∧ base ≤ g ∧ g < w.heap.size ∧ zs[k]? = some x ∧ w.cell? ⟨g, k, none⟩ = some (.int .i64 x) ∧ w.frozen? ⟨g, k, none⟩ = false := by
  have hl := Own.length h
  have hz : zs = zs.take k ++ zs[k] :: zs.drop (k + 1) := by rw [← List.drop_eq_getElem_cons (by omega), List.take_append_drop]
  have h' : Own w base e A n c (zs.take k ++ zs[k] :: zs.drop (k + 1)) := by rw [← hz]; exact h
  obtain ⟨_, g, h1, h2, h3, h4, h5⟩ := Own.mid h' (k := k) (by simp; omega)
  exact ⟨g, zs[k], h1, h2, h3, List.getElem?_eq_getElem (by omega), h4, h5⟩
end Go.Proofs.Ytngdolmmaiogiaa

/- The walk of context.Moved. Condition: the places read as a list. Printed by wip/tools. -/
namespace Go.Proofs.Ytngdolmmaiogiaa
open Go.RowKit

/-- a place behind a change -/
def mov1 (at_ d p : Int) : Int :=
  if p = -1 ∨ p ≤ at_ then p else if d < 0 ∧ p ≤ IntKind.i64.wrap (at_ - d) then -1 else IntKind.i64.wrap (p + d)
def movB (zs : List Int) (at_ was now : Int) : List Int := zs.map (mov1 at_ (IntKind.i64.wrap (now - was)))
theorem mov_split {f : Int → Int} {zs : List Int} {k : Nat} {x : Int} (h : zs[k]? = some x) : (zs.map f).take k ++ zs.drop k = (zs.map f).take k ++ x :: zs.drop (k + 1) := by
  have hl : k < zs.length := by
    rcases Nat.lt_or_ge k zs.length with h1 | h1
    · exact h1
    · rw [List.getElem?_eq_none h1] at h; cases h
  rw [List.getElem?_eq_getElem hl] at h
  cases h
  rw [List.drop_eq_getElem_cons hl]
theorem mov_next {f : Int → Int} {zs : List Int} {k : Nat} {x y : Int} (h : zs[k]? = some x) (hy : f x = y) : (zs.map f).take k ++ y :: zs.drop (k + 1) = (zs.map f).take (k + 1) ++ zs.drop (k + 1) := by
  rw [List.take_add_one, List.getElem?_map, h, Option.map_some, hy]
  simp
set_option maxRecDepth 100000 in
set_option maxHeartbeats 4000000 in
theorem moved_any (B : Nat) (A : Option Addr) (n c : Nat) (zs : List Int) (at_ was now : Int) (w : World) (h : Ints w B A n c zs) (hB : B ≤ w.heap.size) (hn : n ≤ 100000) :
    Calls Try.prog 71 #[.slice A n c, .int .i64 at_, .int .i64 was, .int .i64 now] w (RetOwn 3 w n (movB zs at_ was now)) := by
  have hcap := h.cap
  have hlen := h.length
  have HI := Lib.hid h
  have HLN := Lib.hid hlen
  clear h
  obtain ⟨d, hd⟩ : ∃ z, IntKind.i64.wrap (now - was) = z := ⟨_, rfl⟩
  obtain ⟨ad, had⟩ : ∃ z, IntKind.i64.wrap (at_ - d) = z := ⟨_, rfl⟩
  obtain ⟨f, hf⟩ : ∃ z, z = mov1 at_ d := ⟨_, rfl⟩
  have HFF := Lib.hid hf
  have HRES := Lib.hid (show movB zs at_ was now = zs.map f by unfold movB; rw [hd, hf])
  have HCL := Lib.hid (cloneO_any B A n c zs w HI.out hB (by omega))
  rw [HRES.out]
  clear hf
  go_enter Try.func71, Try.ntmps71
  go_upto_region 3 with (go_at_call 73; refine (HCL.out).mono ?_; rintro e w2 ⟨A2, c2, rfl, ho2, hb2⟩)
  rw [HLN.out] at ho2
  have HI2 := Lib.hid (HI.out.below (hb2.mono hB))
  have HO2 := Lib.hid ho2
  have HB2 := Lib.hid hb2
  have hcap2 := ho2.cap
  have hA2 := Below.refl w2.heap.size w2
  clear hb2
  by_cases hn0 : n = 0
  · subst hn0
    have HNIL := Lib.hid (show zs.map f = [] by rw [List.eq_nil_of_length_eq_zero hlen]; rfl)
    have HZ := Lib.hid (show zs = [] from List.eq_nil_of_length_eq_zero hlen)
    go_wp2_with fail
    go_loopw [20] (fun v wr => v = .int .i64 0 ∧ wr = w2) (fun _ _ => 0)
    case atStart => exact ⟨rfl, rfl⟩
    case round =>
      obtain ⟨rfl, rfl⟩ := hrel
      go_wp2_with fail
      go_ret
      rw [HNIL.out]
      have h0 := HO2.out
      rw [HZ.out] at h0
      exact ⟨A2, c2, rfl, h0, HB2.out⟩
  · obtain ⟨gb, x0, rfl, hgb, -, -, -, -⟩ := ho2.at_ (k := 0) (by omega)
    obtain ⟨ba, oa, xa, rfl, hba, -⟩ := HI2.out.at_ (k := 0) (by omega)
    clear ho2 hA2
    go_wp2_with fail
    go_loopw [20] (fun v wr => ∃ k : Nat, v = .int .i64 (k : Int) ∧ k ≤ n ∧ Own wr w.heap.size 3 (some ⟨gb, 0, none⟩) n c2 ((zs.map f).take k ++ zs.drop k) ∧ Below w.heap.size w wr) (fun v _ => n - (intOf v).toNat)
    case atStart => exact ⟨0, rfl, Nat.zero_le _, (by simpa using HO2.out), HB2.out⟩
    case round =>
      obtain ⟨k, rfl, hk, how, hA⟩ := hrel
      have HOW := Lib.hid how
      clear how
      by_cases hlt : k < n
      · have z9 : decide ((k : Int) < (n : Int)) = true := by simp; omega
        obtain ⟨b', o', p, e', _, hp, cp⟩ := (HI.out.below (hA.mono hB)).at_ hlt
        cases e'
        obtain ⟨gb', x', e'', _, _, hx', cx, fx⟩ := HOW.out.at_ hlt
        cases e''
        have HX := Lib.hid hp
        clear hp hx'
        by_cases hp1 : p = -1
        · have HF := Lib.hid (show f p = p by rw [HFF.out]; unfold mov1; rw [if_pos (.inl hp1)])
          subst hp1
          have hkeep : (zs.map f).take k ++ zs.drop k = (zs.map f).take (k + 1) ++ zs.drop (k + 1) := by rw [mov_split HX.out, mov_next HX.out HF.out]
          have HKEEP := Lib.hid (hkeep ▸ HOW.out)
          clear hkeep
          go_wp2_with fail
          go_roundw
          case rel => exact ⟨k + 1, by go_num, by omega, HKEEP.out, hA⟩
          case measure => simp [intOf] <;> omega
        · have q1 : (p == -1) = false := by simp [hp1]
          by_cases hpa : p ≤ at_
          · have HF := Lib.hid (show f p = p by rw [HFF.out]; unfold mov1; rw [if_pos (.inr hpa)])
            have q2 : decide (p ≤ at_) = true := by simp [hpa]
            have q3 : ¬ at_ < p := by omega
            clear hp1
            have hkeep : (zs.map f).take k ++ zs.drop k = (zs.map f).take (k + 1) ++ zs.drop (k + 1) := by rw [mov_split HX.out, mov_next HX.out HF.out]
            have HKEEP := Lib.hid (hkeep ▸ HOW.out)
            clear hkeep
            go_wp2_with fail
            go_roundw
            case rel => exact ⟨k + 1, by go_num, by omega, HKEEP.out, hA⟩
            case measure => simp [intOf] <;> omega
          · have q2 : decide (p ≤ at_) = false := by simp; omega
            have q3 : at_ < p := by omega
            by_cases hdn : d < 0
            · have q4 : decide (d < 0) = true := by simp [hdn]
              by_cases hpd : p ≤ ad
              · have HF := Lib.hid (show f p = -1 by rw [HFF.out]; unfold mov1; rw [if_neg (by omega), had, if_pos ⟨hdn, hpd⟩])
                have q5 : decide (p ≤ ad) = true := by simp [hpd]
                have q6 : ¬ ad < p := by omega
                clear hp1 hpa
                have hput := Own.put (k := k) (g := gb) (by have h0 := HOW.out; rw [mov_split HX.out] at h0; exact h0) (by rw [List.length_take, List.length_map]; omega) (-1)
                rw [mov_next HX.out HF.out] at hput
                have HPUT := Lib.hid hput
                have HA9 := Lib.hid (hA.setCell (p := ⟨gb, k, none⟩) hgb (.int .i64 (-1)))
                clear hput
                go_wp2_with fail
                go_roundw
                case rel => exact ⟨k + 1, by go_num, by omega, HPUT.out, HA9.out⟩
                case measure => simp [intOf] <;> omega
              · have HF := Lib.hid (show f p = IntKind.i64.wrap (p + d) by rw [HFF.out]; unfold mov1; rw [if_neg (by omega), had, if_neg (fun h => hpd h.2)])
                have q5 : decide (p ≤ ad) = false := by simp; omega
                have q6 : ad < p := by omega
                obtain ⟨pd, hpd2⟩ : ∃ z, IntKind.i64.wrap (p + d) = z := ⟨_, rfl⟩
                rw [hpd2] at HF
                clear hp1 hpa hpd
                have hput := Own.put (k := k) (g := gb) (by have h0 := HOW.out; rw [mov_split HX.out] at h0; exact h0) (by rw [List.length_take, List.length_map]; omega) pd
                rw [mov_next HX.out HF.out] at hput
                have HPUT := Lib.hid hput
                have HA9 := Lib.hid (hA.setCell (p := ⟨gb, k, none⟩) hgb (.int .i64 pd))
                clear hput
                go_wp2_with fail
                go_roundw
                case rel => exact ⟨k + 1, by go_num, by omega, HPUT.out, HA9.out⟩
                case measure => simp [intOf] <;> omega
            · have HF := Lib.hid (show f p = IntKind.i64.wrap (p + d) by rw [HFF.out]; unfold mov1; rw [if_neg (by omega), if_neg (fun h => hdn h.1)])
              have q4 : decide (d < 0) = false := by simp; omega
              have q5 : 0 ≤ d := by omega
              obtain ⟨pd, hpd2⟩ : ∃ z, IntKind.i64.wrap (p + d) = z := ⟨_, rfl⟩
              rw [hpd2] at HF
              clear hp1 hpa hdn
              have hput := Own.put (k := k) (g := gb) (by have h0 := HOW.out; rw [mov_split HX.out] at h0; exact h0) (by rw [List.length_take, List.length_map]; omega) pd
              rw [mov_next HX.out HF.out] at hput
              have HPUT := Lib.hid hput
              have HA9 := Lib.hid (hA.setCell (p := ⟨gb, k, none⟩) hgb (.int .i64 pd))
              clear hput
              go_wp2_with fail
              go_roundw
              case rel => exact ⟨k + 1, by go_num, by omega, HPUT.out, HA9.out⟩
              case measure => simp [intOf] <;> omega
      · have hkn : k = n := by omega
        have z9 : decide ((k : Int) < (n : Int)) = false := by simp; omega
        go_wp2_with fail
        go_ret
        have h0 := HOW.out
        rw [List.take_of_length_le (by rw [List.length_map]; have := HLN.out; omega), List.drop_eq_nil_of_le (by have := HLN.out; omega), List.append_nil] at h0
        exact ⟨_, c2, rfl, h0, hA⟩

end Go.Proofs.Ytngdolmmaiogiaa
