/- Joined: StepA StepB StepC. -/
import Derived.Test.YtngdolmmaiogiaaJ22
import Derived.Deep.RegionHeld3
import Derived.Test.YtngdolmmaiogiaaJ09

/- The walks of begin and (*machine).back. Condition: what they read reads as plain data. Printed by wip/tools. -/
namespace Go.Proofs.Ytngdolmmaiogiaa
open Go.RowKit

set_option maxRecDepth 100000 in
set_option maxHeartbeats 4000000 in
theorem begin_any (F : Fnt) (w : World) :
    Calls Try.prog 15 #[.agg #[.int .i64 F.em, .slice F.GA F.gn F.gc, .slice F.MA F.mn F.mc, .slice F.LA F.ln F.lc, .slice F.FA F.fn F.fc, .slice F.SA F.sn F.sc]] w (fun e w' => ∃ bm, e = .returned (.pointer (some ⟨bm, 0, none⟩)) ∧ w.heap.size ≤ bm ∧ MBox w' bm F 65536 ∧ Below w.heap.size w w') := by
  obtain ⟨w1, hw_w1⟩ : ∃ z, z = w.alloc (.cells #[.int .i64 F.em, .slice F.GA F.gn F.gc, .slice F.MA F.mn F.mc, .slice F.LA F.ln F.lc, .slice F.FA F.fn F.fc, .slice F.SA F.sn F.sc] 28) := ⟨_, rfl⟩
  have hs_w1 : w1.heap.size = w.heap.size + 1 := by rw [hw_w1]; simp
  have hb_w1 : Below w.heap.size w w1 := by rw [hw_w1]; exact (Below.refl _ _).alloc (Nat.le_refl _) _
  have hx_0 : w1.heap[w.heap.size]? = some (.cells #[.int .i64 F.em, .slice F.GA F.gn F.gc, .slice F.MA F.mn F.mc, .slice F.LA F.ln F.lc, .slice F.FA F.fn F.fc, .slice F.SA F.sn F.sc] 28 (0, 0)) := by rw [hw_w1]; exact heap_alloc_new _ _
  have g0 := up_fact (show w1.cell? ⟨w.heap.size, 0, none⟩ = some (.int .i64 F.em) by rw [cell_of_row _ _ 0 _ _ _ hx_0]; rfl)
  have g1 := up_fact (show w1.cell? ⟨w.heap.size, 1, none⟩ = some (.slice F.GA F.gn F.gc) by rw [cell_of_row _ _ 1 _ _ _ hx_0]; rfl)
  have g2 := up_fact (show w1.cell? ⟨w.heap.size, 2, none⟩ = some (.slice F.MA F.mn F.mc) by rw [cell_of_row _ _ 2 _ _ _ hx_0]; rfl)
  have g3 := up_fact (show w1.cell? ⟨w.heap.size, 3, none⟩ = some (.slice F.LA F.ln F.lc) by rw [cell_of_row _ _ 3 _ _ _ hx_0]; rfl)
  have g4 := up_fact (show w1.cell? ⟨w.heap.size, 4, none⟩ = some (.slice F.FA F.fn F.fc) by rw [cell_of_row _ _ 4 _ _ _ hx_0]; rfl)
  have g5 := up_fact (show w1.cell? ⟨w.heap.size, 5, none⟩ = some (.slice F.SA F.sn F.sc) by rw [cell_of_row _ _ 5 _ _ _ hx_0]; rfl)
  have hA0 := Below.refl w1.heap.size w1
  have HS1 := Lib.hid hs_w1
  have hs1 : w.heap.size + 0 < w1.heap.size := by omega
  have HB1 := Lib.hid hb_w1
  have HW_w1 := Lib.hid hw_w1
  clear hw_w1 hs_w1 hb_w1
  clear hx_0
  go_enter Try.func15, Try.ntmps15
  go_upto_region 1 with fail
  rw [← HW_w1.out]
  go_wp2_with fail
  go_ret
  refine ⟨w1.heap.size, rfl, by omega, ?_, HB1.out.trans (((Below.refl w1.heap.size w1).alloc (Nat.le_refl _) _).mono (by omega))⟩
  exact heap_alloc_new _ _

set_option maxRecDepth 100000 in
set_option maxHeartbeats 4000000 in
theorem sback_any (P : PFt) (Ls : List LkS) (F : Fnt) (B bm L : Nat) (x : Int × Int) (A : Option Addr) (n c : Nat) (gs : List Gl) (w : World) (hF : FtR w B F P) (hLs : SlR w B 4 (LkR2 w B) F.LA F.ln F.lc Ls) (hG : ∀ x ∈ Ls, LkGood x.1 x.2) (hI : GlsR w w.heap.size A n c gs) (hM : MBox w bm F L) (hB : B ≤ w.heap.size) (hBm : B ≤ bm) (hn : n ≤ 16384) (hL : L ≤ 65536) (hk : ∃ k : Nat, x.1 = (k : Int) ∧ ∃ lk lsu, Ls[k]? = some (lk, lsu) ∧ lk.ki = 5) :
    Calls Try.prog 30 #[.pointer (some ⟨bm, 0, none⟩), .agg #[.int .i64 x.1, .int .i64 x.2], .slice A n c] w (RetM w bm F (bwdB P Ls x gs.length gs L)) := by
  have hcap := hI.cap
  have hlen := hI.length
  have HI := Lib.hid hI
  have HF := Lib.hid hF
  have HLS := Lib.hid hLs
  have HGD := Lib.hid hG
  have HM := Lib.hid hM
  have HB := Lib.hid hB
  have HBM := Lib.hid hBm
  have hbw := hM.lt
  have hll := SlR.length hLs
  have hcl := SlR.cap hLs
  clear hI hF hLs hG hM hB hBm
  obtain ⟨w1, hw_w1⟩ : ∃ z, z = w.alloc (.cells #[.int .i64 x.1, .int .i64 x.2] 45) := ⟨_, rfl⟩
  have hs_w1 : w1.heap.size = w.heap.size + 1 := by rw [hw_w1]; simp
  have hb_w1 : Below w.heap.size w w1 := by rw [hw_w1]; exact (Below.refl _ _).alloc (Nat.le_refl _) _
  have hx_0 : w1.heap[w.heap.size]? = some (.cells #[.int .i64 x.1, .int .i64 x.2] 45 (0, 0)) := by rw [hw_w1]; exact heap_alloc_new _ _
  have x0 := up_fact (show w1.cell? ⟨w.heap.size, 0, none⟩ = some (.int .i64 x.1) by rw [cell_of_row _ _ 0 _ _ _ hx_0]; rfl)
  have x1 := up_fact (show w1.cell? ⟨w.heap.size, 1, none⟩ = some (.int .i64 x.2) by rw [cell_of_row _ _ 1 _ _ _ hx_0]; rfl)
  have hA0 := Below.refl w1.heap.size w1
  have HS1 := Lib.hid hs_w1
  have hs1 : w.heap.size + 0 < w1.heap.size := by omega
  have HB1 := Lib.hid hb_w1
  have HW_w1 := Lib.hid hw_w1
  clear hw_w1 hs_w1 hb_w1
  clear hx_0
  have hbx : bm ≠ w.heap.size := by omega
  have HX := Lib.hid (show ∀ W, But bm w1 W → W.cell? ⟨w.heap.size, 0, none⟩ = some (.int .i64 x.1) ∧ W.cell? ⟨w.heap.size, 1, none⟩ = some (.int .i64 x.2) from fun W hW => ⟨(hW.cell (p := ⟨w.heap.size, 0, none⟩) (by show w.heap.size < _; omega) (fun e => hbx e.symm)).trans (x0 w1 hA0), (hW.cell (p := ⟨w.heap.size, 1, none⟩) (by show w.heap.size < _; omega) (fun e => hbx e.symm)).trans (x1 w1 hA0)⟩)
  have HM1 := Lib.hid (HM.out.below HB1.out hbw)
  have HI1 := Lib.hid ((HI.out.below HB1.out).more (show w.heap.size ≤ w1.heap.size by omega))
  have HBT := Lib.hid (show But bm w w1 from But.of HB1.out)
  obtain ⟨kx, hkx⟩ : ∃ k : Nat, x.1 = (k : Int) := hk.imp fun _ h => h.1
  have HKX := Lib.hid hkx
  obtain ⟨lk, lsu, hki⟩ : ∃ lk lsu, Ls[kx]? = some (lk, lsu) ∧ lk.ki = 5 := by
    obtain ⟨k, h1, lk, lsu, h2, h3⟩ := hk
    obtain rfl : k = kx := by omega
    exact ⟨lk, lsu, h2, h3⟩
  have HKI := Lib.hid hki
  obtain ⟨res, hres⟩ : ∃ z, z = bwdB P Ls x n gs L := ⟨_, rfl⟩
  rw [hlen, ← hres]
  have HRES := Lib.hid hres.symm
  clear hres hk hki hkx x0 x1
  go_enter Try.func30, Try.ntmps30
  go_upto_region 1 with fail
  rw [← HW_w1.out]
  have sn : IntKind.i64.wrap ((n : Int) - 1) = (n : Int) - 1 := by rw [IntKind.wrap_i64]; omega
  go_upto_region 2 with fail
  go_loopw [2, 7] (fun v2 v7 wr => ∃ (i : Nat) (z : Int) (A : Option Addr) (n c : Nat) (gs : List Gl) (L : Nat), v2 = .slice A n c ∧ v7 = .int .i64 z ∧ z + 1 = (i : Int) ∧ i ≤ n ∧ bwdB P Ls x i gs L = res ∧ n ≤ 16384 ∧ L ≤ 65536 ∧ GlsR wr wr.heap.size A n c gs ∧ MBox wr bm F L ∧ But bm w1 wr) (fun _ v7 _ => (intOf v7 + 1).toNat)
  case atStart => exact ⟨n, _, A, n, c, gs, L, rfl, rfl, by omega, Nat.le_refl _, HRES.out, hn, hL, HI1.out, HM1.out, But.refl _ _⟩
  case round =>
    clear hcap hlen hn hL HI HRES sn
    obtain ⟨i, z, A, n, c, gs, L, rfl, rfl, hz, hin, heq, hn, hL, hi, hm, hbr⟩ := hrel
    have HEQ := Lib.hid heq
    have HMR := Lib.hid hm
    have HIR := Lib.hid hi
    have hcap := hi.cap
    have hrl := hi.length
    rcases i with _ | i
    · obtain rfl : z = -1 := by omega
      have z1 : decide ((0 : Int) ≤ -1) = false := rfl
      clear heq hm hi
      go_wp2_with fail
      go_ret
      rw [← HEQ.out]
      have h0 := HIR.out
      rw [← hrl] at h0 ⊢
      exact ⟨A, c, rfl, h0, HMR.out, HBT.out.trans hbr⟩
    · obtain rfl : z = (i : Int) := by omega
      have z1 : decide ((0 : Int) ≤ (i : Int)) = true := by simp
      have z2 : decide ((i : Int) < 0) = false := by simp
      have z3 : decide ((n : Int) ≤ (i : Int)) = false := by simp; omega
      have z3' : decide (n ≤ i) = false := by simp; omega
      have sn : IntKind.i64.wrap ((i : Int) - 1) = (i : Int) - 1 := by rw [IntKind.wrap_i64]; omega
      obtain ⟨bg, og, g, rfl, hbg, hg, -, -, -, -, -, -, -, -, -, d9⟩ := hi.at_ (k := i) (by omega)
      have HG0 := Lib.hid hg
      have c9 := up_fact d9
      have e0 := up_fact (HX.out wr hbr).1
      have e1 := up_fact (HX.out wr hbr).2
      have hA := Below.refl wr.heap.size wr
      clear heq hm hi hg d9
      by_cases hh : (bits BinOp.and IntKind.i64 g.ma x.2 == 0) = true
      · have hb1 : hitB g x.2 = false := by unfold hitB; rw [bne, hh]; rfl
        have HEQ2 := Lib.hid (show bwdB P Ls x i gs L = res by rw [← HEQ.out, bwdB_miss HG0.out hb1])
        go_upto_region 4 with fail
        have hU0 := bup hA
        have HUP := Lib.hid (bup hA)
        refine wp_region_up wr.heap.size (by kernel_rfl) (by kernel_rfl) ?_
        repeat (go_big_quiet_step (fail))
        refine wpQuiet_nil (up_all fun w5 hb2 => ?_)
        have hA := bgo hA hb2
        clear hb2 HUP hU0
        go_wp2_with fail
        go_roundw
        case rel =>
          exact ⟨i, _, _, n, c, gs, L, rfl, rfl, by omega, by omega, HEQ2.out, hn, hL, (HIR.out.below hA).more hA.size, HMR.out.below hA HMR.out.lt, hbr.trans (But.of hA)⟩
        case measure => simp [intOf] <;> omega
      · have hh : (bits BinOp.and IntKind.i64 g.ma x.2 == 0) = false := by simpa using hh
        have HIT := Lib.hid (show hitB g x.2 = true by unfold hitB; rw [bne, hh]; rfl)
        obtain ⟨rc, hrc⟩ : ∃ z, z = onceB P Ls 9 L gs x.1 (i : Int) := ⟨_, rfl⟩
        have HRC := Lib.hid hrc.symm
        have HCALL := Lib.hid (fun W (hW : Below wr.heap.size wr W) => show Calls Try.prog 31 #[.pointer (some ⟨bm, 0, none⟩), .int .i64 x.1, .slice (some ⟨bg, og, none⟩) n c, .int .i64 (i : Int), .int .i64 0] W (RetCtx W bm F rc) from by
          rw [← HRC.out]
          have hbt := (HBT.out.trans hbr).trans (But.of (bm := bm) hW)
          have hbe : Below B w W := hbt.below HBM.out HB.out
          exact once_any P Ls F B bm 9 0 L _ n c gs x.1 (i : Int) W rfl (HF.out.below hbe) (SlR.below HLS.out hbe fun _ _ h => h.below hbe) HGD.out ((HIR.out.below hW).more hW.size) (HMR.out.below hW HMR.out.lt) (Nat.le_trans HB.out hbt.size) HBM.out hn hL)
        have HLEN := Lib.hid (fun r (h : rc.1 = some r) => show r.1.length = n from by
          rw [← hrl]
          exact onceB_rev HKI.out.1 HKI.out.2 (by rw [hrc, HKX.out] at h; exact h))
        have HLE := Lib.hid (show rc.2 ≤ L by rw [hrc]; exact (onceB_ok (P := P) (Ls := Ls) 9 L gs x.1 (i : Int)).2)
        clear hrc
        go_upto_region 4 with fail
        have hU0 := bup hA
        have HUP := Lib.hid (bup hA)
        refine wp_region_up wr.heap.size (by kernel_rfl) (by kernel_rfl) ?_
        repeat (go_big_quiet_step (fail))
        refine wpQuiet_nil (up_all fun w5 hb2 => ?_)
        have hA := bgo hA hb2
        clear hb2 HUP hU0
        rcases rc with ⟨_ | ⟨gs', y⟩, L'⟩
        · go_wp2_with (go_at_call 31; refine (HCALL.out _ hA).mono ?_; rintro e w6 ⟨rfl, hm6, hb6⟩)
          go_roundw
          case rel =>
            have hbt := (hbr.trans (But.of (bm := bm) hA)).trans hb6
            exact ⟨i, _, _, n, c, gs, L', rfl, rfl, by omega, by omega, (bwdB_none HG0.out HIT.out HRC.out).symm.trans HEQ.out, hn, Nat.le_trans HLE.out hL, ((HIR.out.below hA).but (HMR.out.below hA HMR.out.lt) hb6 hA.size).more (Nat.le_trans hA.size hb6.size), hm6, hbt⟩
          case measure => simp [intOf] <;> omega
        · have hgn : gs'.length = n := HLEN.out _ rfl
          go_wp2_with (go_at_call 31; refine (HCALL.out _ hA).mono ?_; rintro e w6 ⟨A6, c6, rfl, hi6, hm6, hb6⟩)
          go_roundw
          case rel =>
            have hbt := (hbr.trans (But.of (bm := bm) hA)).trans hb6
            rw [hgn] at hi6
            exact ⟨i, _, A6, n, c6, gs', L', rfl, rfl, by omega, by omega, (bwdB_some HG0.out HIT.out HRC.out).symm.trans HEQ.out, by omega, Nat.le_trans HLE.out hL, hi6, hm6, hbt⟩
          case measure => simp [intOf] <;> omega

end Go.Proofs.Ytngdolmmaiogiaa

/- The walk of (*machine).lookup. Condition: what it reads reads as plain data. Printed by wip/tools. -/
namespace Go.Proofs.Ytngdolmmaiogiaa
open Go.RowKit

/-- how long a slice value is -/
def slN : Value → Nat
  | .slice _ n _ => n
  | _ => 0
/-- what a machine has left, in its box -/
def leftW (bm : Nat) (w : World) : Nat := (intOf ((w.cell? ⟨bm, 6, none⟩).getD (.int .i64 0))).toNat
set_option maxRecDepth 100000 in
set_option maxHeartbeats 4000000 in
theorem look_any (P : PFt) (Ls : List LkS) (F : Fnt) (B bm L : Nat) (xk xm : Int) (A : Option Addr) (n c : Nat) (gs : List Gl) (w : World) (hF : FtR w B F P) (hLs : SlR w B 4 (LkR2 w B) F.LA F.ln F.lc Ls) (hG : ∀ x ∈ Ls, LkGood x.1 x.2) (hI : GlsR w w.heap.size A n c gs) (hM : MBox w bm F L) (hB : B ≤ w.heap.size) (hBm : B ≤ bm) (hn : n ≤ 16384) (hL : L ≤ 65536) :
    Calls Try.prog 22 #[.pointer (some ⟨bm, 0, none⟩), .agg #[.int .i64 xk, .int .i64 xm], .slice A n c] w (RetM w bm F (lookB P Ls gs L (xk, xm))) := by
  have hcap := hI.cap
  have hlen := hI.length
  have HI := Lib.hid hI
  have HF := Lib.hid hF
  have HLS := Lib.hid hLs
  have HGD := Lib.hid hG
  have HM := Lib.hid hM
  have HB := Lib.hid hB
  have HBM := Lib.hid hBm
  have hbw := hM.lt
  have hll := SlR.length hLs
  have hcl := SlR.cap hLs
  clear hI hF hLs hG hM hB hBm
  obtain ⟨w1, hw_w1⟩ : ∃ z, z = w.alloc (.cells #[.int .i64 xk, .int .i64 xm] 45) := ⟨_, rfl⟩
  have hs_w1 : w1.heap.size = w.heap.size + 1 := by rw [hw_w1]; simp
  have hb_w1 : Below w.heap.size w w1 := by rw [hw_w1]; exact (Below.refl _ _).alloc (Nat.le_refl _) _
  have hx_0 : w1.heap[w.heap.size]? = some (.cells #[.int .i64 xk, .int .i64 xm] 45 (0, 0)) := by rw [hw_w1]; exact heap_alloc_new _ _
  have x0 := up_fact (show w1.cell? ⟨w.heap.size, 0, none⟩ = some (.int .i64 xk) by rw [cell_of_row _ _ 0 _ _ _ hx_0]; rfl)
  have x1 := up_fact (show w1.cell? ⟨w.heap.size, 1, none⟩ = some (.int .i64 xm) by rw [cell_of_row _ _ 1 _ _ _ hx_0]; rfl)
  have hA0 := Below.refl w1.heap.size w1
  have HS1 := Lib.hid hs_w1
  have hs1 : w.heap.size + 0 < w1.heap.size := by omega
  have HB1 := Lib.hid hb_w1
  have HW_w1 := Lib.hid hw_w1
  clear hw_w1 hs_w1 hb_w1
  clear hx_0
  have hbx : bm ≠ w.heap.size := by omega
  have HX := Lib.hid (show ∀ W, But bm w1 W → W.cell? ⟨w.heap.size, 0, none⟩ = some (.int .i64 xk) ∧ W.cell? ⟨w.heap.size, 1, none⟩ = some (.int .i64 xm) from fun W hW => ⟨(hW.cell (p := ⟨w.heap.size, 0, none⟩) (by show w.heap.size < _; omega) (fun e => hbx e.symm)).trans (x0 w1 hA0), (hW.cell (p := ⟨w.heap.size, 1, none⟩) (by show w.heap.size < _; omega) (fun e => hbx e.symm)).trans (x1 w1 hA0)⟩)
  have HM1 := Lib.hid (HM.out.below HB1.out hbw)
  have HI1 := Lib.hid ((HI.out.below HB1.out).more (show w.heap.size ≤ w1.heap.size by omega))
  have HBT := Lib.hid (show But bm w w1 from But.of HB1.out)
  have HLEN := Lib.hid hlen
  obtain ⟨res, hres⟩ : ∃ z, z = lookB P Ls gs L (xk, xm) := ⟨_, rfl⟩
  rw [← hres]
  have HRES0 := Lib.hid hres
  have m3 := up_fact (show w1.cell? ⟨bm, 3, none⟩ = some (.slice F.LA F.ln F.lc) by rw [cell_of_row _ _ 3 _ _ _ HM1.out]; rfl)
  clear hres
  by_cases a1 : 0 ≤ xk
  rotate_left
  · have HRES := Lib.hid (show res = (gs, L) by rw [HRES0.out]; unfold lookB; rw [if_neg a1])
    have z1 : decide (xk < 0) = true := by simp; omega
    go_enter Try.func22, Try.ntmps22
    go_upto_region 1 with fail
    rw [← HW_w1.out]
    have hU0 := bup hA0
    have HUP := Lib.hid (bup hA0)
    refine wp_region_up w1.heap.size (by kernel_rfl) (by kernel_rfl) ?_
    repeat (go_big_quiet_step (fail))
    refine wpQuiet_nil (up_all fun w2 hb2 => ?_)
    have hA0 := bgo hA0 hb2
    clear hb2 HUP hU0
    go_wp2_with fail
    go_ret
    rw [HRES.out]
    obtain rfl := HLEN.out
    exact ⟨A, c, rfl, (HI1.out.below hA0).more hA0.size, HM1.out.below hA0 (by omega), HBT.out.trans (But.of hA0)⟩
  obtain ⟨kx, rfl⟩ : ∃ k : Nat, xk = (k : Int) := ⟨xk.toNat, by omega⟩
  have z1 : decide ((kx : Int) < 0) = false := by simp
  by_cases a2 : kx < F.ln
  rotate_left
  · have HRES := Lib.hid (show res = (gs, L) by
      rw [HRES0.out]; unfold lookB
      rw [if_pos a1, Int.toNat_natCast, List.getElem?_eq_none (by omega)])
    have z2 : decide ((F.ln : Int) ≤ (kx : Int)) = true := by simp; omega
    have z2' : decide (F.ln ≤ kx) = true := by simp; omega
    go_enter Try.func22, Try.ntmps22
    go_upto_region 1 with fail
    rw [← HW_w1.out]
    have hU0 := bup hA0
    have HUP := Lib.hid (bup hA0)
    refine wp_region_up w1.heap.size (by kernel_rfl) (by kernel_rfl) ?_
    repeat (go_big_quiet_step (fail))
    refine wpQuiet_nil (up_all fun w2 hb2 => ?_)
    have hA0 := bgo hA0 hb2
    clear hb2 HUP hU0
    go_wp2_with fail
    go_ret
    rw [HRES.out]
    obtain rfl := HLEN.out
    exact ⟨A, c, rfl, (HI1.out.below hA0).more hA0.size, HM1.out.below hA0 (by omega), HBT.out.trans (But.of hA0)⟩
  have z2 : decide ((F.ln : Int) ≤ (kx : Int)) = false := by simp; omega
  have z2' : decide (F.ln ≤ kx) = false := by simp; omega
  obtain ⟨q, b, o, cs, hq, eA, hbb, hc, hcs, -⟩ := SlR.at_ (SlR.below HLS.out (HB1.out.mono HB.out) fun _ _ h => h) a2
  obtain ⟨l, su⟩ := q
  obtain rfl := hcs
  have y0 := up_fact (show w1.cell? ⟨b, o + kx * 4, none⟩ = some (.int .i64 l.ki) from hc 0 _ rfl)
  have HEA := Lib.hid eA
  have HQ := Lib.hid hq
  clear hc eA hq
  by_cases k5 : l.ki = 5
  · have r1 : (l.ki == 5) = true := by simp [k5]
    have HRES := Lib.hid (show res = bwdB P Ls ((kx : Int), xm) gs.length gs L by
      rw [HRES0.out]; unfold lookB
      rw [if_pos a1, Int.toNat_natCast, HQ.out]
      exact if_pos k5)
    have HBK := Lib.hid (fun W (hW : Below w1.heap.size w1 W) => show Calls Try.prog 30 #[.pointer (some ⟨bm, 0, none⟩), .agg #[.int .i64 (kx : Int), .int .i64 xm], .slice A n c] W (RetM W bm F res) from by
      rw [HRES.out]
      have hbt := HBT.out.trans (But.of (bm := bm) hW)
      have hbe : Below B w W := hbt.below HBM.out HB.out
      exact sback_any P Ls F B bm L ((kx : Int), xm) A n c gs W (HF.out.below hbe) (SlR.below HLS.out hbe fun _ _ h => h.below hbe) HGD.out ((HI1.out.below hW).more hW.size) (HM1.out.below hW (by omega)) (Nat.le_trans HB.out hbt.size) HBM.out hn hL ⟨kx, rfl, l, su, HQ.out, k5⟩)
    clear a1 k5
    go_enter Try.func22, Try.ntmps22
    go_upto_region 1 with fail
    rw [← HW_w1.out]
    have hU0 := bup hA0
    have HUP := Lib.hid (bup hA0)
    refine wp_region_up w1.heap.size (by kernel_rfl) (by kernel_rfl) ?_
    repeat (go_big_quiet_step (fail))
    refine wpQuiet_nil (up_all fun w2 hb2 => ?_)
    have hA0 := bgo hA0 hb2
    clear hb2 HUP hU0
    rw [HEA.out] at m3
    go_upto_region 3 with fail
    have hU0 := bup hA0
    have HUP := Lib.hid (bup hA0)
    refine wp_region_up w2.heap.size (by kernel_rfl) (by kernel_rfl) ?_
    repeat (go_big_quiet_step (fail))
    refine wpQuiet_nil (up_all fun w3 hb2 => ?_)
    have hA0 := bgo hA0 hb2
    clear hb2 HUP hU0
    go_wp2_with (go_at_call 30; refine (HBK.out _ hA0).mono ?_; rintro e w4 ⟨A4, c4, rfl, hi4, hm4, hb4⟩)
    go_ret
    exact ⟨A4, c4, rfl, hi4, hm4, (HBT.out.trans (But.of hA0)).trans hb4⟩
  have r1 : (l.ki == 5) = false := by simp [k5]
  have HRES := Lib.hid (show fwdB P Ls ((kx : Int), xm) 0 gs L = res by
    rw [HRES0.out]; unfold lookB
    rw [if_pos a1, Int.toNat_natCast, HQ.out]
    exact (if_neg k5).symm)
  clear a1 k5
  go_enter Try.func22, Try.ntmps22
  go_upto_region 1 with fail
  rw [← HW_w1.out]
  have hU0 := bup hA0
  have HUP := Lib.hid (bup hA0)
  refine wp_region_up w1.heap.size (by kernel_rfl) (by kernel_rfl) ?_
  repeat (go_big_quiet_step (fail))
  refine wpQuiet_nil (up_all fun w2 hb2 => ?_)
  have hA0 := bgo hA0 hb2
  clear hb2 HUP hU0
  rw [HEA.out] at m3
  go_upto_region 3 with fail
  have hU0 := bup hA0
  have HUP := Lib.hid (bup hA0)
  refine wp_region_up w2.heap.size (by kernel_rfl) (by kernel_rfl) ?_
  repeat (go_big_quiet_step (fail))
  refine wpQuiet_nil (up_all fun w3 hb2 => ?_)
  have hA0 := bgo hA0 hb2
  clear hb2 HUP hU0
  go_upto_region 6 with fail
  have HI2 := Lib.hid ((HI1.out.below hA0).more hA0.size)
  have HM2 := Lib.hid (HM1.out.below hA0 (by omega))
  have HBT2 := Lib.hid (show But bm w1 w3 from But.of hA0)
  go_loopw [2, 7] (fun v2 v7 wr => ∃ (i : Nat) (z : Int) (A : Option Addr) (n c : Nat) (gs : List Gl) (L : Nat), v2 = .slice A n c ∧ v7 = .int .i64 z ∧ z = (i : Int) ∧ fwdB P Ls ((kx : Int), xm) i gs L = res ∧ n ≤ 16384 ∧ L ≤ 65536 ∧ GlsR wr wr.heap.size A n c gs ∧ MBox wr bm F L ∧ But bm w1 wr) (fun v2 v7 wr => leftW bm wr * 32768 + (slN v2 - (intOf v7).toNat))
  case atStart => exact ⟨0, 0, A, n, c, gs, L, rfl, rfl, rfl, HRES.out, hn, hL, HI2.out, HM2.out, HBT2.out⟩
  case round =>
    clear hcap hlen hn hL HI HRES HLEN HRES0 hA0
    obtain ⟨i, z, A, n, c, gs, L, rfl, rfl, rfl, heq, hn, hL, hi, hm, hbr⟩ := hrel
    have HEQ := Lib.hid heq
    have HMR := Lib.hid hm
    have HIR := Lib.hid hi
    have hcap := hi.cap
    have hrl := hi.length
    by_cases hin : i < n
    rotate_left
    · have q1 : decide ((i : Int) < (n : Int)) = false := by simp; omega
      have q2 : decide (i < n) = false := by simp; omega
      have HEQ2 := Lib.hid (show res = (gs, L) by rw [← HEQ.out, fwdB_end (by omega)])
      clear heq hm hi hin
      go_wp2_with fail
      go_ret
      rw [HEQ2.out]
      obtain rfl := hrl
      exact ⟨A, c, rfl, HIR.out, HMR.out, HBT.out.trans hbr⟩
    · have q1 : decide ((i : Int) < (n : Int)) = true := by simp; omega
      have q2 : decide (i < n) = true := by simp; omega
      have z4 : decide ((i : Int) < 0) = false := by simp
      have z3 : decide ((n : Int) ≤ (i : Int)) = false := by simp; omega
      have z3' : decide (n ≤ i) = false := by simp; omega
      have sn : IntKind.i64.wrap ((i : Int) + 1) = (i : Int) + 1 := by rw [IntKind.wrap_i64]; omega
      obtain ⟨bg, og, g, rfl, hbg, hg, -, -, -, -, -, -, -, -, -, d9⟩ := hi.at_ (k := i) (by omega)
      have HG0 := Lib.hid hg
      have c9 := up_fact d9
      have e0 := up_fact (HX.out wr hbr).1
      have e1 := up_fact (HX.out wr hbr).2
      have hA := Below.refl wr.heap.size wr
      clear heq hm hi hg d9
      by_cases hh : (bits BinOp.and IntKind.i64 g.ma xm != 0) = true
      rotate_left
      · have hh : (bits BinOp.and IntKind.i64 g.ma xm != 0) = false := by simpa using hh
        have hb1 : hitB g xm = false := hh
        have HEQ2 := Lib.hid (show fwdB P Ls ((kx : Int), xm) (i + 1) gs L = res from (fwdB_miss (x := ((kx : Int), xm)) HG0.out hb1).symm.trans HEQ.out)
        clear hb1
        go_upto_region 7 with fail
        have hU0 := bup hA
        have HUP := Lib.hid (bup hA)
        refine wp_region_up wr.heap.size (by kernel_rfl) (by kernel_rfl) ?_
        repeat (go_big_quiet_step (fail))
        refine wpQuiet_nil (up_all fun w5 hb2 => ?_)
        have hA := bgo hA hb2
        clear hb2 HUP hU0
        go_wp2_with fail
        go_roundw
        case rel =>
          exact ⟨i + 1, (i : Int) + 1, _, n, c, gs, L, rfl, rfl, by omega, HEQ2.out, hn, hL, (HIR.out.below hA).more hA.size, HMR.out.below hA HMR.out.lt, hbr.trans (But.of hA)⟩
        case measure =>
          have e1 := HMR.out.left
          have e2 := (HMR.out.below hA HMR.out.lt).left
          simp only [slN, leftW, e1, e2, Option.getD_some, intOf, Int.toNat_natCast]
          omega
      · have HIT := Lib.hid (show hitB g xm = true from hh)
        obtain ⟨rc, hrc⟩ : ∃ z, z = onceB P Ls 9 L gs (kx : Int) (i : Int) := ⟨_, rfl⟩
        have HRC := Lib.hid hrc.symm
        have HCALL := Lib.hid (fun W (hW : Below wr.heap.size wr W) => show Calls Try.prog 31 #[.pointer (some ⟨bm, 0, none⟩), .int .i64 (kx : Int), .slice (some ⟨bg, og, none⟩) n c, .int .i64 (i : Int), .int .i64 0] W (RetCtx W bm F rc) from by
          rw [← HRC.out]
          have hbt := (HBT.out.trans hbr).trans (But.of (bm := bm) hW)
          have hbe : Below B w W := hbt.below HBM.out HB.out
          exact once_any P Ls F B bm 9 0 L _ n c gs (kx : Int) (i : Int) W rfl (HF.out.below hbe) (SlR.below HLS.out hbe fun _ _ h => h.below hbe) HGD.out ((HIR.out.below hW).more hW.size) (HMR.out.below hW HMR.out.lt) (Nat.le_trans HB.out hbt.size) HBM.out hn hL)
        have HSM := Lib.hid (fun r (h : rc.1 = some r) => show rc.2 < L ∧ 0 ≤ r.2 ∧ r.1.length ≤ 16384 from by
          rw [hrc] at h ⊢
          have h1 := onceB_some (P := P) (Ls := Ls) 9 L gs (kx : Int) (i : Int) r h
          exact ⟨h1.1, h1.2, (onceB_ok (P := P) (Ls := Ls) 9 L gs (kx : Int) (i : Int)).1 r h⟩)
        have HLE := Lib.hid (show rc.2 ≤ L by rw [hrc]; exact (onceB_ok (P := P) (Ls := Ls) 9 L gs (kx : Int) (i : Int)).2)
        clear hrc
        go_upto_region 7 with fail
        have hU0 := bup hA
        have HUP := Lib.hid (bup hA)
        refine wp_region_up wr.heap.size (by kernel_rfl) (by kernel_rfl) ?_
        repeat (go_big_quiet_step (fail))
        refine wpQuiet_nil (up_all fun w5 hb2 => ?_)
        have hA := bgo hA hb2
        clear hb2 HUP hU0
        rcases rc with ⟨_ | ⟨gs', y⟩, L'⟩
        · have hle : L' ≤ L := HLE.out
          go_wp2_with (go_at_call 31; refine (HCALL.out _ hA).mono ?_; rintro e w6 ⟨rfl, hm6, hb6⟩)
          go_roundw
          case rel =>
            have hbt := (hbr.trans (But.of (bm := bm) hA)).trans hb6
            exact ⟨i + 1, (i : Int) + 1, _, n, c, gs, L', rfl, rfl, by omega, (fwdB_none (x := ((kx : Int), xm)) HG0.out HIT.out HRC.out).symm.trans HEQ.out, hn, Nat.le_trans hle hL, ((HIR.out.below hA).but (HMR.out.below hA HMR.out.lt) hb6 hA.size).more (Nat.le_trans hA.size hb6.size), hm6, hbt⟩
          case measure =>
            have e1 := HMR.out.left
            have e2 := hm6.left
            simp only [slN, leftW, e1, e2, Option.getD_some, intOf, Int.toNat_natCast]
            omega
        · obtain ⟨h1, h2, h3⟩ := HSM.out _ rfl
          have h1 : L' < L := h1
          have h2 : 0 ≤ y := h2
          have h3 : gs'.length ≤ 16384 := h3
          go_wp2_with (go_at_call 31; refine (HCALL.out _ hA).mono ?_; rintro e w6 ⟨A6, c6, rfl, hi6, hm6, hb6⟩)
          go_roundw
          case rel =>
            have hbt := (hbr.trans (But.of (bm := bm) hA)).trans hb6
            exact ⟨y.toNat, y, A6, gs'.length, c6, gs', L', rfl, rfl, by omega, (fwdB_some (x := ((kx : Int), xm)) HG0.out HIT.out HRC.out).symm.trans HEQ.out, h3, Nat.le_trans (Nat.le_of_lt h1) hL, hi6, hm6, hbt⟩
          case measure =>
            have e1 := HMR.out.left
            have e2 := hm6.left
            simp only [slN, leftW, e1, e2, Option.getD_some, intOf, Int.toNat_natCast]
            omega

end Go.Proofs.Ytngdolmmaiogiaa

/- The walks of (*machine).all, All and Done. Condition: what they read reads as plain data. Printed by wip/tools. -/
namespace Go.Proofs.Ytngdolmmaiogiaa
open Go.RowKit

theorem SlR.but {α : Type} {w w' : World} {B sz bm : Nat} {R : α → List Value → Prop} {A : Option Addr} {n c : Nat} {ps : List α} (h : SlR w B sz R A n c ps) (hb : But bm w w') (ha : ∀ x, A = some x → x.block ≠ bm) (hB : B ≤ w.heap.size) : SlR w' B sz R A n c ps :=
  ⟨h.1, h.2.1, h.2.2.1, h.2.2.2.1, fun k p hk => by
    obtain ⟨b, o, cs, e, h1, h2, h3⟩ := h.2.2.2.2 k p hk
    have hne := ha _ e
    exact ⟨b, o, cs, e, h1, fun j v hj => (hb.cell (p := ⟨b, o + k * sz + j, none⟩) (by show b < w.heap.size; omega) hne).trans (h2 j v hj), h3⟩⟩
/-- What All leaves. -/
def RetAll (w : World) (gs : List Gl) (e : Ending) (w' : World) : Prop := ∃ A c, e = .returned (.slice A gs.length c) ∧ GlsR w' w'.heap.size A gs.length c gs ∧ Below w.heap.size w w'
set_option maxRecDepth 100000 in
set_option maxHeartbeats 4000000 in
theorem all_any (P : PFt) (Ls : List LkS) (F : Fnt) (B bm L : Nat) (xs : List (Int × Int)) (SA : Option Addr) (sn sc : Nat) (A : Option Addr) (n c : Nat) (gs : List Gl) (w : World) (hF : FtR w B F P) (hLs : SlR w B 4 (LkR2 w B) F.LA F.ln F.lc Ls) (hG : ∀ x ∈ Ls, LkGood x.1 x.2) (hS : SlR w w.heap.size 2 NestR SA sn sc xs) (hSb : ∀ x, SA = some x → x.block ≠ bm) (hI : GlsR w w.heap.size A n c gs) (hM : MBox w bm F L) (hB : B ≤ w.heap.size) (hBm : B ≤ bm) (hn : n ≤ 16384) (hL : L ≤ 65536) :
    Calls Try.prog 16 #[.pointer (some ⟨bm, 0, none⟩), .slice SA sn sc, .slice A n c] w (RetM w bm F (allB P Ls xs gs L)) := by
  have hcap := hI.cap
  have hlen := hI.length
  have hbw := hM.lt
  have hsl := SlR.length hS
  have hsc := SlR.cap hS
  have HCL := Lib.hid ((gclone_any w.heap.size A n c gs w hI (Nat.le_refl _) (by omega)).mono (R' := fun e w' => ∃ A c, e = .returned (.slice A n c) ∧ GlsR w' w'.heap.size A n c gs ∧ Below w.heap.size w w') (fun e w' h => by
    obtain ⟨A2, c2, e1, e2, e3⟩ := h
    rw [hlen] at e1 e2
    exact ⟨A2, c2, e1, e2.gls, e3⟩))
  have HF := Lib.hid hF
  have HLS := Lib.hid hLs
  have HGD := Lib.hid hG
  have HM := Lib.hid hM
  have HB := Lib.hid hB
  have HBM := Lib.hid hBm
  have HSS := Lib.hid hS
  have HSB := Lib.hid hSb
  obtain ⟨res, hres⟩ : ∃ z, z = allB P Ls xs gs L := ⟨_, rfl⟩
  rw [← hres]
  have HRES := Lib.hid hres.symm
  clear hI hF hLs hG hM hB hBm hS hSb hres
  go_enter Try.func16, Try.ntmps16
  go_upto_region 3 with (go_at_call 21; refine (HCL.out).mono ?_; rintro e w1 ⟨A1, c1, rfl, hi1, hb1⟩)
  have HI1 := Lib.hid hi1
  have HM1 := Lib.hid (HM.out.below hb1 hbw)
  have HBT := Lib.hid (show But bm w w1 from But.of hb1)
  clear hi1 hb1
  go_loopw [2, 13] (fun v2 v13 wr => ∃ (k : Nat) (A : Option Addr) (n c : Nat) (gs : List Gl) (L : Nat), v2 = .slice A n c ∧ v13 = .int .i64 (k : Int) ∧ k ≤ sn ∧ allB P Ls (xs.drop k) gs L = res ∧ n ≤ 16384 ∧ L ≤ 65536 ∧ GlsR wr wr.heap.size A n c gs ∧ MBox wr bm F L ∧ But bm w1 wr) (fun _ v13 _ => sn - (intOf v13).toNat)
  case atStart => exact ⟨0, A1, n, c1, gs, L, rfl, rfl, Nat.zero_le _, HRES.out, hn, hL, HI1.out, HM1.out, But.refl _ _⟩
  case round =>
    clear hcap hlen hn hL HRES HCL
    obtain ⟨k, A, n, c, gs, L, rfl, rfl, hks, heq, hn, hL, hi, hm, hbr⟩ := hrel
    have HEQ := Lib.hid heq
    have HMR := Lib.hid hm
    have HIR := Lib.hid hi
    have hcap := hi.cap
    have hrl := hi.length
    by_cases hin : k < sn
    rotate_left
    · have q1 : decide ((k : Int) < (sn : Int)) = false := by simp; omega
      have q2 : decide (k < sn) = false := by simp; omega
      have HEQ2 := Lib.hid (show res = (gs, L) by rw [← HEQ.out, List.drop_eq_nil_of_le (by omega)]; rfl)
      clear heq hm hi hin
      go_wp2_with fail
      go_ret
      rw [HEQ2.out]
      obtain rfl := hrl
      exact ⟨A, c, rfl, HIR.out, HMR.out, HBT.out.trans hbr⟩
    · have q1 : decide ((k : Int) < (sn : Int)) = true := by simp; omega
      have q2 : decide (k < sn) = true := by simp; omega
      have sk : IntKind.i64.wrap ((k : Int) + 1) = (k : Int) + 1 := by rw [IntKind.wrap_i64]; omega
      obtain ⟨⟨xk, xm⟩, b, o, cs, hx, eS, hbb, hc, hcs⟩ := SlR.at_ (SlR.but HSS.out (HBT.out.trans hbr) HSB.out (Nat.le_refl _)) hin
      obtain rfl := hcs
      have d0 : wr.cell? ⟨b, o + k * 2, none⟩ = some (.int .i64 xk) := hc 0 _ rfl
      have d1 : wr.cell? ⟨b, o + k * 2 + 1, none⟩ = some (.int .i64 xm) := hc 1 _ rfl
      have HES := Lib.hid eS
      have HEQ2 := Lib.hid (show allB P Ls (xs.drop (k + 1)) (lookB P Ls gs L (xk, xm)).1 (lookB P Ls gs L (xk, xm)).2 = res by
        have hkl : k < xs.length := by omega
        rw [← HEQ.out, List.drop_eq_getElem_cons hkl]
        rw [List.getElem?_eq_getElem hkl] at hx
        rw [Option.some.inj hx]
        rfl)
      have HOK := Lib.hid (lookB_ok (P := P) (Ls := Ls) (x := (xk, xm)) gs L (by omega))
      obtain ⟨r, hr⟩ : ∃ z, z = lookB P Ls gs L (xk, xm) := ⟨_, rfl⟩
      rw [← hr] at HEQ2 HOK
      have HCALL := Lib.hid (fun W (hW : Below wr.heap.size wr W) => show Calls Try.prog 22 #[.pointer (some ⟨bm, 0, none⟩), .agg #[.int .i64 xk, .int .i64 xm], .slice A n c] W (RetM W bm F r) from by
        rw [hr]
        have hbt := (HBT.out.trans hbr).trans (But.of (bm := bm) hW)
        have hbe : Below B w W := hbt.below HBM.out HB.out
        exact look_any P Ls F B bm L xk xm A n c gs W (HF.out.below hbe) (SlR.below HLS.out hbe fun _ _ h => h.below hbe) HGD.out ((HIR.out.below hW).more hW.size) (HMR.out.below hW HMR.out.lt) (Nat.le_trans HB.out hbt.size) HBM.out hn hL)
      clear heq hm hi hr hc hx eS
      go_upto_region 4 with fail
      rw [HES.out]
      go_upto_region 5 with fail
      obtain ⟨w2, hw2⟩ : ∃ z, z = wr.alloc (.cells #[.int .i64 xk, .int .i64 xm] 45) := ⟨_, rfl⟩
      rw [← hw2]
      have hA2 : Below wr.heap.size wr w2 := by rw [hw2]; exact (Below.refl _ _).alloc (Nat.le_refl _) _
      have hX : w2.heap[wr.heap.size]? = some (.cells #[.int .i64 xk, .int .i64 xm] 45 (0, 0)) := by rw [hw2]; exact heap_alloc_new _ _
      have x0 : w2.cell? ⟨wr.heap.size, 0, none⟩ = some (.int .i64 xk) := by rw [cell_of_row _ _ 0 _ _ _ hX]; rfl
      have x1 : w2.cell? ⟨wr.heap.size, 1, none⟩ = some (.int .i64 xm) := by rw [cell_of_row _ _ 1 _ _ _ hX]; rfl
      clear hX hw2
      have hL2 : r.2 ≤ 65536 := Nat.le_trans HOK.out.2 hL
      go_wp2_with (go_at_call 22; refine (HCALL.out _ hA2).mono ?_; rintro e w6 ⟨A6, c6, rfl, hi6, hm6, hb6⟩)
      rw [← HES.out]
      go_roundw
      case rel => exact ⟨k + 1, A6, r.1.length, c6, r.1, r.2, rfl, by go_num, by omega, HEQ2.out, HOK.out.1, hL2, hi6, hm6, (hbr.trans (But.of hA2)).trans hb6⟩
      case measure => simp [intOf] <;> omega

set_option maxRecDepth 100000 in
set_option maxHeartbeats 4000000 in
theorem allt_any (P : PFt) (Ls : List LkS) (F : Fnt) (B : Nat) (xs : List (Int × Int)) (SA : Option Addr) (sn sc : Nat) (A : Option Addr) (n c : Nat) (gs : List Gl) (w : World) (hF : FtR w B F P) (hLs : SlR w B 4 (LkR2 w B) F.LA F.ln F.lc Ls) (hG : ∀ x ∈ Ls, LkGood x.1 x.2) (hS : SlR w w.heap.size 2 NestR SA sn sc xs) (hI : GlsR w w.heap.size A n c gs) (hB : B ≤ w.heap.size) (hn : n ≤ 16384) (hSA : ∀ x, SA = some x → sn = 0 → x.block < w.heap.size) :
    Calls Try.prog 8 #[.agg #[.int .i64 F.em, .slice F.GA F.gn F.gc, .slice F.MA F.mn F.mc, .slice F.LA F.ln F.lc, .slice F.FA F.fn F.fc, .slice F.SA F.sn F.sc], .slice SA sn sc, .slice A n c] w (RetAll w (allB P Ls xs gs 65536).1) := by
  have HBG := Lib.hid (fun W => begin_any F W)
  obtain ⟨res, hres⟩ : ∃ z, z = allB P Ls xs gs 65536 := ⟨_, rfl⟩
  rw [← hres]
  have HALL := Lib.hid (fun W bm (hW : Below w.heap.size w W) (hbm : w.heap.size ≤ bm) (hm : MBox W bm F 65536) => show Calls Try.prog 16 #[.pointer (some ⟨bm, 0, none⟩), .slice SA sn sc, .slice A n c] W (RetM W bm F res) from by
    rw [hres]
    exact all_any P Ls F B bm 65536 xs SA sn sc A n c gs W (hF.below (hW.mono hB)) (SlR.below hLs (hW.mono hB) fun _ _ h => h.below (hW.mono hB)) hG ((SlR.below hS hW fun _ _ h => h).more hW.size fun _ _ h => h) (fun x hx => by
      intro he
      rcases Nat.eq_zero_or_pos sn with h0 | h0
      · exact absurd he (Nat.ne_of_lt (by have := hSA x hx h0; omega))
      · obtain ⟨_, b, o, cs, _, h1, h2, _, _⟩ := SlR.at_ hS h0
        rw [h1] at hx
        cases hx
        have he : b = bm := he
        omega) ((hI.below hW).more hW.size) hm (Nat.le_trans hB hW.size) (Nat.le_trans hB hbm) hn (Nat.le_refl _))
  clear hF hLs hG hS hSA hI hB hres
  obtain ⟨w1, hw_w1⟩ : ∃ z, z = w.alloc (.cells #[.int .i64 F.em, .slice F.GA F.gn F.gc, .slice F.MA F.mn F.mc, .slice F.LA F.ln F.lc, .slice F.FA F.fn F.fc, .slice F.SA F.sn F.sc] 28) := ⟨_, rfl⟩
  have hs_w1 : w1.heap.size = w.heap.size + 1 := by rw [hw_w1]; simp
  have hb_w1 : Below w.heap.size w w1 := by rw [hw_w1]; exact (Below.refl _ _).alloc (Nat.le_refl _) _
  have hx_0 : w1.heap[w.heap.size]? = some (.cells #[.int .i64 F.em, .slice F.GA F.gn F.gc, .slice F.MA F.mn F.mc, .slice F.LA F.ln F.lc, .slice F.FA F.fn F.fc, .slice F.SA F.sn F.sc] 28 (0, 0)) := by rw [hw_w1]; exact heap_alloc_new _ _
  have g0 := up_fact (show w1.cell? ⟨w.heap.size, 0, none⟩ = some (.int .i64 F.em) by rw [cell_of_row _ _ 0 _ _ _ hx_0]; rfl)
  have g1 := up_fact (show w1.cell? ⟨w.heap.size, 1, none⟩ = some (.slice F.GA F.gn F.gc) by rw [cell_of_row _ _ 1 _ _ _ hx_0]; rfl)
  have g2 := up_fact (show w1.cell? ⟨w.heap.size, 2, none⟩ = some (.slice F.MA F.mn F.mc) by rw [cell_of_row _ _ 2 _ _ _ hx_0]; rfl)
  have g3 := up_fact (show w1.cell? ⟨w.heap.size, 3, none⟩ = some (.slice F.LA F.ln F.lc) by rw [cell_of_row _ _ 3 _ _ _ hx_0]; rfl)
  have g4 := up_fact (show w1.cell? ⟨w.heap.size, 4, none⟩ = some (.slice F.FA F.fn F.fc) by rw [cell_of_row _ _ 4 _ _ _ hx_0]; rfl)
  have g5 := up_fact (show w1.cell? ⟨w.heap.size, 5, none⟩ = some (.slice F.SA F.sn F.sc) by rw [cell_of_row _ _ 5 _ _ _ hx_0]; rfl)
  have hA0 := Below.refl w1.heap.size w1
  have HS1 := Lib.hid hs_w1
  have hs1 : w.heap.size + 0 < w1.heap.size := by omega
  have HB1 := Lib.hid hb_w1
  have HW_w1 := Lib.hid hw_w1
  clear hw_w1 hs_w1 hb_w1
  clear hx_0
  go_enter Try.func8, Try.ntmps8
  go_upto_region 1 with fail
  rw [← HW_w1.out]
  go_wp2_with (first | (go_at_call 15; refine (HBG.out _).mono ?_; rintro e w2 ⟨bm, rfl, hbm, hm2, hb2⟩; have hB2 := HB1.out.trans (hb2.mono (by omega))) | (go_at_call 16; refine (HALL.out _ _ hB2 (by omega) hm2).mono ?_; rintro e w3 ⟨A3, c3, rfl, hi3, hm3, hb3⟩))
  go_ret
  exact ⟨A3, c3, rfl, hi3, hB2.trans (hb3.below (by omega) (by have := hB2.size; omega))⟩

set_option maxRecDepth 100000 in
set_option maxHeartbeats 4000000 in
theorem donet_any (P : PFt) (Ls : List LkS) (F : Fnt) (B : Nat) (xs : List (Int × Int)) (SA : Option Addr) (sn sc : Nat) (A : Option Addr) (n c : Nat) (gs : List Gl) (w : World) (hF : FtR w B F P) (hLs : SlR w B 4 (LkR2 w B) F.LA F.ln F.lc Ls) (hG : ∀ x ∈ Ls, LkGood x.1 x.2) (hS : SlR w w.heap.size 2 NestR SA sn sc xs) (hI : GlsR w w.heap.size A n c gs) (hB : B ≤ w.heap.size) (hn : n ≤ 16384) (hSA : ∀ x, SA = some x → sn = 0 → x.block < w.heap.size) :
    Calls Try.prog 11 #[.agg #[.int .i64 F.em, .slice F.GA F.gn F.gc, .slice F.MA F.mn F.mc, .slice F.LA F.ln F.lc, .slice F.FA F.fn F.fc, .slice F.SA F.sn F.sc], .slice SA sn sc, .slice A n c] w (fun e w' => e = .returned (.int .i64 (65536 - ((allB P Ls xs gs 65536).2 : Int))) ∧ Below w.heap.size w w') := by
  have HBG := Lib.hid (fun W => begin_any F W)
  obtain ⟨res, hres⟩ : ∃ z, z = allB P Ls xs gs 65536 := ⟨_, rfl⟩
  rw [← hres]
  have HRL := Lib.hid (show res.2 ≤ 65536 by rw [hres]; exact (allB_ok (P := P) (Ls := Ls) xs gs 65536 (by have := hI.length; omega)).2)
  have HALL := Lib.hid (fun W bm (hW : Below w.heap.size w W) (hbm : w.heap.size ≤ bm) (hm : MBox W bm F 65536) => show Calls Try.prog 16 #[.pointer (some ⟨bm, 0, none⟩), .slice SA sn sc, .slice A n c] W (RetM W bm F res) from by
    rw [hres]
    exact all_any P Ls F B bm 65536 xs SA sn sc A n c gs W (hF.below (hW.mono hB)) (SlR.below hLs (hW.mono hB) fun _ _ h => h.below (hW.mono hB)) hG ((SlR.below hS hW fun _ _ h => h).more hW.size fun _ _ h => h) (fun x hx => by
      intro he
      rcases Nat.eq_zero_or_pos sn with h0 | h0
      · exact absurd he (Nat.ne_of_lt (by have := hSA x hx h0; omega))
      · obtain ⟨_, b, o, cs, _, h1, h2, _, _⟩ := SlR.at_ hS h0
        rw [h1] at hx
        cases hx
        have he : b = bm := he
        omega) ((hI.below hW).more hW.size) hm (Nat.le_trans hB hW.size) (Nat.le_trans hB hbm) hn (Nat.le_refl _))
  clear hF hLs hG hS hSA hI hB hres
  obtain ⟨w1, hw_w1⟩ : ∃ z, z = w.alloc (.cells #[.int .i64 F.em, .slice F.GA F.gn F.gc, .slice F.MA F.mn F.mc, .slice F.LA F.ln F.lc, .slice F.FA F.fn F.fc, .slice F.SA F.sn F.sc] 28) := ⟨_, rfl⟩
  have hs_w1 : w1.heap.size = w.heap.size + 1 := by rw [hw_w1]; simp
  have hb_w1 : Below w.heap.size w w1 := by rw [hw_w1]; exact (Below.refl _ _).alloc (Nat.le_refl _) _
  have hx_0 : w1.heap[w.heap.size]? = some (.cells #[.int .i64 F.em, .slice F.GA F.gn F.gc, .slice F.MA F.mn F.mc, .slice F.LA F.ln F.lc, .slice F.FA F.fn F.fc, .slice F.SA F.sn F.sc] 28 (0, 0)) := by rw [hw_w1]; exact heap_alloc_new _ _
  have g0 := up_fact (show w1.cell? ⟨w.heap.size, 0, none⟩ = some (.int .i64 F.em) by rw [cell_of_row _ _ 0 _ _ _ hx_0]; rfl)
  have g1 := up_fact (show w1.cell? ⟨w.heap.size, 1, none⟩ = some (.slice F.GA F.gn F.gc) by rw [cell_of_row _ _ 1 _ _ _ hx_0]; rfl)
  have g2 := up_fact (show w1.cell? ⟨w.heap.size, 2, none⟩ = some (.slice F.MA F.mn F.mc) by rw [cell_of_row _ _ 2 _ _ _ hx_0]; rfl)
  have g3 := up_fact (show w1.cell? ⟨w.heap.size, 3, none⟩ = some (.slice F.LA F.ln F.lc) by rw [cell_of_row _ _ 3 _ _ _ hx_0]; rfl)
  have g4 := up_fact (show w1.cell? ⟨w.heap.size, 4, none⟩ = some (.slice F.FA F.fn F.fc) by rw [cell_of_row _ _ 4 _ _ _ hx_0]; rfl)
  have g5 := up_fact (show w1.cell? ⟨w.heap.size, 5, none⟩ = some (.slice F.SA F.sn F.sc) by rw [cell_of_row _ _ 5 _ _ _ hx_0]; rfl)
  have hA0 := Below.refl w1.heap.size w1
  have HS1 := Lib.hid hs_w1
  have hs1 : w.heap.size + 0 < w1.heap.size := by omega
  have HB1 := Lib.hid hb_w1
  have HW_w1 := Lib.hid hw_w1
  clear hw_w1 hs_w1 hb_w1
  clear hx_0
  go_enter Try.func11, Try.ntmps11
  go_upto_region 1 with fail
  rw [← HW_w1.out]
  have hL2 := HRL.out
  go_wp2_with (first | (go_at_call 15; refine (HBG.out _).mono ?_; rintro e w2 ⟨bm, rfl, hbm, hm2, hb2⟩; have hB2 := HB1.out.trans (hb2.mono (by omega))) | ((go_at_call 16; refine (HALL.out _ _ hB2 (by omega) hm2).mono ?_; rintro e w3 ⟨A3, c3, rfl, hi3, hm3, hb3⟩); have hml := hm3.left; have sml : IntKind.i64.wrap (65536 - (res.2 : Int)) = 65536 - (res.2 : Int) := by rw [IntKind.wrap_i64]; omega))
  go_ret
  exact ⟨rfl, hB2.trans (hb3.below (by omega) (by have := hB2.size; omega))⟩

end Go.Proofs.Ytngdolmmaiogiaa
