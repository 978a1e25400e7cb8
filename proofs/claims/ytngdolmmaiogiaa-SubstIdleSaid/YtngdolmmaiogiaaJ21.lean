/- Joined: OnceB. -/
import Derived.Test.YtngdolmmaiogiaaJ18
import Derived.Test.YtngdolmmaiogiaaJ20

/- The walk of (*machine).once. Condition: what it reads reads as plain data; a contract of itself one deeper. Printed by wip/tools. -/
namespace Go.Proofs.Ytngdolmmaiogiaa
open Go.RowKit

set_option maxRecDepth 100000 in
set_option maxHeartbeats 4000000 in
theorem once_step (P : PFt) (Ls : List LkS) (F : Fnt) (B bm d k L : Nat) (A : Option Addr) (n c : Nat) (gs : List Gl) (nn at_ : Int) (w : World) (hdk : d + k = 9) (IH : ∀ k', k = k' + 1 → ∀ W A n c gs lk (p : Nat) L, But bm w W → MBox W bm F L → GlsR W W.heap.size A n c gs → n ≤ 16384 → p < n → L ≤ 65536 → Calls Try.prog 31 #[.pointer (some ⟨bm, 0, none⟩), .int .i64 lk, .slice A n c, .int .i64 (p : Int), .int .i64 ((d : Int) + 1)] W (RetCtx W bm F (onceB P Ls k' L gs lk (p : Int)))) (hF : FtR w B F P) (hLs : SlR w B 4 (LkR2 w B) F.LA F.ln F.lc Ls) (hG : ∀ x ∈ Ls, LkGood x.1 x.2) (hI : GlsR w w.heap.size A n c gs) (hM : MBox w bm F L) (hB : B ≤ w.heap.size) (hBm : B ≤ bm) (hn : n ≤ 16384) (hL : L ≤ 65536) :
    Calls Try.prog 31 #[.pointer (some ⟨bm, 0, none⟩), .int .i64 nn, .slice A n c, .int .i64 at_, .int .i64 (d : Int)] w (RetCtx w bm F (onceB P Ls k L gs nn at_)) := by
  have hcap := hI.cap
  have hlen := hI.length
  have HI := Lib.hid hI
  have HF := Lib.hid hF
  have HLS := Lib.hid hLs
  have HGD := Lib.hid hG
  have HM := Lib.hid hM
  have hbw := hM.lt
  have hll := SlR.length hLs
  have hcl := SlR.cap hLs
  clear hI hF hLs hG hM
  obtain ⟨wb1, hw_wb1⟩ : ∃ z, z = w.alloc (.cells #[.pointer (some ⟨bm, 0, none⟩)] 65) := ⟨_, rfl⟩
  have hs_wb1 : wb1.heap.size = w.heap.size + 1 := by rw [hw_wb1]; simp
  have hb_wb1 : Below w.heap.size w wb1 := by rw [hw_wb1]; exact (Below.refl _ _).alloc (Nat.le_refl _) _
  have hx_0 : wb1.heap[w.heap.size]? = some (.cells #[.pointer (some ⟨bm, 0, none⟩)] 65 (0, 0)) := by rw [hw_wb1]; exact heap_alloc_new _ _
  obtain ⟨w1, hw_w1⟩ : ∃ z, z = wb1.alloc (.cells #[.int .i64 (d : Int)] 3) := ⟨_, rfl⟩
  have hs_w1 : w1.heap.size = w.heap.size + 2 := by rw [hw_w1]; simp <;> omega
  have hb_w1 : Below w.heap.size w w1 := by rw [hw_w1]; exact hb_wb1.alloc (by omega) _
  have hx_1 : w1.heap[w.heap.size + 1]? = some (.cells #[.int .i64 (d : Int)] 3 (0, 0)) := by rw [hw_w1]; exact (hs_wb1 ▸ heap_alloc_new wb1 _)
  have hx_0 : w1.heap[w.heap.size]? = some (.cells #[.pointer (some ⟨bm, 0, none⟩)] 65 (0, 0)) := by rw [hw_w1]; exact (heap_alloc_old _ _ (by omega)).trans hx_0
  have u0 := up_fact (show w1.cell? ⟨w.heap.size, 0, none⟩ = some (.pointer (some ⟨bm, 0, none⟩)) by rw [cell_of_row _ _ 0 _ _ _ hx_0]; rfl)
  have v0 := up_fact (show w1.cell? ⟨w.heap.size + 1, 0, none⟩ = some (.int .i64 (d : Int)) by rw [cell_of_row _ _ 0 _ _ _ hx_1]; rfl)
  have hA0 := Below.refl w1.heap.size w1
  have HS1 := Lib.hid hs_w1
  have hs1 : w.heap.size + 1 < w1.heap.size := by omega
  have HB1 := Lib.hid hb_w1
  have HW_wb1 := Lib.hid hw_wb1
  have HW_w1 := Lib.hid hw_w1
  clear hw_wb1 hs_wb1 hb_wb1 hw_w1 hs_w1 hb_w1
  clear hx_0 hx_1
  have HM1 := Lib.hid (HM.out.below HB1.out hbw)
  have m0 := up_fact (show w1.cell? ⟨bm, 0, none⟩ = some (.int .i64 F.em) by rw [cell_of_row _ _ 0 _ _ _ HM1.out]; rfl)
  have m1 := up_fact (show w1.cell? ⟨bm, 1, none⟩ = some (.slice F.GA F.gn F.gc) by rw [cell_of_row _ _ 1 _ _ _ HM1.out]; rfl)
  have m2 := up_fact (show w1.cell? ⟨bm, 2, none⟩ = some (.slice F.MA F.mn F.mc) by rw [cell_of_row _ _ 2 _ _ _ HM1.out]; rfl)
  have m3 := up_fact (show w1.cell? ⟨bm, 3, none⟩ = some (.slice F.LA F.ln F.lc) by rw [cell_of_row _ _ 3 _ _ _ HM1.out]; rfl)
  have m4 := up_fact (show w1.cell? ⟨bm, 4, none⟩ = some (.slice F.FA F.fn F.fc) by rw [cell_of_row _ _ 4 _ _ _ HM1.out]; rfl)
  have m5 := up_fact (show w1.cell? ⟨bm, 5, none⟩ = some (.slice F.SA F.sn F.sc) by rw [cell_of_row _ _ 5 _ _ _ HM1.out]; rfl)
  have ml := up_fact HM1.out.left
  obtain ⟨res, hres⟩ : ∃ z, z = onceB P Ls k L gs nn at_ := ⟨_, rfl⟩
  rw [← hres]
  have HRES0 := Lib.hid hres
  clear hres
  by_cases hin : (0 ≤ nn ∧ nn < (Ls.length : Int) ∧ 0 ≤ at_ ∧ at_ < (gs.length : Int) ∧ d ≤ 8 ∧ L ≠ 0)
  rotate_left
  · have HOUT := Lib.hid (show res = (none, L) by
      rw [HRES0.out]
      rcases k with _ | k
      · rfl
      · exact onceB_out (fun h => hin ⟨h.1, h.2.1, h.2.2.1, h.2.2.2.1, by omega, h.2.2.2.2.1⟩))
    by_cases a1 : 0 ≤ nn
    rotate_left
    · have z1 : decide (nn < 0) = true := by simp; omega
      clear hin
      go_enter Try.func31, Try.ntmps31
      go_upto_region 1 with fail
      rw [← HW_wb1.out]
      rw [← HW_w1.out]
      go_wp2_with fail
      go_ret3
      rw [HOUT.out]
      exact ⟨rfl, HM1.out, But.of HB1.out⟩
    have z1 : decide (nn < 0) = false := by simp; omega
    by_cases a2 : nn < (F.ln : Int)
    rotate_left
    · have z2 : decide ((F.ln : Int) ≤ nn) = true := by simp; omega
      clear hin
      go_enter Try.func31, Try.ntmps31
      go_upto_region 1 with fail
      rw [← HW_wb1.out]
      rw [← HW_w1.out]
      go_wp2_with fail
      go_ret3
      rw [HOUT.out]
      exact ⟨rfl, HM1.out, But.of HB1.out⟩
    have z2 : decide ((F.ln : Int) ≤ nn) = false := by simp; omega
    by_cases a3 : 0 ≤ at_
    rotate_left
    · have z3 : decide (at_ < 0) = true := by simp; omega
      clear hin
      go_enter Try.func31, Try.ntmps31
      go_upto_region 1 with fail
      rw [← HW_wb1.out]
      rw [← HW_w1.out]
      go_wp2_with fail
      go_ret3
      rw [HOUT.out]
      exact ⟨rfl, HM1.out, But.of HB1.out⟩
    have z3 : decide (at_ < 0) = false := by simp; omega
    by_cases a4 : at_ < (n : Int)
    rotate_left
    · have z4 : decide ((n : Int) ≤ at_) = true := by simp; omega
      clear hin
      go_enter Try.func31, Try.ntmps31
      go_upto_region 1 with fail
      rw [← HW_wb1.out]
      rw [← HW_w1.out]
      go_wp2_with fail
      go_ret3
      rw [HOUT.out]
      exact ⟨rfl, HM1.out, But.of HB1.out⟩
    have z4 : decide ((n : Int) ≤ at_) = false := by simp; omega
    by_cases a5 : d ≤ 8
    rotate_left
    · have z5 : decide ((8 : Int) < (d : Int)) = true := by simp; omega
      have z6 : decide (8 < d) = true := by simp; omega
      clear hin
      go_enter Try.func31, Try.ntmps31
      go_upto_region 1 with fail
      rw [← HW_wb1.out]
      rw [← HW_w1.out]
      go_wp2_with fail
      go_ret3
      rw [HOUT.out]
      exact ⟨rfl, HM1.out, But.of HB1.out⟩
    have z5 : decide ((8 : Int) < (d : Int)) = false := by simp; omega
    have z6 : decide (8 < d) = false := by simp; omega
    by_cases a6 : L = 0
    rotate_left
    · exact absurd ⟨a1, by omega, a3, by omega, a5, a6⟩ hin
    · have z7 : ((L : Int) == 0) = true := by simp [a6]
      have z8 : (L == 0) = true := by simp [a6]
      clear hin a6
      go_enter Try.func31, Try.ntmps31
      go_upto_region 1 with fail
      rw [← HW_wb1.out]
      rw [← HW_w1.out]
      go_wp2_with fail
      go_ret3
      rw [HOUT.out]
      exact ⟨rfl, HM1.out, But.of HB1.out⟩
  obtain ⟨i, rfl⟩ : ∃ i : Nat, nn = (i : Int) := ⟨nn.toNat, by omega⟩
  obtain ⟨p, rfl⟩ : ∃ p : Nat, at_ = (p : Int) := ⟨at_.toNat, by omega⟩
  obtain ⟨k, rfl⟩ : ∃ k', k = k' + 1 := ⟨k - 1, by omega⟩
  have hil : i < F.ln := by omega
  have hpn : p < n := by omega
  have hL0 : L ≠ 0 := hin.2.2.2.2.2
  have hd8 : d ≤ 8 := hin.2.2.2.2.1
  clear hin
  have z1 : decide ((i : Int) < 0) = false := by simp
  have z2 : decide ((F.ln : Int) ≤ (i : Int)) = false := by simp; omega
  have z2' : decide (F.ln ≤ i) = false := by simp; omega
  have z3 : decide ((p : Int) < 0) = false := by simp
  have z4 : decide ((n : Int) ≤ (p : Int)) = false := by simp; omega
  have z4' : decide (n ≤ p) = false := by simp; omega
  have z5 : decide ((8 : Int) < (d : Int)) = false := by simp; omega
  have z6 : decide (8 < d) = false := by simp; omega
  have z7 : ((L : Int) == 0) = false := by simp; omega
  have z8 : (L == 0) = false := by simp; omega
  obtain ⟨x, b, o, cs, hx, eA, hbb, hc, hcs, hks⟩ := SlR.at_ (SlR.below HLS.out (HB1.out.mono hB) fun _ _ h => h) hil
  obtain ⟨l, su⟩ := x
  obtain rfl := hcs
  obtain ⟨b2, o2, g, rfl, hbb2, hg, d0, -⟩ := (HI.out.below HB1.out).at_ hpn
  have HG := Lib.hid hg
  have HX := Lib.hid hx
  have HKS0 := Lib.hid (show KsR w B l.su.A l.su.n l.su.c su from hks)
  have HGOOD := Lib.hid (HGD.out _ (List.mem_of_getElem? hx))
  have y0 := up_fact (show w1.cell? ⟨b, o + i * 4, none⟩ = some (.int .i64 l.ki) from hc 0 _ rfl)
  have y1 := up_fact (show w1.cell? ⟨b, o + i * 4 + 1, none⟩ = some (.int .i64 l.fl) from hc 1 _ rfl)
  have y2 := up_fact (show w1.cell? ⟨b, o + i * 4 + 2, none⟩ = some (.int .i64 l.se) from hc 2 _ rfl)
  have y3 := up_fact (show w1.cell? ⟨b, o + i * 4 + 3, none⟩ = some (.slice l.su.A l.su.n l.su.c) from hc 3 _ rfl)
  have d1 := up_fact d0
  have HEA := Lib.hid eA
  have HIN := Lib.hid (onceB_in (P := P) (k := k) hx hg hL0 (by omega))
  have HRES := Lib.hid (HRES0.out.trans HIN.out)
  have HIH := Lib.hid (IH k rfl)
  have HB := Lib.hid hB
  have HBM := Lib.hid hBm
  have HHN := Lib.hid hn
  have HL := Lib.hid hL
  obtain ⟨t, ht⟩ : ∃ z, z = skF P l g := ⟨_, rfl⟩
  rw [← ht] at HRES
  have HSK := Lib.hid (fun W (hW : Below w1.heap.size w1 W) => show Calls Try.prog 41 #[.agg #[.int .i64 F.em, .slice F.GA F.gn F.gc, .slice F.MA F.mn F.mc, .slice F.LA F.ln F.lc, .slice F.FA F.fn F.fc, .slice F.SA F.sn F.sc], .agg #[.int .i64 l.ki, .int .i64 l.fl, .int .i64 l.se, .slice l.su.A l.su.n l.su.c], .int .i64 g.id] W (fun e w' => e = .returned (.bool t) ∧ Below W.heap.size W w') from by rw [ht]; exact skips_any F B P l g.id W (HF.out.below ((HB1.out.trans (hW.mono (by omega))).mono HB.out)) (by have := hW.size; have := HB.out; omega))
  clear hx hg hc hks d0 eA ht IH HRES0 HIN hB hBm hn hL
  go_enter Try.func31, Try.ntmps31
  go_upto_region 1 with fail
  rw [← HW_wb1.out]
  rw [← HW_w1.out]
  rw [HEA.out] at m3 HSK
  go_upto_region 4 with fail
  obtain ⟨w2, hw2⟩ : ∃ z, z = w1.alloc (.cells #[.int .i64 l.ki, .int .i64 l.fl, .int .i64 l.se, .slice l.su.A l.su.n l.su.c] 36) := ⟨_, rfl⟩
  rw [← hw2]
  have hA2 : Below w1.heap.size w1 w2 := by rw [hw2]; exact (Below.refl _ _).alloc (Nat.le_refl _) _
  have hX : w2.heap[w1.heap.size]? = some (.cells #[.int .i64 l.ki, .int .i64 l.fl, .int .i64 l.se, .slice l.su.A l.su.n l.su.c] 36 (0, 0)) := by rw [hw2]; exact heap_alloc_new _ _
  have h0 := up_fact (show w2.cell? ⟨w1.heap.size, 0, none⟩ = some (.int .i64 l.ki) by rw [cell_of_row _ _ 0 _ _ _ hX]; rfl)
  have h1 := up_fact (show w2.cell? ⟨w1.heap.size, 1, none⟩ = some (.int .i64 l.fl) by rw [cell_of_row _ _ 1 _ _ _ hX]; rfl)
  have h2 := up_fact (show w2.cell? ⟨w1.heap.size, 2, none⟩ = some (.int .i64 l.se) by rw [cell_of_row _ _ 2 _ _ _ hX]; rfl)
  have h3 := up_fact (show w2.cell? ⟨w1.heap.size, 3, none⟩ = some (.slice l.su.A l.su.n l.su.c) by rw [cell_of_row _ _ 3 _ _ _ hX]; rfl)
  have hC := Below.refl w2.heap.size w2
  have hs2 : w1.heap.size < w2.heap.size := by rw [hw2]; simp
  clear hX hw2
  have hU0 := bup hA2
  have hU1 := bup hC
  have HUP := Lib.hid (bup hA2)
  refine wp_region_up w2.heap.size (by kernel_rfl) (by kernel_rfl) ?_
  repeat (go_big_quiet_step ((first | (go_at_call 41; exact Calls.up_of (Nat.le_refl _) (HSK.out _ (HUP.out _))))))
  refine wpQuiet_nil (up_all fun w3 hb2 => ?_)
  have hA2 := bgo hA2 hb2
  have hC := bgo hC hb2
  clear hb2 HUP hU0 hU1
  clear HSK
  rcases t with _ | _
  rotate_left
  · have HOUT := Lib.hid (show res = (none, L) by rw [HRES.out]; rfl)
    go_wp2_with fail
    go_ret3
    rw [HOUT.out]
    have hbb := HB1.out.trans (hA2.mono (by omega))
    exact ⟨rfl, HM1.out.below hA2 (by omega), But.of hbb⟩
  have HL0 := Lib.hid (show 0 < L by omega)
  by_cases k4 : l.ki = 4
  rotate_left
  · have r1 : (l.ki == 4) = false := by simp [k4]
    obtain ⟨r, hr⟩ : ∃ z, z = sngB P l su gs p := ⟨_, rfl⟩
    have HSN := Lib.hid (fun W (hW : Below w1.heap.size w1 W) => show Calls Try.prog 42 #[.pointer (some ⟨bm, 0, none⟩), .agg #[.int .i64 l.ki, .int .i64 l.fl, .int .i64 l.se, .slice l.su.A l.su.n l.su.c], .slice (some ⟨b2, o2, none⟩) n c, .int .i64 (p : Int)] W (RetSng W bm F L r) from by
      rw [hr]
      exact single_any F w.heap.size P l _ n c gs su p bm L W ((HF.out.more HB.out).below (HB1.out.trans (hW.mono (by omega)))) (KsR.below (KsR.more (HKS0.out) HB.out) (HB1.out.trans (hW.mono (by omega)))) HGOOD.out (HI.out.below (HB1.out.trans (hW.mono (by omega)))) (HM1.out.below hW (by omega)) (by have := hW.size; omega) hpn HHN.out HL0.out HL.out)
    have HR := Lib.hid hr.symm
    clear hr
    rcases r with _ | ⟨out, nx⟩
    · have HOUT := Lib.hid (show res = (none, L) by rw [HRES.out]; show (if l.ki = 4 then _ else _) = _; rw [if_neg k4, HR.out])
      clear k4
      go_wp2_with (go_at_call 42; refine (HSN.out _ hA2).mono ?_; rintro e w4 ⟨rfl, hb4⟩; have hA4 := bgo hA2 hb4)
      go_ret3
      rw [HOUT.out]
      have hbb := HB1.out.trans (hA4.mono (by omega))
      exact ⟨rfl, HM1.out.below hA4 (by omega), But.of hbb⟩
    · have HOUT := Lib.hid (show res = (some (out, nx), L - 1) by rw [HRES.out]; show (if l.ki = 4 then _ else _) = _; rw [if_neg k4, HR.out])
      clear k4
      go_wp2_with (go_at_call 42; refine (HSN.out _ hA2).mono ?_; rintro e w4 ⟨A4, c4, rfl, hi4, hm4, hb4⟩)
      go_ret3
      rw [HOUT.out]
      exact ⟨A4, c4, rfl, hi4, hm4, (But.of (HB1.out.trans (hA2.mono (by omega)))).trans hb4⟩
  have r1 : (l.ki == 4) = true := by simp [k4]
  obtain ⟨r, hr⟩ : ∃ z, z = matB P l su gs p := ⟨_, rfl⟩
  have HMA := Lib.hid (show Calls Try.prog 43 #[.agg #[.int .i64 F.em, .slice F.GA F.gn F.gc, .slice F.MA F.mn F.mc, .slice F.LA F.ln F.lc, .slice F.FA F.fn F.fc, .slice F.SA F.sn F.sc], .agg #[.int .i64 l.ki, .int .i64 l.fl, .int .i64 l.se, .slice l.su.A l.su.n l.su.c], .slice (some ⟨b2, o2, none⟩) n c, .int .i64 (p : Int)] w3.drew (RetMat w3.drew r) from by
    have hW := hA2.drew
    have hw3s := hA2.size
    rw [hr]
    exact match_any F w.heap.size P l _ n c gs su p w3.drew ((HF.out.more HB.out).below (HB1.out.trans (hW.mono (by omega)))) (KsR.below (KsR.more (HKS0.out) HB.out) (HB1.out.trans (hW.mono (by omega)))) (HGOOD.out.row k4) (HI.out.below (HB1.out.trans (hW.mono (by omega)))) (show w.heap.size ≤ w3.heap.size by omega) hpn)
  rw [HEA.out] at HMA
  have HR := Lib.hid hr.symm
  clear hr
  rcases r with _ | ⟨mi, mps⟩
  · have HOUT := Lib.hid (show res = (none, L) by rw [HRES.out]; show (if l.ki = 4 then _ else _) = _; rw [if_pos k4, HR.out])
    clear k4
    go_upto_region 8 with fail
    go_region_held3 (fun W => W.cell? ⟨w.heap.size, 0, none⟩ = some (.pointer (some ⟨bm, 0, none⟩)) ∧ W.cell? ⟨bm, 0, none⟩ = some (.int .i64 F.em) ∧ W.cell? ⟨bm, 1, none⟩ = some (.slice F.GA F.gn F.gc) ∧ W.cell? ⟨bm, 2, none⟩ = some (.slice F.MA F.mn F.mc) ∧ W.cell? ⟨bm, 3, none⟩ = some (.slice (some ⟨b, o, none⟩) F.ln F.lc) ∧ W.cell? ⟨bm, 4, none⟩ = some (.slice F.FA F.fn F.fc) ∧ W.cell? ⟨bm, 5, none⟩ = some (.slice F.SA F.sn F.sc) ∧ W.cell? ⟨w1.heap.size, 0, none⟩ = some (.int .i64 l.ki) ∧ W.cell? ⟨w1.heap.size, 1, none⟩ = some (.int .i64 l.fl) ∧ W.cell? ⟨w1.heap.size, 2, none⟩ = some (.int .i64 l.se) ∧ W.cell? ⟨w1.heap.size, 3, none⟩ = some (.slice l.su.A l.su.n l.su.c)) (first | exact ⟨u0 w3 hA2, m0 w3 hA2, m1 w3 hA2, m2 w3 hA2, m3 w3 hA2, m4 w3 hA2, m5 w3 hA2, h0 w3 hC, h1 w3 hC, h2 w3 hC, h3 w3 hC⟩ | exact ⟨u0 w4 hA4, m0 w4 hA4, m1 w4 hA4, m2 w4 hA4, m3 w4 hA4, m4 w4 hA4, m5 w4 hA4, h0 w4 hC4, h1 w4 hC4, h2 w4 hC4, h3 w4 hC4⟩)
      (first
        | (go_at_call 43; refine (HMA.out).mono ?_; rintro e w4 ⟨rfl, hb4⟩; have hA4 := hA2.drew.trans (hb4.mono hA2.size); have hC4 := hC.drew.trans (hb4.mono hC.size))
    )
    go_wp2_with fail
    go_ret3
    rw [HOUT.out]
    have hbb := HB1.out.trans (hA4.mono (by omega))
    exact ⟨rfl, HM1.out.below hA4 (by omega), But.of hbb⟩
  obtain ⟨rc, hrc⟩ : ∃ z, z = ctxB (doB P Ls k) P l su gs p (L - 1) := ⟨_, rfl⟩
  have HOUT := Lib.hid (show res = rc by rw [HRES.out]; show (if l.ki = 4 then _ else _) = _; rw [if_pos k4, HR.out, hrc])
  have HRC := Lib.hid hrc.symm
  have HK4 := Lib.hid k4
  clear k4 hrc
  have s9 : IntKind.i64.wrap ((L : Int) - 1) = ((L - 1 : Nat) : Int) := by have := HL.out; have := HL0.out; rw [IntKind.wrap_i64]; omega
  go_upto_region 8 with fail
  go_region_held3 (fun W => W.cell? ⟨w.heap.size, 0, none⟩ = some (.pointer (some ⟨bm, 0, none⟩)) ∧ W.cell? ⟨bm, 0, none⟩ = some (.int .i64 F.em) ∧ W.cell? ⟨bm, 1, none⟩ = some (.slice F.GA F.gn F.gc) ∧ W.cell? ⟨bm, 2, none⟩ = some (.slice F.MA F.mn F.mc) ∧ W.cell? ⟨bm, 3, none⟩ = some (.slice (some ⟨b, o, none⟩) F.ln F.lc) ∧ W.cell? ⟨bm, 4, none⟩ = some (.slice F.FA F.fn F.fc) ∧ W.cell? ⟨bm, 5, none⟩ = some (.slice F.SA F.sn F.sc) ∧ W.cell? ⟨w1.heap.size, 0, none⟩ = some (.int .i64 l.ki) ∧ W.cell? ⟨w1.heap.size, 1, none⟩ = some (.int .i64 l.fl) ∧ W.cell? ⟨w1.heap.size, 2, none⟩ = some (.int .i64 l.se) ∧ W.cell? ⟨w1.heap.size, 3, none⟩ = some (.slice l.su.A l.su.n l.su.c)) (first | exact ⟨u0 w3 hA2, m0 w3 hA2, m1 w3 hA2, m2 w3 hA2, m3 w3 hA2, m4 w3 hA2, m5 w3 hA2, h0 w3 hC, h1 w3 hC, h2 w3 hC, h3 w3 hC⟩ | exact ⟨u0 w4 hA4, m0 w4 hA4, m1 w4 hA4, m2 w4 hA4, m3 w4 hA4, m4 w4 hA4, m5 w4 hA4, h0 w4 hC4, h1 w4 hC4, h2 w4 hC4, h3 w4 hC4⟩)
    (first
      | (go_at_call 43; refine (HMA.out).mono ?_; rintro e w4 ⟨A4, c4, rfl, -, -, hb4⟩; have hA4 := hA2.drew.trans (hb4.mono hA2.size); have hC4 := hC.drew.trans (hb4.mono hC.size))
  )
  clear hA2 hC hb4
  have hml := ml w4 hA4
  have hfr := (HM1.out.below hA4 (by omega)).free 6
  go_upto_region 12 with fail
  obtain ⟨w5, hw5⟩ : ∃ z, z = w4.setCell ⟨bm, 6, none⟩ (.int .i64 ((L - 1 : Nat) : Int)) := ⟨_, rfl⟩
  rw [← hw5]
  have hput : But bm w4 w5 := by rw [hw5]; exact But.put bm w4 6 _
  have hM5 : MBox w5 bm F (L - 1) := by rw [hw5]; exact (HM1.out.below hA4 (by omega)).put (L - 1)
  clear hw5 hfr hml
  have hsz4 := hA4.size
  have hsz5 := hput.size
  have hbm1 : bm ≠ w.heap.size := by omega
  have hbm2 : bm ≠ w.heap.size + 1 := by omega
  have hbm3 : bm ≠ w1.heap.size := by omega
  have hC4s := hC4.size
  have HU5 := Lib.hid (show ∀ W, But bm w5 W → W.cell? ⟨w.heap.size, 0, none⟩ = some (.pointer (some ⟨bm, 0, none⟩)) from fun W hW => ((hput.trans hW).cell (p := ⟨w.heap.size, 0, none⟩) (by show w.heap.size < _; omega) (fun e => hbm1 e.symm)).trans (u0 w4 hA4))
  have HV5 := Lib.hid (show ∀ W, But bm w5 W → W.cell? ⟨w.heap.size + 1, 0, none⟩ = some (.int .i64 (d : Int)) from fun W hW => ((hput.trans hW).cell (p := ⟨w.heap.size + 1, 0, none⟩) (by show w.heap.size + 1 < _; omega) (fun e => hbm2 e.symm)).trans (v0 w4 hA4))
  have HK50 := Lib.hid (show ∀ W, But bm w5 W → W.cell? ⟨w1.heap.size, 0, none⟩ = some (.int .i64 l.ki) from fun W hW => ((hput.trans hW).cell (p := ⟨w1.heap.size, 0, none⟩) (by show w1.heap.size < _; omega) (fun e => hbm3 e.symm)).trans (h0 w4 hC4))
  have HK51 := Lib.hid (show ∀ W, But bm w5 W → W.cell? ⟨w1.heap.size, 1, none⟩ = some (.int .i64 l.fl) from fun W hW => ((hput.trans hW).cell (p := ⟨w1.heap.size, 1, none⟩) (by show w1.heap.size < _; omega) (fun e => hbm3 e.symm)).trans (h1 w4 hC4))
  have HK52 := Lib.hid (show ∀ W, But bm w5 W → W.cell? ⟨w1.heap.size, 2, none⟩ = some (.int .i64 l.se) from fun W hW => ((hput.trans hW).cell (p := ⟨w1.heap.size, 2, none⟩) (by show w1.heap.size < _; omega) (fun e => hbm3 e.symm)).trans (h2 w4 hC4))
  have HK53 := Lib.hid (show ∀ W, But bm w5 W → W.cell? ⟨w1.heap.size, 3, none⟩ = some (.slice l.su.A l.su.n l.su.c) from fun W hW => ((hput.trans hW).cell (p := ⟨w1.heap.size, 3, none⟩) (by show w1.heap.size < _; omega) (fun e => hbm3 e.symm)).trans (h3 w4 hC4))
  have HBT := Lib.hid (show But bm w w5 from (But.of (HB1.out.trans (hA4.mono (by omega)))).trans hput)
  have HDR := Lib.hid (show But bm w5 w5.drew from But.of (Below.refl _ w5).drew)
  have HS5 := Lib.hid (show ∀ W L', But bm w5 W → MBox W bm F L' → (W.cell? ⟨w.heap.size, 0, none⟩ = some (.pointer (some ⟨bm, 0, none⟩)) ∧ W.cell? ⟨bm, 0, none⟩ = some (.int .i64 F.em) ∧ W.cell? ⟨bm, 1, none⟩ = some (.slice F.GA F.gn F.gc) ∧ W.cell? ⟨bm, 2, none⟩ = some (.slice F.MA F.mn F.mc) ∧ W.cell? ⟨bm, 3, none⟩ = some (.slice F.LA F.ln F.lc) ∧ W.cell? ⟨bm, 4, none⟩ = some (.slice F.FA F.fn F.fc) ∧ W.cell? ⟨bm, 5, none⟩ = some (.slice F.SA F.sn F.sc) ∧ W.cell? ⟨w1.heap.size, 0, none⟩ = some (.int .i64 l.ki) ∧ W.cell? ⟨w1.heap.size, 1, none⟩ = some (.int .i64 l.fl) ∧ W.cell? ⟨w1.heap.size, 2, none⟩ = some (.int .i64 l.se) ∧ W.cell? ⟨w1.heap.size, 3, none⟩ = some (.slice l.su.A l.su.n l.su.c)) from fun W L' hW hm => ⟨HU5.out W hW, by rw [cell_of_row _ _ 0 _ _ _ hm]; rfl, by rw [cell_of_row _ _ 1 _ _ _ hm]; rfl, by rw [cell_of_row _ _ 2 _ _ _ hm]; rfl, by rw [cell_of_row _ _ 3 _ _ _ hm]; rfl, by rw [cell_of_row _ _ 4 _ _ _ hm]; rfl, by rw [cell_of_row _ _ 5 _ _ _ hm]; rfl, HK50.out W hW, HK51.out W hW, HK52.out W hW, HK53.out W hW⟩)
  have HM5 := Lib.hid (show MBox w5.drew bm F (L - 1) from hM5)
  have HAP := Lib.hid (show Calls Try.prog 44 #[.agg #[.int .i64 F.em, .slice F.GA F.gn F.gc, .slice F.MA F.mn F.mc, .slice F.LA F.ln F.lc, .slice F.FA F.fn F.fc, .slice F.SA F.sn F.sc], .agg #[.int .i64 l.ki, .int .i64 l.fl, .int .i64 l.se, .slice l.su.A l.su.n l.su.c], .slice (some ⟨b2, o2, none⟩) n c, .int .i64 (p : Int), .func (.func 45) #[] #[.pointer (some ⟨w.heap.size, 0, none⟩), .pointer (some ⟨w.heap.size + 1, 0, none⟩)]] w5.drew (RetCtx w5.drew bm F rc) from by
    rw [← HRC.out]
    have hbt := HBT.out.trans HDR.out
    have hbe : Below B w w5.drew := hbt.below HBM.out HB.out
    exact capply_any (doB P Ls k) F B P l _ n c gs su p bm w.heap.size (w.heap.size + 1) (L - 1) w5.drew (HF.out.below hbe) (KsR.below HKS0.out hbe) HK4.out HGOOD.out ((HI.out.but HM.out hbt (Nat.le_refl _)).more hbt.size) HM5.out (Nat.le_trans HB.out hbt.size) HBM.out hpn HHN.out (by have := HL.out; omega)
      (fun W L gs A n c lk p hW hm hi hn hp hL => once1_any P Ls F bm w.heap.size (w.heap.size + 1) d k L p A n c gs lk W (HU5.out W (HDR.out.trans hW)) (HV5.out W (HDR.out.trans hW)) hd8 (HIH.out W A n c gs lk p L (hbt.trans hW) hm hi hn hp hL))
      doB_len doB_left)
  clear hput hA4 hC4 u0 v0 m0 m1 m2 m3 m4 m5 ml h0 h1 h2 h3
  have hS5 := HS5.out w5 _ (But.refl bm w5) hM5
  obtain ⟨g0, g1, g2, g3, g4, g5, g6, g7, g8, g9, g10⟩ := hS5
  rcases rc with ⟨_ | ⟨out, nx⟩, L'⟩
  · go_region_held3 (fun W => W.cell? ⟨w.heap.size, 0, none⟩ = some (.pointer (some ⟨bm, 0, none⟩)) ∧ W.cell? ⟨bm, 0, none⟩ = some (.int .i64 F.em) ∧ W.cell? ⟨bm, 1, none⟩ = some (.slice F.GA F.gn F.gc) ∧ W.cell? ⟨bm, 2, none⟩ = some (.slice F.MA F.mn F.mc) ∧ W.cell? ⟨bm, 3, none⟩ = some (.slice F.LA F.ln F.lc) ∧ W.cell? ⟨bm, 4, none⟩ = some (.slice F.FA F.fn F.fc) ∧ W.cell? ⟨bm, 5, none⟩ = some (.slice F.SA F.sn F.sc) ∧ W.cell? ⟨w1.heap.size, 0, none⟩ = some (.int .i64 l.ki) ∧ W.cell? ⟨w1.heap.size, 1, none⟩ = some (.int .i64 l.fl) ∧ W.cell? ⟨w1.heap.size, 2, none⟩ = some (.int .i64 l.se) ∧ W.cell? ⟨w1.heap.size, 3, none⟩ = some (.slice l.su.A l.su.n l.su.c)) (first | exact ⟨g0, g1, g2, g3, g4, g5, g6, g7, g8, g9, g10⟩ | exact hS6)
      (first
        | (go_at_call 44; refine (HAP.out).mono ?_; rintro e w6 ⟨rfl, hm6, hb6⟩; have hS6 := HS5.out w6 _ (HDR.out.trans hb6) hm6))
    go_wp2_with fail
    go_ret3
    rw [HOUT.out]
    exact ⟨rfl, hm6, (HBT.out.trans HDR.out).trans hb6⟩
  · go_region_held3 (fun W => W.cell? ⟨w.heap.size, 0, none⟩ = some (.pointer (some ⟨bm, 0, none⟩)) ∧ W.cell? ⟨bm, 0, none⟩ = some (.int .i64 F.em) ∧ W.cell? ⟨bm, 1, none⟩ = some (.slice F.GA F.gn F.gc) ∧ W.cell? ⟨bm, 2, none⟩ = some (.slice F.MA F.mn F.mc) ∧ W.cell? ⟨bm, 3, none⟩ = some (.slice F.LA F.ln F.lc) ∧ W.cell? ⟨bm, 4, none⟩ = some (.slice F.FA F.fn F.fc) ∧ W.cell? ⟨bm, 5, none⟩ = some (.slice F.SA F.sn F.sc) ∧ W.cell? ⟨w1.heap.size, 0, none⟩ = some (.int .i64 l.ki) ∧ W.cell? ⟨w1.heap.size, 1, none⟩ = some (.int .i64 l.fl) ∧ W.cell? ⟨w1.heap.size, 2, none⟩ = some (.int .i64 l.se) ∧ W.cell? ⟨w1.heap.size, 3, none⟩ = some (.slice l.su.A l.su.n l.su.c)) (first | exact ⟨g0, g1, g2, g3, g4, g5, g6, g7, g8, g9, g10⟩ | exact hS6)
      (first
        | (go_at_call 44; refine (HAP.out).mono ?_; rintro e w6 ⟨A6, c6, rfl, hi6, hm6, hb6⟩; have hS6 := HS5.out w6 _ (HDR.out.trans hb6) hm6))
    go_wp2_with fail
    go_ret3
    rw [HOUT.out]
    exact ⟨A6, c6, rfl, hi6, hm6, (HBT.out.trans HDR.out).trans hb6⟩

end Go.Proofs.Ytngdolmmaiogiaa
