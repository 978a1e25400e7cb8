/- The walk of SingleDoes. Condition: the font and the buffer read as their shapes. Printed by wip/tools/g27z.py. -/
import Derived.Test.YtbjeflblhjfagaaAlive
import Derived.Test.YtbjeflblhjfagaaPick
import Derived.Test.YtbjeflblhjfagaaAppl
namespace Go.Proofs.Ytbjeflblhjfagaa
open Go.RowKit

set_option maxRecDepth 100000 in
set_option maxHeartbeats 4000000 in
theorem does_any (F : Fnt) (B : Nat) (A : Option Addr) (n c : Nat) (gs : List Gl) (n0 n1 : Int) (w : World) (h : FntOk w B F) (hg : GlsR w B A n c gs) (hl : ShSl w B shGlyph A n c) (hB : B ≤ w.heap.size) :
    Calls Try.prog 4 #[.agg #[.int .i64 F.em, .slice F.GA F.gn F.gc, .slice F.MA F.mn F.mc, .slice F.LA F.ln F.lc, .slice F.FA F.fn F.fc, .slice F.SA F.sn F.sc], .slice A n c, .agg #[.int .i64 n0, .int .i64 n1]] w (fun e w' => e = .returned (.bool true) ∧ Below w.heap.size w w') := by
  obtain ⟨ls, hls⟩ := h.hL.lks
  obtain ⟨mv, hmv1, hmv⟩ : ∃ mv : Nat, IntKind.u8.wrap n0 = (mv : Int) ∧ mv < 256 := ⟨(n0 % 256).toNat, by rw [IntKind.wrap_u8]; omega, by omega⟩
  obtain ⟨wa, hwa⟩ : ∃ z, z = w.alloc (.cells #[.int .i64 F.em, .slice F.GA F.gn F.gc, .slice F.MA F.mn F.mc, .slice F.LA F.ln F.lc, .slice F.FA F.fn F.fc, .slice F.SA F.sn F.sc] 28) := ⟨_, rfl⟩
  have hba : Below w.heap.size w wa := by rw [hwa]; exact (Below.refl _ _).alloc (Nat.le_refl _) _
  have hsa : wa.heap.size = w.heap.size + 1 := by rw [hwa]; simp
  have hfa : FBox wa w.heap.size F := by rw [hwa]; exact FBox.new w F
  obtain ⟨w1, hw1⟩ : ∃ z, z = wa.alloc (.cells #[.int .i64 n0, .int .i64 n1] 43) := ⟨_, rfl⟩
  have hb1 : Below w.heap.size w w1 := by rw [hw1]; exact hba.alloc (by omega) _
  have hfb : FBox w1 w.heap.size F := by rw [hw1]; exact (heap_alloc_old _ _ (by omega)).trans hfa
  have hab : w1.heap[w.heap.size + 1]? = some (.cells #[.int .i64 n0, .int .i64 n1] 43 (0, 0)) := by rw [hw1, ← hsa]; exact heap_alloc_new _ _
  have hs1 : w.heap.size + 1 < w1.heap.size := by rw [hw1]; simp; omega
  obtain ⟨f0, f1, f2, f3, f4, f5⟩ := hfb.cells
  have a0 := up_fact (show w1.cell? ⟨w.heap.size + 1, 0, none⟩ = some (.int .i64 n0) by rw [cell_of_row _ _ 0 _ _ _ hab]; rfl)
  have a1 := up_fact (show w1.cell? ⟨w.heap.size + 1, 1, none⟩ = some (.int .i64 n1) by rw [cell_of_row _ _ 1 _ _ _ hab]; rfl)
  have g0 := up_fact f0
  have g1 := up_fact f1
  have g2 := up_fact f2
  have g3 := up_fact f3
  have g4 := up_fact f4
  have g5 := up_fact f5
  have hA0 := Below.refl w1.heap.size w1
  clear f0 f1 f2 f3 f4 f5 hfb hab hfa hba
  have HW1 := Lib.hid hw1
  have HWA := Lib.hid hwa
  have HSA := Lib.hid hsa
  clear hw1 hwa hsa
  have HF := Lib.hid (h.below (hb1.mono hB))
  have HLS := Lib.hid (hls.below (hb1.mono hB))
  have HLEN := Lib.hid hls.1
  have HB1 := Lib.hid hb1
  have HGS := Lib.hid (hg.below (hb1.mono hB))
  have HSL := Lib.hid (hl.below (hb1.mono hB))
  have hcap := hg.cap
  have HGN := Lib.hid hg.length
  clear h hls hg hl
  go_enter Try.func4, Try.ntmps4
  go_upto_region 1 with (fail)
  rw [← HWA.out]
  rw [← HW1.out]
  go_upto_region 2 with (first | (go_at_call 6; refine (pick_any F B mv ls _ (HLS.out.below (Below.refl _ _)) hmv (by omega)).mono ?_; rintro e w2 (⟨-, rfl, hb2⟩ | ⟨k, l, hk, rfl, hki, hsub, hb2⟩) <;> (try (have HKI := Lib.hid hki; clear hki))))
  · go_wp2_with (first | (go_at_call 8; refine (alive_any _).mono ?_; rintro e wz ⟨rfl, hbz⟩))
    go_ret
    exact ⟨rfl, HB1.out.trans ((hb2.trans ((((Below.refl _ _).alloc (Nat.le_refl _) _).trans (hbz.mono (by simp))).mono hb2.size)).mono HB1.out.size)⟩
  · obtain ⟨ps, hps⟩ : ∃ ps, ps = (ls.getD k nL).2 := ⟨_, rfl⟩
    rw [← hps] at hsub
    have hpl : ls.getD k nL = (l.ki, ps) := by rw [hps, HKI.out]
    have HPL := Lib.hid hpl
    clear hps hpl
    obtain ⟨w3, hw3⟩ : ∃ z, z = w2.alloc (.cells #[.int .i64 l.ki, .int .i64 l.fl, .int .i64 l.se, .slice l.su.A l.su.n l.su.c] 31) := ⟨_, rfl⟩
    rw [← hw3]
    obtain ⟨K, hK⟩ : ∃ K, K = w2.heap.size := ⟨_, rfl⟩
    rw [← hK]
    have hkb : KBox w3 K l := by rw [hw3, hK]; exact heap_alloc_new _ _
    obtain ⟨c0, c1, c2, c3⟩ := hkb.cells
    have l0 := up_fact c0
    have l1 := up_fact c1
    have l2 := up_fact c2
    have l3 := up_fact c3
    have hA := (show Below w1.heap.size w1 w3 by rw [hw3]; exact hb2.alloc hb2.size _)
    have hC := Below.refl w3.heap.size w3
    have hBw : B ≤ w1.heap.size := by omega
    have HA3 := Lib.hid hA
    have HS := Lib.hid (hsub.below ((show Below w2.heap.size w2 w3 by rw [hw3]; exact (Below.refl _ _).alloc (Nat.le_refl _) _).mono (by have := hb2.size; omega)))
    have HK := Lib.hid (And.intro (And.intro c0 (And.intro c1 (And.intro c2 c3))) (show K < w3.heap.size by rw [hw3, hK]; simp))
    clear c0 c1 c2 c3 hkb hw3 hK hsub hb2
    go_cut [30] (fun v W => ∃ t : Bool, v = .bool t ∧ (t = false → LkP ls true ∧ n ≤ 40) ∧ Below w3.heap.size w3 W)
    case first =>
      go_wp2_with (first | (go_at_call 7; refine (fine_any F B ls A n c _ (HF.out.below (hA.mono hBw)) (HLS.out.below (hA.mono hBw)) (HSL.out.below (hA.mono hBw)) (by have := hA.size; omega)).mono ?_; rintro e w4 ⟨t4, rfl, hp, hb4⟩; have hC := bgo hC hb4; clear hb4; rcases t4 with _ | _))
      · go_meet
        exact ⟨_, rfl, (fun h => by cases h), hC⟩
      · go_meet
        exact ⟨_, rfl, (fun _ => hp (by first | trivial | rfl)), hC⟩
    obtain ⟨t, rfl, hp, hC⟩ := hcut
    rcases t with _ | _
    rotate_left
    · go_wp2_with (first | (go_at_call 8; refine (alive_any _).mono ?_; rintro e wz ⟨rfl, hbz⟩))
      go_ret
      exact ⟨rfl, HB1.out.trans ((HA3.out.trans ((hC.trans (hbz.mono hC.size)).mono HA3.out.size)).mono HB1.out.size)⟩
    have HN40 := Lib.hid (hp (by first | trivial | rfl)).2
    have hone := (hp (by first | trivial | rfl)).1 rfl k (by rw [HLEN.out]; exact hk)
    rw [HPL.out] at hone
    have HONE := Lib.hid hone
    clear hp hone
    have hD := bgo hA hC
    have HAP := Lib.hid (fun W (hW : Below w3.heap.size w3 W) => sapply_any F B l ps A n c gs n1 W (HS.out.below (hW.mono (by have := HA3.out.size; omega))) HONE.out (HGS.out.below ((HA3.out.mono hBw).trans (hW.mono (by have := HA3.out.size; omega)))) (by have := hW.size; have := HA3.out.size; omega) (by have := HN40.out; omega))
    have HRAP := Lib.hid (fun W (hW : Below w3.heap.size w3 W) => rapply_any F B l ps A n c gs n1 W (HS.out.below (hW.mono (by have := HA3.out.size; omega))) HONE.out (HGS.out.below ((HA3.out.mono hBw).trans (hW.mono (by have := HA3.out.size; omega)))) (by have := hW.size; have := HA3.out.size; omega) (by have := HN40.out; omega))
    obtain ⟨r, hr⟩ : ∃ r, r = applyG (l.ki, ps) gs n1 := ⟨_, rfl⟩
    rw [← hr] at HAP HRAP
    have HR := Lib.hid hr
    clear hr
    go_upto_region 6 with (first
      | (go_at_call 14; refine (HAP.out _ (by exact hC)).mono ?_; rintro e w4 ⟨A4, c4, rfl, hi4, hb4⟩; have hC := bgo hC hb4; have hD := bgo hA hC)
      | (go_at_call 15; refine (HRAP.out _ (by exact hC)).mono ?_; rintro e w5 ⟨A5, c5, rfl, hi5, hb5⟩; have hC := bgo hC hb5))
    have HI4 := Lib.hid (hi4.below hb5)
    have HI5 := Lib.hid hi5
    clear hi4 hi5 hb4 hb5 l0 l1 l2 l3 hA
    go_wp2_with (first
      | (go_at_call 16; refine (glyphs2_any _ _ A4 A5 _ c4 c5 r.1 _ HI4.out HI5.out).mono ?_; rintro e w6 ⟨rfl, hb6⟩; have hC := bgo hC hb6)
      | (go_at_call 8; refine (alive_any _).mono ?_; rintro e w10 ⟨rfl, hb10⟩; have hC := bgo hC hb10))
    go_ret
    exact ⟨rfl, HB1.out.trans ((HA3.out.trans (hC.mono HA3.out.size)).mono HB1.out.size)⟩

end Go.Proofs.Ytbjeflblhjfagaa
