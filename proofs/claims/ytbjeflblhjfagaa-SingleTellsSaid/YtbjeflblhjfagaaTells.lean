/- The walk of SingleTells. Condition: the font reads as its shape. Printed by wip/tools/g27y.py. -/
import Derived.Test.YtbjeflblhjfagaaAlive
import Derived.Test.YtbjeflblhjfagaaPick
import Derived.Test.YtbjeflblhjfagaaSingB
import Derived.Test.YtbjeflblhjfagaaGlyB
namespace Go.Proofs.Ytbjeflblhjfagaa
open Go.RowKit

set_option maxRecDepth 100000 in
set_option maxHeartbeats 4000000 in
theorem tells_any (F : Fnt) (B mv : Nat) (g : Int) (w : World) (h : FntOk w B F) (hmv : mv < 256) (hB : B ≤ w.heap.size) :
    Calls Try.prog 3 #[.agg #[.int .i64 F.em, .slice F.GA F.gn F.gc, .slice F.MA F.mn F.mc, .slice F.LA F.ln F.lc, .slice F.FA F.fn F.fc, .slice F.SA F.sn F.sc], .int .u8 (mv : Int), .int .i64 g] w (fun e w' => e = .returned (.bool true) ∧ Below w.heap.size w w') := by
  obtain ⟨ls, hls⟩ := h.hL.lks
  obtain ⟨w1, hw1⟩ : ∃ z, z = w.alloc (.cells #[.int .i64 F.em, .slice F.GA F.gn F.gc, .slice F.MA F.mn F.mc, .slice F.LA F.ln F.lc, .slice F.FA F.fn F.fc, .slice F.SA F.sn F.sc] 28) := ⟨_, rfl⟩
  have hb1 : Below w.heap.size w w1 := by rw [hw1]; exact (Below.refl _ _).alloc (Nat.le_refl _) _
  have hs1 : w.heap.size < w1.heap.size := by rw [hw1]; simp
  have hfb : FBox w1 w.heap.size F := by rw [hw1]; exact FBox.new w F
  obtain ⟨f0, f1, f2, f3, f4, f5⟩ := hfb.cells
  have g0 := up_fact f0
  have g1 := up_fact f1
  have g2 := up_fact f2
  have g3 := up_fact f3
  have g4 := up_fact f4
  have g5 := up_fact f5
  have hA0 := Below.refl w1.heap.size w1
  clear f0 f1 f2 f3 f4 f5 hfb
  have HW1 := Lib.hid hw1
  clear hw1
  have HF := Lib.hid (h.below (hb1.mono hB))
  have HLS := Lib.hid (hls.below (hb1.mono hB))
  have HLEN := Lib.hid hls.1
  have HB1 := Lib.hid hb1
  clear h hls
  go_enter Try.func3, Try.ntmps3
  go_upto_region 1 with (fail)
  rw [← HW1.out]
  go_upto_region 2 with (first | (go_at_call 6; refine (pick_any F B mv ls _ (HLS.out.below (Below.refl _ _)) hmv (by omega)).mono ?_; rintro e w2 (⟨-, rfl, hb2⟩ | ⟨k, l, hk, rfl, hki, hsub, hb2⟩) <;> (try (have HKI := Lib.hid hki; clear hki))))
  · go_wp2_with (first | (go_at_call 8; refine (alive_any _).mono ?_; rintro e wz ⟨rfl, hbz⟩))
    go_ret
    exact ⟨rfl, HB1.out.trans ((hb2.trans ((((Below.refl _ _).alloc (Nat.le_refl _) _).trans (hbz.mono (by simp))).mono hb2.size)).mono HB1.out.size)⟩
  · obtain ⟨ps, hps⟩ : ∃ ps, ps = (ls.getD k nL).2 := ⟨_, rfl⟩
    rw [← hps] at hsub
    have hpl : ls.getD k nL = (l.ki, ps) := by rw [hps, HKI.out]
    have HPL := Lib.hid hpl
    clear hps hpl
    obtain ⟨w3, hw3⟩ : ∃ z, z = w2.alloc (.cells #[.int .i64 l.ki, .int .i64 l.fl, .int .i64 l.se, .slice l.su.A l.su.n l.su.c] 31) := ⟨_, rfl⟩
    rw [← hw3]
    obtain ⟨K, hK⟩ : ∃ K, K = w2.heap.size := ⟨_, rfl⟩
    rw [← hK]
    have hkb : KBox w3 K l := by rw [hw3, hK]; exact heap_alloc_new _ _
    obtain ⟨c0, c1, c2, c3⟩ := hkb.cells
    have l0 := up_fact c0
    have l1 := up_fact c1
    have l2 := up_fact c2
    have l3 := up_fact c3
    have hA := (show Below w1.heap.size w1 w3 by rw [hw3]; exact hb2.alloc hb2.size _)
    have hC := Below.refl w3.heap.size w3
    have hBw : B ≤ w1.heap.size := by omega
    have HA3 := Lib.hid hA
    have HS := Lib.hid (hsub.below ((show Below w2.heap.size w2 w3 by rw [hw3]; exact (Below.refl _ _).alloc (Nat.le_refl _) _).mono (by have := hb2.size; omega)))
    have HK := Lib.hid (And.intro (And.intro c0 (And.intro c1 (And.intro c2 c3))) (show K < w3.heap.size by rw [hw3, hK]; simp))
    clear c0 c1 c2 c3 hkb hw3 hK hsub hb2
    go_cut [25] (fun v W => ∃ t : Bool, v = .bool t ∧ (t = false → LkP ls true) ∧ Below w3.heap.size w3 W)
    case first =>
      go_wp2_with (first | (go_at_call 7; refine (fine_any F B ls none 0 0 _ (HF.out.below (hA.mono hBw)) (HLS.out.below (hA.mono hBw)) (ShSl.nil_ _ _ _) (by have := hA.size; omega)).mono ?_; rintro e w4 ⟨t4, rfl, hp, hb4⟩; have hC := bgo hC hb4; clear hb4; rcases t4 with _ | _))
      · go_meet
        exact ⟨_, rfl, (fun h => by cases h), hC⟩
      · go_meet
        exact ⟨_, rfl, (fun _ => (hp (by first | trivial | rfl)).1), hC⟩
    obtain ⟨t, rfl, hp, hC⟩ := hcut
    rcases t with _ | _
    rotate_left
    · go_wp2_with (first | (go_at_call 8; refine (alive_any _).mono ?_; rintro e wz ⟨rfl, hbz⟩))
      go_ret
      exact ⟨rfl, HB1.out.trans ((HA3.out.trans ((hC.trans (hbz.mono hC.size)).mono HA3.out.size)).mono HB1.out.size)⟩
    have hone := hp (by first | trivial | rfl) rfl k (by rw [HLEN.out]; exact hk)
    rw [HPL.out] at hone
    have HONE := Lib.hid hone
    clear hp hone
    have hD := bgo hA hC
    obtain ⟨r, hr⟩ : ∃ r, r = toB (l.ki, ps) g := ⟨_, rfl⟩
    have HTO := Lib.hid (fun W (hW : Below w3.heap.size w3 W) => sto_any B l ps g W (HS.out.below (hW.mono (by have := HA3.out.size; omega))) HONE.out (by have := hW.size; have := HA3.out.size; omega))
    have HRTO := Lib.hid (fun W (hW : Below w3.heap.size w3 W) => rto_any B l ps g W (HS.out.below (hW.mono (by have := HA3.out.size; omega))) HONE.out (by have := hW.size; have := HA3.out.size; omega))
    have HSG := Lib.hid (fun W (hW : Below w3.heap.size w3 W) => sgly_any B l ps W (HS.out.below (hW.mono (by have := HA3.out.size; omega))) HONE.out (by have := hW.size; have := HA3.out.size; omega))
    have HRG := Lib.hid (fun W (hW : Below w3.heap.size w3 W) => rgly_any B l ps W (HS.out.below (hW.mono (by have := HA3.out.size; omega))) HONE.out (by have := hW.size; have := HA3.out.size; omega))
    rw [← hr] at HTO HRTO
    clear hr
    obtain ⟨gl, hgl⟩ : ∃ gl, gl = glyB (l.ki, ps) := ⟨_, rfl⟩
    rw [← hgl] at HSG HRG
    clear hgl
    go_upto_region 6 with (first
      | (go_at_call 9; refine (HTO.out _ (by exact hC)).mono ?_; rintro e w4 ⟨A4, c4, rfl, hi4, hb4⟩; have hC := bgo hC hb4)
      | (go_at_call 10; refine (HRTO.out _ (by exact hC)).mono ?_; rintro e w5 ⟨A5, c5, rfl, hi5, hb5⟩; have hC := bgo hC hb5))
    have HI4 := Lib.hid (hi4.below hb5)
    have HI5 := Lib.hid hi5
    have hC5 := hC
    have HC5 := Lib.hid hC
    have hl5 := keep4 HK.out hC5
    obtain ⟨zs, hzs⟩ : ∃ zs, zs = r.getD [] := ⟨_, rfl⟩
    rw [← hzs] at HI4 HI5 ⊢
    clear hi4 hi5 hb4 hb5 hC hzs l0 l1 l2 l3 hA
    go_region_held3 (fun W => W.cell? ⟨K, 0, none⟩ = some (.int .i64 l.ki) ∧ W.cell? ⟨K, 1, none⟩ = some (.int .i64 l.fl) ∧ W.cell? ⟨K, 2, none⟩ = some (.int .i64 l.se) ∧ W.cell? ⟨K, 3, none⟩ = some (.slice l.su.A l.su.n l.su.c)) (first | exact hl5 | exact keep4 HK.out hC6 | exact keep4 HK.out hC7 | exact keep4 HK.out hC8 | exact keep4 HK.out hC9 | exact keep4 HK.out hC10)
      (first
        | (have hh := hi7.below hb8; go_at_call 11; refine (eqints_any _ _ _ _ _ _ _ _ _ hh hi8).mono ?_; rintro e w9 ⟨rfl, hb9⟩; have hC9 := bgo hC8 hb9)
        | (go_at_call 11; refine (eqints_any _ _ _ _ _ _ _ zs _ (HI4.out.below ((Below.refl _ _).drew)) (HI5.out.below ((Below.refl _ _).drew))).mono ?_; rintro e w6 ⟨rfl, hb6⟩; have hC6 := bgo HC5.out ((Below.refl w5.heap.size w5).drew.trans hb6))
        | (go_at_call 12; refine (HSG.out _ (by exact hC6)).mono ?_; rintro e w7 ⟨A7, c7, rfl, hi7, hb7⟩; have hC7 := bgo hC6 hb7)
        | (go_at_call 13; refine (HRG.out _ (by exact hC7)).mono ?_; rintro e w8 ⟨A8, c8, rfl, hi8, hb8⟩; have hC8 := bgo hC7 hb8)
        | (go_at_call 8; refine (alive_any _).mono ?_; rintro e w10 ⟨rfl, hb10⟩; have hC10 := bgo hC9 hb10))
    go_wp2_with fail
    go_ret
    exact ⟨rfl, HB1.out.trans ((HA3.out.trans (hC10.mono HA3.out.size)).mono HB1.out.size)⟩

end Go.Proofs.Ytbjeflblhjfagaa
