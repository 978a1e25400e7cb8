/- The walk of SingleKeeps. Condition: the font and the buffer read as their shapes. Printed by wip/tools/g27kk.py. -/
import Derived.Test.YtbjeflblhjfagaaAlive
import Derived.Test.YtbjeflblhjfagaaPick
import Derived.Test.YtbjeflblhjfagaaKeepP
namespace Go.Proofs.Ytbjeflblhjfagaa
open Go.RowKit

set_option maxRecDepth 100000 in
set_option maxHeartbeats 4000000 in
theorem keeps_any (F : Fnt) (B : Nat) (A : Option Addr) (n c : Nat) (gs : List Gl) (n0 n1 : Int) (w : World) (h : FntOk w B F) (hg : GlsR w B A n c gs) (hl : ShSl w B shGlyph A n c) (hB : B ≤ w.heap.size) :
    Calls Try.prog 5 #[.agg #[.int .i64 F.em, .slice F.GA F.gn F.gc, .slice F.MA F.mn F.mc, .slice F.LA F.ln F.lc, .slice F.FA F.fn F.fc, .slice F.SA F.sn F.sc], .slice A n c, .agg #[.int .i64 n0, .int .i64 n1]] w (fun e w' => e = .returned (.bool true) ∧ Below w.heap.size w w') := by
  obtain ⟨ls, hls⟩ := h.hL.lks
  obtain ⟨mv, hmv1, hmv⟩ : ∃ mv : Nat, IntKind.u8.wrap n0 = (mv : Int) ∧ mv < 256 := ⟨(n0 % 256).toNat, by rw [IntKind.wrap_u8]; omega, by omega⟩
  obtain ⟨wa, hwa⟩ : ∃ z, z = w.alloc (.cells #[.int .i64 F.em, .slice F.GA F.gn F.gc, .slice F.MA F.mn F.mc, .slice F.LA F.ln F.lc, .slice F.FA F.fn F.fc, .slice F.SA F.sn F.sc] 28) := ⟨_, rfl⟩
  have hba : Below w.heap.size w wa := by rw [hwa]; exact (Below.refl _ _).alloc (Nat.le_refl _) _
  have hsa : wa.heap.size = w.heap.size + 1 := by rw [hwa]; simp
  have hfa : FBox wa w.heap.size F := by rw [hwa]; exact FBox.new w F
  obtain ⟨w1, hw1⟩ : ∃ z, z = wa.alloc (.cells #[.int .i64 n0, .int .i64 n1] 43) := ⟨_, rfl⟩
  have hb1 : Below w.heap.size w w1 := by rw [hw1]; exact hba.alloc (by omega) _
  have hfb : FBox w1 w.heap.size F := by rw [hw1]; exact (heap_alloc_old _ _ (by omega)).trans hfa
  have hab : w1.heap[w.heap.size + 1]? = some (.cells #[.int .i64 n0, .int .i64 n1] 43 (0, 0)) := by rw [hw1, ← hsa]; exact heap_alloc_new _ _
  have hs1 : w.heap.size + 1 < w1.heap.size := by rw [hw1]; simp; omega
  obtain ⟨f0, f1, f2, f3, f4, f5⟩ := hfb.cells
  have a0 := up_fact (show w1.cell? ⟨w.heap.size + 1, 0, none⟩ = some (.int .i64 n0) by rw [cell_of_row _ _ 0 _ _ _ hab]; rfl)
  have a1 := up_fact (show w1.cell? ⟨w.heap.size + 1, 1, none⟩ = some (.int .i64 n1) by rw [cell_of_row _ _ 1 _ _ _ hab]; rfl)
  have g0 := up_fact f0
  have g1 := up_fact f1
  have g2 := up_fact f2
  have g3 := up_fact f3
  have g4 := up_fact f4
  have g5 := up_fact f5
  have hA0 := Below.refl w1.heap.size w1
  clear f0 f1 f2 f3 f4 f5 hfb hab hfa hba
  have HW1 := Lib.hid hw1
  have HWA := Lib.hid hwa
  have HSA := Lib.hid hsa
  clear hw1 hwa hsa
  have HF := Lib.hid (h.below (hb1.mono hB))
  have HLS := Lib.hid (hls.below (hb1.mono hB))
  have HLEN := Lib.hid hls.1
  have HB1 := Lib.hid hb1
  have HGS := Lib.hid (hg.below (hb1.mono hB))
  have HSL := Lib.hid (hl.below (hb1.mono hB))
  have hcap := hg.cap
  have HGN := Lib.hid hg.length
  clear h hls hg hl
  go_enter Try.func5, Try.ntmps5
  go_upto_region 1 with (fail)
  rw [← HWA.out]
  rw [← HW1.out]
  go_upto_region 2 with (first | (go_at_call 6; refine (pick_any F B mv ls _ (HLS.out.below (Below.refl _ _)) hmv (by omega)).mono ?_; rintro e w2 (⟨-, rfl, hb2⟩ | ⟨k, l, hk, rfl, hki, hsub, hb2⟩) <;> (try (have HKI := Lib.hid hki; clear hki))))
  · go_wp2_with (first | (go_at_call 8; refine (alive_any _).mono ?_; rintro e wz ⟨rfl, hbz⟩))
    go_ret
    exact ⟨rfl, HB1.out.trans ((hb2.trans ((((Below.refl _ _).alloc (Nat.le_refl _) _).trans (hbz.mono (by simp))).mono hb2.size)).mono HB1.out.size)⟩
  · obtain ⟨ps, hps⟩ : ∃ ps, ps = (ls.getD k nL).2 := ⟨_, rfl⟩
    rw [← hps] at hsub
    have hpl : ls.getD k nL = (l.ki, ps) := by rw [hps, HKI.out]
    have HPL := Lib.hid hpl
    clear hps hpl
    obtain ⟨w3, hw3⟩ : ∃ z, z = w2.alloc (.cells #[.int .i64 l.ki, .int .i64 l.fl, .int .i64 l.se, .slice l.su.A l.su.n l.su.c] 31) := ⟨_, rfl⟩
    rw [← hw3]
    obtain ⟨K, hK⟩ : ∃ K, K = w2.heap.size := ⟨_, rfl⟩
    rw [← hK]
    have hkb : KBox w3 K l := by rw [hw3, hK]; exact heap_alloc_new _ _
    obtain ⟨c0, c1, c2, c3⟩ := hkb.cells
    have l0 := up_fact c0
    have l1 := up_fact c1
    have l2 := up_fact c2
    have l3 := up_fact c3
    have hA := (show Below w1.heap.size w1 w3 by rw [hw3]; exact hb2.alloc hb2.size _)
    have hC := Below.refl w3.heap.size w3
    have hBw : B ≤ w1.heap.size := by omega
    have HA3 := Lib.hid hA
    have HS := Lib.hid (hsub.below ((show Below w2.heap.size w2 w3 by rw [hw3]; exact (Below.refl _ _).alloc (Nat.le_refl _) _).mono (by have := hb2.size; omega)))
    have HK := Lib.hid (And.intro (And.intro c0 (And.intro c1 (And.intro c2 c3))) (show K < w3.heap.size by rw [hw3, hK]; simp))
    clear c0 c1 c2 c3 hkb hw3 hK hsub hb2
    go_cut [33] (fun v W => ∃ t : Bool, v = .bool t ∧ (t = false → LkP ls true ∧ n ≤ 40) ∧ Below w3.heap.size w3 W)
    case first =>
      go_wp2_with (first | (go_at_call 7; refine (fine_any F B ls A n c _ (HF.out.below (hA.mono hBw)) (HLS.out.below (hA.mono hBw)) (HSL.out.below (hA.mono hBw)) (by have := hA.size; omega)).mono ?_; rintro e w4 ⟨t4, rfl, hp, hb4⟩; have hC := bgo hC hb4; clear hb4; rcases t4 with _ | _))
      · go_meet
        exact ⟨_, rfl, (fun h => by cases h), hC⟩
      · go_meet
        exact ⟨_, rfl, (fun _ => hp (by first | trivial | rfl)), hC⟩
    obtain ⟨t, rfl, hp, hC⟩ := hcut
    rcases t with _ | _
    rotate_left
    · go_wp2_with (first | (go_at_call 8; refine (alive_any _).mono ?_; rintro e wz ⟨rfl, hbz⟩))
      go_ret
      exact ⟨rfl, HB1.out.trans ((HA3.out.trans ((hC.trans (hbz.mono hC.size)).mono HA3.out.size)).mono HB1.out.size)⟩
    have HN40 := Lib.hid (hp (by first | trivial | rfl)).2
    have hone := (hp (by first | trivial | rfl)).1 rfl k (by rw [HLEN.out]; exact hk)
    rw [HPL.out] at hone
    have HONE := Lib.hid hone
    clear hp hone
    have hD := bgo hA hC
    rcases applyG_cases (l.ki, ps) gs n1 with he | ⟨p, g, zs, rfl, hg, hto, he⟩
    · have HAP := Lib.hid (fun W (hW : Below w3.heap.size w3 W) => by
        have h0 := sapply_any F B l ps A n c gs n1 W (HS.out.below (hW.mono (by have := HA3.out.size; omega))) HONE.out (HGS.out.below ((HA3.out.mono hBw).trans (hW.mono (by have := HA3.out.size; omega)))) (by have := hW.size; have := HA3.out.size; omega) (by have := HN40.out; omega)
        rw [he] at h0
        exact h0.mono (fun _ _ h => h.n HGN.out))
      have q1 : (n1 == n1) = true := by simp
      clear he
      go_upto_region 6 with (first | (go_at_call 14; refine (HAP.out _ (by exact hC)).mono ?_; rintro e w4 ⟨A4, c4, rfl, hi4, hb4⟩; have hC := bgo hC hb4; have hD := bgo hA hC))
      have HI4 := Lib.hid hi4
      have HG4 := Lib.hid (HGS.out.below (hD.mono hBw))
      clear hi4 hb4 hA hD l0 l1 l2 l3
      go_wp2_with (first
        | (go_at_call 16; refine (glyphs2_any _ B A4 A _ c4 c gs _ HI4.out HG4.out).mono ?_; rintro e w6 ⟨rfl, hb6⟩; have hC := bgo hC hb6)
        | (go_at_call 8; refine (alive_any _).mono ?_; rintro e w10 ⟨rfl, hb10⟩; have hC := bgo hC hb10))
      go_ret
      exact ⟨rfl, HB1.out.trans ((HA3.out.trans (hC.mono HA3.out.size)).mono HB1.out.size)⟩
    · have hpn : p < n := by have := lt_of_some hg; have := HGN.out; omega
      have h16 := toB_le HONE.out hto
      obtain ⟨m, hm⟩ : ∃ m, m = zs.length := ⟨_, rfl⟩
      rw [← hm] at h16
      rw [show zs.length = m from hm.symm] at he
      obtain ⟨N, hN⟩ : ∃ N, N = n - 1 + m := ⟨_, rfl⟩
      have hNl : (repG gs p zs).length = N := by rw [repG_length hg, ← hm, hN, HGN.out]
      have HAP := Lib.hid (fun W (hW : Below w3.heap.size w3 W) => by
        have h0 := sapply_any F B l ps A n c gs (p : Int) W (HS.out.below (hW.mono (by have := HA3.out.size; omega))) HONE.out (HGS.out.below ((HA3.out.mono hBw).trans (hW.mono (by have := HA3.out.size; omega)))) (by have := hW.size; have := HA3.out.size; omega) (by have := HN40.out; omega)
        rw [he] at h0
        exact h0.mono (fun _ _ h => h.n hNl))
      have HTO := Lib.hid (fun W (hW : Below w3.heap.size w3 W) => by
        have h0 := sto_any B l ps g.id W (HS.out.below (hW.mono (by have := HA3.out.size; omega))) HONE.out (by have := hW.size; have := HA3.out.size; omega)
        rw [hto] at h0
        exact h0.mono (fun _ _ h => h.m hm.symm))
      have HG := Lib.hid hg
      have HTOB := Lib.hid hto
      have HMZ := Lib.hid hm.symm
      have HN := Lib.hid hN
      have z0 : decide ((p : Int) < 0) = false := by simp
      have z1 : decide ((n : Int) ≤ (p : Int)) = false := by simp; omega
      have z2 : decide (n ≤ p) = false := by simp; omega
      have hn40 := HN40.out
      clear he hg hto hm hN hNl
      go_upto_region 10 with (first | (go_at_call 14; refine (HAP.out _ (by exact hC)).mono ?_; rintro e w4 ⟨A4, c4, rfl, hi4, hb4⟩; have hC := bgo hC hb4; have hD := bgo hA hC))
      have hG4 := HGS.out.below (hD.mono hBw)
      obtain ⟨b, o, g', rfl, hbb, hg', x0, -⟩ := hG4.at_ hpn
      rw [HG.out] at hg'
      cases hg'
      have HI4 := Lib.hid hi4
      have HG4 := Lib.hid hG4
      have HC4 := Lib.hid hC
      have hKl : K < w4.heap.size := by have := HK.out.2; have := hC.size; omega
      have hbl : b < w4.heap.size := by have := hD.size; omega
      have HKX := Lib.hid (And.intro (⟨(keep4 HK.out hC).1, (keep4 HK.out hC).2.1, (keep4 HK.out hC).2.2.1, (keep4 HK.out hC).2.2.2, x0⟩ : (w4.cell? ⟨K, 0, none⟩ = some (.int .i64 l.ki) ∧ w4.cell? ⟨K, 1, none⟩ = some (.int .i64 l.fl) ∧ w4.cell? ⟨K, 2, none⟩ = some (.int .i64 l.se) ∧ w4.cell? ⟨K, 3, none⟩ = some (.slice l.su.A l.su.n l.su.c) ∧ w4.cell? ⟨b, o + p * 10, none⟩ = some (.int .i64 g.id))) (And.intro hKl hbl))
      have hl4 := HKX.out.1
      clear hi4 hb4 hA hD hC l0 l1 l2 l3 x0 hG4 z0 z1 z2 hKl hbl a0 a1 g0 g1 g2 g3 g4 g5
      go_region_held3 (fun W => W.cell? ⟨K, 0, none⟩ = some (.int .i64 l.ki) ∧ W.cell? ⟨K, 1, none⟩ = some (.int .i64 l.fl) ∧ W.cell? ⟨K, 2, none⟩ = some (.int .i64 l.se) ∧ W.cell? ⟨K, 3, none⟩ = some (.slice l.su.A l.su.n l.su.c) ∧ W.cell? ⟨b, o + p * 10, none⟩ = some (.int .i64 g.id)) (first | exact hl4 | exact keep5 HKX.out hb5)
        (first | (go_at_call 9; refine (HTO.out _ (HC4.out.trans (((Below.refl w4.heap.size w4).drew).mono HC4.out.size))).mono ?_; rintro e w5 ⟨A5, c5, rfl, hi5, hb5'⟩; have hb5 := ((Below.refl w4.heap.size w4).drew).trans hb5'))
      have HZ := Lib.hid hi5
      have HO := Lib.hid (HI4.out.below hb5)
      have HG5 := Lib.hid (HG4.out.below (hb5.mono (by have := hBw; have := HA3.out.size; have := HC4.out.size; omega)))
      have HC5 := Lib.hid (HC4.out.trans (hb5.mono HC4.out.size))
      have hl5 := keep5 HKX.out hb5
      obtain ⟨l0, l1, l2, l3, x0⟩ := hl5
      have l0 := up_fact l0
      have hA := Below.refl w5.heap.size w5
      clear hi5 hb5 hb5' l1 l2 l3 x0 hl4
      have hNn := HN.out
      have s1 : IntKind.i64.wrap ((n : Int) - 1) = (n : Int) - 1 := by rw [IntKind.wrap_i64]; omega
      have s2 : IntKind.i64.wrap ((n : Int) - 1 + (m : Int)) = (N : Int) := by rw [IntKind.wrap_i64]; omega
      have s3 : IntKind.i64.wrap ((p : Int) + (m : Int)) = (p : Int) + (m : Int) := by rw [IntKind.wrap_i64]; omega
      have q1 : ((N : Int) != (N : Int)) = false := by simp
      have q2 : ((p : Int) + (m : Int) != (p : Int) + (m : Int)) = false := by simp
      go_wp2_with fail
      clear s1 s2 s3 q1 q2
      go_loopw [15] (fun v wr => ∃ k : Nat, v = .int .i64 (k : Int) ∧ k ≤ N ∧ Below w5.heap.size w5 wr) (fun v _ => N - (intOf v).toNat)
      case atStart => exact ⟨0, rfl, Nat.zero_le _, hA⟩
      case round =>
        clear hA
        obtain ⟨k, rfl, hk, hA⟩ := hrel
        by_cases hlt : k < N
        · obtain ⟨b2, o2, x, eA, hbb2, hx, d0, -⟩ := HO.out.at_ hlt
          have z9 : decide ((k : Int) < (N : Int)) = true := by simp; omega
          have hkN := HN.out
          by_cases hc1 : k < p
          · obtain ⟨b3, o3, y, e3, hbb3, hy, u0, -⟩ := HG5.out.at_ (k := k) (by have := hkN; omega)
            cases e3
            have hid := repG_before HG.out hc1 hx hy
            rw [hid] at d0
            have v0 := up_fact u0
            have q1 : (y.id != y.id) = false := by simp
            have z1 : decide ((k : Int) < (p : Int)) = true := by simp; omega
            clear u0 hy hid
            have y0 := up_fact d0
            clear d0 hx
            rw [eA]
            go_wp2_with fail
            go_roundw
            case rel => exact ⟨k + 1, by go_num, by omega, hA⟩
            case measure => simp [intOf] <;> omega
          by_cases hc2 : k < p + m
          · have hz := repG_within HG.out (by omega) (by rw [HMZ.out]; omega) hx
            obtain ⟨b3, o3, y, e3, hbb3, hy, u0⟩ := HZ.out.at_ (k := k - p) (by omega)
            have hid : x.id = y := by rw [hz, List.getD_eq_getElem?_getD, hy]; rfl
            rw [hid] at d0
            have v0 := up_fact u0
            have q1 : (y != y) = false := by simp
            have z1 : decide ((k : Int) < (p : Int)) = false := by simp; omega
            have z2 : decide ((k : Int) < (p : Int) + (m : Int)) = true := by simp; omega
            have s1 : IntKind.i64.wrap ((k : Int) - (p : Int)) = ((k - p : Nat) : Int) := by rw [IntKind.wrap_i64]; omega
            clear u0 hy hid hz
            rw [e3]
            have y0 := up_fact d0
            clear d0 hx
            rw [eA]
            go_wp2_with fail
            go_roundw
            case rel => exact ⟨k + 1, by go_num, by omega, hA⟩
            case measure => simp [intOf] <;> omega
          · obtain ⟨b3, o3, y, e3, hbb3, hy, u0, -⟩ := HG5.out.at_ (k := k - m + 1) (by have := hkN; omega)
            cases e3
            have hid := repG_after HG.out (by rw [HMZ.out]; omega) hx (by rw [HMZ.out]; exact hy)
            rw [hid] at d0
            have v0 := up_fact u0
            have q1 : (y.id != y.id) = false := by simp
            have z1 : decide ((k : Int) < (p : Int)) = false := by simp; omega
            have z2 : decide ((k : Int) < (p : Int) + (m : Int)) = false := by simp; omega
            have s1 : IntKind.i64.wrap ((k : Int) - (m : Int)) = ((k - m : Nat) : Int) := by rw [IntKind.wrap_i64]; omega
            have s2 : IntKind.i64.wrap (((k - m : Nat) : Int) + 1) = ((k - m + 1 : Nat) : Int) := by rw [IntKind.wrap_i64]; omega
            clear u0 hy hid
            have y0 := up_fact d0
            clear d0 hx
            rw [eA]
            go_wp2_with fail
            go_roundw
            case rel => exact ⟨k + 1, by go_num, by omega, hA⟩
            case measure => simp [intOf] <;> omega
        · have hz : decide ((k : Int) < (N : Int)) = false := by simp; omega
          by_cases hki1 : l.ki = 1
          · have hm1 := toB_one HONE.out (by exact hki1) HTOB.out
            obtain ⟨i0, hi0⟩ := repG_one HG.out hm1
            obtain ⟨x, hi0, hcl, hma, hli, hco⟩ : ∃ x, (repG gs p zs)[p]? = some x ∧ x.cl = g.cl ∧ x.ma = g.ma ∧ x.li = g.li ∧ x.co = g.co := ⟨_, hi0, rfl, rfl, rfl, rfl⟩
            have hpN : p < N := by have := HMZ.out; omega
            obtain ⟨b2, o2, x1, eA, hbb2, hx, d0, d1, d2, d3, d4, d5, d6, d7, d8, d9⟩ := HO.out.at_ (k := p) hpN
            rw [hi0] at hx
            cases hx
            obtain ⟨b3, o3, y, e3, hbb3, hy, u0, u1, u2, u3, u4, u5, u6, u7, u8, u9⟩ := HG5.out.at_ (k := p) hpn
            cases e3
            rw [HG.out] at hy
            cases hy
            have y0 := up_fact d0
            have y1 := up_fact d1
            have y2 := up_fact d2
            have y3 := up_fact d3
            have y4 := up_fact d4
            have y5 := up_fact d5
            have y6 := up_fact d6
            have y7 := up_fact d7
            have y8 := up_fact d8
            have y9 := up_fact d9
            rw [eA]
            have hki2 : (l.ki == 1) = true := by simp [hki1]
            have q0 : (x.cl == g.cl) = true := by simp [hcl]
            have q1 : (x.ma == g.ma) = true := by simp [hma]
            have q2 : (x.li == g.li) = true := by simp [hli]
            have q3 : (x.co == g.co) = true := by simp [hco]
            clear hi0 hm1 hNn u0 u2 u3 u4 u5 u6 d0 d1 d2 d3 d4 d5 d6 d7 d8 d9 hcl hma hli hco
            go_upto_region 25 with fail
            go_upto_region 26 with fail
            obtain ⟨w6, hw6⟩ : ∃ z, z = wr.alloc (.cells #[.int .i64 x.id, .int .i64 x.cl, .int .i64 x.ad, .int .i64 x.dx, .int .i64 x.dy, .int .i64 x.tw, .int .i64 x.hg, .int .i64 x.li, .int .i64 x.co, .int .i64 x.ma] 49) := ⟨_, rfl⟩
            rw [← hw6]
            obtain ⟨s6, hs6⟩ : ∃ s, s = wr.heap.size := ⟨_, rfl⟩
            rw [← hs6]
            have hbx : w6.heap[s6]? = some (.cells #[.int .i64 x.id, .int .i64 x.cl, .int .i64 x.ad, .int .i64 x.dx, .int .i64 x.dy, .int .i64 x.tw, .int .i64 x.hg, .int .i64 x.li, .int .i64 x.co, .int .i64 x.ma] 49 (0, 0)) := by rw [hw6, hs6]; exact heap_alloc_new _ _
            have hA6 : Below w5.heap.size w5 w6 := by rw [hw6]; exact hA.alloc hA.size _
            have v1 := up_fact (show w6.cell? ⟨s6, 1, none⟩ = some (.int .i64 x.cl) by rw [cell_of_row _ _ 1 _ _ _ hbx]; rfl)
            have v7 := up_fact (show w6.cell? ⟨s6, 7, none⟩ = some (.int .i64 x.li) by rw [cell_of_row _ _ 7 _ _ _ hbx]; rfl)
            have v8 := up_fact (show w6.cell? ⟨s6, 8, none⟩ = some (.int .i64 x.co) by rw [cell_of_row _ _ 8 _ _ _ hbx]; rfl)
            have v9 := up_fact (show w6.cell? ⟨s6, 9, none⟩ = some (.int .i64 x.ma) by rw [cell_of_row _ _ 9 _ _ _ hbx]; rfl)
            have z1 := up_fact ((hA6.cell (p := ⟨b, o + p * 10 + 1, none⟩) (World.block_lt_of_cell? _ _ u1)).trans u1)
            have z7 := up_fact ((hA6.cell (p := ⟨b, o + p * 10 + 7, none⟩) (World.block_lt_of_cell? _ _ u7)).trans u7)
            have z8 := up_fact ((hA6.cell (p := ⟨b, o + p * 10 + 8, none⟩) (World.block_lt_of_cell? _ _ u8)).trans u8)
            have z9 := up_fact ((hA6.cell (p := ⟨b, o + p * 10 + 9, none⟩) (World.block_lt_of_cell? _ _ u9)).trans u9)
            have hB6 := Below.refl w6.heap.size w6
            have HA6 := Lib.hid hA6
            have hU0 := bup hB6
            clear hw6 hs6 hbx hA6 u1 u7 u8 u9 y0 y1 y2 y3 y4 y5 y6 y7 y8 y9 hA l0
            refine wp_region_up w6.heap.size (by kernel_rfl) (by kernel_rfl) ?_
            repeat (go_big_quiet_step ((first | (go_at_call 8; exact Calls.up_of (Nat.le_refl _) (alive_any _)))))
            refine wpQuiet_nil (up_all fun w7 hb7 => ?_)
            have hB7 := bgo hB6 hb7
            clear hb7 hU0
            go_wp2_with fail
            go_ret
            exact ⟨rfl, HB1.out.trans ((HA3.out.trans ((HC5.out.trans ((HA6.out.trans (hB7.mono HA6.out.size)).mono HC5.out.size)).mono HA3.out.size)).mono HB1.out.size)⟩
          · have q1 : (l.ki == 1) = false := by simp [hki1]
            go_wp2_with (first | (go_at_call 8; refine (alive_any _).mono ?_; rintro e w10 ⟨rfl, hb10⟩; have hA := bgo hA hb10))
            go_ret
            exact ⟨rfl, HB1.out.trans ((HA3.out.trans ((HC5.out.trans (hA.mono HC5.out.size)).mono HA3.out.size)).mono HB1.out.size)⟩

end Go.Proofs.Ytbjeflblhjfagaa
