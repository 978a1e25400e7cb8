/- Joined: MacA. -/
import Derived.Test.YtngdolmmaiogiaaJ16
import Derived.Deep.RegionHeld3

/- The walk of (*machine).single. Condition: what it reads reads as plain data. Printed by wip/tools. -/
namespace Go.Proofs.Ytngdolmmaiogiaa
open Go.RowKit

/-- the two ways Apply may go -/
theorem applyG_cases (pl : PL) (gs : List Gl) (at_ : Int) : applyG pl gs at_ = (gs, at_, false) ∨ ∃ (p : Nat) (g : Gl) (zs : List Int), at_ = (p : Int) ∧ gs[p]? = some g ∧ toB pl g.id = some zs ∧ applyG pl gs at_ = (repG gs p zs, (p : Int) + zs.length, true) := by
  by_cases h0 : 0 ≤ at_
  · obtain ⟨p, rfl⟩ : ∃ p : Nat, at_ = (p : Int) := ⟨at_.toNat, by omega⟩
    cases hg : gs[p]? with
    | none =>
      refine .inl (applyG_out (.inr ?_))
      rcases Nat.lt_or_ge p gs.length with h1 | h1
      · rw [List.getElem?_eq_getElem h1] at hg; cases hg
      · omega
    | some g =>
      cases ht : toB pl g.id with
      | none => exact .inl (applyG_none hg ht)
      | some zs => exact .inr ⟨p, g, zs, rfl, hg, ht, applyG_some hg ht⟩
  · exact .inl (applyG_out (.inl (by omega)))

theorem RetApp.n {w w' : World} {gs : List Gl} {m : Int} {d : Bool} {e : Ending} {n : Nat} (h : RetApp w (gs, m, d) e w') (hn : gs.length = n) : ∃ A c, e = .returned (.tuple #[.slice A n c, .int .i64 m, .bool d]) ∧ GlsR w' w'.heap.size A n c gs ∧ Below w.heap.size w w' := by
  subst hn; exact h
set_option maxRecDepth 100000 in
set_option maxHeartbeats 4000000 in
theorem single_any (F : Fnt) (B : Nat) (P : PFt) (l : Lk) (A : Option Addr) (n c : Nat) (gs : List Gl) (su : List PSu) (p bm L : Nat) (w : World) (hF : FtR w B F P) (hK : KsR w B l.su.A l.su.n l.su.c su) (hG : LkGood l su) (hI : GlsR w B A n c gs) (hM : MBox w bm F L) (hB : B ≤ w.heap.size) (hp : p < n) (hn : n ≤ 16384) (hL : 0 < L) (hL2 : L ≤ 65536) :
    Calls Try.prog 42 #[.pointer (some ⟨bm, 0, none⟩), .agg #[.int .i64 l.ki, .int .i64 l.fl, .int .i64 l.se, .slice l.su.A l.su.n l.su.c], .slice A n c, .int .i64 (p : Int)] w (RetSng w bm F L (sngB P l su gs p)) := by
  have hcap := hI.cap
  have HI := Lib.hid hI
  have HF := Lib.hid hF
  have HK := Lib.hid hK
  have HG := Lib.hid hG
  have HGL := Lib.hid hI.length
  have hbw := hM.lt
  clear hF hK hG
  obtain ⟨w1, hw_w1⟩ : ∃ z, z = w.alloc (.cells #[.int .i64 l.ki, .int .i64 l.fl, .int .i64 l.se, .slice l.su.A l.su.n l.su.c] 36) := ⟨_, rfl⟩
  have hs_w1 : w1.heap.size = w.heap.size + 1 := by rw [hw_w1]; simp
  have hb_w1 : Below w.heap.size w w1 := by rw [hw_w1]; exact (Below.refl _ _).alloc (Nat.le_refl _) _
  have hx_0 : w1.heap[w.heap.size]? = some (.cells #[.int .i64 l.ki, .int .i64 l.fl, .int .i64 l.se, .slice l.su.A l.su.n l.su.c] 36 (0, 0)) := by rw [hw_w1]; exact heap_alloc_new _ _
  have h0 := up_fact (show w1.cell? ⟨w.heap.size, 0, none⟩ = some (.int .i64 l.ki) by rw [cell_of_row _ _ 0 _ _ _ hx_0]; rfl)
  have h1 := up_fact (show w1.cell? ⟨w.heap.size, 1, none⟩ = some (.int .i64 l.fl) by rw [cell_of_row _ _ 1 _ _ _ hx_0]; rfl)
  have h2 := up_fact (show w1.cell? ⟨w.heap.size, 2, none⟩ = some (.int .i64 l.se) by rw [cell_of_row _ _ 2 _ _ _ hx_0]; rfl)
  have h3 := up_fact (show w1.cell? ⟨w.heap.size, 3, none⟩ = some (.slice l.su.A l.su.n l.su.c) by rw [cell_of_row _ _ 3 _ _ _ hx_0]; rfl)
  have hA0 := Below.refl w1.heap.size w1
  have HS1 := Lib.hid hs_w1
  have hs1 : w.heap.size + 0 < w1.heap.size := by omega
  have HB1 := Lib.hid hb_w1
  have HW_w1 := Lib.hid hw_w1
  clear hw_w1 hs_w1 hb_w1
  clear hx_0
  have HB := Lib.hid hB
  have HBW := Lib.hid (HB1.out.mono hB)
  have HM1 := Lib.hid (hM.below HB1.out hbw)
  have m0 := up_fact (show w1.cell? ⟨bm, 0, none⟩ = some (.int .i64 F.em) by rw [cell_of_row _ _ 0 _ _ _ HM1.out]; rfl)
  have m1 := up_fact (show w1.cell? ⟨bm, 1, none⟩ = some (.slice F.GA F.gn F.gc) by rw [cell_of_row _ _ 1 _ _ _ HM1.out]; rfl)
  have m2 := up_fact (show w1.cell? ⟨bm, 2, none⟩ = some (.slice F.MA F.mn F.mc) by rw [cell_of_row _ _ 2 _ _ _ HM1.out]; rfl)
  have m3 := up_fact (show w1.cell? ⟨bm, 3, none⟩ = some (.slice F.LA F.ln F.lc) by rw [cell_of_row _ _ 3 _ _ _ HM1.out]; rfl)
  have m4 := up_fact (show w1.cell? ⟨bm, 4, none⟩ = some (.slice F.FA F.fn F.fc) by rw [cell_of_row _ _ 4 _ _ _ HM1.out]; rfl)
  have m5 := up_fact (show w1.cell? ⟨bm, 5, none⟩ = some (.slice F.SA F.sn F.sc) by rw [cell_of_row _ _ 5 _ _ _ HM1.out]; rfl)
  have ml := up_fact HM1.out.left
  obtain ⟨r, hr⟩ : ∃ z, z = sngB P l su gs p := ⟨_, rfl⟩
  rw [← hr]
  have HR := Lib.hid hr
  clear hr hI hM
  by_cases k1 : l.ki = 1
  · have r1 : (l.ki == 1) = true := by simp [k1]
    rcases applyG_cases (l.ki, psOf su) gs (p : Int) with he | ⟨p', g, zs, hpp, hg, hto, he⟩
    · have HS0 := Lib.hid (show sng0 P l su gs p = none by unfold sng0; rw [if_pos (.inl k1), he]; rfl)
      have HNONE := Lib.hid (show sngB P l su gs p = none by unfold sngB; rw [HS0.out])
      have HAP := Lib.hid (by
        have h0 := sapply_any F B l (psOf su) A n c gs (p : Int) w1.drew (KsR.subs (KsR.below HK.out (HBW.out.drew))) HG.out.one (HI.out.below HBW.out.drew) (show B ≤ w1.heap.size by have := HB.out; omega) (by omega)
        rw [he] at h0
        exact h0.mono (fun _ _ h => h.n HGL.out))
      clear k1
      go_enter Try.func42, Try.ntmps42
      go_upto_region 1 with fail
      rw [← HW_w1.out]
      go_upto_region 4 with fail
      go_region_held3 (fun W => W.cell? ⟨w.heap.size, 0, none⟩ = some (.int .i64 l.ki) ∧ W.cell? ⟨w.heap.size, 1, none⟩ = some (.int .i64 l.fl) ∧ W.cell? ⟨w.heap.size, 2, none⟩ = some (.int .i64 l.se) ∧ W.cell? ⟨w.heap.size, 3, none⟩ = some (.slice l.su.A l.su.n l.su.c) ∧ W.cell? ⟨bm, 0, none⟩ = some (.int .i64 F.em) ∧ W.cell? ⟨bm, 1, none⟩ = some (.slice F.GA F.gn F.gc) ∧ W.cell? ⟨bm, 2, none⟩ = some (.slice F.MA F.mn F.mc) ∧ W.cell? ⟨bm, 3, none⟩ = some (.slice F.LA F.ln F.lc) ∧ W.cell? ⟨bm, 4, none⟩ = some (.slice F.FA F.fn F.fc) ∧ W.cell? ⟨bm, 5, none⟩ = some (.slice F.SA F.sn F.sc)) (first | exact ⟨h0 w1 hA0, h1 w1 hA0, h2 w1 hA0, h3 w1 hA0, m0 w1 hA0, m1 w1 hA0, m2 w1 hA0, m3 w1 hA0, m4 w1 hA0, m5 w1 hA0⟩ | exact ⟨h0 w4 hA4, h1 w4 hA4, h2 w4 hA4, h3 w4 hA4, m0 w4 hA4, m1 w4 hA4, m2 w4 hA4, m3 w4 hA4, m4 w4 hA4, m5 w4 hA4⟩)
        (first
          | (go_at_call 50; refine (HAP.out).mono ?_; rintro e w4 ⟨A4, c4, rfl, hi4, hb4⟩; have hA4 := ((Below.refl w1.heap.size w1).drew).trans hb4)
      )
      go_wp2_with fail
      go_ret3
      rw [HR.out, HNONE.out]
      exact ⟨rfl, HB1.out.trans (hA4.mono (by omega))⟩
    · obtain rfl : p = p' := by omega
      obtain ⟨N, hN⟩ : ∃ z, (repG gs p zs).length = z := ⟨_, rfl⟩
      have HS0 := Lib.hid (show sng0 P l su gs p = some (repG gs p zs, (p : Int) + zs.length) by unfold sng0; rw [if_pos (.inl k1), he]; rfl)
      have HAP := Lib.hid (by
        have h0 := sapply_any F B l (psOf su) A n c gs (p : Int) w1.drew (KsR.subs (KsR.below HK.out (HBW.out.drew))) HG.out.one (HI.out.below HBW.out.drew) (show B ≤ w1.heap.size by have := HB.out; omega) (by omega)
        rw [he] at h0
        exact h0.mono (fun _ _ h => h.n hN))
      have HN := Lib.hid hN
      have hzl : zs.length ≤ 16 := toB_le HG.out.one hto
      clear k1 hN hg hto he
      go_enter Try.func42, Try.ntmps42
      go_upto_region 1 with fail
      rw [← HW_w1.out]
      go_upto_region 4 with fail
      go_region_held3 (fun W => W.cell? ⟨w.heap.size, 0, none⟩ = some (.int .i64 l.ki) ∧ W.cell? ⟨w.heap.size, 1, none⟩ = some (.int .i64 l.fl) ∧ W.cell? ⟨w.heap.size, 2, none⟩ = some (.int .i64 l.se) ∧ W.cell? ⟨w.heap.size, 3, none⟩ = some (.slice l.su.A l.su.n l.su.c) ∧ W.cell? ⟨bm, 0, none⟩ = some (.int .i64 F.em) ∧ W.cell? ⟨bm, 1, none⟩ = some (.slice F.GA F.gn F.gc) ∧ W.cell? ⟨bm, 2, none⟩ = some (.slice F.MA F.mn F.mc) ∧ W.cell? ⟨bm, 3, none⟩ = some (.slice F.LA F.ln F.lc) ∧ W.cell? ⟨bm, 4, none⟩ = some (.slice F.FA F.fn F.fc) ∧ W.cell? ⟨bm, 5, none⟩ = some (.slice F.SA F.sn F.sc)) (first | exact ⟨h0 w1 hA0, h1 w1 hA0, h2 w1 hA0, h3 w1 hA0, m0 w1 hA0, m1 w1 hA0, m2 w1 hA0, m3 w1 hA0, m4 w1 hA0, m5 w1 hA0⟩ | exact ⟨h0 w4 hA4, h1 w4 hA4, h2 w4 hA4, h3 w4 hA4, m0 w4 hA4, m1 w4 hA4, m2 w4 hA4, m3 w4 hA4, m4 w4 hA4, m5 w4 hA4⟩)
        (first
          | (go_at_call 50; refine (HAP.out).mono ?_; rintro e w4 ⟨A4, c4, rfl, hi4, hb4⟩; have hA4 := ((Below.refl w1.heap.size w1).drew).trans hb4)
      )
      have HO := Lib.hid hi4
      have hcap4 := hi4.cap
      clear hi4 hb4
      by_cases hbig : N ≤ 16384
      · have HSOME := Lib.hid (show sngB P l su gs p = some (repG gs p zs, (p : Int) + zs.length) by unfold sngB; rw [HS0.out]; show (if (repG gs p zs).length ≤ 16384 then _ else _) = _; rw [if_pos (by rw [HN.out]; exact hbig)])
        have q1 : decide ((16384 : Int) < (N : Int)) = false := by simp; omega
        have q2 : decide (16384 < N) = false := by simp; omega
        have hml := ml w4 hA4
        have hfr := (HM1.out.below hA4 (by omega)).free 6
        have s9 : IntKind.i64.wrap ((L : Int) - 1) = ((L - 1 : Nat) : Int) := by rw [IntKind.wrap_i64]; omega
        have HM4 := Lib.hid (HM1.out.below hA4 (by omega))
        go_wp2_with fail
        go_ret3
        rw [HR.out, HSOME.out]
        have hbut := (But.of (bm := bm) (HB1.out.trans (hA4.mono (by omega)))).trans (But.put bm w4 6 (.int .i64 ((L - 1 : Nat) : Int)))
        exact ⟨_, _, by rw [HN.out]; rfl, by rw [HN.out]; exact (HO.out.but HM4.out (But.put bm w4 6 _) (Nat.le_refl _)).more (by simp), HM4.out.put (L - 1), hbut⟩
      · have HNONE := Lib.hid (show sngB P l su gs p = none by unfold sngB; rw [HS0.out]; show (if (repG gs p zs).length ≤ 16384 then _ else _) = _; rw [if_neg (by rw [HN.out]; exact hbig)])
        have q1 : decide ((16384 : Int) < (N : Int)) = true := by simp; omega
        have q2 : decide (16384 < N) = true := by simp; omega
        go_wp2_with fail
        go_ret3
        rw [HR.out, HNONE.out]
        exact ⟨rfl, HB1.out.trans (hA4.mono (by omega))⟩
  by_cases k2 : l.ki = 2
  · have r1 : (l.ki == 1) = false := by simp [k1]
    have r2 : (l.ki == 2) = true := by simp [k2]
    rcases applyG_cases (l.ki, psOf su) gs (p : Int) with he | ⟨p', g, zs, hpp, hg, hto, he⟩
    · have HS0 := Lib.hid (show sng0 P l su gs p = none by unfold sng0; rw [if_pos (.inr k2), he]; rfl)
      have HNONE := Lib.hid (show sngB P l su gs p = none by unfold sngB; rw [HS0.out])
      have HAP := Lib.hid (by
        have h0 := sapply_any F B l (psOf su) A n c gs (p : Int) w1.drew (KsR.subs (KsR.below HK.out (HBW.out.drew))) HG.out.one (HI.out.below HBW.out.drew) (show B ≤ w1.heap.size by have := HB.out; omega) (by omega)
        rw [he] at h0
        exact h0.mono (fun _ _ h => h.n HGL.out))
      clear k1 k2
      go_enter Try.func42, Try.ntmps42
      go_upto_region 1 with fail
      rw [← HW_w1.out]
      go_upto_region 4 with fail
      go_region_held3 (fun W => W.cell? ⟨w.heap.size, 0, none⟩ = some (.int .i64 l.ki) ∧ W.cell? ⟨w.heap.size, 1, none⟩ = some (.int .i64 l.fl) ∧ W.cell? ⟨w.heap.size, 2, none⟩ = some (.int .i64 l.se) ∧ W.cell? ⟨w.heap.size, 3, none⟩ = some (.slice l.su.A l.su.n l.su.c) ∧ W.cell? ⟨bm, 0, none⟩ = some (.int .i64 F.em) ∧ W.cell? ⟨bm, 1, none⟩ = some (.slice F.GA F.gn F.gc) ∧ W.cell? ⟨bm, 2, none⟩ = some (.slice F.MA F.mn F.mc) ∧ W.cell? ⟨bm, 3, none⟩ = some (.slice F.LA F.ln F.lc) ∧ W.cell? ⟨bm, 4, none⟩ = some (.slice F.FA F.fn F.fc) ∧ W.cell? ⟨bm, 5, none⟩ = some (.slice F.SA F.sn F.sc)) (first | exact ⟨h0 w1 hA0, h1 w1 hA0, h2 w1 hA0, h3 w1 hA0, m0 w1 hA0, m1 w1 hA0, m2 w1 hA0, m3 w1 hA0, m4 w1 hA0, m5 w1 hA0⟩ | exact ⟨h0 w4 hA4, h1 w4 hA4, h2 w4 hA4, h3 w4 hA4, m0 w4 hA4, m1 w4 hA4, m2 w4 hA4, m3 w4 hA4, m4 w4 hA4, m5 w4 hA4⟩)
        (first
          | (go_at_call 50; refine (HAP.out).mono ?_; rintro e w4 ⟨A4, c4, rfl, hi4, hb4⟩; have hA4 := ((Below.refl w1.heap.size w1).drew).trans hb4)
      )
      go_wp2_with fail
      go_ret3
      rw [HR.out, HNONE.out]
      exact ⟨rfl, HB1.out.trans (hA4.mono (by omega))⟩
    · obtain rfl : p = p' := by omega
      obtain ⟨N, hN⟩ : ∃ z, (repG gs p zs).length = z := ⟨_, rfl⟩
      have HS0 := Lib.hid (show sng0 P l su gs p = some (repG gs p zs, (p : Int) + zs.length) by unfold sng0; rw [if_pos (.inr k2), he]; rfl)
      have HAP := Lib.hid (by
        have h0 := sapply_any F B l (psOf su) A n c gs (p : Int) w1.drew (KsR.subs (KsR.below HK.out (HBW.out.drew))) HG.out.one (HI.out.below HBW.out.drew) (show B ≤ w1.heap.size by have := HB.out; omega) (by omega)
        rw [he] at h0
        exact h0.mono (fun _ _ h => h.n hN))
      have HN := Lib.hid hN
      have hzl : zs.length ≤ 16 := toB_le HG.out.one hto
      clear k1 k2 hN hg hto he
      go_enter Try.func42, Try.ntmps42
      go_upto_region 1 with fail
      rw [← HW_w1.out]
      go_upto_region 4 with fail
      go_region_held3 (fun W => W.cell? ⟨w.heap.size, 0, none⟩ = some (.int .i64 l.ki) ∧ W.cell? ⟨w.heap.size, 1, none⟩ = some (.int .i64 l.fl) ∧ W.cell? ⟨w.heap.size, 2, none⟩ = some (.int .i64 l.se) ∧ W.cell? ⟨w.heap.size, 3, none⟩ = some (.slice l.su.A l.su.n l.su.c) ∧ W.cell? ⟨bm, 0, none⟩ = some (.int .i64 F.em) ∧ W.cell? ⟨bm, 1, none⟩ = some (.slice F.GA F.gn F.gc) ∧ W.cell? ⟨bm, 2, none⟩ = some (.slice F.MA F.mn F.mc) ∧ W.cell? ⟨bm, 3, none⟩ = some (.slice F.LA F.ln F.lc) ∧ W.cell? ⟨bm, 4, none⟩ = some (.slice F.FA F.fn F.fc) ∧ W.cell? ⟨bm, 5, none⟩ = some (.slice F.SA F.sn F.sc)) (first | exact ⟨h0 w1 hA0, h1 w1 hA0, h2 w1 hA0, h3 w1 hA0, m0 w1 hA0, m1 w1 hA0, m2 w1 hA0, m3 w1 hA0, m4 w1 hA0, m5 w1 hA0⟩ | exact ⟨h0 w4 hA4, h1 w4 hA4, h2 w4 hA4, h3 w4 hA4, m0 w4 hA4, m1 w4 hA4, m2 w4 hA4, m3 w4 hA4, m4 w4 hA4, m5 w4 hA4⟩)
        (first
          | (go_at_call 50; refine (HAP.out).mono ?_; rintro e w4 ⟨A4, c4, rfl, hi4, hb4⟩; have hA4 := ((Below.refl w1.heap.size w1).drew).trans hb4)
      )
      have HO := Lib.hid hi4
      have hcap4 := hi4.cap
      clear hi4 hb4
      by_cases hbig : N ≤ 16384
      · have HSOME := Lib.hid (show sngB P l su gs p = some (repG gs p zs, (p : Int) + zs.length) by unfold sngB; rw [HS0.out]; show (if (repG gs p zs).length ≤ 16384 then _ else _) = _; rw [if_pos (by rw [HN.out]; exact hbig)])
        have q1 : decide ((16384 : Int) < (N : Int)) = false := by simp; omega
        have q2 : decide (16384 < N) = false := by simp; omega
        have hml := ml w4 hA4
        have hfr := (HM1.out.below hA4 (by omega)).free 6
        have s9 : IntKind.i64.wrap ((L : Int) - 1) = ((L - 1 : Nat) : Int) := by rw [IntKind.wrap_i64]; omega
        have HM4 := Lib.hid (HM1.out.below hA4 (by omega))
        go_wp2_with fail
        go_ret3
        rw [HR.out, HSOME.out]
        have hbut := (But.of (bm := bm) (HB1.out.trans (hA4.mono (by omega)))).trans (But.put bm w4 6 (.int .i64 ((L - 1 : Nat) : Int)))
        exact ⟨_, _, by rw [HN.out]; rfl, by rw [HN.out]; exact (HO.out.but HM4.out (But.put bm w4 6 _) (Nat.le_refl _)).more (by simp), HM4.out.put (L - 1), hbut⟩
      · have HNONE := Lib.hid (show sngB P l su gs p = none by unfold sngB; rw [HS0.out]; show (if (repG gs p zs).length ≤ 16384 then _ else _) = _; rw [if_neg (by rw [HN.out]; exact hbig)])
        have q1 : decide ((16384 : Int) < (N : Int)) = true := by simp; omega
        have q2 : decide (16384 < N) = true := by simp; omega
        go_wp2_with fail
        go_ret3
        rw [HR.out, HNONE.out]
        exact ⟨rfl, HB1.out.trans (hA4.mono (by omega))⟩
  have r1 : (l.ki == 1) = false := by simp [k1]
  have r2 : (l.ki == 2) = false := by simp [k2]
  by_cases k3 : l.ki = 3
  · have r3 : (l.ki == 3) = true := by simp [k3]
    cases he : ligaB P l su gs p with
    | none =>
      have HS0 := Lib.hid (show sng0 P l su gs p = none by unfold sng0; rw [if_neg (by omega), if_pos k3, he]; rfl)
      have HNONE := Lib.hid (show sngB P l su gs p = none by unfold sngB; rw [HS0.out])
      have HAP := Lib.hid (by
        have h0 := lapply_any F B P l A n c gs su p w1.drew (HF.out.below HBW.out.drew) (KsR.below HK.out HBW.out.drew) (HG.out.lig k3) (HI.out.below HBW.out.drew) (show B ≤ w1.heap.size by have := HB.out; omega) hp (by omega)
        rw [he] at h0
        exact h0)
      clear k1 k2 k3
      go_enter Try.func42, Try.ntmps42
      go_upto_region 1 with fail
      rw [← HW_w1.out]
      go_upto_region 6 with fail
      go_region_held3 (fun W => W.cell? ⟨w.heap.size, 0, none⟩ = some (.int .i64 l.ki) ∧ W.cell? ⟨w.heap.size, 1, none⟩ = some (.int .i64 l.fl) ∧ W.cell? ⟨w.heap.size, 2, none⟩ = some (.int .i64 l.se) ∧ W.cell? ⟨w.heap.size, 3, none⟩ = some (.slice l.su.A l.su.n l.su.c) ∧ W.cell? ⟨bm, 0, none⟩ = some (.int .i64 F.em) ∧ W.cell? ⟨bm, 1, none⟩ = some (.slice F.GA F.gn F.gc) ∧ W.cell? ⟨bm, 2, none⟩ = some (.slice F.MA F.mn F.mc) ∧ W.cell? ⟨bm, 3, none⟩ = some (.slice F.LA F.ln F.lc) ∧ W.cell? ⟨bm, 4, none⟩ = some (.slice F.FA F.fn F.fc) ∧ W.cell? ⟨bm, 5, none⟩ = some (.slice F.SA F.sn F.sc)) (first | exact ⟨h0 w1 hA0, h1 w1 hA0, h2 w1 hA0, h3 w1 hA0, m0 w1 hA0, m1 w1 hA0, m2 w1 hA0, m3 w1 hA0, m4 w1 hA0, m5 w1 hA0⟩ | exact ⟨h0 w4 hA4, h1 w4 hA4, h2 w4 hA4, h3 w4 hA4, m0 w4 hA4, m1 w4 hA4, m2 w4 hA4, m3 w4 hA4, m4 w4 hA4, m5 w4 hA4⟩)
        (first
          | (go_at_call 51; refine (HAP.out).mono ?_; rintro e w4 ⟨rfl, hb4⟩; have hA4 := ((Below.refl w1.heap.size w1).drew).trans hb4)
      )
      go_wp2_with fail
      go_ret3
      rw [HR.out, HNONE.out]
      exact ⟨rfl, HB1.out.trans (hA4.mono (by omega))⟩
    | some rr =>
      obtain ⟨out, nx⟩ := rr
      obtain ⟨N, hN⟩ : ∃ z, out.length = z := ⟨_, rfl⟩
      have HS0 := Lib.hid (show sng0 P l su gs p = some (out, (nx : Int)) by unfold sng0; rw [if_neg (by omega), if_pos k3, he]; rfl)
      have HAP := Lib.hid (show Calls Try.prog 51 #[.agg #[.int .i64 F.em, .slice F.GA F.gn F.gc, .slice F.MA F.mn F.mc, .slice F.LA F.ln F.lc, .slice F.FA F.fn F.fc, .slice F.SA F.sn F.sc], .agg #[.int .i64 l.ki, .int .i64 l.fl, .int .i64 l.se, .slice l.su.A l.su.n l.su.c], .slice A n c, .int .i64 (p : Int)] w1.drew (fun e w' => ∃ A c, e = .returned (.tuple #[.slice A N c, .int .i64 (nx : Int), .bool true]) ∧ GlsR w' w'.heap.size A N c out ∧ Below w1.drew.heap.size w1.drew w') from by
        have h0 := lapply_any F B P l A n c gs su p w1.drew (HF.out.below HBW.out.drew) (KsR.below HK.out HBW.out.drew) (HG.out.lig k3) (HI.out.below HBW.out.drew) (show B ≤ w1.heap.size by have := HB.out; omega) hp (by omega)
        rw [he] at h0
        rw [← hN]
        exact h0)
      have HN := Lib.hid hN
      clear k1 k2 k3 hN he
      go_enter Try.func42, Try.ntmps42
      go_upto_region 1 with fail
      rw [← HW_w1.out]
      go_upto_region 6 with fail
      go_region_held3 (fun W => W.cell? ⟨w.heap.size, 0, none⟩ = some (.int .i64 l.ki) ∧ W.cell? ⟨w.heap.size, 1, none⟩ = some (.int .i64 l.fl) ∧ W.cell? ⟨w.heap.size, 2, none⟩ = some (.int .i64 l.se) ∧ W.cell? ⟨w.heap.size, 3, none⟩ = some (.slice l.su.A l.su.n l.su.c) ∧ W.cell? ⟨bm, 0, none⟩ = some (.int .i64 F.em) ∧ W.cell? ⟨bm, 1, none⟩ = some (.slice F.GA F.gn F.gc) ∧ W.cell? ⟨bm, 2, none⟩ = some (.slice F.MA F.mn F.mc) ∧ W.cell? ⟨bm, 3, none⟩ = some (.slice F.LA F.ln F.lc) ∧ W.cell? ⟨bm, 4, none⟩ = some (.slice F.FA F.fn F.fc) ∧ W.cell? ⟨bm, 5, none⟩ = some (.slice F.SA F.sn F.sc)) (first | exact ⟨h0 w1 hA0, h1 w1 hA0, h2 w1 hA0, h3 w1 hA0, m0 w1 hA0, m1 w1 hA0, m2 w1 hA0, m3 w1 hA0, m4 w1 hA0, m5 w1 hA0⟩ | exact ⟨h0 w4 hA4, h1 w4 hA4, h2 w4 hA4, h3 w4 hA4, m0 w4 hA4, m1 w4 hA4, m2 w4 hA4, m3 w4 hA4, m4 w4 hA4, m5 w4 hA4⟩)
        (first
          | (go_at_call 51; refine (HAP.out).mono ?_; rintro e w4 ⟨A4, c4, rfl, hi4, hb4⟩; have hA4 := ((Below.refl w1.heap.size w1).drew).trans hb4)
      )
      have HO := Lib.hid hi4
      have hcap4 := hi4.cap
      clear hi4 hb4
      by_cases hbig : N ≤ 16384
      · have HSOME := Lib.hid (show sngB P l su gs p = some (out, (nx : Int)) by unfold sngB; rw [HS0.out]; show (if (out).length ≤ 16384 then _ else _) = _; rw [if_pos (by rw [HN.out]; exact hbig)])
        have q1 : decide ((16384 : Int) < (N : Int)) = false := by simp; omega
        have q2 : decide (16384 < N) = false := by simp; omega
        have hml := ml w4 hA4
        have hfr := (HM1.out.below hA4 (by omega)).free 6
        have s9 : IntKind.i64.wrap ((L : Int) - 1) = ((L - 1 : Nat) : Int) := by rw [IntKind.wrap_i64]; omega
        have HM4 := Lib.hid (HM1.out.below hA4 (by omega))
        go_wp2_with fail
        go_ret3
        rw [HR.out, HSOME.out]
        have hbut := (But.of (bm := bm) (HB1.out.trans (hA4.mono (by omega)))).trans (But.put bm w4 6 (.int .i64 ((L - 1 : Nat) : Int)))
        exact ⟨_, _, by rw [HN.out]; rfl, by rw [HN.out]; exact (HO.out.but HM4.out (But.put bm w4 6 _) (Nat.le_refl _)).more (by simp), HM4.out.put (L - 1), hbut⟩
      · have HNONE := Lib.hid (show sngB P l su gs p = none by unfold sngB; rw [HS0.out]; show (if (out).length ≤ 16384 then _ else _) = _; rw [if_neg (by rw [HN.out]; exact hbig)])
        have q1 : decide ((16384 : Int) < (N : Int)) = true := by simp; omega
        have q2 : decide (16384 < N) = true := by simp; omega
        go_wp2_with fail
        go_ret3
        rw [HR.out, HNONE.out]
        exact ⟨rfl, HB1.out.trans (hA4.mono (by omega))⟩
  have r3 : (l.ki == 3) = false := by simp [k3]
  by_cases k5 : l.ki = 5
  · have r5 : (l.ki == 5) = true := by simp [k5]
    cases he : revAp P l su gs p with
    | none =>
      have HS0 := Lib.hid (show sng0 P l su gs p = none by unfold sng0; rw [if_neg (by omega), if_neg k3, if_pos k5, he]; rfl)
      have HNONE := Lib.hid (show sngB P l su gs p = none by unfold sngB; rw [HS0.out])
      have HAP := Lib.hid (by
        have h0 := rvapply_any F B P l A n c gs su p w1.drew k5 (HF.out.below HBW.out.drew) (KsR.below HK.out HBW.out.drew) (HG.out.rev k5) (HI.out.below HBW.out.drew) (show B ≤ w1.heap.size by have := HB.out; omega) hp (by omega)
        rw [he] at h0
        exact h0)
      clear k1 k2 k3 k5
      go_enter Try.func42, Try.ntmps42
      go_upto_region 1 with fail
      rw [← HW_w1.out]
      go_upto_region 8 with fail
      go_region_held3 (fun W => W.cell? ⟨w.heap.size, 0, none⟩ = some (.int .i64 l.ki) ∧ W.cell? ⟨w.heap.size, 1, none⟩ = some (.int .i64 l.fl) ∧ W.cell? ⟨w.heap.size, 2, none⟩ = some (.int .i64 l.se) ∧ W.cell? ⟨w.heap.size, 3, none⟩ = some (.slice l.su.A l.su.n l.su.c) ∧ W.cell? ⟨bm, 0, none⟩ = some (.int .i64 F.em) ∧ W.cell? ⟨bm, 1, none⟩ = some (.slice F.GA F.gn F.gc) ∧ W.cell? ⟨bm, 2, none⟩ = some (.slice F.MA F.mn F.mc) ∧ W.cell? ⟨bm, 3, none⟩ = some (.slice F.LA F.ln F.lc) ∧ W.cell? ⟨bm, 4, none⟩ = some (.slice F.FA F.fn F.fc) ∧ W.cell? ⟨bm, 5, none⟩ = some (.slice F.SA F.sn F.sc)) (first | exact ⟨h0 w1 hA0, h1 w1 hA0, h2 w1 hA0, h3 w1 hA0, m0 w1 hA0, m1 w1 hA0, m2 w1 hA0, m3 w1 hA0, m4 w1 hA0, m5 w1 hA0⟩ | exact ⟨h0 w4 hA4, h1 w4 hA4, h2 w4 hA4, h3 w4 hA4, m0 w4 hA4, m1 w4 hA4, m2 w4 hA4, m3 w4 hA4, m4 w4 hA4, m5 w4 hA4⟩)
        (first
          | (go_at_call 52; refine (HAP.out).mono ?_; rintro e w4 ⟨A4, c4, rfl, hb4⟩; have hA4 := ((Below.refl w1.heap.size w1).drew).trans hb4)
      )
      go_wp2_with fail
      go_ret3
      rw [HR.out, HNONE.out]
      exact ⟨rfl, HB1.out.trans (hA4.mono (by omega))⟩
    | some out =>
      have HS0 := Lib.hid (show sng0 P l su gs p = some (out, (p : Int) + 1) by unfold sng0; rw [if_neg (by omega), if_neg k3, if_pos k5, he]; rfl)
      have HAP := Lib.hid (by
        have h0 := rvapply_any F B P l A n c gs su p w1.drew k5 (HF.out.below HBW.out.drew) (KsR.below HK.out HBW.out.drew) (HG.out.rev k5) (HI.out.below HBW.out.drew) (show B ≤ w1.heap.size by have := HB.out; omega) hp (by omega)
        rw [he] at h0
        exact h0)
      have hlo : out.length = n := by
        obtain ⟨i, g, s, h1, h2, h3⟩ : ∃ (i : Nat) (g : Gl) (s : PSu), su[i]? = some s ∧ gs[p]? = some g ∧ out = revOut s gs p g := by
          unfold revAp at he
          split at he
          · cases he
          · split at he
            · rename_i s g h1 h2; cases he; exact ⟨_, g, s, h1, h2, rfl⟩
            · cases he
        rw [h3]
        unfold revOut
        split
        · rename_i z _ _
          have h4 := congrArg List.length (split_at h2)
          rw [HGL.out] at h4
          simp at h4 ⊢
          omega
        · exact HGL.out
      have sp : IntKind.i64.wrap ((p : Int) + 1) = (p : Int) + 1 := by rw [IntKind.wrap_i64]; omega
      clear k1 k2 k3 k5 he
      have HLO := Lib.hid hlo
      obtain ⟨N, hN⟩ : ∃ z, n = z := ⟨_, rfl⟩
      have HN := Lib.hid (show out.length = N by rw [hlo, hN])
      have HNN := Lib.hid hN
      clear hN hlo
      go_enter Try.func42, Try.ntmps42
      go_upto_region 1 with fail
      rw [← HW_w1.out]
      go_upto_region 8 with fail
      go_region_held3 (fun W => W.cell? ⟨w.heap.size, 0, none⟩ = some (.int .i64 l.ki) ∧ W.cell? ⟨w.heap.size, 1, none⟩ = some (.int .i64 l.fl) ∧ W.cell? ⟨w.heap.size, 2, none⟩ = some (.int .i64 l.se) ∧ W.cell? ⟨w.heap.size, 3, none⟩ = some (.slice l.su.A l.su.n l.su.c) ∧ W.cell? ⟨bm, 0, none⟩ = some (.int .i64 F.em) ∧ W.cell? ⟨bm, 1, none⟩ = some (.slice F.GA F.gn F.gc) ∧ W.cell? ⟨bm, 2, none⟩ = some (.slice F.MA F.mn F.mc) ∧ W.cell? ⟨bm, 3, none⟩ = some (.slice F.LA F.ln F.lc) ∧ W.cell? ⟨bm, 4, none⟩ = some (.slice F.FA F.fn F.fc) ∧ W.cell? ⟨bm, 5, none⟩ = some (.slice F.SA F.sn F.sc)) (first | exact ⟨h0 w1 hA0, h1 w1 hA0, h2 w1 hA0, h3 w1 hA0, m0 w1 hA0, m1 w1 hA0, m2 w1 hA0, m3 w1 hA0, m4 w1 hA0, m5 w1 hA0⟩ | exact ⟨h0 w4 hA4, h1 w4 hA4, h2 w4 hA4, h3 w4 hA4, m0 w4 hA4, m1 w4 hA4, m2 w4 hA4, m3 w4 hA4, m4 w4 hA4, m5 w4 hA4⟩)
        (first
          | (go_at_call 52; refine (HAP.out).mono ?_; rintro e w4 ⟨A4, c4, rfl, -, hi4, hb4⟩; have hA4 := ((Below.refl w1.heap.size w1).drew).trans hb4)
      )
      have HO := Lib.hid hi4
      rw [HNN.out] at HO ⊢
      have hcap4 := hi4.cap
      clear hi4 hb4
      by_cases hbig : N ≤ 16384
      · have HSOME := Lib.hid (show sngB P l su gs p = some (out, (p : Int) + 1) by unfold sngB; rw [HS0.out]; show (if (out).length ≤ 16384 then _ else _) = _; rw [if_pos (by rw [HN.out]; exact hbig)])
        have q1 : decide ((16384 : Int) < (N : Int)) = false := by simp; omega
        have q2 : decide (16384 < N) = false := by simp; omega
        have hml := ml w4 hA4
        have hfr := (HM1.out.below hA4 (by omega)).free 6
        have s9 : IntKind.i64.wrap ((L : Int) - 1) = ((L - 1 : Nat) : Int) := by rw [IntKind.wrap_i64]; omega
        have HM4 := Lib.hid (HM1.out.below hA4 (by omega))
        go_wp2_with fail
        go_ret3
        rw [HR.out, HSOME.out]
        have hbut := (But.of (bm := bm) (HB1.out.trans (hA4.mono (by omega)))).trans (But.put bm w4 6 (.int .i64 ((L - 1 : Nat) : Int)))
        exact ⟨_, _, by rw [HN.out]; rfl, by rw [HN.out]; exact (HO.out.but HM4.out (But.put bm w4 6 _) (Nat.le_refl _)).more (by simp), HM4.out.put (L - 1), hbut⟩
      · have HNONE := Lib.hid (show sngB P l su gs p = none by unfold sngB; rw [HS0.out]; show (if (out).length ≤ 16384 then _ else _) = _; rw [if_neg (by rw [HN.out]; exact hbig)])
        have q1 : decide ((16384 : Int) < (N : Int)) = true := by simp; omega
        have q2 : decide (16384 < N) = true := by simp; omega
        go_wp2_with fail
        go_ret3
        rw [HR.out, HNONE.out]
        exact ⟨rfl, HB1.out.trans (hA4.mono (by omega))⟩
  · skip
    have HS0 := Lib.hid (show sng0 P l su gs p = none by unfold sng0; rw [if_neg (by omega), if_neg k3, if_neg k5])
    have HNONE := Lib.hid (show sngB P l su gs p = none by unfold sngB; rw [HS0.out])
    have r5 : (l.ki == 5) = false := by simp [k5]
    clear k1 k2 k3 k5
    go_enter Try.func42, Try.ntmps42
    go_upto_region 1 with fail
    rw [← HW_w1.out]
    go_wp2_with fail
    go_ret3
    rw [HR.out, HNONE.out]
    exact ⟨rfl, HB1.out.trans (hA0.mono (by omega))⟩

end Go.Proofs.Ytngdolmmaiogiaa
