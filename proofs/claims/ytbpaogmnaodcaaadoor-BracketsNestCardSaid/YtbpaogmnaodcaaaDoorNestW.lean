/- The walk of the law BracketsNest. Condition: the table of last signs lies as laid. -/
import Derived.Test.YtbpaogmnaodcaaaDoorNestA
namespace Go.Proofs.YtbpaogmnaodcaaaDoor
open Go.RowKit

theorem propOf_open (r : Int) (ho : opOf r = true) (w : World) (h : Lasts w) : Calls Tryd.prog 13 #[.int .i32 r] w fun e w' =>
    ∃ b c k s j d m p : Int, e = .returned (.agg #[.int .i64 b, .int .i64 c, .int .i64 k, .int .i64 s, .int .i64 j, .int .i64 d, .int .i32 m, .int .i32 p, .bool true]) ∧ Below w.heap.size w w' :=
  (propOf_lit r w h).mono fun _ _ ⟨c, k, s, j, d, m, he, hb⟩ => ⟨biOf r, c, k, s, j, d, m, paOf r, by rw [he, ho], hb⟩
theorem propOf_close (r : Int) (ho : opOf r = false) (hp : paOf r ≠ 0) (w : World) (h : Lasts w) : Calls Tryd.prog 13 #[.int .i32 r] w fun e w' =>
    ∃ b c k s j d m p : Int, (p == 0) = false ∧ e = .returned (.agg #[.int .i64 b, .int .i64 c, .int .i64 k, .int .i64 s, .int .i64 j, .int .i64 d, .int .i32 m, .int .i32 p, .bool false]) ∧ Below w.heap.size w w' :=
  (propOf_lit r w h).mono fun _ _ ⟨c, k, s, j, d, m, he, hb⟩ => ⟨biOf r, c, k, s, j, d, m, paOf r, by simpa using hp, by rw [he, ho], hb⟩

set_option maxRecDepth 100000 in
set_option maxHeartbeats 4000000 in
theorem nest_walk (A A2 : Option Addr) (n c n2 c2 : Nat) (rs cs : List Int) (w : World) (h : Runes w w.heap.size A n c rs) (h2 : Ints w w.heap.size A2 n2 c2 cs) (hL : Lasts w) (hS : SortOk) :
    Calls Tryd.prog 4 #[.slice A n c, .slice A2 n2 c2] w fun e w' => e = .returned (.bool true) ∧ Below w.heap.size w w' := by
  have hcap := h.cap
  have hcap2 := h2.cap
  have hpos := hL.pos
  have HI := Lib.hid h
  have HI2 := Lib.hid h2
  have HLA := Lib.hid hL
  clear h h2 hL
  by_cases hlong : 150 < n ∨ 150 < n2
  · have HLG := Lib.hid hlong
    clear hlong
    go_enter Tryd.func4, Tryd.ntmps4
    go_wp2_with (first
      | (go_at_call 12; refine (alive_any _ HLA.out).mono ?_; rintro e w1 ⟨rfl, hb1⟩)
      | (go_at_call 8; refine (long_yes A A2 n c n2 c2 HLG.out _).mono ?_; rintro e w9 ⟨rfl, rfl⟩))
    go_ret
    exact ⟨rfl, hb1⟩
  · have hn : ¬ 150 < n := by omega
    have hn2 : ¬ 150 < n2 := by omega
    have HNN := Lib.hid (And.intro hn hn2)
    clear hlong hn hn2
    by_cases hnn : n = n2
    · subst hnn
      have hpr := fun W (hb : Below w.heap.size w W) => pairs_any w.heap.size A A2 n c c2 rs cs W (HI.out.below hb) (HI2.out.below hb) hb.size (by have := HNN.out; omega) (HLA.out.below hb hpos) hS
      have hnest := fun l5 => nested_of (l := l5) HI.out.length (CS := cs)
      obtain ⟨l, hl⟩ : ∃ l, l = prs 0 [] [] rs cs := ⟨_, rfl⟩
      rw [← hl] at hpr hnest
      obtain ⟨m, hm⟩ : ∃ m, m = l.length := ⟨_, rfl⟩
      have HPR := Lib.hid hpr
      have HNE := Lib.hid hnest
      have HM := Lib.hid hm
      clear hpr hnest hl hm
      go_enter Tryd.func4, Tryd.ntmps4
      go_wp2_with (first
        | (go_at_call 12; refine (alive_any _ HLA.out).mono ?_; rintro e w1 ⟨rfl, hb1⟩)
        | (go_at_call 8; refine (long_no A A2 n c n c2 HNN.out.1 HNN.out.2 _).mono ?_; rintro e w9 ⟨rfl, rfl⟩)
        | (go_at_call 10; refine (HPR.out _ hb1).mono ?_; rintro e w3 ⟨Ap, cp, l5, rfl, hperm, hpw, hrow, hb3⟩))
      rw [← HM.out] at hrow ⊢
      have hne := HNE.out l5 hperm hpw
      have hpc := hrow.cap
      have HROW := Lib.hid hrow
      have HNES := Lib.hid hne
      have hbw := hb1.trans (hb3.mono hb1.size)
      have HI3 := Lib.hid (HI.out.below hbw)
      have HI23 := Lib.hid (HI2.out.below hbw)
      have hls := HLA.out.below hbw hpos
      have HL3 := Lib.hid hls
      have HBW := Lib.hid hbw
      have hsw := hbw.size
      clear hperm hpw hrow hne hbw hb1 hb3 hls
      go_loopw [6] (fun v6 wr => ∃ k : Nat, v6 = .int .i64 (k : Int) ∧ k ≤ m ∧ Below w3.heap.size w3 wr) (fun v6 _ => m - (intOf v6).toNat)
      case atStart => exact ⟨0, rfl, Nat.zero_le _, Below.refl _ _⟩
      case round =>
        obtain ⟨k, rfl, hk, hbel⟩ := hrel
        have hsr := hbel.size
        by_cases hlt : k < m
        · obtain ⟨p, hp⟩ : ∃ p, l5[k]? = some p := ⟨_, List.getElem?_eq_getElem (by rw [HROW.out.1]; exact hlt)⟩
          obtain ⟨a, b, rfl, hab, hbn, ⟨x, hx, hxc, hxo⟩, ⟨y, hy, hyc, hyo, hyp⟩⟩ := HNES.out.at_ k p hp
          obtain ⟨_, g, rfl, hg1, hg2, ca, cb⟩ := (HROW.out.below hbel (Nat.le_refl _)).at_ hp
          have hrb := Below.mono hbel hsw
          obtain ⟨bt, ot, rfl, hbt, hcx⟩ := (HI3.out.below hrb).get hx
          obtain ⟨_, _, e9, _, hcy⟩ := (HI3.out.below hrb).get hy
          cases e9
          obtain ⟨bc, oc, rfl, hbc, hca⟩ := (HI23.out.below hrb).get hxc
          obtain ⟨_, _, e9, _, hcb⟩ := (HI23.out.below hrb).get hyc
          cases e9
          have HLW := Lib.hid (HL3.out.below hrb hpos)
          have HP := Lib.hid hp
          have HX := Lib.hid hx
          have HY := Lib.hid (And.intro hy (And.intro hyo hyp))
          simp only at ca cb
          have hox := fun W hl => propOf_open x hxo W hl
          have hoy := fun W hl => propOf_close y hyo hyp W hl
          have HOX := Lib.hid hox
          have HOY := Lib.hid hoy
          have HBEL := Lib.hid hbel
          have i1 : decide ((a : Int) < 0) = false := by simp
          have i2 : decide ((b : Int) ≤ (a : Int)) = false := by simp; omega
          have i3 : decide ((n : Int) ≤ (b : Int)) = false := by simp; omega
          have i4 : ((14 : Int) != 14) = false := by simp
          have han : a < n := by omega
          clear hp hx hxc hxo hy hyc hyo hyp hbel hrb hox hoy
          go_wp2_with fail
          go_quiet (fail)
          have HB4 := Lib.hid (below_drewN HBEL.out nq)
          have HROW4 := Lib.hid (HROW.out.below HB4.out (Nat.le_refl _))
          have HLW4 := Lib.hid (show Lasts (wr.drewN nq) from HLW.out)
          have cx4 : (wr.drewN nq).cell? ⟨bt, ot + a, none⟩ = some (.int .i32 x) := hcx
          have cy4 : (wr.drewN nq).cell? ⟨bt, ot + b, none⟩ = some (.int .i32 y) := hcy
          have ca4 : (wr.drewN nq).cell? ⟨bc, oc + a, none⟩ = some (.int .i64 14) := hca
          have cb4 : (wr.drewN nq).cell? ⟨bc, oc + b, none⟩ = some (.int .i64 14) := hcb
          clear hcx hcy hca hcb ca cb HBEL HLW
          generalize wr.drewN nq = w4 at *
          have hs4 := HB4.out.size
          have hkeep : (∃ k', k = k' + 1 ∧ ∃ pa : Int × Int, w4.cell? ⟨g, k' * 2, none⟩ = some (.int .i64 pa.1) ∧ decide ((a : Int) ≤ pa.1) = false) ∨ k = 0 := by
            rcases k with _ | k'
            · right; rfl
            · left
              obtain ⟨q, hq⟩ : ∃ q, l5[k']? = some q := ⟨_, List.getElem?_eq_getElem (by rw [HROW.out.1]; omega)⟩
              obtain ⟨_, _, e9, _, _, c5, _⟩ := HROW4.out.at_ hq
              cases e9
              have := (HNES.out.two k' (k' + 1) _ _ (by omega) hq HP.out).1
              exact ⟨k', rfl, q, c5, by simp at this ⊢; omega⟩
          have ho4 : ot + a ≤ ot + b := by omega
          have f8 : ∀ (W : World) (p1 p2 p3 p4 p5 p6 p7 p8 : Int) (o : Bool), Sem.run Tryd.prog (Instr.field 31 (.agg #[.int .i64 p1, .int .i64 p2, .int .i64 p3, .int .i64 p4, .int .i64 p5, .int .i64 p6, .int .i32 p7, .int .i32 p8, .bool o]) 8) W = Result.ok (.bool o) W := fun _ _ _ _ _ _ _ _ _ _ => by kernel_rfl
          have f7 : ∀ (W : World) (p1 p2 p3 p4 p5 p6 p7 p8 : Int) (o : Bool), Sem.run Tryd.prog (Instr.field 31 (.agg #[.int .i64 p1, .int .i64 p2, .int .i64 p3, .int .i64 p4, .int .i64 p5, .int .i64 p6, .int .i32 p7, .int .i32 p8, .bool o]) 7) W = Result.ok (.int .i32 p8) W := fun _ _ _ _ _ _ _ _ _ _ => by kernel_rfl
          rcases hkeep with ⟨k', hk', ⟨pa, pa2⟩, c5, i5⟩ | hk0
          · subst hk'
            have i6 : decide ((0 : Int) < ((k' + 1 : Nat) : Int)) = true := by simp <;> omega
            have i7 : IntKind.i64.wrap (((k' + 1 : Nat) : Int) - 1) = (k' : Int) := by rw [IntKind.wrap_i64]; omega
            have hkm : k' < m := by omega
            simp only at c5 i5
            have HM1 := Lib.hid (show True from trivial)
            go_wp2_with (first
              | (go_at_call_of 13 (Value.int .i32 x); refine (HOX.out _ HLW4.out).mono ?_; rintro e w5 ⟨p1, p2, p3, p4, p5, p6, p7, p8, rfl, hb5⟩; have cy5 := ((hb5.cell (p := ⟨bt, ot + b, none⟩) (by show bt < w4.heap.size; omega)).trans cy4); have HL5 := Lib.hid (HLW4.out.below hb5 (by omega)))
              | (go_at_call_of 13 (Value.int .i32 y); clear HM1; refine (HOY.out _ HL5.out).mono ?_; rintro e w6 ⟨p1, p2, p3, p4, p5, p6, p7, p8, z1, rfl, hb6⟩; have cy6 := ((hb6.cell (p := ⟨bt, ot + b, none⟩) (by have := hb5.size; show bt < w5.heap.size; omega)).trans cy5); have HL6 := Lib.hid (HL5.out.below hb6 (by have := hb5.size; omega)))
              | (go_at_call_of 13 (Value.int .i32 y); refine (HOY.out _ HL6.out).mono ?_; rintro e w7 ⟨p1, p2, p3, p4, p5, p6, p7, p8, z2, rfl, hb7⟩))
            have HB7 := Lib.hid (HB4.out.trans ((hb5.mono hs4).trans ((hb6.mono (Nat.le_trans hs4 hb5.size)).trans (hb7.mono (Nat.le_trans hs4 (Nat.le_trans hb5.size hb6.size))))))
            have HROW7 := Lib.hid (HROW.out.below HB7.out (Nat.le_refl _))
            have hg7 := HB7.out.size
            clear hb5 hb6 hb7 cy5 cy6 cx4 cy4 ca4 cb4 z1 z2 c5 i5 i6 i7
            go_loopw [9] (fun v9 wr5 => ∃ (j q : Nat), v9 = .int .i64 (j : Int) ∧ (k' + 1) < j ∧ j ≤ m ∧ wr5 = w7.drewN q) (fun v9 _ => m - (intOf v9).toNat)
            case atStart => exact ⟨(k' + 1) + 1, 0, by go_num, by omega, by omega, rfl⟩
            case round =>
              obtain ⟨j, q7, rfl, hkj, hjm, rfl⟩ := hrel
              by_cases hlt2 : j < m
              · obtain ⟨q, hq⟩ : ∃ q, l5[j]? = some q := ⟨_, List.getElem?_eq_getElem (by rw [HROW.out.1]; exact hlt2)⟩
                obtain ⟨a2, b2, rfl, hab2, hbn2, ⟨x2, hx2, _, hxo2⟩, _⟩ := HNES.out.at_ j q hq
                obtain ⟨t1, t2, t3⟩ := HNES.out.two (k' + 1) j _ _ hkj HP.out hq
                simp only at t1 t2 t3
                have hne : a2 ≠ b := by
                  rintro rfl
                  have h1 := HY.out.1
                  rw [hx2] at h1
                  cases h1
                  have h2 := HY.out.2.1
                  rw [hxo2] at h2
                  cases h2
                obtain ⟨_, _, e9, _, _, ca2, cb2⟩ := HROW7.out.at_ hq
                cases e9
                simp only at ca2 cb2
                have j1 : ((b2 : Int) == (b : Int)) = false := by simp; omega
                have j2 : ((a2 : Int) == (b : Int)) = false := by simp; omega
                clear hq hx2 hxo2
                by_cases hab3 : a2 < b
                · have j3 : decide ((a2 : Int) < (b : Int)) = true := by simp; exact hab3
                  have j4 : decide ((b : Int) < (b2 : Int)) = false := by simp; omega
                  have j5 : ¬ b < b2 := by omega
                  clear t1 t2 t3 hne
                  go_wp2_with fail
                  go_quiet (fail)
                  go_wp2
                  go_roundw
                  case rel => exact ⟨j + 1, _, by go_num, by omega, by omega, rfl⟩
                  case measure => simp [intOf]; omega
                · have j3 : decide ((a2 : Int) < (b : Int)) = false := by simp; omega
                  clear t1 t2 t3 hne
                  go_wp2_with fail
                  go_quiet (fail)
                  go_wp2
                  go_roundw
                  case rel => exact ⟨j + 1, _, by go_num, by omega, by omega, rfl⟩
                  case measure => simp [intOf]; omega
              · have hge2 : m ≤ j := by omega
                go_wp2_with fail
                go_roundw
                case rel => exact ⟨(k' + 1) + 1, by go_num, by omega, below_drewN HB7.out _⟩
                case measure => simp [intOf]; omega
          · subst hk0
            have HM1 := Lib.hid (show True from trivial)
            go_wp2_with (first
              | (go_at_call_of 13 (Value.int .i32 x); refine (HOX.out _ HLW4.out).mono ?_; rintro e w5 ⟨p1, p2, p3, p4, p5, p6, p7, p8, rfl, hb5⟩; have cy5 := ((hb5.cell (p := ⟨bt, ot + b, none⟩) (by show bt < w4.heap.size; omega)).trans cy4); have HL5 := Lib.hid (HLW4.out.below hb5 (by omega)))
              | (go_at_call_of 13 (Value.int .i32 y); clear HM1; refine (HOY.out _ HL5.out).mono ?_; rintro e w6 ⟨p1, p2, p3, p4, p5, p6, p7, p8, z1, rfl, hb6⟩; have cy6 := ((hb6.cell (p := ⟨bt, ot + b, none⟩) (by have := hb5.size; show bt < w5.heap.size; omega)).trans cy5); have HL6 := Lib.hid (HL5.out.below hb6 (by have := hb5.size; omega)))
              | (go_at_call_of 13 (Value.int .i32 y); refine (HOY.out _ HL6.out).mono ?_; rintro e w7 ⟨p1, p2, p3, p4, p5, p6, p7, p8, z2, rfl, hb7⟩))
            have HB7 := Lib.hid (HB4.out.trans ((hb5.mono hs4).trans ((hb6.mono (Nat.le_trans hs4 hb5.size)).trans (hb7.mono (Nat.le_trans hs4 (Nat.le_trans hb5.size hb6.size))))))
            have HROW7 := Lib.hid (HROW.out.below HB7.out (Nat.le_refl _))
            have hg7 := HB7.out.size
            clear hb5 hb6 hb7 cy5 cy6 cx4 cy4 ca4 cb4 z1 z2
            go_loopw [9] (fun v9 wr5 => ∃ (j q : Nat), v9 = .int .i64 (j : Int) ∧ 0 < j ∧ j ≤ m ∧ wr5 = w7.drewN q) (fun v9 _ => m - (intOf v9).toNat)
            case atStart => exact ⟨0 + 1, 0, by go_num, by omega, by omega, rfl⟩
            case round =>
              obtain ⟨j, q7, rfl, hkj, hjm, rfl⟩ := hrel
              by_cases hlt2 : j < m
              · obtain ⟨q, hq⟩ : ∃ q, l5[j]? = some q := ⟨_, List.getElem?_eq_getElem (by rw [HROW.out.1]; exact hlt2)⟩
                obtain ⟨a2, b2, rfl, hab2, hbn2, ⟨x2, hx2, _, hxo2⟩, _⟩ := HNES.out.at_ j q hq
                obtain ⟨t1, t2, t3⟩ := HNES.out.two 0 j _ _ hkj HP.out hq
                simp only at t1 t2 t3
                have hne : a2 ≠ b := by
                  rintro rfl
                  have h1 := HY.out.1
                  rw [hx2] at h1
                  cases h1
                  have h2 := HY.out.2.1
                  rw [hxo2] at h2
                  cases h2
                obtain ⟨_, _, e9, _, _, ca2, cb2⟩ := HROW7.out.at_ hq
                cases e9
                simp only at ca2 cb2
                have j1 : ((b2 : Int) == (b : Int)) = false := by simp; omega
                have j2 : ((a2 : Int) == (b : Int)) = false := by simp; omega
                clear hq hx2 hxo2
                by_cases hab3 : a2 < b
                · have j3 : decide ((a2 : Int) < (b : Int)) = true := by simp; exact hab3
                  have j4 : decide ((b : Int) < (b2 : Int)) = false := by simp; omega
                  have j5 : ¬ b < b2 := by omega
                  clear t1 t2 t3 hne
                  go_wp2_with fail
                  go_quiet (fail)
                  go_wp2
                  go_roundw
                  case rel => exact ⟨j + 1, _, by go_num, by omega, by omega, rfl⟩
                  case measure => simp [intOf]; omega
                · have j3 : decide ((a2 : Int) < (b : Int)) = false := by simp; omega
                  clear t1 t2 t3 hne
                  go_wp2_with fail
                  go_quiet (fail)
                  go_wp2
                  go_roundw
                  case rel => exact ⟨j + 1, _, by go_num, by omega, by omega, rfl⟩
                  case measure => simp [intOf]; omega
              · have hge2 : m ≤ j := by omega
                go_wp2_with fail
                go_roundw
                case rel => exact ⟨0 + 1, by go_num, by omega, below_drewN HB7.out _⟩
                case measure => simp [intOf]; omega
        · have hge : m ≤ k := by omega
          go_wp2_with fail
          go_ret
          exact ⟨rfl, HBW.out.trans (hbel.mono hsw)⟩
    · go_enter Tryd.func4, Tryd.ntmps4
      have HNE := Lib.hid hnn
      clear hnn
      go_wp2_with (first
        | (go_at_call 12; refine (alive_any _ HLA.out).mono ?_; rintro e w1 ⟨rfl, hb1⟩)
        | (go_at_call 8; refine (long_no A A2 n c n2 c2 HNN.out.1 HNN.out.2 _).mono ?_; rintro e w9 ⟨rfl, rfl⟩)
        | (go_at_call 10; refine (pairs_uneven A A2 n c n2 c2 HNE.out _).mono ?_; rintro e w3 ⟨rfl, rfl⟩))
      go_loop [6] (fun v6 => v6 = .int .i64 0) (fun _ => 0)
      case atStart => exact rfl
      case round =>
        subst hrel
        go_wp2_with fail
        go_ret
        exact ⟨rfl, hb1⟩

end Go.Proofs.YtbpaogmnaodcaaaDoor
