/- The walk of the law BracketsKeep. Condition: the table of last signs lies as laid. -/
import Derived.Test.YtbpaogmnaodcaaaDoorKeepD
namespace Go.Proofs.YtbpaogmnaodcaaaDoor
open Go.RowKit

set_option maxRecDepth 100000 in
set_option maxHeartbeats 4000000 in
theorem keep_walk (A A2 : Option Addr) (n c n2 c2 : Nat) (rs cs : List Int) (lv : Int) (bo : Bool) (w : World) (h : Runes w w.heap.size A n c rs) (h2 : Ints w w.heap.size A2 n2 c2 cs) (hL : Lasts w) (_hS : SortOk) :
    Calls Tryd.prog 6 #[.slice A n c, .slice A2 n2 c2, .agg #[.int .i64 lv, .bool bo]] w fun e w' => e = .returned (.bool true) ∧ Below w.heap.size w w' := by
  have hcap := h.cap
  have hcap2 := h2.cap
  have hpos := hL.pos
  have hb0 : Below w.heap.size w (w.alloc (.cells #[.int .i64 lv, .bool bo] 34)) := (Below.refl _ _).alloc (Nat.le_refl _) _
  obtain ⟨x0, x1⟩ := (cell2_lit w (.int .i64 lv) (.bool bo) 34 rfl)
  have hsz0 : (w.alloc (.cells #[.int .i64 lv, .bool bo] 34)).heap.size = w.heap.size + 1 := by simp
  have HI := Lib.hid h
  have HI2 := Lib.hid h2
  have HLA := Lib.hid hL
  clear h h2 hL
  obtain ⟨so, hso⟩ : ∃ x : Int, x = if bo then 2 else 1 := ⟨_, rfl⟩
  have hside : ∀ W, Calls Tryd.prog 16 #[.bool bo] W fun e w' => e = .returned (.int .i64 so) ∧ W = w' := fun W => by rw [hso]; exact side_any bo W
  have HSI := Lib.hid hside
  clear hside hso
  by_cases hlong : 150 < n ∨ 150 < n2
  · have HLG := Lib.hid hlong
    clear hlong x0 x1 hsz0
    have HB := Lib.hid hb0
    clear hb0
    go_enter Tryd.func6, Tryd.ntmps6
    go_wp2_with (go_at_call 8; refine (long_yes A A2 n c n2 c2 HLG.out _).mono ?_; rintro e w9 ⟨rfl, rfl⟩)
    go_ret
    exact ⟨rfl, HB.out⟩
  · have hn : ¬ 150 < n := by omega
    have hn2 : ¬ 150 < n2 := by omega
    have HNN := Lib.hid (And.intro hn hn2)
    clear hlong hn hn2
    by_cases hnn : n = n2
    · subst hnn
      have e0 : ((n : Int) != (n : Int)) = false := by simp
      go_enter Tryd.func6, Tryd.ntmps6
      go_wp2_with (go_at_call 8; refine (long_no A A2 n c n c2 HNN.out.1 HNN.out.2 _).mono ?_; rintro e w9 ⟨rfl, rfl⟩)
      generalize w.alloc (.cells #[.int .i64 lv, .bool bo] 34) = w2 at *
      have HB0 := Lib.hid hb0
      obtain ⟨outs, houts⟩ : ∃ z, z = rsv rs (wayOf lv) so cs (prsS rs cs) := ⟨_, rfl⟩
      have hres := resolve_any w.heap.size A A2 n c c2 rs cs lv so w2.drew (show Runes w2 _ _ _ _ _ from HI.out.below hb0) (Ints.drew (HI2.out.below hb0)) (by show w.heap.size ≤ w2.heap.size; omega) (by have := HNN.out; omega) (show Lasts w2 from HLA.out.below hb0 hpos)
      rw [← houts] at hres
      have HR := Lib.hid hres
      have HOU := Lib.hid houts
      clear hres houts hb0
      go_upto_region 3 with (fail)
      go_cut [7] (fun v7 W => ∃ (A5 : Option Addr) (c5 : Nat), v7 = .slice A5 n c5 ∧ Own W w2.heap.size 3 A5 n c5 outs ∧ Below w.heap.size w W)
      case first =>
        go_region_with (first
          | (go_at_call 16; refine (HSI.out _).mono ?_; rintro e w9 ⟨rfl, rfl⟩)
          | (go_at_call 15; refine HR.out.mono ?_; rintro e w5 ⟨A5, c5, rfl, ho5, hb5⟩))
        all_goals
          go_wp2_with fail
          go_meet
          exact ⟨A5, c5, rfl, ho5, HB0.out.drew.trans (hb5.mono (by show w.heap.size ≤ w2.heap.size; omega))⟩
      case rest =>
        obtain ⟨A5, c5, rfl, hout, hbw⟩ := hcut
        have hc5 := hout.cap
        have hsw := hbw.size
        have hpa := pairs_any w.heap.size A A2 n c c2 rs cs wc (HI.out.below hbw) (HI2.out.below hbw) hsw (by have := HNN.out; omega) (HLA.out.below hbw hpos) sort_any
        have hnest := fun l5 h1 h2 => nested_of (l := l5) HI.out.length (CS := cs) h1 h2
        have hone := fun l5 h1 h2 => prsS_one (rs := rs) (cs := cs) (l := l5) h1 h2
        obtain ⟨l, hl⟩ : ∃ l, l = prs 0 [] [] rs cs := ⟨_, rfl⟩
        rw [← hl] at hpa hnest hone
        have HPA := Lib.hid hpa
        have HNE := Lib.hid hnest
        have HONE := Lib.hid hone
        have HOT := Lib.hid hout
        have HBW := Lib.hid hbw
        clear hpa hl hnest hone x0 x1 hsz0 hout hbw
        go_wp2_with (go_at_call 10; refine HPA.out.mono ?_; rintro e w3 ⟨Ap, cp, l5, rfl, hperm, hpw, hrow, hb3⟩)
        have hne := HNE.out l5 hperm hpw
        have hou := HOU.out
        rw [← HONE.out l5 hperm hpw] at hou
        obtain ⟨m, hm⟩ : ∃ m, m = l.length := ⟨_, rfl⟩
        rw [← hm] at hrow ⊢
        have hs3 := hb3.size
        have hpc := hrow.cap
        have HROW := Lib.hid hrow
        have HNES := Lib.hid hne
        have HOUT := Lib.hid (show outs = rsv rs (wayOf lv) so cs l5 from hou)
        have hbw3 := HBW.out.trans (hb3.mono hsw)
        have HB3 := Lib.hid hbw3
        have HI3 := Lib.hid (HI.out.below hbw3)
        have HI23 := Lib.hid (HI2.out.below hbw3)
        have HL3 := Lib.hid (HLA.out.below hbw3 hpos)
        have HO3 := Lib.hid (HOT.out.below hb3 (Nat.le_refl _))
        have hsw3 := hbw3.size
        clear hrow hperm hpw hm hb3 hne hou HONE HNE HPA HOU HOT HBW hbw3
        go_loopw [9] (fun v9 wr => ∃ k q : Nat, v9 = .int .i64 (k : Int) ∧ k ≤ m ∧ wr = w3.drewN q) (fun v9 _ => m - (intOf v9).toNat)
        case atStart => exact ⟨0, 0, rfl, Nat.zero_le _, rfl⟩
        case round =>
          obtain ⟨k, q, rfl, hk, rfl⟩ := hrel
          by_cases hlt : k < m
          · obtain ⟨p, hp⟩ : ∃ p, l5[k]? = some p := ⟨_, List.getElem?_eq_getElem (by rw [HROW.out.1]; exact hlt)⟩
            obtain ⟨a, b, rfl, hab, hbn, _⟩ := HNES.out.at_ k p hp
            have hal := rsv_alike HNES.out (wayOf lv) so k a b hp
            rw [← HOUT.out] at hal
            obtain ⟨_, gp, rfl, hg1, hg2, ca, cb⟩ := HROW.out.at_ hp
            obtain ⟨g5, y, rfl, hg51, hg52, hya, oa, _⟩ := HO3.out.at_ (k := a) (by omega)
            obtain ⟨_, y2, e9, _, _, hyb, ob, _⟩ := HO3.out.at_ (k := b) hbn
            cases e9
            rw [hya, hyb] at hal
            cases hal
            simp only at ca cb
            have i1 : decide ((a : Int) < 0) = false := by simp
            have i2 : decide ((b : Int) < 0) = false := by simp
            have i3 : decide ((n : Int) ≤ (a : Int)) = false := by simp; omega
            have i4 : decide ((n : Int) ≤ (b : Int)) = false := by simp; omega
            have j3 : ¬ n ≤ a := by omega
            have j4 : ¬ n ≤ b := by omega
            have i5 : (y != y) = false := by simp
            have han : a < n := by omega
            clear hp hya hyb
            go_wp2_with fail
            go_quiet (fail)
            go_wp2_with fail
            go_quiet (fail)
            go_wp2_with fail
            go_roundw
            case rel => exact ⟨k + 1, _, by go_num, by omega, rfl⟩
            case measure => simp [intOf]; omega
          · have hge : m ≤ k := by omega
            go_wp2_with fail
            have HB4 := Lib.hid (below_drewN (Below.refl w3.heap.size w3) q)
            generalize w3.drewN q = w4 at *
            go_loopw [12] (fun v12 wr => ∃ i : Nat, v12 = .int .i64 (i : Int) ∧ i ≤ n ∧ Below w3.heap.size w3 wr) (fun v12 _ => n - (intOf v12).toNat)
            case atStart => exact ⟨0, rfl, Nat.zero_le _, HB4.out⟩
            case round =>
              obtain ⟨i, rfl, hi, hbel⟩ := hrel
              have hsr := hbel.size
              by_cases hlt2 : i < n
              · obtain ⟨g5, y, rfl, hg51, hg52, hy, oy, _⟩ := (HO3.out.below hbel (Nat.le_refl _)).at_ hlt2
                obtain ⟨z, hz⟩ : ∃ z, cs[i]? = some z := ⟨_, List.getElem?_eq_getElem (by rw [HI2.out.length]; exact hlt2)⟩
                obtain ⟨b2, o2, rfl, _, cz⟩ := (HI23.out.below (hbel.mono hsw3)).get hz
                have HBEL := Lib.hid hbel
                by_cases hyz : y = z
                · subst hyz
                  have e1 : (y != y) = false := by simp
                  clear hy hz hbel
                  go_wp2_with fail
                  go_quiet (fail)
                  go_wp2_with fail
                  go_roundw
                  case rel => exact ⟨i + 1, by go_num, by omega, below_drewN HBEL.out _⟩
                  case measure => simp [intOf]; omega
                · have hmt : mayTurn rs l5 i = true := rsv_turns HNES.out (wayOf lv) so i (by rw [← HOUT.out, hy, hz]; intro e; cases e; exact hyz rfl)
                  have hch := changes_any w.heap.size wc.heap.size A Ap n c m cp i rs l5 wr.drew (show Runes wr _ _ _ _ _ from HI3.out.below (hbel.mono hsw3)) (by show w.heap.size ≤ wr.heap.size; omega) (HROW.out.below hbel.drew (Nat.le_refl _)) hlt2 (show Lasts wr from HL3.out.below hbel (by omega))
                  rw [hmt] at hch
                  have HCH := Lib.hid hch
                  have e1 : (y != z) = true := by simpa using hyz
                  clear hy hz hbel hmt hch hyz
                  go_upto_region 18 with (fail)
                  go_cut [106] (fun c W => c = .bool false ∧ Below w3.heap.size w3 W)
                  case first =>
                    go_region_with (go_at_call 18; refine HCH.out.mono ?_; rintro e w7 ⟨rfl, hb7⟩)
                    all_goals
                      go_wp2_with fail
                      go_meet
                      exact ⟨rfl, HBEL.out.drew.trans (hb7.mono (by show w3.heap.size ≤ wr.heap.size; omega))⟩
                  case rest =>
                    obtain ⟨rfl, hb7⟩ := hcut
                    have HB7 := Lib.hid hb7
                    clear hb7
                    go_wp2_with fail
                    go_roundw
                    case rel => exact ⟨i + 1, by go_num, by omega, HB7.out⟩
                    case measure => simp [intOf]; omega
              · have hge2 : n ≤ i := by omega
                go_wp2_with fail
                go_ret
                exact ⟨rfl, HB3.out.trans (hbel.mono hsw3)⟩
    · have HNE := Lib.hid hnn
      clear hnn
      have d1 : ((n : Int) != (n2 : Int)) = true := by
        have h1 : (n : Int) ≠ (n2 : Int) := by have := HNE.out; omega
        simp [bne, h1]
      go_enter Tryd.func6, Tryd.ntmps6
      go_wp2_with (go_at_call 8; refine (long_no A A2 n c n2 c2 HNN.out.1 HNN.out.2 _).mono ?_; rintro e w9 ⟨rfl, rfl⟩)
      generalize w.alloc (.cells #[.int .i64 lv, .bool bo] 34) = w2 at *
      have HB0 := Lib.hid hb0
      clear hb0
      go_region_with (first
        | (go_at_call 16; refine (HSI.out _).mono ?_; rintro e w9 ⟨rfl, rfl⟩)
        | (go_at_call 15; refine (resolve_uneven A A2 n c n2 c2 lv so HNE.out _).mono ?_; rintro e w5 ⟨rfl, rfl⟩))
      all_goals
        go_wp2_with fail
        go_ret
        exact ⟨rfl, HB0.out.drew⟩

end Go.Proofs.YtbpaogmnaodcaaaDoor
