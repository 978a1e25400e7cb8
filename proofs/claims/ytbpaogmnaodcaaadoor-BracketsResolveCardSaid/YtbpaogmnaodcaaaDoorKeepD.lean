/- The walks of changes, of Resolve at lists of two lengths, and of the law BracketsKeep. Condition: the table of last signs lies as laid. -/
import Derived.Test.YtbpaogmnaodcaaaDoorKeepC
import Derived.Test.YtbpaogmnaodcaaaDoorNestA
import Derived.Deep.RegionWith
namespace Go.Proofs.YtbpaogmnaodcaaaDoor
open Go.RowKit

set_option maxHeartbeats 400000 in
theorem resolve_uneven (A A2 : Option Addr) (n c n2 c2 : Nat) (lv so : Int) (hnn : n ≠ n2) (w : World) :
    Calls Tryd.prog 15 #[.slice A n c, .slice A2 n2 c2, .int .i64 lv, .int .i64 so] w fun e w' => e = .returned (.slice none 0 0) ∧ w = w' := by
  have d1 : ((n : Int) != (n2 : Int)) = true := by
    have h1 : (n : Int) ≠ (n2 : Int) := by omega
    simp [bne, h1]
  clear hnn
  go_enter Tryd.func15, Tryd.ntmps15
  go_wp2_with fail
  go_ret
  exact ⟨rfl, rfl⟩

set_option maxRecDepth 100000 in
set_option maxHeartbeats 4000000 in
theorem changes_any (B base : Nat) (A Ap : Option Addr) (n c m cp i : Nat) (rs : List Int) (l : List (Int × Int)) (w : World) (h : Runes w B A n c rs) (hB : B ≤ w.heap.size) (hr : Row2 .i64 w base 29 Ap m cp l) (hi : i < n) (hL : Lasts w) :
    Calls Tryd.prog 18 #[.slice A n c, .slice Ap m cp, .int .i64 (i : Int)] w (RetV w (.bool (mayTurn rs l i))) := by
  have hcap := h.cap
  have hcapp := hr.cap
  have hpos := hL.pos
  have HI := Lib.hid h
  have HR := Lib.hid hr
  have HLA := Lib.hid hL
  obtain ⟨ans, hans⟩ : ∃ z, z = mayTurn rs l i := ⟨_, rfl⟩
  rw [← hans]
  unfold mayTurn at hans
  obtain ⟨tg, htg⟩ : ∃ z, z = back rs i := ⟨_, rfl⟩
  rw [← htg] at hans
  obtain ⟨ff, hff⟩ : ∃ f, f = fun p : Int × Int => decide (p.1 = (tg : Int)) || decide (p.2 = (tg : Int)) := ⟨_, rfl⟩
  rw [← hff] at hans
  have HFF := Lib.hid (show ∀ p, ff p = (decide (p.1 = (tg : Int)) || decide (p.2 = (tg : Int))) from fun p => by rw [hff])
  have HAN := Lib.hid hans
  have HTG := Lib.hid htg
  have f0 : ∀ (W : World) (p1 p2 p3 p4 p5 p6 p7 p8 : Int) (o : Bool), Sem.run Tryd.prog (Instr.field 31 (.agg #[.int .i64 p1, .int .i64 p2, .int .i64 p3, .int .i64 p4, .int .i64 p5, .int .i64 p6, .int .i32 p7, .int .i32 p8, .bool o]) 0) W = Result.ok (.int .i64 p1) W := fun _ _ _ _ _ _ _ _ _ _ => by kernel_rfl
  clear h hr hL hans htg hff
  go_enter Tryd.func18, Tryd.ntmps18
  go_wp2_with fail
  go_loopw [2] (fun v2 wr => ∃ j : Nat, v2 = .int .i64 (j : Int) ∧ j ≤ i ∧ back rs j = tg ∧ Below w.heap.size w wr) (fun v2 _ => (intOf v2).toNat)
  case atStart => exact ⟨i, rfl, Nat.le_refl _, HTG.out.symm, Below.refl _ _⟩
  case round =>
    obtain ⟨j, rfl, hj, hbk, hbel⟩ := hrel
    have HB := Lib.hid hbel
    by_cases hj0 : j = 0
    · obtain rfl : tg = j := by subst hj0; exact hbk.symm
      have d0 : decide ((0 : Int) < (tg : Int)) = false := by simp; omega
      have d1 : ¬ 0 < tg := by omega
      clear hbk hbel HTG hj0
      go_wp2_with fail
      have hbw := HB.out
      have hsz := hbw.size
      have HROW := Lib.hid (HR.out.below hbw (Nat.le_refl _))
      go_loop [7] (fun v7 => ∃ k : Nat, v7 = .int .i64 (k : Int) ∧ k ≤ m ∧ (l.drop k).any ff = ans) (fun v7 => m - (intOf v7).toNat)
      case atStart => exact ⟨0, rfl, Nat.zero_le _, HAN.out.symm⟩
      case round =>
        obtain ⟨k, rfl, hk, han⟩ := hrel
        by_cases hlt : k < m
        · obtain ⟨p, hp⟩ : ∃ p, l[k]? = some p := ⟨_, List.getElem?_eq_getElem (by rw [HROW.out.1]; exact hlt)⟩
          have hdr : l.drop k = p :: l.drop (k + 1) := by
            obtain ⟨h1, h2⟩ := List.getElem?_eq_some_iff.1 hp
            rw [← h2]; exact List.drop_eq_getElem_cons h1
          obtain ⟨_, gp, rfl, hg1, hg2, ca, cb⟩ := HROW.out.at_ hp
          rw [hdr, List.any_cons, HFF.out p] at han
          obtain ⟨p1, p2⟩ := p
          simp only at ca cb
          have HNX := Lib.hid han
          clear hdr hp han
          by_cases h1 : p1 = (tg : Int)
          · subst h1
            have e1 : ((tg : Int) == (tg : Int)) = true := by simp
            have han2 : ans = true := by rw [← HNX.out]; simp
            subst han2
            clear HNX
            go_wp2_with fail
            go_ret
            exact ⟨rfl, HB.out⟩
          · have e1 : (p1 == (tg : Int)) = false := by simpa using h1
            by_cases h2 : p2 = (tg : Int)
            · subst h2
              have e2 : ((tg : Int) == (tg : Int)) = true := by simp
              have han2 : ans = true := by rw [← HNX.out]; simp
              subst han2
              clear HNX h1
              go_wp2_with fail
              go_ret
              exact ⟨rfl, HB.out⟩
            · have e2 : (p2 == (tg : Int)) = false := by simpa using h2
              have hnx : (l.drop (k + 1)).any ff = ans := by rw [← HNX.out]; simp [h1, h2]
              have HNY := Lib.hid hnx
              clear hnx HNX h1 h2
              go_wp2_with fail
              go_round
              case rel => exact ⟨k + 1, by go_num, by omega, HNY.out⟩
              case measure => simp [intOf]; omega
        · have hge : m ≤ k := by omega
          have hdr : l.drop k = [] := List.drop_eq_nil_of_le (by rw [HROW.out.1]; exact hge)
          rw [hdr] at han
          have han2 : ans = false := by rw [← han]; rfl
          subst han2
          clear han hdr
          go_wp2_with fail
          go_ret
          exact ⟨rfl, HB.out⟩
    · obtain ⟨x, hx⟩ : ∃ x, rs[j]? = some x := ⟨_, List.getElem?_eq_getElem (by rw [HI.out.length]; omega)⟩
      obtain ⟨j', hjj⟩ : ∃ j', j = j' + 1 := ⟨j - 1, by omega⟩
      have HJ := Lib.hid hjj
      have hgd : rs.getD j 0 = x := by rw [List.getD_eq_getElem?_getD, hx]; rfl
      obtain ⟨b, o, rfl, hbb, hcx⟩ := (HI.out.below (hbel.mono hB)).get hx
      have HLW := Lib.hid (HLA.out.below hbel hpos)
      have hbk2 : (if biOf x = 9 then back rs j' else j) = tg := by rw [← hbk, ← hgd, hjj]; rfl
      clear hbk hjj
      obtain ⟨y, hy⟩ : ∃ y, y = biOf x := ⟨_, rfl⟩
      have hpr := fun W hl => propOf_class x y hy.symm W hl
      have HPR := Lib.hid hpr
      rw [← hy] at hbk2
      have d0 : decide ((0 : Int) < (j : Int)) = true := by simp; omega
      have hjn : j < n := by omega
      by_cases h9 : y = 9
      · subst h9
        rw [if_pos rfl] at hbk2
        have HBK := Lib.hid hbk2
        have d9 : ((9 : Int) == 9) = true := by simp
        clear hbk2 hgd hx hpr hy hbel
        go_wp2_with (go_at_call 13; refine (HPR.out _ HLW.out).mono ?_; rintro e w2 ⟨p1, p2, p3, p4, p5, p6, p7, p8, rfl, hb2⟩; have HB2 := Lib.hid (HB.out.trans (hb2.mono HB.out.size)); clear hb2)
        go_roundw
        case rel => exact ⟨j', by have h := HJ.out; subst h; go_num, by have h := HJ.out; omega, HBK.out, HB2.out⟩
        case measure => have h := HJ.out; subst h; simp [intOf]
      · rw [if_neg h9] at hbk2
        have d9 : (y == 9) = false := by simpa using h9
        clear h9 hgd hx hpr hy hbel
        obtain rfl : tg = j := hbk2.symm
        clear HTG
        have HB1 := Lib.hid HB.out
        clear HB
        go_wp2_with (go_at_call 13; refine (HPR.out _ HLW.out).mono ?_; rintro e w2 ⟨p1, p2, p3, p4, p5, p6, p7, p8, rfl, hb2⟩; have HB := Lib.hid (HB1.out.trans (hb2.mono HB1.out.size)); clear hb2)
        have hbw := HB.out
        have hsz := hbw.size
        have HROW := Lib.hid (HR.out.below hbw (Nat.le_refl _))
        go_loop [7] (fun v7 => ∃ k : Nat, v7 = .int .i64 (k : Int) ∧ k ≤ m ∧ (l.drop k).any ff = ans) (fun v7 => m - (intOf v7).toNat)
        case atStart => exact ⟨0, rfl, Nat.zero_le _, HAN.out.symm⟩
        case round =>
          obtain ⟨k, rfl, hk, han⟩ := hrel
          by_cases hlt : k < m
          · obtain ⟨p, hp⟩ : ∃ p, l[k]? = some p := ⟨_, List.getElem?_eq_getElem (by rw [HROW.out.1]; exact hlt)⟩
            have hdr : l.drop k = p :: l.drop (k + 1) := by
              obtain ⟨h1, h2⟩ := List.getElem?_eq_some_iff.1 hp
              rw [← h2]; exact List.drop_eq_getElem_cons h1
            obtain ⟨_, gp, rfl, hg1, hg2, ca, cb⟩ := HROW.out.at_ hp
            rw [hdr, List.any_cons, HFF.out p] at han
            obtain ⟨p1, p2⟩ := p
            simp only at ca cb
            have HNX := Lib.hid han
            clear hdr hp han
            by_cases h1 : p1 = (tg : Int)
            · subst h1
              have e1 : ((tg : Int) == (tg : Int)) = true := by simp
              have han2 : ans = true := by rw [← HNX.out]; simp
              subst han2
              clear HNX
              go_wp2_with fail
              go_ret
              exact ⟨rfl, HB.out⟩
            · have e1 : (p1 == (tg : Int)) = false := by simpa using h1
              by_cases h2 : p2 = (tg : Int)
              · subst h2
                have e2 : ((tg : Int) == (tg : Int)) = true := by simp
                have han2 : ans = true := by rw [← HNX.out]; simp
                subst han2
                clear HNX h1
                go_wp2_with fail
                go_ret
                exact ⟨rfl, HB.out⟩
              · have e2 : (p2 == (tg : Int)) = false := by simpa using h2
                have hnx : (l.drop (k + 1)).any ff = ans := by rw [← HNX.out]; simp [h1, h2]
                have HNY := Lib.hid hnx
                clear hnx HNX h1 h2
                go_wp2_with fail
                go_round
                case rel => exact ⟨k + 1, by go_num, by omega, HNY.out⟩
                case measure => simp [intOf]; omega
          · have hge : m ≤ k := by omega
            have hdr : l.drop k = [] := List.drop_eq_nil_of_le (by rw [HROW.out.1]; exact hge)
            rw [hdr] at han
            have han2 : ans = false := by rw [← han]; rfl
            subst han2
            clear han hdr
            go_wp2_with fail
            go_ret
            exact ⟨rfl, HB.out⟩

end Go.Proofs.YtbpaogmnaodcaaaDoor
