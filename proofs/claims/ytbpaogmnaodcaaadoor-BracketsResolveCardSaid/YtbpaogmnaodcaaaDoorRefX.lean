/- The walk of the reference's Resolve. Condition: two lists of one length, at most a thousand; the direction of the beginning is 1 or 2. -/
import Derived.Test.YtbpaogmnaodcaaaDoorRefV
import Derived.Test.YtbpaogmnaodcaaaDoorRefW
import Derived.Test.YtbpaogmnaodcaaaDoorKeepC
namespace Go.Proofs.YtbpaogmnaodcaaaDoor
open Go.RowKit

/-- what is left to give of both brackets -/
def sides (rs : List Int) (d : Int) (a b : Nat) : Nat → List Int → List Int
  | 0, l => giveOf rs d (giveOf rs d l a) b
  | 1, l => giveOf rs d l b
  | _, l => l
def spot (a b : Nat) (s : Nat) : Nat := if s = 0 then a else b
theorem sides_step (rs : List Int) (d : Int) (a b s : Nat) (hs : s < 2) (l : List Int) : sides rs d a b s l = sides rs d a b (s + 1) (giveOf rs d l (spot a b s)) := by
  match s, hs with
  | 0, _ => rfl
  | 1, _ => rfl
theorem rof_class (r b : Int) (hb : biOf r = b) (w : World) : Calls Tryd.prog 22 #[.int .i32 r] w fun e w' =>
    ∃ (c k s j d m p : Int) (o : Bool), e = .returned (.agg #[.int .i64 b, .int .i64 c, .int .i64 k, .int .i64 s, .int .i64 j, .int .i64 d, .int .i32 m, .int .i32 p, .bool o]) ∧ Below w.heap.size w w' :=
  (rof_any r w).mono fun _ _ ⟨c, k, s, j, d, m, he, hb'⟩ => ⟨c, k, s, j, d, m, paOf r, opOf r, by rw [he, hb], hb'⟩

set_option maxRecDepth 100000 in
set_option maxHeartbeats 8000000 in
theorem rresolve_any (B : Nat) (A A2 : Option Addr) (n c c2 : Nat) (rs cs : List Int) (lv so : Int) (w : World) (h : Runes w B A n c rs) (h2 : Ints w B A2 n c2 cs) (hB : B ≤ w.heap.size) (hn : n ≤ 1000) (hso : so = 1 ∨ so = 2) :
    Calls Tryd.prog 17 #[.slice A n c, .slice A2 n c2, .int .i64 lv, .int .i64 so] w (RetList w n (rsv rs (wayOf lv) so cs (prsS rs cs))) := by
  have hnn : ((n : Int) != (n : Int)) = false := by simp
  have hcap := h.cap
  have hcap2 := h2.cap
  obtain ⟨wy, hwy⟩ : ∃ z, z = wayOf lv := ⟨_, rfl⟩
  rw [← hwy]
  obtain ⟨tot, htot⟩ : ∃ z, z = rsv rs wy so cs (prsS rs cs) := ⟨_, rfl⟩
  rw [← htot]
  have HI := Lib.hid h
  have HI2 := Lib.hid h2
  have HWY := Lib.hid hwy
  have HWC := Lib.hid (show wy = 1 ∨ wy = 2 by rw [hwy]; exact wayOf_cases lv)
  have HSO := Lib.hid hso
  have HTOT := Lib.hid htot
  have HRL := Lib.hid h.length
  clear h h2 hwy hso htot
  go_enter Tryd.func17, Tryd.ntmps17
  go_upto_if 23 with (fail)
  go_cut [9] (fun v W => v = .int .i64 wy ∧ W = w)
  case first =>
    by_cases hlv : lv.tmod 2 = 0
    · have d1 : (lv.tmod 2 != 0) = false := by simpa using hlv
      have hw : wy = 1 := by rw [HWY.out]; unfold wayOf; rw [if_pos hlv]
      have HW := Lib.hid hw
      clear hlv hw
      go_wp2_with fail
      go_meet
      exact ⟨by rw [HW.out], rfl⟩
    · have d1 : (lv.tmod 2 != 0) = true := by simpa using hlv
      have hw : wy = 2 := by rw [HWY.out]; unfold wayOf; rw [if_neg hlv]
      have HW := Lib.hid hw
      clear hlv hw
      go_wp2_with fail
      go_meet
      exact ⟨by rw [HW.out], rfl⟩
  obtain ⟨hc1, hc2⟩ := hcut
  have hc3 := hc2.symm
  subst hc1
  subst hc3
  clear hc2
  obtain ⟨l, hl⟩ : ∃ l, l = prs 0 [] [] rs cs := ⟨_, rfl⟩
  have hnest := fun l5 h1 h2 => nested_of (l := l5) HI.out.length (CS := cs) h1 h2
  have hone := fun l5 h1 h2 => prsS_one (rs := rs) (cs := cs) (l := l5) h1 h2
  have hpa := fun W (hb : Below w.heap.size w W) => rpairs_any B A A2 n c c2 rs cs W (HI.out.below (hb.mono hB)) (HI2.out.below (hb.mono hB)) (Nat.le_trans hB hb.size) hn
  rw [← hl] at hpa hnest hone
  have HPA := Lib.hid hpa
  have HNE := Lib.hid hnest
  have HONE := Lib.hid hone
  clear hpa hl hnest hone
  go_wp2_with (first
    | (at_builtin; refine wpList_append_ints _ rfl (.tmp 24) (.tmp 25) 23 rfl w.heap.size 3 Tryd.underlying23 Tryd.infoInt none 0 0 [] rfl (Own.nil_ _ _ _) B A2 n c2 cs rfl HI2.out (by omega) (Nat.le_refl _) ?_; intro A3 c3 w1 ho1 hg1 _; rw [Nat.zero_add] at ho1; rw [List.nil_append] at ho1; have HO1 := Lib.hid ho1; have HB1 := Lib.hid ((Below.refl w.heap.size w).grown hg1 (Nat.le_refl _) (by intro g hg; cases hg)); clear ho1 hg1)
    | (go_at_call 11; refine (HPA.out _ HB1.out).mono ?_; rintro e w3 ⟨Ap, cp, l5, rfl, hperm, hpw, hrow, hb3⟩))
  have hne := HNE.out l5 hperm hpw
  have htot := HTOT.out
  rw [← HONE.out l5 hperm hpw] at htot
  obtain ⟨m, hm⟩ : ∃ m, m = l.length := ⟨_, rfl⟩
  rw [← hm] at hrow ⊢
  have hs1 := HB1.out.size
  have hs3 := hb3.size
  have hpc := hrow.cap
  have hoc := HO1.out.cap
  have HROW := Lib.hid hrow
  have HNES := Lib.hid hne
  have HT := Lib.hid htot
  have HO3 := Lib.hid (HO1.out.below hb3 (Nat.le_refl _))
  have HB0 := Lib.hid (HB1.out.trans (hb3.mono hs1))
  have HG3 := Lib.hid HO1.out.block
  clear hrow hperm hpw hm hb3 hne htot HTOT HONE HNE HPA HB1 HO1
  go_loopw [12] (fun v wr => ∃ (k : Nat) (cs' : List Int), v = .int .i64 (k : Int) ∧ k ≤ m ∧ rsv rs wy so cs' (l5.drop k) = tot ∧ Own wr w.heap.size 3 A3 n c3 cs' ∧ Only A3 w3 wr ∧ Below w.heap.size w wr ∧ w3.heap.size ≤ wr.heap.size) (fun v _ => m - (intOf v).toNat)
  case atStart => exact ⟨0, cs, rfl, Nat.zero_le _, HT.out.symm, HO3.out, Only.refl _ _, HB0.out, Nat.le_refl _⟩
  case round =>
    obtain ⟨k, cs', rfl, hk, hto, how, hon, hbel, hsr⟩ := hrel
    have hsw := hbel.size
    by_cases hlt : k < m
    · obtain ⟨p, hp⟩ : ∃ p, l5[k]? = some p := ⟨_, List.getElem?_eq_getElem (by rw [HROW.out.1]; exact hlt)⟩
      have hdr : l5.drop k = p :: l5.drop (k + 1) := by
        obtain ⟨h1, h2⟩ := List.getElem?_eq_some_iff.1 hp
        rw [← h2]; exact List.drop_eq_getElem_cons h1
      obtain ⟨a, b, rfl, hab, hbn, _⟩ := HNES.out.at_ k p hp
      rw [hdr] at hto
      have hto2 : rsv rs wy so (stepOf rs wy so cs' ((a : Int), (b : Int))) (l5.drop (k + 1)) = tot := hto
      have hA3 : ∃ g, A3 = some ⟨g, 0, none⟩ := by obtain ⟨g, _, h1, _⟩ := how.at_ (k := 0) (by omega); exact ⟨g, h1⟩
      obtain ⟨g, rfl⟩ := hA3
      obtain ⟨hg1, hg2⟩ := HG3.out g rfl
      have HAT := Lib.hid (show ∀ W, Only (some ⟨g, 0, none⟩) w3 W → ∃ gp, Ap = some ⟨gp, 0, none⟩ ∧ gp ≠ g ∧ W.cell? ⟨gp, k * 2, none⟩ = some (.int .i64 (a : Int)) ∧ W.cell? ⟨gp, k * 2 + 1, none⟩ = some (.int .i64 (b : Int)) from fun W hW => by
        obtain ⟨_, gp, h1, h2, _, h4, h5⟩ := (HROW.out.only hW (fun a ha => by cases ha; show g < w1.heap.size; omega)).at_ hp
        exact ⟨gp, h1, by omega, h4, h5⟩)
      obtain ⟨gp, rfl, hgp, ca, cb⟩ := HAT.out wr hon
      obtain ⟨d, hd⟩ : ∃ z, z = insideOf wy so cs' a b := ⟨_, rfl⟩
      have hin := way_any wr.heap.size (some ⟨g, 0, none⟩) n c3 a b cs' wy so wr how.ints (Nat.le_refl _) HWC.out HSO.out hab hbn
      rw [← hd] at hin
      unfold stepOf at hto2
      simp only [Int.toNat_natCast] at hto2
      rw [← hd] at hto2
      have HIN := Lib.hid hin
      have HTO := Lib.hid hto2
      have HOW := Lib.hid how
      have HON := Lib.hid hon
      have HBE := Lib.hid hbel
      have HRN := Lib.hid (show ∀ W, Below w.heap.size w W → Runes W B A n c rs from fun W hW => HI.out.below (hW.mono hB))
      clear hin hto hto2 how hon hbel hd hdr hp
      by_cases hd0 : d = 0
      · subst hd0
        rw [if_pos rfl] at HTO
        have e0 : ((0 : Int) == 0) = true := by simp
        go_wp2_with (go_at_call 30; refine HIN.out.mono ?_; rintro e w5 ⟨rfl, hb5⟩; have HB5 := Lib.hid hb5; clear hb5)
        go_roundw
        case rel => exact ⟨k + 1, cs', by go_num, by omega, HTO.out, HOW.out.below HB5.out (Nat.le_refl _), HON.out.below HB5.out (by omega), HBE.out.trans (HB5.out.mono (by omega)), by have := HB5.out.size; omega⟩
        case measure => simp [intOf]; omega
      · rw [if_neg hd0] at HTO
        have e0 : (d == 0) = false := by simpa using hd0
        clear hd0
        obtain ⟨nxt, hnxt⟩ : ∃ z, z = sides rs d a b 0 cs' := ⟨_, rfl⟩
        have HTO2 := Lib.hid (show rsv rs wy so nxt (l5.drop (k + 1)) = tot by rw [hnxt]; exact HTO.out)
        have HNX := Lib.hid hnxt
        clear hnxt HTO
        go_upto_region 14 with (go_at_call 30; refine HIN.out.mono ?_; rintro e w5 ⟨rfl, hb5⟩; have HB5 := Lib.hid hb5; clear hb5)
        have hs5 := HB5.out.size
        have HOW5 := Lib.hid (HOW.out.below HB5.out (Nat.le_refl _))
        have HON5 := Lib.hid (HON.out.below HB5.out (by omega))
        have HBE5 := Lib.hid (HBE.out.trans (HB5.out.mono (by omega)))
        clear HOW HON HBE HIN ca cb HB5
        obtain ⟨wo, hwo⟩ : ∃ wo : World, wo = wr := ⟨_, rfl⟩
        subst hwo
        go_wp2_with fail
        go_loopw [14] (fun v wr => ∃ (s : Nat) (cs'' : List Int), v = .int .i64 (s : Int) ∧ s ≤ 2 ∧ sides rs d a b s cs'' = nxt ∧ Own wr w.heap.size 3 (some ⟨g, 0, none⟩) n c3 cs'' ∧ Only (some ⟨g, 0, none⟩) w3 wr ∧ Below w.heap.size w wr ∧ w3.heap.size ≤ wr.heap.size) (fun v _ => 2 - (intOf v).toNat)
        case atStart => exact ⟨0, cs', rfl, by omega, HNX.out.symm, HOW5.out, HON5.out, HBE5.out, by omega⟩
        case round =>
          obtain ⟨s, cs'', rfl, hs, hto, how, hon, hbel, hsr2⟩ := hrel
          have hsw2 := hbel.size
          by_cases hlts : s < 2
          · obtain ⟨q, hq⟩ : ∃ q, q = spot a b s := ⟨_, rfl⟩
            have hqn : q < n := by rw [hq]; unfold spot; split <;> omega
            rw [sides_step rs d a b s hlts, ← hq] at hto
            have HCQ := Lib.hid (show ∀ W, Only (some ⟨g, 0, none⟩) w3 W → W.cell? ⟨gp, k * 2 + s, none⟩ = some (.int .i64 (q : Int)) from fun W hW => by
              obtain ⟨_, h1, _, h4, h5⟩ := HAT.out W hW
              cases h1
              rw [hq]
              match s, hlts with
              | 0, _ => exact h4
              | 1, _ => exact h5)
            obtain ⟨nx2, hnx2⟩ : ∃ z, z = giveOf rs d cs'' q := ⟨_, rfl⟩
            rw [← hnx2] at hto
            unfold giveOf at hnx2
            rw [HRL.out] at hnx2
            have cq := HCQ.out wr hon
            obtain ⟨_, _, e9, _, hg4, _, hc9, hf9⟩ := how.at_ hqn
            cases e9
            have HSO1 := Lib.hid (how.set (k := q) d)
            have HSU := Lib.hid (hon.set (k := q) (.int .i64 d))
            have HSB := Lib.hid (hbel.setCell (p := ⟨g, q, none⟩) (show w.heap.size ≤ g by omega) (.int .i64 d))
            have cq2 := HCQ.out _ HSU.out
            have HTO3 := Lib.hid hto
            have HNX2 := Lib.hid hnx2
            have dlt2 : decide ((s : Int) < 2) = true := by simp; omega
            have hsz2 : w3.heap.size ≤ (wr.setCell ⟨g, q, none⟩ (.int .i64 d)).heap.size := by simpa using hsr2
            clear hto hnx2 how hon hbel hq
            go_upto_region 18 with (fail)
            clear cq hc9 hf9
            generalize wr.setCell ⟨g, q, none⟩ (.int .i64 d) = w6 at *
            go_wp2_with fail
            obtain ⟨wo2, hwo2⟩ : ∃ wo2 : World, wo2 = wr := ⟨_, rfl⟩
            subst hwo2
            go_loopw [15] (fun v15 wr => ∃ (i : Nat) (c5 : List Int), v15 = .int .i64 (i : Int) ∧ i ≤ n ∧ giveFrom rs d (n - i) c5 i = nx2 ∧ Own wr w.heap.size 3 (some ⟨g, 0, none⟩) n c3 c5 ∧ Only (some ⟨g, 0, none⟩) w3 wr ∧ Below w.heap.size w wr ∧ w3.heap.size ≤ wr.heap.size) (fun v15 _ => n - (intOf v15).toNat)
            case atStart => exact ⟨q + 1, _, by go_num, by omega, HNX2.out.symm, HSO1.out, HSU.out, HSB.out, hsz2⟩
            case round =>
              obtain ⟨i, c5, rfl, hi, hto, how, hon, hbel, hsr3⟩ := hrel
              have hsw3 := hbel.size
              by_cases hlt3 : i < n
              · obtain ⟨x, hx⟩ : ∃ x, rs[i]? = some x := ⟨_, List.getElem?_eq_getElem (by rw [HRL.out]; exact hlt3)⟩
                have hgd : rs.getD i 0 = x := by rw [List.getD_eq_getElem?_getD, hx]; rfl
                obtain ⟨bt, ot, rfl, hbb2, hcx⟩ := (HRN.out wr hbel).get hx
                rw [show n - i = (n - (i + 1)) + 1 by omega, giveFrom, hgd] at hto
                have HX := Lib.hid hto
                have HOW7 := Lib.hid how
                have HON7 := Lib.hid hon
                have HBE7 := Lib.hid hbel
                obtain ⟨y, hy⟩ : ∃ y, y = biOf x := ⟨_, rfl⟩
                have HPR := Lib.hid (fun W => rof_class x y hy.symm W)
                have f0 : ∀ (W : World) (p1 p2 p3 p4 p5 p6 p7 p8 : Int) (o : Bool), Sem.run Tryd.prog (Instr.field 31 (.agg #[.int .i64 p1, .int .i64 p2, .int .i64 p3, .int .i64 p4, .int .i64 p5, .int .i64 p6, .int .i32 p7, .int .i32 p8, .bool o]) 0) W = Result.ok (.int .i64 p1) W := fun _ _ _ _ _ _ _ _ _ _ => by kernel_rfl
                rw [← hy] at HX
                clear hto hx hgd hy how hon hbel
                by_cases h9 : y = 9
                · subst h9
                  have d9 : ((9 : Int) == 9) = true := by simp
                  have hlt' : i < rs.length ∧ (9 : Int) = 9 := ⟨by rw [HRL.out]; exact hlt3, rfl⟩
                  rw [if_pos hlt'] at HX
                  clear hlt'
                  go_wp2_with (go_at_call 22; refine (HPR.out _).mono ?_; rintro e w8 ⟨p1, p2, p3, p4, p5, p6, p7, p8, rfl, hb8⟩; have HO8 := Lib.hid (HOW7.out.below hb8 (Nat.le_refl _)); have HB8 := Lib.hid hb8; have hs8 := hb8.size; obtain ⟨_, _, e9, _, _, _, hc8, hf8⟩ := HO8.out.at_ hlt3; cases e9; clear hb8)
                  go_roundw
                  case rel => exact ⟨i + 1, _, by go_num, by omega, HX.out, HO8.out.set d, (HON7.out.below HB8.out (by omega)).set _, (HBE7.out.trans (HB8.out.mono (by omega))).setCell (show w.heap.size ≤ g by omega) _, by simp; omega⟩
                  case measure => simp [intOf]; omega
                · have d9 : (y == 9) = false := by simpa using h9
                  have hno : ¬ (i < rs.length ∧ y = 9) := fun h => h9 h.2
                  rw [if_neg hno] at HX
                  have HXE := Lib.hid (show c5 = nx2 from HX.out)
                  clear h9 hno HX
                  go_wp2_with (go_at_call 22; refine (HPR.out _).mono ?_; rintro e w8 ⟨p1, p2, p3, p4, p5, p6, p7, p8, rfl, hb8⟩; have HO8 := Lib.hid (HOW7.out.below hb8 (Nat.le_refl _)); have HB8 := Lib.hid hb8; have hs8 := hb8.size; clear hb8)
                  go_roundw
                  case rel => exact ⟨s + 1, nx2, by go_num, by omega, HTO3.out, by rw [← HXE.out]; exact HO8.out, HON7.out.below HB8.out (by omega), HBE7.out.trans (HB8.out.mono (by omega)), by omega⟩
                  case measure => simp [intOf]; omega
              · have hin : i = n := by omega
                subst hin
                have d1 : decide ((i : Int) < (i : Int)) = false := by simp
                have d2 : ¬ i < i := Nat.lt_irrefl i
                have HXE := Lib.hid (show c5 = nx2 by rw [← hto, Nat.sub_self]; rfl)
                have HOW7 := Lib.hid how
                have HON7 := Lib.hid hon
                have HBE7 := Lib.hid hbel
                clear hto how hon hbel hlt3
                go_wp2_with fail
                go_roundw
                case rel => exact ⟨s + 1, nx2, by go_num, by omega, HTO3.out, by rw [← HXE.out]; exact HOW7.out, HON7.out, HBE7.out, by omega⟩
                case measure => simp [intOf]; omega
          · have hs2 : s = 2 := by omega
            subst hs2
            have hcn : cs'' = nxt := hto
            subst hcn
            have HOW6 := Lib.hid how
            have HON6 := Lib.hid hon
            have HBE6 := Lib.hid hbel
            clear hto how hon hbel
            go_wp2_with fail
            go_roundw
            case rel => exact ⟨k + 1, cs'', by go_num, by omega, HTO2.out, HOW6.out, HON6.out, HBE6.out, by omega⟩
            case measure => simp [intOf]; omega
    · have hge : m ≤ k := by omega
      have hdr : l5.drop k = [] := List.drop_eq_nil_of_le (by rw [HROW.out.1]; exact hge)
      rw [hdr] at hto
      have hto2 : cs' = tot := hto
      have HOW := Lib.hid how
      have HB := Lib.hid hbel
      clear hto hdr how hon hbel
      go_wp2_with fail
      go_ret
      exact ⟨A3, c3, rfl, by rw [← hto2]; exact HOW.out, HB.out⟩

end Go.Proofs.YtbpaogmnaodcaaaDoor
