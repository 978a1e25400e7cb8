/- The walk of the reference's Glyphs. Condition: the lookup reads as its shape and is one that may be. Printed by wip/tools/g27n.py. -/
import Derived.Test.YtbjeflblhjfagaaGlyP
import Derived.Test.YtbjeflblhjfagaaSingA
import Derived.Test.YtbjeflblhjfagaaOwnAt
namespace Go.Proofs.Ytbjeflblhjfagaa
open Go.RowKit

set_option maxRecDepth 100000 in
set_option maxHeartbeats 4000000 in
theorem rgly_any (B : Nat) (l : Lk) (ps : List PS) (w : World) (h : SubsR w B l.su.A l.su.n l.su.c ps) (h1' : LkOne (l.ki, ps)) (hB : B ≤ w.heap.size) :
    Calls Try.prog 13 #[.agg #[.int .i64 l.ki, .int .i64 l.fl, .int .i64 l.se, .slice l.su.A l.su.n l.su.c]] w (RetInts w (glyB (l.ki, ps))) := by
  have hcap := h.cap
  have hpl := h.1
  obtain ⟨w1, hw1⟩ : ∃ z, z = w.alloc (.cells #[.int .i64 l.ki, .int .i64 l.fl, .int .i64 l.se, .slice l.su.A l.su.n l.su.c] 31) := ⟨_, rfl⟩
  have hb1 : Below w.heap.size w w1 := by rw [hw1]; exact (Below.refl _ _).alloc (Nat.le_refl _) _
  have hs1 : w.heap.size < w1.heap.size := by rw [hw1]; simp
  have hkb : KBox w1 w.heap.size l := by rw [hw1]; exact heap_alloc_new _ _
  obtain ⟨l0, l1, l2, l3⟩ := hkb.cells
  have h0 := up_fact l0
  have h1 := up_fact l1
  have h2 := up_fact l2
  have h3 := up_fact l3
  have hA0 := Below.refl w1.heap.size w1
  clear l0 l1 l2 l3 hkb
  have HW1 := Lib.hid hw1
  clear hw1
  have hBw : B ≤ w1.heap.size := by omega
  have HS := Lib.hid (h.below (hb1.mono hB))
  have HONE := Lib.hid h1'
  have HPL := Lib.hid hpl
  clear h hpl h1'
  obtain ⟨t, ht⟩ : ∃ t, t = kiB l.ki := ⟨_, rfl⟩
  have HT := Lib.hid ht
  clear ht
  go_enter Try.func13, Try.ntmps13
  go_upto_region 2 with (fail)
  rw [← HW1.out]
  go_cut [16] (fun v W => ∃ t2, v = .bool t2 ∧ t2 = (!t) ∧ W = w1)
  case first =>
    by_cases e1 : l.ki = 1
    · have q1 : (l.ki != 1) = false := by simp [e1]
      have HQ := Lib.hid (show t = true by rw [HT.out]; unfold kiB; rw [e1]; rfl)
      clear e1
      go_wp2_with fail
      go_meet
      exact ⟨_, rfl, by rw [HQ.out]; rfl, rfl⟩
    · have q1 : (l.ki != 1) = true := by simp [e1]
      by_cases e2 : l.ki = 2
      · have q2 : (l.ki != 2) = false := by simp [e2]
        have HQ := Lib.hid (show t = true by rw [HT.out]; unfold kiB; rw [e2]; rfl)
        clear e1 e2
        go_wp2_with fail
        go_meet
        exact ⟨_, rfl, by rw [HQ.out]; rfl, rfl⟩
      · have q2 : (l.ki != 2) = true := by simp [e2]
        have HQ := Lib.hid (show t = false by rw [HT.out]; unfold kiB; simp [e1, e2])
        clear e1 e2
        go_wp2_with fail
        go_meet
        exact ⟨_, rfl, by rw [HQ.out]; rfl, rfl⟩
  obtain ⟨t2, rfl, ht2, hwc⟩ := hcut
  have hwd := hwc.symm
  subst hwd
  clear hwc
  rcases t with _ | _
  · obtain rfl : t2 = true := ht2
    go_wp2_with fail
    go_ret
    rw [glyB_off HT.out.symm]
    exact ⟨none, 0, rfl, Ints.nil_ _ _, hb1.trans (hA0.mono (by omega))⟩
  obtain rfl : t2 = false := ht2
  have hn64 : l.su.n ≤ 64 := by have h9 : ps.length ≤ 64 := HONE.out.1; have h8 := HPL.out; omega
  go_wp2_with fail
  go_loopw [3, 4] (fun v3 v wr => ∃ (k n : Nat) (A : Option Addr) (c : Nat) (out : List Int), v3 = .slice A n c ∧ v = .int .i64 (k : Int) ∧ k ≤ l.su.n ∧ Hid (Own wr w1.heap.size 3 A n c out) ∧ Hid (out.Pairwise (· < ·)) ∧ Hid (∀ x, x ∈ out ↔ Seen ps k 0 x) ∧ n ≤ k * 4096 ∧ Below w1.heap.size w1 wr) (fun _ v _ => l.su.n - (intOf v).toNat)
  case atStart => exact ⟨0, 0, none, 0, [], rfl, rfl, Nat.zero_le _, Own.nil_ _ _ _, List.Pairwise.nil, (fun x => Seen.start.symm), by omega, hA0⟩
  case round =>
    obtain ⟨k, n0, A0, c0', out0, rfl, rfl, hk, HO0, HR0, HM0, hnk, hA⟩ := hrel
    have hcapo := Own.cap HO0.out
    by_cases hlt : k < l.su.n
    · obtain ⟨b, o, s, eS, hbb, ⟨c0, c1, c2, c3, c4, c5, c6, c7, c8, c9, c10, c11⟩, _, hco, _⟩ := HS.out.2.2.2 k hlt
      obtain ⟨p, hp⟩ : ∃ p, p = ps.getD k nS := ⟨_, rfl⟩
      rw [← hp] at hco
      have hone := HONE.out.len HT.out.symm (j := k) (by show k < ps.length; rw [HPL.out]; exact hlt)
      rw [show (l.ki, ps).2.getD k nS = p from hp.symm] at hone
      have hcapc := hco.cap
      have hc4 : s.co.n ≤ 4096 := by rw [← hco.length]; exact hone.2.1
      have HP := Lib.hid hp
      have HCO := Lib.hid hco
      have HCL := Lib.hid hco.length
      rw [eS] at h3 ⊢
      have y0 := up_fact c0
      clear c0 c1 c2 c3 c4 c5 c6 c7 c8 c9 c10 c11 hp hone hco
      go_wp2_with fail
      obtain ⟨wo, hwo⟩ : ∃ wo : World, wo = wr := ⟨_, rfl⟩
      subst hwo
      go_loopw [3, 5] (fun v3 v wr => ∃ (m n : Nat) (A : Option Addr) (c : Nat) (out : List Int), v3 = .slice A n c ∧ v = .int .i64 (m : Int) ∧ m ≤ s.co.n ∧ Hid (Own wr w1.heap.size 3 A n c out) ∧ Hid (out.Pairwise (· < ·)) ∧ Hid (∀ x, x ∈ out ↔ Seen ps k m x) ∧ n ≤ k * 4096 + m ∧ Below w1.heap.size w1 wr) (fun _ v _ => s.co.n - (intOf v).toNat)
      case atStart => exact ⟨0, n0, A0, c0', out0, rfl, rfl, Nat.zero_le _, HO0, HR0, HM0, by omega, hA⟩
      case round =>
        clear hA hnk hcapo
        obtain ⟨m, n, A, c, out, rfl, rfl, hm, HO, HR, HM, hnm, hA⟩ := hrel
        have hcapn := Own.cap HO.out
        have HOL := Lib.hid (Own.length HO.out)
        by_cases hlm : m < s.co.n
        · obtain ⟨b5, o5, eC, _, hcz⟩ := HCO.out.getD hlm
          obtain ⟨y, hy⟩ : ∃ y, y = p.1.getD m 0 := ⟨_, rfl⟩
          rw [← hy] at hcz
          have z5 := up_fact hcz
          rw [eC] at y0
          clear eC hcz
          have HSUC := Lib.hid (fun x => @Seen.succ ps k m x (by rw [← HP.out, HCL.out]; exact hlm))
          rw [← HP.out, ← hy] at HSUC
          clear hy
          go_wp2_with fail
          obtain ⟨wp, hwp⟩ : ∃ wp : World, wp = wr := ⟨_, rfl⟩
          have HWP := Lib.hid hwp
          clear hwp
          go_loopw [7] (fun v wr2 => ∃ a : Nat, v = .int .i64 (a : Int) ∧ a ≤ n ∧ Hid (∀ j, a ≤ j → j < n → y < out.getD j 0) ∧ wr2 = wr) (fun v _ => (intOf v).toNat)
          case atStart => exact ⟨n, rfl, Nat.le_refl _, (fun j h1 h2 => by omega), rfl⟩
          case round =>
            obtain ⟨a, rfl, ha, HHI, hweq⟩ := hrel
            subst hweq
            -- where the search has come to
            have INS : (a = 0 ∨ ∃ a' : Nat, a = a' + 1 ∧ out.getD a' 0 ≤ y) → True := fun _ => trivial
            clear INS
            rcases a with _ | a
            · have q0 : decide ((0 : Int) < ((0 : Nat) : Int)) = false := by simp
              have q00 : decide (0 < (0 : Nat)) = false := rfl
              have HLO := Lib.hid (show ∀ j, j + 1 = 0 → out.getD j 0 < y from fun j hj => by omega)
              obtain ⟨a, haa⟩ : ∃ a : Nat, a = 0 := ⟨_, rfl⟩
              have hal : 0 ≤ n := by omega
              go_upto_region 15 with (fail)
              have hszr := hA.size
              go_wp2_with (first
                | (at_builtin; refine wpList_append_ints _ rfl (.tmp 70) (.tmp 71) 36 rfl w1.heap.size 3 Try.underlying36 infoInt A n c out rfl (HO.out.alloc _) (wr.heap.size + 1) (some ⟨wr.heap.size, 0, none⟩) 1 1 [0] rfl (Ints.lit_at _ [0] _ _ (by omega) rfl rfl rfl) (by omega) (by simp; omega) ?_; intro A4 c4 w4 ho4 hg4 _))
              have hA4 := below_append (hA.alloc hszr (.cells #[.int .i64 0] 3)) (by simp; omega) hg4 (HO.out.alloc _) (Nat.le_refl _)
              have hwn : IntKind.i64.wrap (((n + 1 : Nat) : Int) - 1) = (n : Int) := by rw [IntKind.wrap_i64]; omega
              obtain ⟨gb, eB⟩ : ∃ gb, A4 = some ⟨gb, 0, none⟩ ∧ w1.heap.size ≤ gb := by
                obtain ⟨gb, _, e, h1, _⟩ := Own.at_ ho4 (k := 0) (by omega)
                exact ⟨gb, e, h1⟩
              obtain ⟨rfl, hgb⟩ := eB
              have HO4 := Lib.hid (show Own w4 w1.heap.size 3 (some ⟨gb, 0, none⟩) (n + 1) c4 (insG out n 0) by
                have e : insG out n 0 = out ++ [0] := by unfold insG; rw [List.take_of_length_le (Nat.le_of_eq HOL.out), List.drop_of_length_le (Nat.le_of_eq HOL.out)]
                rw [e]; exact ho4)
              have hcap4 := Own.cap HO4.out
              clear ho4 hg4
              go_upto_region 17 with (fail)
              obtain ⟨wq, hwq⟩ : ∃ wq : World, wq = w4 := ⟨_, rfl⟩
              go_loopw [8] (fun v wr => ∃ (j : Nat) (z : Int), v = .int .i64 (j : Int) ∧ 0 ≤ j ∧ j ≤ n ∧ Hid (Own wr w1.heap.size 3 (some ⟨gb, 0, none⟩) (n + 1) c4 (insG out j z)) ∧ Below w1.heap.size w1 wr) (fun v _ => (intOf v).toNat)
              case atStart => exact ⟨n, 0, by go_num, by omega, Nat.le_refl _, HO4, hA4⟩
              case round =>
                obtain ⟨j, z, rfl, hj1, hj2, HOJ, hAJ⟩ := hrel
                by_cases hlj : 0 < j
                · obtain ⟨i, rfl⟩ : ∃ i, j = i + 1 := ⟨j - 1, by omega⟩
                  obtain ⟨g6, z6, e6, _, hg6, _, hc6, hf6⟩ := Own.at_ HOJ.out (k := i + 1) (by omega)
                  obtain ⟨g7, z7, e7, _, hg7, hz7, hc7, hf7⟩ := Own.at_ HOJ.out (k := i) (by omega)
                  cases e6
                  cases e7
                  have hzz : z7 = out.getD i 0 := by
                    have hil : i < out.length := by rw [HOL.out]; omega
                    unfold insG at hz7
                    rw [List.getElem?_append_left (by rw [List.length_take]; omega), List.getElem?_take_of_lt (by omega)] at hz7
                    rw [List.getD_eq_getElem?_getD, hz7]; rfl
                  have hwi : IntKind.i64.wrap (((i + 1 : Nat) : Int) - 1) = (i : Int) := by rw [IntKind.wrap_i64]; omega
                  have q1 : decide ((0 : Int) < ((i + 1 : Nat) : Int)) = true := by simp <;> omega
                  have hput := Own.put (pre := out.take (i + 1)) (r := out.drop (i + 1)) (x := z) (k := i + 1) HOJ.out (by rw [List.length_take, HOL.out]; omega) z7
                  have HPUT := Lib.hid (show Own (wr.setCell ⟨gb, i + 1, none⟩ (.int .i64 z7)) w1.heap.size 3 (some ⟨gb, 0, none⟩) (n + 1) c4 (insG out i z7) by
                    rw [hzz]
                    rw [hzz] at hput
                    rw [← insG_back (by rw [HOL.out]; omega)]
                    exact hput)
                  have hA9 := hAJ.setCell (p := ⟨gb, i + 1, none⟩) hgb (.int .i64 z7)
                  clear hz7 hzz hput
                  go_wp2_with fail
                  go_roundw
                  case rel => exact ⟨i, z7, by go_num, by omega, by omega, HPUT, hA9⟩
                  case measure => simp [intOf] <;> omega
                · obtain rfl : j = 0 := by omega
                  have hz2 : decide ((0 : Int) < (0 : Int)) = false := by simp
                  obtain ⟨g6, z6, e6, _, hg6, _, hc6, hf6⟩ := Own.at_ HOJ.out (k := 0) (by omega)
                  cases e6
                  have HPUT := Lib.hid (Own.put (pre := out.take (0)) (r := out.drop (0)) (x := z) (k := 0) HOJ.out (by rw [List.length_take, HOL.out]; omega) y)
                  have hA9 := hAJ.setCell (p := ⟨gb, 0, none⟩) hgb (.int .i64 y)
                  go_wp2_with fail
                  go_roundw
                  case rel => exact ⟨m + 1, n + 1, _, c4, insG out (0) y, rfl, by go_num, by omega, HPUT, insG_rising HR.out (by rw [HOL.out]; omega) HLO.out (fun j h1 h2 => HHI.out j h1 (by rw [← HOL.out]; exact h2)), (fun x' => by rw [HSUC.out x', insG_mem, HM.out x']), by omega, hA9⟩
                  case measure => simp [intOf] <;> omega
            · obtain ⟨g5, x, eA, hg1, hg2, hx, hcx, hfx⟩ := Own.at_ HO.out (k := a) (by omega)
              have hxd : out.getD a 0 = x := by rw [List.getD_eq_getElem?_getD, hx]; rfl
              have hwr1 : IntKind.i64.wrap (((a + 1 : Nat) : Int) - 1) = (a : Int) := by rw [IntKind.wrap_i64]; omega
              have q0 : decide ((0 : Int) < ((a + 1 : Nat) : Int)) = true := by simp <;> omega
              have q00 : decide (0 < a + 1) = true := by simp
              have HX := Lib.hid hxd
              rw [eA] at HO ⊢
              clear eA hx hxd
              by_cases hyx : y < x
              · have d1 : decide (y < x) = true := by simpa using hyx
                have HYX := Lib.hid hyx
                clear hyx
                go_wp2_with fail
                go_roundw
                case rel => exact ⟨a, by go_num, by omega, (fun j h1 h2 => by
                  rcases Nat.lt_or_ge a j with h3 | h3
                  · exact HHI.out j h3 h2
                  · have : j = a := by omega
                    subst this
                    rw [HX.out]; exact HYX.out), by first | rfl | trivial⟩
                case measure => simp [intOf] <;> omega
              · have d1 : decide (y < x) = false := by simpa using hyx
                by_cases hxy : x = y
                · have d2 : (x == y) = true := by simpa using hxy
                  have HXY := Lib.hid hxy
                  clear hyx hxy
                  go_wp2_with fail
                  go_roundw
                  case rel => exact ⟨m + 1, n, _, c, out, rfl, by go_num, by omega, HO, HR, (fun x' => by
                    rw [HSUC.out x']
                    constructor
                    · intro h; exact .inl ((HM.out x').1 h)
                    · rintro (h | h)
                      · exact (HM.out x').2 h
                      · rw [h, ← HXY.out, ← HX.out, List.getD_eq_getElem?_getD, List.getElem?_eq_getElem (by rw [HOL.out]; omega)]
                        exact List.getElem_mem _), by omega, hA⟩
                  case measure => simp [intOf] <;> omega
                · have d2 : (x == y) = false := by simpa using hxy
                  have HLO := Lib.hid (show ∀ j, j + 1 = a + 1 → out.getD j 0 < y from fun j hj => by
                    have : j = a := by omega
                    subst this
                    rw [HX.out]; omega)
                  clear hyx hxy
                  have hal : a + 1 ≤ n := by omega
                  go_upto_region 15 with (fail)
                  have hszr := hA.size
                  go_wp2_with (first
                    | (at_builtin; refine wpList_append_ints _ rfl (.tmp 70) (.tmp 71) 36 rfl w1.heap.size 3 Try.underlying36 infoInt _ n c out rfl (HO.out.alloc _) (wr.heap.size + 1) (some ⟨wr.heap.size, 0, none⟩) 1 1 [0] rfl (Ints.lit_at _ [0] _ _ (by omega) rfl rfl rfl) (by omega) (by simp; omega) ?_; intro A4 c4 w4 ho4 hg4 _))
                  have hA4 := below_append (hA.alloc hszr (.cells #[.int .i64 0] 3)) (by simp; omega) hg4 (HO.out.alloc _) (Nat.le_refl _)
                  have hwn : IntKind.i64.wrap (((n + 1 : Nat) : Int) - 1) = (n : Int) := by rw [IntKind.wrap_i64]; omega
                  obtain ⟨gb, eB⟩ : ∃ gb, A4 = some ⟨gb, 0, none⟩ ∧ w1.heap.size ≤ gb := by
                    obtain ⟨gb, _, e, h1, _⟩ := Own.at_ ho4 (k := 0) (by omega)
                    exact ⟨gb, e, h1⟩
                  obtain ⟨rfl, hgb⟩ := eB
                  have HO4 := Lib.hid (show Own w4 w1.heap.size 3 (some ⟨gb, 0, none⟩) (n + 1) c4 (insG out n 0) by
                    have e : insG out n 0 = out ++ [0] := by unfold insG; rw [List.take_of_length_le (Nat.le_of_eq HOL.out), List.drop_of_length_le (Nat.le_of_eq HOL.out)]
                    rw [e]; exact ho4)
                  have hcap4 := Own.cap HO4.out
                  clear ho4 hg4
                  go_upto_region 17 with (fail)
                  obtain ⟨wq, hwq⟩ : ∃ wq : World, wq = w4 := ⟨_, rfl⟩
                  go_loopw [8] (fun v wr => ∃ (j : Nat) (z : Int), v = .int .i64 (j : Int) ∧ a + 1 ≤ j ∧ j ≤ n ∧ Hid (Own wr w1.heap.size 3 (some ⟨gb, 0, none⟩) (n + 1) c4 (insG out j z)) ∧ Below w1.heap.size w1 wr) (fun v _ => (intOf v).toNat)
                  case atStart => exact ⟨n, 0, by go_num, by omega, Nat.le_refl _, HO4, hA4⟩
                  case round =>
                    obtain ⟨j, z, rfl, hj1, hj2, HOJ, hAJ⟩ := hrel
                    by_cases hlj : a + 1 < j
                    · obtain ⟨i, rfl⟩ : ∃ i, j = i + 1 := ⟨j - 1, by omega⟩
                      obtain ⟨g6, z6, e6, _, hg6, _, hc6, hf6⟩ := Own.at_ HOJ.out (k := i + 1) (by omega)
                      obtain ⟨g7, z7, e7, _, hg7, hz7, hc7, hf7⟩ := Own.at_ HOJ.out (k := i) (by omega)
                      cases e6
                      cases e7
                      have hzz : z7 = out.getD i 0 := by
                        have hil : i < out.length := by rw [HOL.out]; omega
                        unfold insG at hz7
                        rw [List.getElem?_append_left (by rw [List.length_take]; omega), List.getElem?_take_of_lt (by omega)] at hz7
                        rw [List.getD_eq_getElem?_getD, hz7]; rfl
                      have hwi : IntKind.i64.wrap (((i + 1 : Nat) : Int) - 1) = (i : Int) := by rw [IntKind.wrap_i64]; omega
                      have q1 : decide (((a + 1 : Nat) : Int) < ((i + 1 : Nat) : Int)) = true := by simp <;> omega
                      have hput := Own.put (pre := out.take (i + 1)) (r := out.drop (i + 1)) (x := z) (k := i + 1) HOJ.out (by rw [List.length_take, HOL.out]; omega) z7
                      have HPUT := Lib.hid (show Own (wr.setCell ⟨gb, i + 1, none⟩ (.int .i64 z7)) w1.heap.size 3 (some ⟨gb, 0, none⟩) (n + 1) c4 (insG out i z7) by
                        rw [hzz]
                        rw [hzz] at hput
                        rw [← insG_back (by rw [HOL.out]; omega)]
                        exact hput)
                      have hA9 := hAJ.setCell (p := ⟨gb, i + 1, none⟩) hgb (.int .i64 z7)
                      clear hz7 hzz hput
                      go_wp2_with fail
                      go_roundw
                      case rel => exact ⟨i, z7, by go_num, by omega, by omega, HPUT, hA9⟩
                      case measure => simp [intOf] <;> omega
                    · obtain rfl : j = a + 1 := by omega
                      have hz2 : decide (((a + 1 : Nat) : Int) < ((a + 1 : Nat) : Int)) = false := by simp
                      obtain ⟨g6, z6, e6, _, hg6, _, hc6, hf6⟩ := Own.at_ HOJ.out (k := a + 1) (by omega)
                      cases e6
                      have HPUT := Lib.hid (Own.put (pre := out.take (a + 1)) (r := out.drop (a + 1)) (x := z) (k := a + 1) HOJ.out (by rw [List.length_take, HOL.out]; omega) y)
                      have hA9 := hAJ.setCell (p := ⟨gb, a + 1, none⟩) hgb (.int .i64 y)
                      go_wp2_with fail
                      go_roundw
                      case rel => exact ⟨m + 1, n + 1, _, c4, insG out (a + 1) y, rfl, by go_num, by omega, HPUT, insG_rising HR.out (by rw [HOL.out]; omega) HLO.out (fun j h1 h2 => HHI.out j h1 (by rw [← HOL.out]; exact h2)), (fun x' => by rw [HSUC.out x', insG_mem, HM.out x']), by omega, hA9⟩
                      case measure => simp [intOf] <;> omega
        · have hz : decide ((m : Int) < (s.co.n : Int)) = false := by simp; omega
          have HKM := Lib.hid (show m = s.co.n by omega)
          go_wp2_with fail
          go_roundw
          case rel => exact ⟨k + 1, n, A, c, out, rfl, by go_num, by omega, HO, HR, (fun x => by rw [Seen.next, ← HP.out, HCL.out, ← HKM.out]; exact HM.out x), by omega, hA⟩
          case measure => simp [intOf] <;> omega
    · have hz : decide ((k : Int) < (l.su.n : Int)) = false := by simp; omega
      have HKN := Lib.hid (show k = l.su.n by omega)
      go_wp2_with fail
      go_ret
      have hg : glyB (l.ki, ps) = out0 := glyB_of HT.out.symm HR0.out (fun x => by
        rw [HM0.out]
        unfold Seen
        rw [List.take_zero, HKN.out, ← HPL.out]
        simp)
      rw [hg]
      have hl0 := Own.length HO0.out
      subst hl0
      exact ⟨A0, c0', rfl, HO0.out.ints, hb1.trans (hA.mono (by omega))⟩

end Go.Proofs.Ytbjeflblhjfagaa
