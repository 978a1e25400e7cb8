/- Joined: Repl. -/
import Derived.Test.YtngdolmmaiogiaaJ09
import Derived.StillTailTactics

/- The walk of slices.Replace, at one glyph replaced by some. Condition: both rows are the call's own, and apart. Printed by wip/tools/g27r.py. -/
namespace Go.Proofs.Ytngdolmmaiogiaa
open Go.RowKit

theorem src_of {W : World} {b o : Nat} {cur Y : List Value} {t : TypeId} (h : W.heap[b]? = some (.cells cur.toArray t (0, 0))) (hj : ∀ (j : Nat) v, Y[j]? = some v → cur[o + j]? = some v) : ∀ (j : Nat) v, Y[j]? = some v → W.cell? ⟨b, o + j, none⟩ = some v := fun j v hv => by
  rw [cell_of_row _ _ _ _ _ _ h]
  simpa using hj j v hv
theorem splice_after {cur cs : List Value} {off p : Nat} (h : off + cs.length ≤ p) (hc : off + cs.length ≤ cur.length) : (splice cur off cs)[p]? = cur[p]? := by
  unfold splice
  have h1 : (cur.take off).length = off := by rw [List.length_take]; omega
  rw [List.getElem?_append_right (by omega), List.getElem?_append_right (by omega), List.getElem?_drop]
  congr 1
  omega
theorem splice2_take {cur X1 Y X2 : List Value} {a : Nat} (h1 : cur.take a = X1) (hl : X1.length = a) (_hc : a + Y.length + X2.length ≤ cur.length) : (splice (splice cur a Y) (a + Y.length) X2).take (a + Y.length + X2.length) = X1 ++ Y ++ X2 := by
  have e1 : (splice cur a Y).take (a + Y.length) = X1 ++ Y := by
    unfold splice
    rw [h1, ← List.append_assoc, List.take_left' (by rw [List.length_append, hl])]
  unfold splice at e1 ⊢
  rw [e1, ← List.append_assoc, List.take_left' (by rw [List.length_append, List.length_append, hl])]
theorem splice2_take' {cur X1 Y X2 : List Value} {a : Nat} (h1 : cur.take a = X1) (hl : X1.length = a) (hc : a + Y.length + X2.length ≤ cur.length) : (splice (splice cur (a + Y.length) X2) a Y).take (a + Y.length + X2.length) = X1 ++ Y ++ X2 := by
  have e0 : (cur.take (a + Y.length)).length = a + Y.length := by rw [List.length_take]; omega
  have e1 : (splice cur (a + Y.length) X2).take a = X1 := by
    unfold splice
    rw [List.take_append_of_le_length (by omega), List.take_take, Nat.min_eq_left (by omega), h1]
  have e2 : (splice cur (a + Y.length) X2).drop (a + Y.length) = X2 ++ cur.drop (a + Y.length + X2.length) := by
    unfold splice
    rw [List.drop_left' e0]
  rw [show splice (splice cur (a + Y.length) X2) a Y = (splice cur (a + Y.length) X2).take a ++ (Y ++ (splice cur (a + Y.length) X2).drop (a + Y.length)) from rfl, e1, e2]
  rw [show X1 ++ (Y ++ (X2 ++ cur.drop (a + Y.length + X2.length))) = (X1 ++ Y ++ X2) ++ cur.drop (a + Y.length + X2.length) by simp, List.take_left' (by rw [List.length_append, List.length_append, hl])]
set_option maxRecDepth 100000 in
set_option maxHeartbeats 4000000 in
theorem replace_any (w : World) (base n c i m cv : Nat) (A Av : Option Addr) (gs vs : List Gl) (hs : GRow w base A n c gs) (hv : GRow w base Av m cv vs) (hap : ∀ a, Av = some a → ∀ g, A = some ⟨g, 0, none⟩ → a.block ≠ g) (hi : i < n) (hn : n ≤ 100000) (hm : m ≤ 100) (hbase : base ≤ w.heap.size) :
    Calls Try.prog 76 #[.slice A n c, .int .i64 (i : Int), .int .i64 ((i : Int) + 1), .slice Av m cv] w (RetGls w base (gs.take i ++ vs ++ gs.drop (i + 1))) := by
  obtain ⟨g, rfl, hgb, hgs, cur, hcur, hcl, hct⟩ := hs.form (.inl (by omega))
  have hcap := hs.cap
  have hcapv := hv.cap
  have hsl := hs.1
  have hvl := hv.1
  have HS := Lib.hid hs
  have HV := Lib.hid hv
  have HCUR := Lib.hid hcur
  have HCT := Lib.hid hct
  have HSL := Lib.hid hsl
  have HVL := Lib.hid hvl
  have hap' : ∀ a, Av = some a → a.block ≠ g := fun a ha => hap a ha g rfl
  have HAP := Lib.hid hap'
  -- the elements' cells
  have hdl : (glCells (gs.drop (i + 1))).length = (n - (i + 1)) * 10 := by rw [glCells_length, List.length_drop, hsl]
  have htl : (glCells (gs.take i)).length = i * 10 := by rw [glCells_length, List.length_take, hsl]; congr 1; omega
  have hyl : (glCells vs).length = m * 10 := by rw [glCells_length, hvl]
  have hcti : cur.take (i * 10) = glCells (gs.take i) := by
    have e1 : glCells gs = glCells (gs.take i) ++ glCells (gs.drop i) := by rw [← glCells_append, List.take_append_drop]
    have e2 : (cur.take (n * 10)).take (i * 10) = (glCells gs).take (i * 10) := by rw [hct]
    rw [List.take_take, Nat.min_eq_left (by omega), e1, List.take_left' htl] at e2
    exact e2
  have hctd : ∀ (t : Nat) v, (glCells (gs.drop (i + 1)))[t]? = some v → cur[(i + 1) * 10 + t]? = some v := by
    intro t v ht
    have htt : t < (n - (i + 1)) * 10 := by rw [← hdl]; exact (List.getElem?_eq_some_iff.1 ht).1
    have e1 : glCells gs = glCells (gs.take (i + 1)) ++ glCells (gs.drop (i + 1)) := by rw [← glCells_append, List.take_append_drop]
    have hl1 : (glCells (gs.take (i + 1))).length = (i + 1) * 10 := by rw [glCells_length, List.length_take, hsl]; congr 1; omega
    have e2 : (cur.take (n * 10))[(i + 1) * 10 + t]? = some v := by
      rw [hct, e1, List.getElem?_append_right (by omega), show (i + 1) * 10 + t - (glCells (gs.take (i + 1))).length = t by omega]
      exact ht
    rw [List.getElem?_take_of_lt (by omega)] at e2
    exact e2
  obtain ⟨X1, hX1⟩ : ∃ X, X = glCells (gs.take i) := ⟨_, rfl⟩
  obtain ⟨X2, hX2⟩ : ∃ X, X = glCells (gs.drop (i + 1)) := ⟨_, rfl⟩
  obtain ⟨Y, hY⟩ : ∃ X, X = glCells vs := ⟨_, rfl⟩
  have h1X2 : ∀ v ∈ X2, v.oneCell' = true := by rw [hX2]; exact glCells_one
  have h1Y : ∀ v ∈ Y, v.oneCell' = true := by rw [hY]; exact glCells_one
  rw [← hX1] at hcti htl
  rw [← hX2] at hctd hdl
  rw [← hY] at hyl
  have HRES := Lib.hid (show X1 ++ Y ++ X2 = glCells (gs.take i ++ vs ++ gs.drop (i + 1)) by rw [hX1, hX2, hY, glCells_append, glCells_append])
  have hrl : (gs.take i ++ vs ++ gs.drop (i + 1)).length = n + m - 1 := by rw [List.length_append, List.length_append, List.length_take, List.length_drop, hsl, hvl]; omega
  have HRL := Lib.hid hrl
  have HCTI := Lib.hid hcti
  have HCTD := Lib.hid hctd
  have HDL := Lib.hid hdl
  have HTL := Lib.hid htl
  have HYL := Lib.hid hyl
  have H1X := Lib.hid h1X2
  have H1Y := Lib.hid h1Y
  have HCL := Lib.hid hcl
  have HYV := Lib.hid hY
  have HVC := Lib.hid (show 0 < m → ∃ gv, Av = some ⟨gv, 0, none⟩ ∧ gv ≠ g ∧ gv < w.heap.size ∧ ∃ cur2 : List Value, w.heap[gv]? = some (.cells cur2.toArray 38 (0, 0)) ∧ 0 < cur2.length ∧ ∀ (j : Nat) v, Y[j]? = some v → cur2[j]? = some v from fun hm => by
    obtain ⟨gv, e, _, h2, cur2, h3, h4, h5⟩ := hv.form (.inl hm)
    refine ⟨gv, e, fun e2 => hap' _ e (by rw [e2]), h2, cur2, h3, by omega, fun j v hj => ?_⟩
    have hjl : j < m * 10 := by rw [← hyl]; exact (List.getElem?_eq_some_iff.1 hj).1
    rw [hY, ← h5, List.getElem?_take_of_lt hjl] at hj
    exact hj)
  have HX1 := Lib.hid hX1
  clear hs hv hcur hct hsl hvl hap hap' hcti hctd hdl htl hyl h1X2 h1Y hX1 hX2 hY hrl hcl
  have hij : ((i : Int) == (i : Int) + 1) = false := by simp; omega
  have hw1 : IntKind.i64.wrap ((i : Int) + (m : Int)) = (i : Int) + (m : Int) := by rw [IntKind.wrap_i64]; omega
  have hb0 : (0 : Int) ≤ (i : Int) + 1 := by omega
  have hb1 : (i : Int) ≤ (i : Int) + 1 := by omega
  have hb2 : (i : Int) + 1 ≤ (c : Int) := by omega
  have hb3 : (i : Int) + 1 ≤ (n : Int) := by omega
  have hb4 : (i : Int) ≤ (c : Int) := by omega
  have ht1 : ((i : Int) + 1).toNat = i + 1 := by omega
  have hci : ¬ (c = i) := by omega
  have hc0 : ¬ (c = 0) := by omega
  have hA := Below.refl w.heap.size w
  by_cases hin : i + 1 = n
  · have q1 : ((i : Int) + 1 == (n : Int)) = true := by simp; omega
    have hni : n - i = 1 := by omega
    have HIN := Lib.hid hin
    by_cases hm0 : m = 0
    · subst hm0
      have hlt1 : decide ((i : Int) < (n : Int)) = true := by simp; omega
      have hlt2 : decide (i < n) = true := by simp; omega
      clear hin
      go_enter Try.func76, Try.ntmps76
      go_wp2_with (first
        | (at_builtin; refine wpList_append_gls _ rfl (.tmp 32) (.tmp 33) 30 rfl base _ Try.underlying30 infoGl rfl (some ⟨g, 0, none⟩) i c (gs.take i) rfl (HS.out.take (by omega)) w.heap.size Av 0 cv vs rfl HV.out.gls (by omega) hbase ?_; intro A3 c3 w3 _ _ _ hz3; obtain ⟨rfl, rfl, rfl⟩ := hz3 rfl; clear hz3)
        | (refine wpList_clear_gls _ rfl (.tmp 43) 30 rfl 38 _ Try.underlying30 zeroGl rfl zeroGl_one _ _ _ rfl g (i * 10) cur 38 HCUR.out (fun _ => rfl) (by have := HCL.out; omega) ?_; intro cur' hl' ht' _))
      go_ret
      have hvs : vs = [] := List.eq_nil_of_length_eq_zero HVL.out
      have hdr : gs.drop (i + 1) = [] := List.drop_of_length_le (by rw [HSL.out, HIN.out]; exact Nat.le_refl _)
      have hti : (gs.take i).length = i := by rw [List.length_take, HSL.out]; omega
      rw [hvs, hdr, List.append_nil, List.append_nil]
      exact ⟨_, _, by rw [hti]; rfl, by
        rw [hti]
        exact GRow.of_block (setRow_heap _ g _ _ _ _ HCUR.out) hgb hti (by omega) (by unfold maxLen; omega) (by rw [hl']; exact HCL.out) (by rw [ht' (by omega), HCTI.out, HX1.out]), below_setRow (Below.refl _ _) hgb _⟩
    · have hlt1 : decide ((i : Int) + (m : Int) < (n : Int)) = false := by simp; omega
      have hlt2 : decide (i + m < n) = false := by simp; omega
      clear hin
      go_enter Try.func76, Try.ntmps76
      go_wp2_with (first
        | (at_builtin; refine wpList_append_gls _ rfl (.tmp 32) (.tmp 33) 30 rfl base _ Try.underlying30 infoGl rfl (some ⟨g, 0, none⟩) i c (gs.take i) rfl (HS.out.take (by omega)) w.heap.size Av m cv vs rfl HV.out.gls (by omega) hbase ?_; intro A3 c3 w3 ho3 hg3 _ _; have hA3 := gl_below (Below.refl base w) hbase hg3 (HS.out.take (m := i) (by omega)) (Nat.le_refl _); have HO3 := Lib.hid ho3; clear ho3 hg3))
      go_ret
      have hdr : gs.drop (i + 1) = [] := List.drop_of_length_le (by rw [HSL.out, HIN.out]; exact Nat.le_refl _)
      rw [hdr, List.append_nil]
      have hlen : (gs.take i ++ vs).length = i + m := by rw [List.length_append, List.length_take, HSL.out, HVL.out]; omega
      exact ⟨A3, c3, by rw [hlen]; rfl, by rw [hlen]; exact HO3.out, hA3⟩
  · have q1 : ((i : Int) + 1 == (n : Int)) = false := by simp; omega
    have hin2 : i + 1 < n := by omega
    clear hin
    obtain ⟨tot, htot⟩ : ∃ z, z = n + m - 1 := ⟨_, rfl⟩
    have HTOT := Lib.hid htot
    have hw2 : IntKind.i64.wrap ((i : Int) + (m : Int) + ((n - (i + 1) : Nat) : Int)) = (tot : Int) := by rw [IntKind.wrap_i64]; omega
    have hit : i < tot := by omega
    have himt : i + m < tot := by omega
    have hit1 : (i : Int) ≤ (tot : Int) := by omega
    have himt1 : (i : Int) + (m : Int) ≤ (tot : Int) := by omega
    have hb5 : (0 : Int) ≤ (i : Int) + (m : Int) := by omega
    have ht2 : ((i : Int) + (m : Int)).toNat = i + m := by omega
    have hci1 : ¬ (c = i + 1) := by omega
    have htb : tot ≤ 100100 := by omega
    clear htot
    go_enter Try.func76, Try.ntmps76
    go_upto_region 9 with (fail)
    have hU0 := bup hA
    refine wp_region_up w.heap.size (by kernel_rfl) (by kernel_rfl) ?_
    repeat (go_big_quiet_step (fail))
    refine wpQuiet_nil (up_all fun w2 hb2 => ?_)
    have hA := bgo hA hb2
    clear hb2 hU0
    have hsz2 := hA.size
    have hg2 := (hA.block g hgs).trans HCUR.out
    have HS2 := Lib.hid (HS.out.below hA (Nat.le_refl _))
    have HV2 := Lib.hid (HV.out.below hA (Nat.le_refl _))
    have HVC2 := Lib.hid (fun hm => by
      obtain ⟨gv, e, h1, h2, cur2, h3, h4, h5⟩ := HVC.out hm
      exact (⟨gv, e, h1, by omega, cur2, (hA.block gv h2).trans h3, h4, h5⟩ : ∃ gv, Av = some ⟨gv, 0, none⟩ ∧ gv ≠ g ∧ gv < w2.heap.size ∧ ∃ cur2 : List Value, w2.heap[gv]? = some (.cells cur2.toArray 38 (0, 0)) ∧ 0 < cur2.length ∧ ∀ (j : Nat) v, Y[j]? = some v → cur2[j]? = some v))
    have hbA : Below base w w2 := hA.mono hbase
    clear HS HV HVC HCUR
    by_cases hgc : c < tot
    · have d0 : decide ((c : Int) < (tot : Int)) = true := by simp; omega
      have d1 : decide (c < tot) = true := by simp; omega
      obtain ⟨kk, hkk⟩ : ∃ z, z = tot - i := ⟨_, rfl⟩
      have hw3 : IntKind.i64.wrap ((tot : Int) - (i : Int)) = (kk : Int) := by rw [IntKind.wrap_i64]; omega
      have hikt : i + kk = tot := by omega
      clear hkk
      go_upto_region 12 with (first
        | (at_builtin; refine wpList_append_made _ rfl (.tmp 63) (.tmp 66) 30 3 rfl _ Try.underlying30 Try.underlying3 infoGl rfl base (some ⟨g, 0, none⟩) i c (gs.take i) rfl (HS2.out.take (by omega)) kk (by first | rfl | exact congrArg (Value.int .i64) (show ((tot - i : Nat) : Int) = (kk : Int) by omega) | exact congrArg (Value.int .i64) (show (tot : Int) - (i : Int) = (kk : Int) by omega)) (by omega) (by omega) (by omega) ?_; intro cN curN w3 hN hNl hNc hNm hNt hNs hNb))
      obtain ⟨gN, hgN⟩ : ∃ z, z = w2.heap.size := ⟨_, rfl⟩
      rw [← hgN] at hN hNs ⊢
      rw [hikt] at hNc
      have HNT := Lib.hid (hNt.trans HX1.out.symm)
      have HNL := Lib.hid hNl
      have HGN := Lib.hid hgN
      have hggN : g ≠ gN := by omega
      have hNc1 : ¬ (cN = i) := by omega
      have hNc2 : ¬ (cN = i + m) := by omega
      have hNm' : cN ≤ 9223372036854775807 := by unfold maxLen at hNm; exact hNm
      have hbgN : base ≤ gN := by omega
      have hg3 := (hNb.block g (by omega)).trans hg2
      have HNB := Lib.hid hNb
      clear hNt hNl hgN
      go_upto_region 13 with (refine wpList_copy_gls _ rfl (.tmp 70) (.tmp 71) 30 30 rfl 38 Try.underlying30 sizeGl _ _ _ _ _ _ rfl rfl gN (i * 10) curN 38 hN Y (by rw [HYL.out]; congr 1; exact (Nat.min_eq_left (by omega)).symm) (fun hp => by
        obtain ⟨gv, e, _, h2, cur2, h3, _, h5⟩ := HVC2.out (by have := HYL.out; omega)
        exact ⟨rfl, gv, 0, e, src_of ((HNB.out.block gv h2).trans h3) (by simpa using h5)⟩) (by have := HYL.out; have := HNL.out; omega) H1Y.out ?_)
      obtain ⟨w4, hw4⟩ : ∃ z, z = w3.setRow gN (splice curN (i * 10) Y).toArray := ⟨_, rfl⟩
      rw [← hw4]
      go_still_tail 9, (by kernel_rfl)
      change wpList _ _ _ _ _ w4.drew
      obtain ⟨w5, hw5⟩ : ∃ z, z = w4.drew := ⟨_, rfl⟩
      rw [← hw5]
      rw [hw4] at hw5
      have h5N : w5.heap[gN]? = some (.cells (splice curN (i * 10) Y).toArray 38 (0, 0)) := by rw [hw5]; exact setRow_heap _ gN _ _ _ _ hN
      have h5g : w5.heap[g]? = some (.cells cur.toArray 38 (0, 0)) := by rw [hw5]; exact (setRow_other w3 gN g _ hggN).trans hg3
      have hb5 : Below base w w5 := by rw [hw5]; exact (below_setRow (hbA.trans (HNB.out.mono (by omega))) hbgN _).drew
      have hsl5 : (splice curN (i * 10) Y).length = cN * 10 := by rw [length_splice _ _ _ (by have := HYL.out; have := HNL.out; omega)]; exact HNL.out
      clear hw5
      refine wpList_copy_gls _ rfl (.tmp 78) (.tmp 81) 30 30 rfl 38 Try.underlying30 sizeGl _ _ _ _ _ _ rfl rfl gN ((i + m) * 10) (splice curN (i * 10) Y) 38 h5N X2 (by rw [HDL.out]; congr 1; exact (Nat.min_eq_left (by have := HTOT.out; omega)).symm) (fun _ => ⟨rfl, g, (i + 1) * 10, rfl, src_of h5g HCTD.out⟩) (by have := HDL.out; have := HTOT.out; omega) H1X.out ?_
      go_wp2_with fail
      go_ret
      have hres := splice2_take (X1 := X1) (Y := Y) (X2 := X2) (a := i * 10) (cur := curN) HNT.out HTL.out (by have h1 := HYL.out; have h2 := HDL.out; have h3 := HNL.out; have h4 := HTOT.out; omega)
      have hlen := HRL.out
      refine ⟨_, _, by rw [hlen, ← HTOT.out]; rfl, ?_, below_setRow hb5 hbgN _⟩
      rw [hlen, ← HTOT.out]
      refine GRow.of_block (setRow_heap _ gN _ _ _ _ h5N) hbgN (by rw [hlen]; exact HTOT.out.symm) (by omega) hNm ?_ ?_
      · rw [length_splice _ _ _ (by have := HDL.out; have := HTOT.out; omega)]; exact hsl5
      · rw [← HRES.out, ← hres, HYL.out, HDL.out]
        congr 1
        · have := HTOT.out; omega
        · congr 1; omega
    · have d0 : decide ((c : Int) < (tot : Int)) = false := by simp; omega
      have d1 : decide (c < tot) = false := by simp; omega
      have htc : tot ≤ c := by omega
      have htc1 : (tot : Int) ≤ (c : Int) := by omega
      have hci2 : ¬ (c = i + m) := by omega
      clear hgc
      by_cases hm1 : m ≤ 1
      · have e0 : decide ((i : Int) + (m : Int) ≤ (i : Int) + 1) = true := by simp; omega
        have e1 : decide ((m : Int) ≤ 1) = true := by simp; omega
        have e2 : decide (m ≤ 1) = true := by simpa using hm1
        have htn : tot ≤ n := by have := HTOT.out; omega
        have htn1 : (tot : Int) ≤ (n : Int) := by omega
        go_upto_region 18 with (refine wpList_copy_gls _ rfl (.tmp 95) (.tmp 96) 30 30 rfl 38 Try.underlying30 sizeGl _ _ _ _ _ _ rfl rfl g (i * 10) cur 38 hg2 Y (by rw [HYL.out]; congr 1; exact (Nat.min_eq_left (by omega)).symm) (fun hp => by
          obtain ⟨gv, e, _, h2, cur2, h3, _, h5⟩ := HVC2.out (by have := HYL.out; omega)
          exact ⟨rfl, gv, 0, e, src_of h3 (by simpa using h5)⟩) (by have := HYL.out; have := HCL.out; omega) H1Y.out ?_)
        go_still_tail 9, (by kernel_rfl)
        change wpList _ _ _ _ _ (World.drew _)
        obtain ⟨w5, hw5⟩ : ∃ z, z = (w2.setRow g (splice cur (i * 10) Y).toArray).drew := ⟨_, rfl⟩
        rw [← hw5]
        have h5g : w5.heap[g]? = some (.cells (splice cur (i * 10) Y).toArray 38 (0, 0)) := by rw [hw5]; exact setRow_heap _ g _ _ _ _ hg2
        have hb5 : Below base w w5 := by rw [hw5]; exact (below_setRow hbA hgb _).drew
        have hsl5 : (splice cur (i * 10) Y).length = c * 10 := by rw [length_splice _ _ _ (by have := HYL.out; have := HCL.out; omega)]; exact HCL.out
        have hsrc : ∀ (t : Nat) v, X2[t]? = some v → (splice cur (i * 10) Y)[(i + 1) * 10 + t]? = some v := fun t v ht => by
          rw [splice_after (by have := HYL.out; omega) (by have := HYL.out; have := HCL.out; omega)]
          exact HCTD.out t v ht
        have HSRC := Lib.hid hsrc
        clear hw5 hsrc
        refine wpList_copy_gls _ rfl (.tmp 103) (.tmp 106) 30 30 rfl 38 Try.underlying30 sizeGl _ _ _ _ _ _ rfl rfl g ((i + m) * 10) (splice cur (i * 10) Y) 38 h5g X2 (by rw [HDL.out]; congr 1; exact (Nat.min_eq_left (by have := HTOT.out; omega)).symm) (fun _ => ⟨rfl, g, (i + 1) * 10, rfl, src_of h5g HSRC.out⟩) (by have := HDL.out; have := HTOT.out; omega) H1X.out ?_
        obtain ⟨Z, hZ⟩ : ∃ Z, Z = splice (splice cur (i * 10) Y) ((i + m) * 10) X2 := ⟨_, rfl⟩
        rw [← hZ]
        have hzl : Z.length = c * 10 := by rw [hZ, length_splice _ _ _ (by have := HDL.out; have := HTOT.out; omega)]; exact hsl5
        have hzt : Z.take (tot * 10) = glCells (gs.take i ++ vs ++ gs.drop (i + 1)) := by
          have hres := splice2_take (X1 := X1) (Y := Y) (X2 := X2) (a := i * 10) (cur := cur) HCTI.out HTL.out (by have h1 := HYL.out; have h2 := HDL.out; have h3 := HCL.out; have h4 := HTOT.out; omega)
          rw [← HRES.out, ← hres, HYL.out, HDL.out, hZ]
          congr 1
          · have := HTOT.out; omega
          · congr 1; omega
        obtain ⟨w6, hw6⟩ : ∃ z, z = w5.setRow g Z.toArray := ⟨_, rfl⟩
        rw [← hw6]
        have h6g : w6.heap[g]? = some (.cells Z.toArray 38 (0, 0)) := by rw [hw6]; exact setRow_heap _ g _ _ _ _ h5g
        have hb6 : Below base w w6 := by rw [hw6]; exact below_setRow hb5 hgb _
        have HZL := Lib.hid hzl
        have HZT := Lib.hid hzt
        clear hw6 hZ hzl hzt
        by_cases hct : c = tot
        · go_wp2_with (refine wpList_clear_gls _ rfl (.tmp 110) 30 rfl 38 _ Try.underlying30 zeroGl rfl zeroGl_one _ _ _ rfl g (tot * 10) Z 38 h6g (fun h => by exfalso; omega) (by have := HZL.out; omega) ?_; intro cur' hl' ht' hz')
          go_ret
          have hlen := HRL.out
          refine ⟨_, _, by rw [hlen, ← HTOT.out]; rfl, ?_, below_setRow hb6 hgb _⟩
          rw [hlen, ← HTOT.out]
          refine GRow.of_block (setRow_heap _ g _ _ _ _ h6g) hgb (by rw [hlen]; exact HTOT.out.symm) (by omega) (by unfold maxLen; omega) (by have h9 := HZL.out; omega) ?_
          rw [← HZT.out]
          by_cases hnt : tot < n
          · exact ht' (by omega)
          · rw [hz' (by omega)]
        · go_wp2_with (refine wpList_clear_gls _ rfl (.tmp 110) 30 rfl 38 _ Try.underlying30 zeroGl rfl zeroGl_one _ _ _ rfl g (tot * 10) Z 38 h6g (fun _ => rfl) (by have := HZL.out; omega) ?_; intro cur' hl' ht' hz')
          go_ret
          have hlen := HRL.out
          refine ⟨_, _, by rw [hlen, ← HTOT.out]; rfl, ?_, below_setRow hb6 hgb _⟩
          rw [hlen, ← HTOT.out]
          refine GRow.of_block (setRow_heap _ g _ _ _ _ h6g) hgb (by rw [hlen]; exact HTOT.out.symm) (by omega) (by unfold maxLen; omega) (by have h9 := HZL.out; omega) ?_
          rw [← HZT.out]
          by_cases hnt : tot < n
          · exact ht' (by omega)
          · rw [hz' (by omega)]
      · have e0 : decide ((i : Int) + (m : Int) ≤ (i : Int) + 1) = false := by simp; omega
        have e1 : decide ((m : Int) ≤ 1) = false := by simp; omega
        have e2 : decide (m ≤ 1) = false := by simpa using hm1
        obtain ⟨gv, rfl, hgv, hgvs, cur2, hc2, hcl2, hcy⟩ := HVC2.out (by omega)
        have HCY := Lib.hid hcy
        have hov : ∀ n1 c1 n2 c2 : Nat, (callFunc 82 #[.slice (some ⟨g, (i + m) * 10, none⟩) n1 c1, .slice (some ⟨gv, 0, none⟩) n2 c2]).run Try.prog w2 = .ok (.value (.bool false)) w2 := fun n1 c1 n2 c2 => overlaps_any w2 g gv _ c1 n1 n2 c2 cur cur2 (fun h => hgv h.symm) hg2 hc2 hcl2 0
        clear hm1 hcy
        go_upto_region 22 with (simp only [hov])
        go_still_tail 9, (by kernel_rfl)
        change wpList _ _ _ _ _ (World.drew _)
        obtain ⟨w4, hw4⟩ : ∃ z, z = w2.drew := ⟨_, rfl⟩
        rw [← hw4]
        have h4g : w4.heap[g]? = some (.cells cur.toArray 38 (0, 0)) := by rw [hw4]; exact hg2
        have h4v : w4.heap[gv]? = some (.cells cur2.toArray 38 (0, 0)) := by rw [hw4]; exact hc2
        have hb4 : Below base w w4 := by rw [hw4]; exact hbA.drew
        clear hw4 hov
        refine wpList_copy_gls _ rfl (.tmp 126) (.tmp 129) 30 30 rfl 38 Try.underlying30 sizeGl _ _ _ _ _ _ rfl rfl g ((i + m) * 10) cur 38 h4g X2 (by rw [HDL.out]; congr 1; exact (Nat.min_eq_left (by have := HTOT.out; omega)).symm) (fun _ => ⟨rfl, g, (i + 1) * 10, rfl, src_of h4g HCTD.out⟩) (by have := HDL.out; have := HTOT.out; have := HCL.out; omega) H1X.out ?_
        obtain ⟨w5, hw5⟩ : ∃ z, z = w4.setRow g (splice cur ((i + m) * 10) X2).toArray := ⟨_, rfl⟩
        rw [← hw5]
        have h5g : w5.heap[g]? = some (.cells (splice cur ((i + m) * 10) X2).toArray 38 (0, 0)) := by rw [hw5]; exact setRow_heap _ g _ _ _ _ h4g
        have h5v : w5.heap[gv]? = some (.cells cur2.toArray 38 (0, 0)) := by rw [hw5]; exact (setRow_other w4 g gv _ hgv).trans h4v
        have hb5 : Below base w w5 := by rw [hw5]; exact below_setRow hb4 hgb _
        have hsl5 : (splice cur ((i + m) * 10) X2).length = c * 10 := by rw [length_splice _ _ _ (by have := HDL.out; have := HCL.out; have := HTOT.out; omega)]; exact HCL.out
        clear hw5
        go_wp2_with (refine wpList_copy_gls _ rfl (.tmp 133) (.tmp 134) 30 30 rfl 38 Try.underlying30 sizeGl _ _ _ _ _ _ rfl rfl g (i * 10) (splice cur ((i + m) * 10) X2) 38 h5g Y (by rw [HYL.out]; congr 1; exact (Nat.min_eq_left (by omega)).symm) (fun _ => ⟨rfl, gv, 0, rfl, src_of h5v (by simpa using HCY.out)⟩) (by have := HYL.out; omega) H1Y.out ?_)
        go_ret
        have hres := splice2_take' (X1 := X1) (Y := Y) (X2 := X2) (a := i * 10) (cur := cur) HCTI.out HTL.out (by have h1 := HYL.out; have h2 := HDL.out; have h3 := HCL.out; have h4 := HTOT.out; omega)
        have hlen := HRL.out
        refine ⟨_, _, by rw [hlen, ← HTOT.out]; rfl, ?_, below_setRow hb5 hgb _⟩
        rw [hlen, ← HTOT.out]
        refine GRow.of_block (setRow_heap _ g _ _ _ _ h5g) hgb (by rw [hlen]; exact HTOT.out.symm) htc (by unfold maxLen; omega) ?_ ?_
        · rw [length_splice _ _ _ (by have := HYL.out; omega)]; exact hsl5
        · rw [← HRES.out, ← hres, HYL.out, HDL.out]
          congr 1
          · have := HTOT.out; omega
          · congr 2; omega

end Go.Proofs.Ytngdolmmaiogiaa
