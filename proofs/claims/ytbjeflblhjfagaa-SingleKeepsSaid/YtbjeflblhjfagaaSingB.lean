/- The walks of the reference's To and of Ints. Condition: the lookup reads as its shape and is one that may be. Printed by wip/tools/g27m.py. -/
import Derived.Test.YtbjeflblhjfagaaSingA
import Derived.Deep.QuietTactic
import Derived.WalkSmall
namespace Go.Proofs.Ytbjeflblhjfagaa
open Go.RowKit

set_option maxRecDepth 100000 in
set_option maxHeartbeats 4000000 in
theorem rto_any (B : Nat) (l : Lk) (ps : List PS) (g : Int) (w : World) (h : SubsR w B l.su.A l.su.n l.su.c ps) (h1' : LkOne (l.ki, ps)) (hB : B ≤ w.heap.size) :
    Calls Try.prog 10 #[.agg #[.int .i64 l.ki, .int .i64 l.fl, .int .i64 l.se, .slice l.su.A l.su.n l.su.c], .int .i64 g] w (RetTo w (toB (l.ki, ps) g)) := by
  have hcap := h.cap
  have hpl := h.1
  obtain ⟨w1, hw1⟩ : ∃ z, z = w.alloc (.cells #[.int .i64 l.ki, .int .i64 l.fl, .int .i64 l.se, .slice l.su.A l.su.n l.su.c] 31) := ⟨_, rfl⟩
  have hb1 : Below w.heap.size w w1 := by rw [hw1]; exact (Below.refl _ _).alloc (Nat.le_refl _) _
  have hs1 : w.heap.size < w1.heap.size := by rw [hw1]; simp
  have hkb : KBox w1 w.heap.size l := by rw [hw1]; exact heap_alloc_new _ _
  obtain ⟨l0, l1, l2, l3⟩ := hkb.cells
  have h0 := up_fact l0
  have h1 := up_fact l1
  have h2 := up_fact l2
  have h3 := up_fact l3
  have hA0 := Below.refl w1.heap.size w1
  clear l0 l1 l2 l3 hkb
  have HW1 := Lib.hid hw1
  clear hw1
  have hBw : B ≤ w1.heap.size := by omega
  have HS := Lib.hid (h.below (hb1.mono hB))
  have HONE := Lib.hid h1'
  have HPL := Lib.hid hpl
  clear h hpl h1'
  obtain ⟨t, ht⟩ : ∃ t, t = kiB l.ki := ⟨_, rfl⟩
  have HT := Lib.hid ht
  clear ht
  go_enter Try.func10, Try.ntmps10
  go_upto_region 1 with (fail)
  rw [← HW1.out]
  go_cut [18] (fun v W => ∃ t2, v = .bool t2 ∧ t2 = (!t) ∧ W = w1)
  case first =>
    by_cases e1 : l.ki = 1
    · have q1 : (l.ki != 1) = false := by simp [e1]
      have HQ := Lib.hid (show t = true by rw [HT.out]; unfold kiB; rw [e1]; rfl)
      clear e1
      go_wp2_with fail
      go_meet
      exact ⟨_, rfl, by rw [HQ.out]; rfl, rfl⟩
    · have q1 : (l.ki != 1) = true := by simp [e1]
      by_cases e2 : l.ki = 2
      · have q2 : (l.ki != 2) = false := by simp [e2]
        have HQ := Lib.hid (show t = true by rw [HT.out]; unfold kiB; rw [e2]; rfl)
        clear e1 e2
        go_wp2_with fail
        go_meet
        exact ⟨_, rfl, by rw [HQ.out]; rfl, rfl⟩
      · have q2 : (l.ki != 2) = true := by simp [e2]
        have HQ := Lib.hid (show t = false by rw [HT.out]; unfold kiB; simp [e1, e2])
        clear e1 e2
        go_wp2_with fail
        go_meet
        exact ⟨_, rfl, by rw [HQ.out]; rfl, rfl⟩
  obtain ⟨t2, rfl, ht2, hwc⟩ := hcut
  have hwd := hwc.symm
  subst hwd
  clear hwc
  rcases t with _ | _
  · obtain rfl : t2 = true := ht2
    go_wp2_with fail
    go_ret2
    exact RetTo.none_ (toB_off HT.out.symm) (hb1.trans (hA0.mono (by omega)))
  obtain rfl : t2 = false := ht2
  go_wp2_with fail
  go_loopw [6] (fun v wr => ∃ k : Nat, v = .int .i64 (k : Int) ∧ k ≤ l.su.n ∧ (∀ j, j < k → ixI (ps.getD j nS).1 g = none) ∧ Below w1.heap.size w1 wr) (fun v _ => l.su.n - (intOf v).toNat)
  case atStart => exact ⟨0, rfl, Nat.zero_le _, fun j hj => by omega, hA0⟩
  case round =>
    obtain ⟨k, rfl, hk, hall, hA⟩ := hrel
    have HALL := Lib.hid hall
    clear hall
    by_cases hlt : k < l.su.n
    · obtain ⟨b, o, s, eS, hbb, ⟨c0, c1, c2, c3, c4, c5, c6, c7, c8, c9, c10, c11⟩, _, hco, hto⟩ := HS.out.2.2.2 k hlt
      obtain ⟨p, hp⟩ : ∃ p, p = ps.getD k nS := ⟨_, rfl⟩
      rw [← hp] at hco hto
      have hone := HONE.out.len HT.out.symm (j := k) (by show k < ps.length; rw [HPL.out]; exact hlt)
      rw [show (l.ki, ps).2.getD k nS = p from hp.symm] at hone
      have hcapt := hto.cap
      have hcapc := hco.cap
      have HCL := Lib.hid hco.length
      have HLEN := Lib.hid (show s.co.n = s.tt.n by rw [← hco.length, ← hto.1]; exact hone.1)
      have HP := Lib.hid hp
      have HONEP := Lib.hid hone
      have HTO := Lib.hid hto
      have HCO := Lib.hid hco
      rw [eS] at h3 ⊢
      have y0 := up_fact c0
      have y1 := up_fact c1
      have y2 := up_fact c2
      have y3 := up_fact c3
      have y4 := up_fact c4
      have y5 := up_fact c5
      have y6 := up_fact c6
      have y7 := up_fact c7
      have y8 := up_fact c8
      have y9 := up_fact c9
      have y10 := up_fact c10
      have y11 := up_fact c11
      clear c0 c1 c2 c3 c4 c5 c6 c7 c8 c9 c10 c11 hp hone hco hto
      go_upto_region 7 with (fail)
      obtain ⟨w3, hw3⟩ : ∃ z, z = wr.alloc (.cells #[.slice s.co.A s.co.n s.co.c, .slice s.tt.A s.tt.n s.tt.c, .slice s.li.A s.li.n s.li.c, .slice s.ba.A s.ba.n s.ba.c, .slice s.inn.A s.inn.n s.inn.c, .slice s.ah.A s.ah.n s.ah.c, .slice s.ne.A s.ne.n s.ne.c, .slice s.va.A s.va.n s.va.c, .slice s.pr.A s.pr.n s.pr.c, .slice s.cu.A s.cu.n s.cu.c, .slice s.ma.A s.ma.n s.ma.c, .slice s.ho.A s.ho.n s.ho.c] 62) := ⟨_, rfl⟩
      obtain ⟨bx, hbx⟩ : ∃ z, z = wr.heap.size := ⟨_, rfl⟩
      rw [← hw3, ← hbx]
      have hA3 := (show Below w1.heap.size w1 w3 by rw [hw3]; exact hA.alloc hA.size _)
      have hX : w3.heap[bx]? = some (.cells #[.slice s.co.A s.co.n s.co.c, .slice s.tt.A s.tt.n s.tt.c, .slice s.li.A s.li.n s.li.c, .slice s.ba.A s.ba.n s.ba.c, .slice s.inn.A s.inn.n s.inn.c, .slice s.ah.A s.ah.n s.ah.c, .slice s.ne.A s.ne.n s.ne.c, .slice s.va.A s.va.n s.va.c, .slice s.pr.A s.pr.n s.pr.c, .slice s.cu.A s.cu.n s.cu.c, .slice s.ma.A s.ma.n s.ma.c, .slice s.ho.A s.ho.n s.ho.c] 62 (0, 0)) := by rw [hw3, hbx]; exact heap_alloc_new _ _
      have xf0 := up_fact (show w3.cell? ⟨bx, 0, none⟩ = some (.slice s.co.A s.co.n s.co.c) by rw [cell_of_row _ _ 0 _ _ _ hX]; rfl)
      have xf1 := up_fact (show w3.cell? ⟨bx, 1, none⟩ = some (.slice s.tt.A s.tt.n s.tt.c) by rw [cell_of_row _ _ 1 _ _ _ hX]; rfl)
      have xf2 := up_fact (show w3.cell? ⟨bx, 2, none⟩ = some (.slice s.li.A s.li.n s.li.c) by rw [cell_of_row _ _ 2 _ _ _ hX]; rfl)
      have xf3 := up_fact (show w3.cell? ⟨bx, 3, none⟩ = some (.slice s.ba.A s.ba.n s.ba.c) by rw [cell_of_row _ _ 3 _ _ _ hX]; rfl)
      have xf4 := up_fact (show w3.cell? ⟨bx, 4, none⟩ = some (.slice s.inn.A s.inn.n s.inn.c) by rw [cell_of_row _ _ 4 _ _ _ hX]; rfl)
      have xf5 := up_fact (show w3.cell? ⟨bx, 5, none⟩ = some (.slice s.ah.A s.ah.n s.ah.c) by rw [cell_of_row _ _ 5 _ _ _ hX]; rfl)
      have xf6 := up_fact (show w3.cell? ⟨bx, 6, none⟩ = some (.slice s.ne.A s.ne.n s.ne.c) by rw [cell_of_row _ _ 6 _ _ _ hX]; rfl)
      have xf7 := up_fact (show w3.cell? ⟨bx, 7, none⟩ = some (.slice s.va.A s.va.n s.va.c) by rw [cell_of_row _ _ 7 _ _ _ hX]; rfl)
      have xf8 := up_fact (show w3.cell? ⟨bx, 8, none⟩ = some (.slice s.pr.A s.pr.n s.pr.c) by rw [cell_of_row _ _ 8 _ _ _ hX]; rfl)
      have xf9 := up_fact (show w3.cell? ⟨bx, 9, none⟩ = some (.slice s.cu.A s.cu.n s.cu.c) by rw [cell_of_row _ _ 9 _ _ _ hX]; rfl)
      have xf10 := up_fact (show w3.cell? ⟨bx, 10, none⟩ = some (.slice s.ma.A s.ma.n s.ma.c) by rw [cell_of_row _ _ 10 _ _ _ hX]; rfl)
      have xf11 := up_fact (show w3.cell? ⟨bx, 11, none⟩ = some (.slice s.ho.A s.ho.n s.ho.c) by rw [cell_of_row _ _ 11 _ _ _ hX]; rfl)
      have hC := Below.refl w3.heap.size w3
      clear hX hw3 hbx
      have hs13 := hA3.size
      go_wp2_with fail
      go_loopw [8] (fun v wr => ∃ i : Nat, v = .int .i64 (i : Int) ∧ i ≤ s.co.n ∧ (∀ j, j < i → p.1.getD j 0 ≠ g) ∧ Below w1.heap.size w1 wr ∧ Below w3.heap.size w3 wr) (fun v _ => s.co.n - (intOf v).toNat)
      case atStart => exact ⟨0, rfl, Nat.zero_le _, fun j hj => by omega, hA3, hC⟩
      case round =>
        clear hA3 hC
        obtain ⟨i, rfl, hi, halli, hA3, hC⟩ := hrel
        have HALLI := Lib.hid halli
        clear halli
        by_cases hli : i < s.co.n
        · have hli2 : i < s.tt.n := by have := HLEN.out; omega
          obtain ⟨b5, o5, eC, _, hcz⟩ := HCO.out.getD hli
          obtain ⟨x, hx⟩ : ∃ x, x = p.1.getD i 0 := ⟨_, rfl⟩
          rw [← hx] at hcz
          have z5 := up_fact hcz
          rw [eC] at xf0
          clear eC
          have HX := Lib.hid hx
          clear hcz hx
          by_cases hxg : x = g
          · have d1 : (x == g) = true := by simpa using hxg
            have HXG := Lib.hid hxg
            clear hxg
            obtain ⟨b', o', A', n', c', eT, _, d0, hin⟩ := HTO.out.2.2.2 i hli2
            rw [eT] at xf1
            clear eT
            have z0 := up_fact d0
            have hn16 : n' ≤ 16 := by rw [← hin.length]; exact HONEP.out.2.2 i (by rw [HTO.out.1]; exact hli2)
            obtain ⟨zs, hzs⟩ : ∃ z, z = p.2.getD i [] := ⟨_, rfl⟩
            rw [← hzs] at hin
            have HZ := Lib.hid hzs
            have HIN := Lib.hid hin
            have HLZ := Lib.hid hin.length
            have hcapz := hin.cap
            clear d0 hin hzs
            go_wp2_with fail
            obtain ⟨wo2, hwo2⟩ : ∃ wo : World, wo = wr := ⟨_, rfl⟩
            subst hwo2
            go_loopw [9, 10] (fun v9 v10 wr => ∃ (j : Nat) (A : Option Addr) (c : Nat), v9 = .slice A j c ∧ v10 = .int .i64 (j : Int) ∧ j ≤ n' ∧ Hid (Own wr w3.heap.size 3 A j c (zs.take j)) ∧ Below w1.heap.size w1 wr ∧ Below w3.heap.size w3 wr) (fun _ v10 _ => n' - (intOf v10).toNat)
            case atStart => exact ⟨0, none, 0, rfl, rfl, Nat.zero_le _, Own.nil_ _ _ _, hA3, hC⟩
            case round =>
              clear hA3 hC
              obtain ⟨j, A9, c9, rfl, rfl, hj, HO9, hA3, hC⟩ := hrel
              have hcap9 := Own.cap HO9.out
              by_cases hlj : j < n'
              · obtain ⟨b6, o6, eZ, _, hcy⟩ := HIN.out.getD hlj
                obtain ⟨y, hy⟩ : ∃ y, y = zs.getD j 0 := ⟨_, rfl⟩
                rw [← hy] at hcy
                have z6 := up_fact hcy
                rw [eZ] at z0
                clear eZ
                have HY := Lib.hid hy
                have hsz := hC.size
                have hsz1 := hA3.size
                clear hcy hy
                go_wp2_with (first
                  | (at_builtin; refine wpList_append_ints _ rfl (.tmp 62) (.tmp 71) 36 rfl w3.heap.size 3 Try.underlying36 infoInt A9 j c9 (zs.take j) rfl (HO9.out.alloc _) (wr.heap.size + 1) (some ⟨wr.heap.size, 0, none⟩) 1 1 [y] rfl (Ints.lit_at _ [y] _ _ (by omega) rfl rfl rfl) (by omega) (by simp; omega) ?_; intro A4 c4 w4 ho4 hg4 _))
                have hA4 := below_append (hA3.alloc hsz1 (.cells #[.int .i64 y] 3)) (by simp; omega) hg4 (HO9.out.alloc _) (by omega)
                have hC4 := below_append (hC.alloc hsz (.cells #[.int .i64 y] 3)) (by simp; omega) hg4 (HO9.out.alloc _) (Nat.le_refl _)
                have HO4 := Lib.hid (show Own w4 w3.heap.size 3 A4 (j + 1) c4 (zs.take (j + 1)) by rw [← take_succ_getD (by rw [HLZ.out]; exact hlj), ← HY.out]; exact ho4)
                clear ho4 hg4
                go_roundw
                case rel => exact ⟨j + 1, A4, c4, rfl, by go_num, by omega, HO4, hA4, hC4⟩
                case measure => simp [intOf]; omega
              · obtain rfl : j = n' := by omega
                have hz : ¬ j < j := Nat.lt_irrefl _
                go_wp2_with fail
                go_ret2
                exact RetTo.some_ (by rw [toB_on HT.out.symm, goB_some (ps := ps) (k := k) (i := i) (by rw [HPL.out]; exact hlt) (by rw [← HP.out]; exact ixI_some (by rw [HCL.out]; exact hli) (HX.out.symm.trans HXG.out) HALLI.out) HALL.out, ← HP.out, ← HZ.out]) HLZ.out (by have h9 := HO9.out.ints; rw [List.take_of_length_le (Nat.le_of_eq HLZ.out)] at h9; exact h9) (hb1.trans (hA3.mono (by omega)))
          · have d1 : (x == g) = false := by simpa using hxg
            have HXG := Lib.hid hxg
            clear hxg
            go_wp2_with fail
            go_roundw
            case rel => exact ⟨i + 1, by go_num, by omega, all_succ HALLI.out (fun h => HXG.out (HX.out.trans h)), hA3, hC⟩
            case measure => simp [intOf]; omega
        · have hz : decide ((i : Int) < (s.co.n : Int)) = false := by simp; omega
          have HKI := Lib.hid (show s.co.n ≤ i by omega)
          go_wp2_with fail
          go_roundw
          case rel => exact ⟨k + 1, by go_num, by omega, all_succ HALL.out (by rw [← HP.out]; exact ixI_none (fun j hj => HALLI.out j (by have h1 := HKI.out; rw [HCL.out] at hj; omega))), hA3⟩
          case measure => simp [intOf]; omega
    · have hz : decide ((k : Int) < (l.su.n : Int)) = false := by simp; omega
      have HKN := Lib.hid (show l.su.n ≤ k by omega)
      go_wp2_with fail
      go_ret2
      exact RetTo.none_ (by rw [toB_on HT.out.symm]; exact goB_none (fun j hj => HALL.out j (by have h1 := HKN.out; have h2 : j < ps.length := hj; rw [HPL.out] at h2; omega))) (hb1.trans (hA.mono (by omega)))

set_option maxRecDepth 100000 in
set_option maxHeartbeats 4000000 in
theorem eqints_any (B B2 : Nat) (A A2 : Option Addr) (n c c2 : Nat) (zs : List Int) (w : World) (h : Ints w B A n c zs) (h2 : Ints w B2 A2 n c2 zs) :
    Calls Try.prog 11 #[.slice A n c, .slice A2 n c2] w fun e w' => e = .returned (.bool true) ∧ Below w.heap.size w w' := by
  have hcap := h.cap
  have hcap2 := h2.cap
  have hnn : ((n : Int) != (n : Int)) = false := by simp
  go_enter Try.func11, Try.ntmps11
  go_wp2_with fail
  go_loopw [5] (fun i wr => ∃ (k q : Nat), i = .int .i64 (k : Int) ∧ k ≤ n ∧ wr = w.drewN q) (fun i _ => n - (intOf i).toNat)
  case atStart => exact ⟨0, 0, rfl, Nat.zero_le _, rfl⟩
  case round =>
    obtain ⟨k, q, rfl, hk, rfl⟩ := hrel
    by_cases hlt : k < n
    · obtain ⟨b, o, x, rfl, hb, hx, hc⟩ := h.at_ hlt
      obtain ⟨b2, o2, x2, rfl, hb2, hx2, hc2⟩ := h2.at_ hlt
      rw [hx] at hx2
      cases hx2
      have hxx : (x != x) = false := by simp
      clear hx h h2
      go_wp2_with fail
      go_quiet (fail)
      go_wp2
      go_roundw
      case rel => exact ⟨k + 1, _, by go_num, by omega, rfl⟩
      case measure => simp [intOf]; omega
    · have hge : n ≤ k := by omega
      go_wp2
      go_ret
      exact ⟨rfl, below_drewN (Below.refl _ _) _⟩

end Go.Proofs.Ytbjeflblhjfagaa
