/- The walks of covers and to. Condition: the font and the subtable read as their shapes. Printed by wip/tools/g27d.py. -/
import Derived.Test.YtbjeflblhjfagaaFontD0
namespace Go.Proofs.Ytbjeflblhjfagaa
open Go.RowKit

set_option maxRecDepth 100000 in
set_option maxHeartbeats 4000000 in
theorem covers_any (F : Fnt) (B : Nat) (A : Option Addr) (n c : Nat) (lo : Int) (w : World) (h : ShSl w B shInts A n c) (hB : B ≤ w.heap.size) :
    Calls Try.prog 72 #[.agg #[.int .i64 F.em, .slice F.GA F.gn F.gc, .slice F.MA F.mn F.mc, .slice F.LA F.ln F.lc, .slice F.FA F.fn F.fc, .slice F.SA F.sn F.sc], .slice A n c, .int .i64 lo] w (RetB w fun _ => True) := by
  have hcap := h.cap
  obtain ⟨w1, hw1⟩ : ∃ z, z = w.alloc (.cells #[.int .i64 F.em, .slice F.GA F.gn F.gc, .slice F.MA F.mn F.mc, .slice F.LA F.ln F.lc, .slice F.FA F.fn F.fc, .slice F.SA F.sn F.sc] 28) := ⟨_, rfl⟩
  have hb1 : Below w.heap.size w w1 := by rw [hw1]; exact (Below.refl _ _).alloc (Nat.le_refl _) _
  have hs1 : w.heap.size < w1.heap.size := by rw [hw1]; simp
  have hfb : FBox w1 w.heap.size F := by rw [hw1]; exact FBox.new w F
  obtain ⟨f0, f1, f2, f3, f4, f5⟩ := hfb.cells
  have g0 := up_fact f0
  have g1 := up_fact f1
  have g2 := up_fact f2
  have g3 := up_fact f3
  have g4 := up_fact f4
  have g5 := up_fact f5
  have hA0 := Below.refl w1.heap.size w1
  clear f0 f1 f2 f3 f4 f5 hfb
  have HW1 := Lib.hid hw1
  clear hw1
  have HI := Lib.hid (h.below (hb1.mono hB))
  clear h
  go_enter Try.func72, Try.ntmps72
  go_upto_region 1 with (fail)
  rw [← HW1.out]
  go_wp2_with fail
  go_loopw [7] (fun v wr => ∃ k : Nat, v = .int .i64 (k : Int) ∧ k ≤ n ∧ Below w1.heap.size w1 wr) (fun v _ => n - (intOf v).toNat)
  case atStart => exact ⟨0, rfl, Nat.zero_le _, hA0⟩
  case round =>
    obtain ⟨i, rfl, hi, hA⟩ := hrel
    by_cases hli : i < n
    · obtain ⟨b, o, As, ns, cs, rfl, hbb, c0, hin⟩ := HI.out.atInts hli
      obtain ⟨zs, hzs⟩ := hin.ints
      have y0 := up_fact c0
      obtain ⟨t1, ht1⟩ : ∃ t, t = coB F.gn zs := ⟨_, rfl⟩
      have HT1 := Lib.hid (fun W (hW : Below w1.heap.size w1 W) => cover_any F B As ns cs zs W (hzs.below (hW.mono (by omega))) (by have := hW.size; omega))
      rw [← ht1] at HT1
      have HUP := Lib.hid (bup hA)
      clear c0 hin hzs ht1
      go_wp2_with fail
      have hU0 := bup hA
      refine wp_region_up wr.heap.size (by kernel_rfl) (by kernel_rfl) ?_
      repeat (go_big_quiet_step ((first | (go_at_call 49; exact Calls.up_of (Nat.le_refl _) (HT1.out _ (HUP.out _))))))
      refine wpQuiet_nil (up_all fun w2 hb2 => ?_)
      have hA := bgo hA hb2
      clear hb2 hU0
      clear HUP
      rcases t1 with _ | _
      · go_wp2_with fail
        go_ret
        exact ⟨_, rfl, trivial, hb1.trans (hA.mono (by omega))⟩
      · go_wp2_with fail
        go_roundw
        case rel => exact ⟨i + 1, by go_num, by omega, hA⟩
        case measure => simp [intOf]; omega
    · have h0 : decide ((i : Int) < (n : Int)) = false := by simp; omega
      go_wp2_with (go_at_call 44; refine (within_any _ _ _ _).mono ?_; rintro e w9 ⟨rfl, rfl⟩)
      go_ret
      exact ⟨_, rfl, trivial, hb1.trans (hA.mono (by omega))⟩

/-- what the check of what a cover becomes tells -/
def ToP (cov : List Int) (tos : List (List Int)) (lo hi : Int) (b : Bool) : Prop := b = true → cov.length = tos.length ∧ ∀ j, j < tos.length → wiB ((tos.getD j []).length : Int) lo hi = true
set_option maxRecDepth 100000 in
set_option maxHeartbeats 4000000 in
theorem to_any (F : Fnt) (B : Nat) (s : Sb) (cov : List Int) (tos : List (List Int)) (lo hi : Int) (w : World) (hco : Ints w B s.co.A s.co.n s.co.c cov) (hto : Grd w B s.tt.A s.tt.n s.tt.c tos) (hB : B ≤ w.heap.size) :
    Calls Try.prog 69 #[.agg #[.int .i64 F.em, .slice F.GA F.gn F.gc, .slice F.MA F.mn F.mc, .slice F.LA F.ln F.lc, .slice F.FA F.fn F.fc, .slice F.SA F.sn F.sc], .agg #[.slice s.co.A s.co.n s.co.c, .slice s.tt.A s.tt.n s.tt.c, .slice s.li.A s.li.n s.li.c, .slice s.ba.A s.ba.n s.ba.c, .slice s.inn.A s.inn.n s.inn.c, .slice s.ah.A s.ah.n s.ah.c, .slice s.ne.A s.ne.n s.ne.c, .slice s.va.A s.va.n s.va.c, .slice s.pr.A s.pr.n s.pr.c, .slice s.cu.A s.cu.n s.cu.c, .slice s.ma.A s.ma.n s.ma.c, .slice s.ho.A s.ho.n s.ho.c], .int .i64 lo, .int .i64 hi] w (RetB w (ToP cov tos lo hi)) := by
  have hcap := hto.cap
  have hcapc := hco.cap
  have hlt' := hto.1
  have hlc := hco.length
  obtain ⟨t0, ht0⟩ : ∃ t, t = coB F.gn cov := ⟨_, rfl⟩
  obtain ⟨wa, hwa⟩ : ∃ z, z = w.alloc (.cells #[.int .i64 F.em, .slice F.GA F.gn F.gc, .slice F.MA F.mn F.mc, .slice F.LA F.ln F.lc, .slice F.FA F.fn F.fc, .slice F.SA F.sn F.sc] 28) := ⟨_, rfl⟩
  have hba : Below w.heap.size w wa := by rw [hwa]; exact (Below.refl _ _).alloc (Nat.le_refl _) _
  have hsa : wa.heap.size = w.heap.size + 1 := by rw [hwa]; simp
  have hfa : FBox wa w.heap.size F := by rw [hwa]; exact FBox.new w F
  obtain ⟨w1, hw1⟩ : ∃ z, z = wa.alloc (.cells #[.slice s.co.A s.co.n s.co.c, .slice s.tt.A s.tt.n s.tt.c, .slice s.li.A s.li.n s.li.c, .slice s.ba.A s.ba.n s.ba.c, .slice s.inn.A s.inn.n s.inn.c, .slice s.ah.A s.ah.n s.ah.c, .slice s.ne.A s.ne.n s.ne.c, .slice s.va.A s.va.n s.va.c, .slice s.pr.A s.pr.n s.pr.c, .slice s.cu.A s.cu.n s.cu.c, .slice s.ma.A s.ma.n s.ma.c, .slice s.ho.A s.ho.n s.ho.c] 62) := ⟨_, rfl⟩
  have hb1 : Below w.heap.size w w1 := by rw [hw1]; exact hba.alloc (by omega) _
  have hfb : FBox w1 w.heap.size F := by rw [hw1]; exact (heap_alloc_old _ _ (by omega)).trans hfa
  have hsb : SBox w1 (w.heap.size + 1) s := by rw [hw1, ← hsa]; exact heap_alloc_new _ _
  have hs1 : w.heap.size + 1 < w1.heap.size := by rw [hw1]; simp; omega
  obtain ⟨f0, f1, f2, f3, f4, f5⟩ := hfb.cells
  obtain ⟨e0, e1, e2, e3, e4, e5, e6, e7, e8, e9, e10, e11⟩ := hsb.cells
  have g0 := up_fact f0
  have g1 := up_fact f1
  have g2 := up_fact f2
  have g3 := up_fact f3
  have g4 := up_fact f4
  have g5 := up_fact f5
  have k0 := up_fact e0
  have k1 := up_fact e1
  have k2 := up_fact e2
  have k3 := up_fact e3
  have k4 := up_fact e4
  have k5 := up_fact e5
  have k6 := up_fact e6
  have k7 := up_fact e7
  have k8 := up_fact e8
  have k9 := up_fact e9
  have k10 := up_fact e10
  have k11 := up_fact e11
  have hA0 := Below.refl w1.heap.size w1
  clear f0 f1 f2 f3 f4 f5 e0 e1 e2 e3 e4 e5 e6 e7 e8 e9 e10 e11 hfb hsb hfa hba
  have HW1 := Lib.hid hw1
  have HWA := Lib.hid hwa
  clear hw1 hwa hsa
  have HI := Lib.hid (hto.below (hb1.mono hB))
  have HC := Lib.hid (fun W (hW : Below w1.heap.size w1 W) => cover_any F B s.co.A s.co.n s.co.c cov W (hco.below ((hb1.mono hB).trans (hW.mono (by omega)))) (by have := hW.size; omega))
  rw [← ht0] at HC
  have HL := Lib.hid (And.intro hlc hlt')
  clear ht0 hto hco hlt' hlc
  go_enter Try.func69, Try.ntmps69
  go_upto_region 1 with (fail)
  rw [← HWA.out, ← HW1.out]
  go_cut [23] (fun v W => ∃ t : Bool, v = .bool t ∧ Below w1.heap.size w1 W ∧ (t = false → s.tt.n = s.co.n))
  case first =>
    rcases t0 with _ | _
    · go_wp2_with (go_at_call 49; refine (HC.out _ hA0).mono ?_; rintro e w9 ⟨rfl, hb⟩; have hA0 := bgo hA0 hb; clear hb)
      go_meet
      exact ⟨_, rfl, hA0, fun h => by cases h⟩
    · by_cases hn : s.tt.n = s.co.n
      · have d0 : ((s.tt.n : Int) != (s.co.n : Int)) = false := by simp [hn]
        have HN := Lib.hid hn
        clear hn
        go_wp2_with (go_at_call 49; refine (HC.out _ hA0).mono ?_; rintro e w9 ⟨rfl, hb⟩; have hA0 := bgo hA0 hb; clear hb)
        go_meet
        exact ⟨_, rfl, hA0, fun _ => HN.out⟩
      · have d0 : ((s.tt.n : Int) != (s.co.n : Int)) = true := by simp [bne]; omega
        clear hn
        go_wp2_with (go_at_call 49; refine (HC.out _ hA0).mono ?_; rintro e w9 ⟨rfl, hb⟩; have hA0 := bgo hA0 hb; clear hb)
        go_meet
        exact ⟨_, rfl, hA0, fun h => by cases h⟩
  obtain ⟨t, rfl, hA0, hE⟩ := hcut
  have HE := Lib.hid hE
  clear hE
  rcases t with _ | _
  rotate_left
  · go_wp2_with fail
    go_ret
    exact ⟨_, rfl, (fun h => by cases h), hb1.trans (hA0.mono (by omega))⟩
  go_wp2_with fail
  go_loopw [9] (fun v wr => ∃ k : Nat, v = .int .i64 (k : Int) ∧ k ≤ s.tt.n ∧ (∀ j, j < k → wiB ((tos.getD j []).length : Int) lo hi = true) ∧ Below w1.heap.size w1 wr) (fun v _ => s.tt.n - (intOf v).toNat)
  case atStart => exact ⟨0, rfl, Nat.zero_le _, fun j hj => by omega, hA0⟩
  case round =>
    obtain ⟨k, rfl, hk, hall, hA⟩ := hrel
    have HALL := Lib.hid hall
    clear hall
    by_cases hlt : k < s.tt.n
    · obtain ⟨b, o, A', n', c', eT, hbb, c0, hin⟩ := HI.out.2.2.2 k hlt
      have hcap' := hin.cap
      rw [eT] at k1 ⊢
      have y0 := up_fact c0
      obtain ⟨t1, ht1⟩ : ∃ t, t = wiB (n' : Int) lo hi := ⟨_, rfl⟩
      obtain ⟨t2, ht2⟩ : ∃ t, t = allB F.gn (tos.getD k []) := ⟨_, rfl⟩
      have HT1 := Lib.hid (show ∀ W, Calls Try.prog 44 #[.int .i64 (n' : Int), .int .i64 lo, .int .i64 hi] W fun e w' => e = .returned (.bool t1) ∧ W = w' from fun W => by rw [ht1]; exact within_any _ _ _ W)
      have HT2 := Lib.hid (fun W (hW : Below w1.heap.size w1 W) => all_any F B A' n' c' (tos.getD k []) W (hin.below (hW.mono (by omega))) (by have := hW.size; omega))
      rw [← ht2] at HT2
      have HX := Lib.hid (show wiB ((tos.getD k []).length : Int) lo hi = t1 by rw [ht1, hin.length])
      have HUP := Lib.hid (bup hA)
      clear c0 hin ht1 ht2
      go_upto_region 6 with (fail)
      go_cut [50] (fun v W => ∃ t : Bool, v = .bool t ∧ Below w1.heap.size w1 W ∧ (t = false → t1 = true))
      case first =>
        rcases t1 with _ | _
        · go_wp2_with fail
          have hU0 := bup hA
          refine wp_region_up wr.heap.size (by kernel_rfl) (by kernel_rfl) ?_
          repeat (go_big_quiet_step ((first | (go_at_call 44; exact Calls.up_same (HT1.out _)) | (go_at_call 67; exact Calls.up_of (Nat.le_refl _) (HT2.out _ (HUP.out _))))))
          refine wpQuiet_nil (up_all fun w2 hb2 => ?_)
          have hA := bgo hA hb2
          clear hb2 hU0
          go_wp2_with fail
          go_meet
          exact ⟨_, rfl, hA, fun h => by cases h⟩
        · rcases t2 with _ | _
          all_goals
            go_wp2_with fail
            have hU0 := bup hA
            refine wp_region_up wr.heap.size (by kernel_rfl) (by kernel_rfl) ?_
            repeat (go_big_quiet_step ((first | (go_at_call 44; exact Calls.up_same (HT1.out _)) | (go_at_call 67; exact Calls.up_of (Nat.le_refl _) (HT2.out _ (HUP.out _))))))
            refine wpQuiet_nil (up_all fun w2 hb2 => ?_)
            have hA := bgo hA hb2
            clear hb2 hU0
            go_wp2_with fail
            go_meet
            exact ⟨_, rfl, hA, fun _ => (by first | rfl | trivial)⟩
      obtain ⟨t, rfl, hA, hE⟩ := hcut
      have HE2 := Lib.hid hE
      clear hE HUP
      rcases t with _ | _
      · go_wp2_with fail
        go_roundw
        case rel => exact ⟨k + 1, by go_num, by omega, all_succ HALL.out (HX.out.trans (HE2.out (by first | rfl | trivial))), hA⟩
        case measure => simp [intOf]; omega
      · go_wp2_with fail
        go_ret
        exact ⟨_, rfl, (fun h => by cases h), hb1.trans (hA.mono (by omega))⟩
    · obtain rfl : k = s.tt.n := by omega
      have h0 : ¬ s.tt.n < s.tt.n := Nat.lt_irrefl _
      go_wp2_with fail
      go_ret
      exact ⟨_, rfl, (fun _ => ⟨by rw [HL.out.1, HL.out.2]; exact (HE.out (by first | rfl | trivial)).symm, fun j hj => HALL.out j (by rw [← HL.out.2]; exact hj)⟩), hb1.trans (hA.mono (by omega))⟩

end Go.Proofs.Ytbjeflblhjfagaa
