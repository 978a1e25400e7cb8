/- The walks of place, Right and Fine. Condition: the font and the buffer read as their shapes. Printed by wip/tools/g27k.py. -/
import Derived.Test.YtbjeflblhjfagaaFontK
namespace Go.Proofs.Ytbjeflblhjfagaa
open Go.RowKit

def plB (p n : Int) : Bool := (p == -1) || (decide (0 ≤ p) && decide (p < n))
set_option maxHeartbeats 1000000 in
theorem place_any (p n : Int) (w : World) : Calls Try.prog 34 #[.int .i64 p, .int .i64 n] w fun e w' => e = .returned (.bool (plB p n)) ∧ w = w' := by
  unfold plB
  go_enter Try.func34, Try.ntmps34
  go_wp2
  all_goals
    go_ret
    exact ⟨by first | (simp [*]; done) | (simp_all; done) | (simp [*]; omega) | (simp; omega), rfl⟩

set_option maxRecDepth 100000 in
set_option maxHeartbeats 4000000 in
theorem right_any (B : Nat) (A : Option Addr) (n c : Nat) (w : World) (h : ShSl w B shGlyph A n c) (hB : B ≤ w.heap.size) :
    Calls Try.prog 19 #[.slice A n c] w (RetB w fun _ => True) := by
  have hcap := h.cap
  obtain ⟨w0, hw0⟩ : ∃ z : World, z = w := ⟨_, rfl⟩
  have hA0 : Below w0.heap.size w0 w := by rw [hw0]; exact Below.refl _ _
  have HW0 := Lib.hid hw0
  have HI := Lib.hid (show ShSl w0 B shGlyph A n c by rw [hw0]; exact h)
  have hBw : B ≤ w0.heap.size := by rw [hw0]; exact hB
  clear h hw0
  go_enter Try.func19, Try.ntmps19
  go_wp2_with fail
  go_loopw [3] (fun v wr => ∃ k : Nat, v = .int .i64 (k : Int) ∧ k ≤ n ∧ Below w0.heap.size w0 wr) (fun v _ => n - (intOf v).toNat)
  case atStart => exact ⟨0, rfl, Nat.zero_le _, hA0⟩
  case round =>
    obtain ⟨k, rfl, hk, hA⟩ := hrel
    by_cases hlt : k < n
    · obtain ⟨b, o, id, cl, ad, dx, dy, tw, ha, li, co, ma, rfl, hbb, ⟨_, c1, _, _, _, c5, c6, _⟩, _⟩ := HI.out.atGlyph hlt
      obtain ⟨j, hj⟩ : ∃ z, z = k - 1 := ⟨_, rfl⟩
      have hjn : j < n := by omega
      obtain ⟨_, _, _, cl2, _, _, _, _, _, _, _, _, e9, _, ⟨_, d1, _⟩, _⟩ := HI.out.atGlyph hjn
      cases e9
      have v1 := up_fact c1
      have v5 := up_fact c5
      have v6 := up_fact c6
      have z1 := up_fact d1
      clear c1 c5 c6 d1
      have HWR := Lib.hid (show 0 < k → IntKind.i64.wrap ((k : Int) - 1) = (j : Int) from fun h => by rw [IntKind.wrap_i64]; omega)
      clear hj
      obtain ⟨t1, ht1⟩ : ∃ t, t = plB tw (n : Int) := ⟨_, rfl⟩
      have Ht1 := Lib.hid (show ∀ W, Calls Try.prog 34 #[.int .i64 tw, .int .i64 (n : Int)] W fun e w' => e = .returned (.bool t1) ∧ W = w' from fun W => by rw [ht1]; exact place_any _ _ W)
      obtain ⟨t2, ht2⟩ : ∃ t, t = plB ha (n : Int) := ⟨_, rfl⟩
      have Ht2 := Lib.hid (show ∀ W, Calls Try.prog 34 #[.int .i64 ha, .int .i64 (n : Int)] W fun e w' => e = .returned (.bool t2) ∧ W = w' from fun W => by rw [ht2]; exact place_any _ _ W)
      clear ht1 ht2
      go_upto_region 4 with (fail)
      obtain ⟨wv, hwv⟩ : ∃ wv : World, wv = wr := ⟨_, rfl⟩
      subst hwv
      go_cut [47] (fun v W => ∃ t : Bool, v = .bool t ∧ Below w0.heap.size w0 W)
      case first =>
        by_cases hk0 : k = 0
        · have q0 : decide ((0 : Int) < (k : Int)) = false := by simp; omega
          have q00 : decide (0 < k) = false := by simp; omega
          clear hk0
          rcases t1 with _ | _
          · have hU0 := bup hA
            refine wp_region_up wv.heap.size (by kernel_rfl) (by kernel_rfl) ?_
            repeat (go_big_quiet_step ((first | (go_at_call_of 34 (Value.int .i64 tw); exact Calls.up_same (Ht1.out _)) | (go_at_call_of 34 (Value.int .i64 ha); exact Calls.up_same (Ht2.out _)))))
            refine wpQuiet_nil (up_all fun w2 hb2 => ?_)
            have hA := bgo hA hb2
            clear hb2 hU0
            go_wp2_with fail
            go_meet
            exact ⟨_, rfl, hA⟩
          · have hU0 := bup hA
            refine wp_region_up wv.heap.size (by kernel_rfl) (by kernel_rfl) ?_
            repeat (go_big_quiet_step ((first | (go_at_call_of 34 (Value.int .i64 tw); exact Calls.up_same (Ht1.out _)) | (go_at_call_of 34 (Value.int .i64 ha); exact Calls.up_same (Ht2.out _)))))
            refine wpQuiet_nil (up_all fun w2 hb2 => ?_)
            have hA := bgo hA hb2
            clear hb2 hU0
            go_wp2_with fail
            go_meet
            exact ⟨_, rfl, hA⟩
        · have q0 : decide ((0 : Int) < (k : Int)) = true := by simp; omega
          have q00 : decide (0 < k) = true := by simp; omega
          have hw1 := HWR.out (by omega)
          clear hk0
          by_cases hxy : cl < cl2
          · have q1 : decide (cl < cl2) = true := by simpa using hxy
            clear hxy
            have hU0 := bup hA
            refine wp_region_up wv.heap.size (by kernel_rfl) (by kernel_rfl) ?_
            repeat (go_big_quiet_step ((first | (go_at_call_of 34 (Value.int .i64 tw); exact Calls.up_same (Ht1.out _)) | (go_at_call_of 34 (Value.int .i64 ha); exact Calls.up_same (Ht2.out _)))))
            refine wpQuiet_nil (up_all fun w2 hb2 => ?_)
            have hA := bgo hA hb2
            clear hb2 hU0
            go_wp2_with fail
            go_meet
            exact ⟨_, rfl, hA⟩
          · have q1 : decide (cl < cl2) = false := by simpa using hxy
            clear hxy
            rcases t1 with _ | _
            · have hU0 := bup hA
              refine wp_region_up wv.heap.size (by kernel_rfl) (by kernel_rfl) ?_
              repeat (go_big_quiet_step ((first | (go_at_call_of 34 (Value.int .i64 tw); exact Calls.up_same (Ht1.out _)) | (go_at_call_of 34 (Value.int .i64 ha); exact Calls.up_same (Ht2.out _)))))
              refine wpQuiet_nil (up_all fun w2 hb2 => ?_)
              have hA := bgo hA hb2
              clear hb2 hU0
              go_wp2_with fail
              go_meet
              exact ⟨_, rfl, hA⟩
            · have hU0 := bup hA
              refine wp_region_up wv.heap.size (by kernel_rfl) (by kernel_rfl) ?_
              repeat (go_big_quiet_step ((first | (go_at_call_of 34 (Value.int .i64 tw); exact Calls.up_same (Ht1.out _)) | (go_at_call_of 34 (Value.int .i64 ha); exact Calls.up_same (Ht2.out _)))))
              refine wpQuiet_nil (up_all fun w2 hb2 => ?_)
              have hA := bgo hA hb2
              clear hb2 hU0
              go_wp2_with fail
              go_meet
              exact ⟨_, rfl, hA⟩
      obtain ⟨t, rfl, hA⟩ := hcut
      rcases t with _ | _
      · go_wp2_with fail
        go_roundw
        case rel => exact ⟨k + 1, by go_num, by omega, hA⟩
        case measure => simp [intOf]; omega
      · go_wp2_with fail
        go_ret
        exact ⟨_, rfl, trivial, by have := HW0.out; subst this; exact hA⟩
    · have h0 : decide ((k : Int) < (n : Int)) = false := by simp; omega
      go_wp2_with fail
      go_ret
      exact ⟨_, rfl, trivial, by have := HW0.out; subst this; exact hA⟩

set_option maxRecDepth 100000 in
set_option maxHeartbeats 4000000 in
theorem fine_any (F : Fnt) (B : Nat) (ls : List PL) (A : Option Addr) (n c : Nat) (w : World) (h : FntOk w B F) (hls : LksR w B F.LA F.ln F.lc ls) (hl : ShSl w B shGlyph A n c) (hB : B ≤ w.heap.size) :
    Calls Try.prog 7 #[.agg #[.int .i64 F.em, .slice F.GA F.gn F.gc, .slice F.MA F.mn F.mc, .slice F.LA F.ln F.lc, .slice F.FA F.fn F.fc, .slice F.SA F.sn F.sc], .slice A n c] w (RetB w fun b => b = true → LkP ls true ∧ n ≤ 40) := by
  have hcap := hl.cap
  obtain ⟨w1, hw1⟩ : ∃ z, z = w.alloc (.cells #[.int .i64 F.em, .slice F.GA F.gn F.gc, .slice F.MA F.mn F.mc, .slice F.LA F.ln F.lc, .slice F.FA F.fn F.fc, .slice F.SA F.sn F.sc] 28) := ⟨_, rfl⟩
  have hb1 : Below w.heap.size w w1 := by rw [hw1]; exact (Below.refl _ _).alloc (Nat.le_refl _) _
  have hs1 : w.heap.size < w1.heap.size := by rw [hw1]; simp
  have hfb : FBox w1 w.heap.size F := by rw [hw1]; exact FBox.new w F
  obtain ⟨f0, f1, f2, f3, f4, f5⟩ := hfb.cells
  have g0 := up_fact f0
  have g1 := up_fact f1
  have g2 := up_fact f2
  have g3 := up_fact f3
  have g4 := up_fact f4
  have g5 := up_fact f5
  have hA0 := Below.refl w1.heap.size w1
  clear f0 f1 f2 f3 f4 f5 hfb
  have HW1 := Lib.hid hw1
  clear hw1
  have HF := Lib.hid (h.below (hb1.mono hB))
  have HLS := Lib.hid (hls.below (hb1.mono hB))
  have HG := Lib.hid (hl.below (hb1.mono hB))
  clear h hls hl
  go_enter Try.func7, Try.ntmps7
  go_upto_region 1 with (fail)
  rw [← HW1.out]
  have hBw : B ≤ w1.heap.size := by omega
  by_cases h40 : n ≤ 40
  · have q0 : decide ((n : Int) ≤ 40) = true := by simp; omega
    have q00 : decide (n ≤ 40) = true := by simp; omega
    have HN := Lib.hid h40
    clear h40
    go_wp2_with (first
      | (go_at_call 17; refine (small_any F B _ (HF.out.below (hA0.mono hBw)) (by have := hA0.size; omega)).mono ?_; rintro e w9 ⟨t9, rfl, -, hb⟩; have hA0 := bgo hA0 hb; clear hb; rcases t9 with _ | _)
      | (go_at_call 18; refine (check_any F B ls _ (HF.out.below (hA0.mono hBw)) (HLS.out.below (hA0.mono hBw)) (by have := hA0.size; omega)).mono ?_; rintro e w9 ⟨t9, rfl, hp, hb⟩; have HP := Lib.hid hp; have hA0 := bgo hA0 hb; clear hb hp; rcases t9 with _ | _)
      | (go_at_call 19; refine (right_any B A n c _ (HG.out.below (hA0.mono hBw)) (by have := hA0.size; omega)).mono ?_; rintro e w9 ⟨t9, rfl, -, hb⟩; have hA0 := bgo hA0 hb; clear hb; rcases t9 with _ | _))
    all_goals
      go_ret
      first
        | exact ⟨_, rfl, (fun h => ⟨HP.out, HN.out⟩), hb1.trans (hA0.mono (by omega))⟩
        | exact ⟨false, rfl, (fun h => by cases h), hb1.trans (hA0.mono (by omega))⟩
  · have q0 : decide ((n : Int) ≤ 40) = false := by simp; omega
    have q00 : decide (n ≤ 40) = false := by simp; omega
    clear h40
    go_wp2_with (first
      | (go_at_call 17; refine (small_any F B _ (HF.out.below (hA0.mono hBw)) (by have := hA0.size; omega)).mono ?_; rintro e w9 ⟨t9, rfl, -, hb⟩; have hA0 := bgo hA0 hb; clear hb; rcases t9 with _ | _)
      | (go_at_call 18; refine (check_any F B ls _ (HF.out.below (hA0.mono hBw)) (HLS.out.below (hA0.mono hBw)) (by have := hA0.size; omega)).mono ?_; rintro e w9 ⟨t9, rfl, hp, hb⟩; have HP := Lib.hid hp; have hA0 := bgo hA0 hb; clear hb hp; rcases t9 with _ | _)
      | (go_at_call 19; refine (right_any B A n c _ (HG.out.below (hA0.mono hBw)) (by have := hA0.size; omega)).mono ?_; rintro e w9 ⟨t9, rfl, -, hb⟩; have hA0 := bgo hA0 hb; clear hb; rcases t9 with _ | _))
    all_goals
      go_ret
      exact ⟨false, rfl, (fun h => by cases h), hb1.trans (hA0.mono (by omega))⟩

end Go.Proofs.Ytbjeflblhjfagaa
