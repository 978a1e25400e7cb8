/- The walk of sub. Condition: the font and the subtable read as their shapes. Printed by wip/tools/g27h.py. -/
import Derived.Test.YtbjeflblhjfagaaFontT
import Derived.Test.YtbjeflblhjfagaaFontE
import Derived.Test.YtbjeflblhjfagaaFontF
import Derived.Test.YtbjeflblhjfagaaFontF2
import Derived.Test.YtbjeflblhjfagaaFontG
namespace Go.Proofs.Ytbjeflblhjfagaa
open Go.RowKit

/-- what the check of a subtable tells -/
def SubP (ki : Int) (cov : List Int) (tos : List (List Int)) (b : Bool) : Prop := b = true → (ki = 1 → cov.length = tos.length ∧ cov.length ≤ 4096 ∧ ∀ j, j < tos.length → (tos.getD j []).length = 1) ∧ (ki = 2 → cov.length = tos.length ∧ cov.length ≤ 4096 ∧ ∀ j, j < tos.length → (tos.getD j []).length ≤ 16)
theorem SubP.false {ki : Int} {cov : List Int} {tos : List (List Int)} : SubP ki cov tos false := fun h => by cases h
theorem SubP.not {ki : Int} {cov : List Int} {tos : List (List Int)} {b : Bool} (h1 : ¬ ki = 1) (h2 : ¬ ki = 2) : SubP ki cov tos b := fun _ => ⟨fun h => absurd h h1, fun h => absurd h h2⟩
theorem wiB_iff {n lo hi : Int} (h : wiB n lo hi = true) : lo ≤ n ∧ n ≤ hi := by
  unfold wiB at h
  simpa using h
theorem SubP.one {ki : Int} {cov : List Int} {tos : List (List Int)} {b : Bool} (h : ToC cov tos 1 1 b) (h1 : ki = 1) : SubP ki cov tos b := fun hb => ⟨fun _ => ⟨(h hb).1, (h hb).2.1, fun j hj => by
  have := wiB_iff ((h hb).2.2 j hj)
  omega⟩, fun h2 => by omega⟩
theorem SubP.two {ki : Int} {cov : List Int} {tos : List (List Int)} {b : Bool} (h : ToC cov tos 0 16 b) (h1 : ki = 2) : SubP ki cov tos b := fun hb => ⟨fun h2 => by omega, fun _ => ⟨(h hb).1, (h hb).2.1, fun j hj => by
  have := wiB_iff ((h hb).2.2 j hj)
  omega⟩⟩

set_option maxRecDepth 100000 in
set_option maxHeartbeats 4000000 in
theorem sub_any (F : Fnt) (B : Nat) (l : Lk) (s : Sb) (cov : List Int) (tos : List (List Int)) (w : World) (hF : FntOk w B F) (h : SbOk w B s) (hco : Ints w B s.co.A s.co.n s.co.c cov) (hto : Grd w B s.tt.A s.tt.n s.tt.c tos) (hB : B ≤ w.heap.size) :
    Calls Try.prog 51 #[.agg #[.int .i64 F.em, .slice F.GA F.gn F.gc, .slice F.MA F.mn F.mc, .slice F.LA F.ln F.lc, .slice F.FA F.fn F.fc, .slice F.SA F.sn F.sc], .agg #[.int .i64 l.ki, .int .i64 l.fl, .int .i64 l.se, .slice l.su.A l.su.n l.su.c], .agg #[.slice s.co.A s.co.n s.co.c, .slice s.tt.A s.tt.n s.tt.c, .slice s.li.A s.li.n s.li.c, .slice s.ba.A s.ba.n s.ba.c, .slice s.inn.A s.inn.n s.inn.c, .slice s.ah.A s.ah.n s.ah.c, .slice s.ne.A s.ne.n s.ne.c, .slice s.va.A s.va.n s.va.c, .slice s.pr.A s.pr.n s.pr.c, .slice s.cu.A s.cu.n s.cu.c, .slice s.ma.A s.ma.n s.ma.c, .slice s.ho.A s.ho.n s.ho.c]] w (RetB w (SubP l.ki cov tos)) := by
  have hcapv := h.va.cap
  have hcapc := h.co.cap
  obtain ⟨wa, hwa⟩ : ∃ z, z = w.alloc (.cells #[.int .i64 F.em, .slice F.GA F.gn F.gc, .slice F.MA F.mn F.mc, .slice F.LA F.ln F.lc, .slice F.FA F.fn F.fc, .slice F.SA F.sn F.sc] 28) := ⟨_, rfl⟩
  have hba : Below w.heap.size w wa := by rw [hwa]; exact (Below.refl _ _).alloc (Nat.le_refl _) _
  have hsa : wa.heap.size = w.heap.size + 1 := by rw [hwa]; simp
  have hfa : FBox wa w.heap.size F := by rw [hwa]; exact FBox.new w F
  obtain ⟨wb, hwb⟩ : ∃ z, z = wa.alloc (.cells #[.int .i64 l.ki, .int .i64 l.fl, .int .i64 l.se, .slice l.su.A l.su.n l.su.c] 31) := ⟨_, rfl⟩
  have hbb : Below w.heap.size w wb := by rw [hwb]; exact hba.alloc (by omega) _
  have hsb : wb.heap.size = w.heap.size + 2 := by rw [hwb]; simp; omega
  have hfab : FBox wb w.heap.size F := by rw [hwb]; exact (heap_alloc_old _ _ (by omega)).trans hfa
  have hkb : KBox wb (w.heap.size + 1) l := by rw [hwb, ← hsa]; exact heap_alloc_new _ _
  obtain ⟨w1, hw1⟩ : ∃ z, z = wb.alloc (.cells #[.slice s.co.A s.co.n s.co.c, .slice s.tt.A s.tt.n s.tt.c, .slice s.li.A s.li.n s.li.c, .slice s.ba.A s.ba.n s.ba.c, .slice s.inn.A s.inn.n s.inn.c, .slice s.ah.A s.ah.n s.ah.c, .slice s.ne.A s.ne.n s.ne.c, .slice s.va.A s.va.n s.va.c, .slice s.pr.A s.pr.n s.pr.c, .slice s.cu.A s.cu.n s.cu.c, .slice s.ma.A s.ma.n s.ma.c, .slice s.ho.A s.ho.n s.ho.c] 62) := ⟨_, rfl⟩
  have hb1 : Below w.heap.size w w1 := by rw [hw1]; exact hbb.alloc (by omega) _
  have hfc : FBox w1 w.heap.size F := by rw [hw1]; exact (heap_alloc_old _ _ (by omega)).trans hfab
  have hkc : KBox w1 (w.heap.size + 1) l := by rw [hw1]; exact (heap_alloc_old _ _ (by omega)).trans hkb
  have hsc : SBox w1 (w.heap.size + 2) s := by rw [hw1, ← hsb]; exact heap_alloc_new _ _
  have hs1 : w.heap.size + 2 < w1.heap.size := by rw [hw1]; simp; omega
  obtain ⟨f0, f1, f2, f3, f4, f5⟩ := hfc.cells
  obtain ⟨e0, e1, e2, e3, e4, e5, e6, e7, e8, e9, e10, e11⟩ := hsc.cells
  obtain ⟨l0, l1, l2, l3⟩ := hkc.cells
  have g0 := up_fact f0
  have g1 := up_fact f1
  have g2 := up_fact f2
  have g3 := up_fact f3
  have g4 := up_fact f4
  have g5 := up_fact f5
  have k0 := up_fact e0
  have k1 := up_fact e1
  have k2 := up_fact e2
  have k3 := up_fact e3
  have k4 := up_fact e4
  have k5 := up_fact e5
  have k6 := up_fact e6
  have k7 := up_fact e7
  have k8 := up_fact e8
  have k9 := up_fact e9
  have k10 := up_fact e10
  have k11 := up_fact e11
  have h0 := up_fact l0
  have h1 := up_fact l1
  have h2 := up_fact l2
  have h3 := up_fact l3
  have hA0 := Below.refl w1.heap.size w1
  clear f0 f1 f2 f3 f4 f5 e0 e1 e2 e3 e4 e5 e6 e7 e8 e9 e10 e11 l0 l1 l2 l3 hfc hkc hsc hfab hkb hfa hba hbb
  have HW1 := Lib.hid hw1
  have HWA := Lib.hid hwa
  have HWB := Lib.hid hwb
  clear hw1 hwa hwb hsa hsb
  have HS := Lib.hid (h.below (hb1.mono hB))
  have HF := Lib.hid (hF.below (hb1.mono hB))
  have HCO := Lib.hid (hco.below (hb1.mono hB))
  have HTO := Lib.hid (hto.below (hb1.mono hB))
  clear h hF hco hto
  go_enter Try.func51, Try.ntmps51
  go_upto_region 1 with (fail)
  rw [← HWA.out, ← HWB.out, ← HW1.out]
  have hBw : B ≤ w1.heap.size := by omega
  go_cut [12] (fun v W => ∃ t : Bool, v = .bool t ∧ Below w1.heap.size w1 W)
  case first =>
    go_wp2_with (first
      | (go_at_call 68; refine (bare_any l.ki B s _ (HS.out.below (hA0.mono hBw))).mono ?_; rintro e w9 ⟨t9, rfl, -, hb⟩; have hA0 := bgo hA0 hb; clear hb)
      | fail)
    all_goals
      go_meet
      exact ⟨_, rfl, hA0⟩
  obtain ⟨t, rfl, hA0⟩ := hcut
  rcases t with _ | _
  rotate_left
  · go_wp2_with fail
    go_ret
    exact ⟨_, rfl, SubP.false, hb1.trans (hA0.mono (by omega))⟩
  by_cases q1 : l.ki = 1
  · have HK := Lib.hid q1
    have q : (l.ki == 1) = true := by rw [q1]; rfl
    clear q1
    go_wp2_with (first | (go_at_call 69; refine (toc_any F B s cov tos _ _ _ (HCO.out.below (hA0.mono hBw)) (HTO.out.below (hA0.mono hBw)) (by have := hA0.size; omega)).mono ?_; rintro e w9 ⟨t9, rfl, hp, hb⟩; have HP := Lib.hid hp; have hA0 := bgo hA0 hb; clear hb hp))
    all_goals
      go_ret
      exact ⟨_, rfl, SubP.one HP.out HK.out, hb1.trans (hA0.mono (by omega))⟩
  have H1 := Lib.hid q1
  have p1 : (l.ki == 1) = false := by simpa using q1
  clear q1
  by_cases q2 : l.ki = 2
  · have HK := Lib.hid q2
    have q : (l.ki == 2) = true := by rw [q2]; rfl
    clear q2
    go_wp2_with (first | (go_at_call 69; refine (toc_any F B s cov tos _ _ _ (HCO.out.below (hA0.mono hBw)) (HTO.out.below (hA0.mono hBw)) (by have := hA0.size; omega)).mono ?_; rintro e w9 ⟨t9, rfl, hp, hb⟩; have HP := Lib.hid hp; have hA0 := bgo hA0 hb; clear hb hp))
    all_goals
      go_ret
      exact ⟨_, rfl, SubP.two HP.out HK.out, hb1.trans (hA0.mono (by omega))⟩
  have H2 := Lib.hid q2
  have p2 : (l.ki == 2) = false := by simpa using q2
  clear q2
  by_cases q3 : l.ki = 3
  · have HK := Lib.hid q3
    have q : (l.ki == 3) = true := by rw [q3]; rfl
    clear q3
    go_wp2_with (first | (go_at_call 70; refine (ligs_any F B s _ (HS.out.below (hA0.mono hBw)) (by have := hA0.size; omega)).mono ?_; rintro e w9 ⟨t9, rfl, -, hb⟩; have hA0 := bgo hA0 hb; clear hb))
    all_goals
      go_ret
      exact ⟨_, rfl, SubP.not H1.out H2.out, hb1.trans (hA0.mono (by omega))⟩
  have H3 := Lib.hid q3
  have p3 : (l.ki == 3) = false := by simpa using q3
  clear q3
  by_cases q4 : l.ki = 4
  · have HK := Lib.hid q4
    have q : (l.ki == 4) = true := by rw [q4]; rfl
    clear q4
    go_wp2_with (first | (go_at_call 71; refine (around_any F B l s _ (HF.out.below (hA0.mono hBw)) (HS.out.below (hA0.mono hBw)) (by have := hA0.size; omega)).mono ?_; rintro e w9 ⟨t9, rfl, -, hb⟩; have hA0 := bgo hA0 hb; clear hb))
    all_goals
      go_ret
      exact ⟨_, rfl, SubP.not H1.out H2.out, hb1.trans (hA0.mono (by omega))⟩
  have H4 := Lib.hid q4
  have p4 : (l.ki == 4) = false := by simpa using q4
  clear q4
  by_cases q12 : l.ki = 12
  · have HK := Lib.hid q12
    have q : (l.ki == 12) = true := by rw [q12]; rfl
    clear q12
    go_wp2_with (first | (go_at_call 71; refine (around_any F B l s _ (HF.out.below (hA0.mono hBw)) (HS.out.below (hA0.mono hBw)) (by have := hA0.size; omega)).mono ?_; rintro e w9 ⟨t9, rfl, -, hb⟩; have hA0 := bgo hA0 hb; clear hb))
    all_goals
      go_ret
      exact ⟨_, rfl, SubP.not H1.out H2.out, hb1.trans (hA0.mono (by omega))⟩
  have H12 := Lib.hid q12
  have p12 : (l.ki == 12) = false := by simpa using q12
  clear q12
  by_cases q5 : l.ki = 5
  · have HK := Lib.hid q5
    have q : (l.ki == 5) = true := by rw [q5]; rfl
    clear q5
    go_wp2_with (first
      | (go_at_call 69; refine (toc_any F B s cov tos _ _ _ (HCO.out.below (hA0.mono hBw)) (HTO.out.below (hA0.mono hBw)) (by have := hA0.size; omega)).mono ?_; rintro e w9 ⟨t9, rfl, hp, hb⟩; have hA0 := bgo hA0 hb; clear hb hp)
      | (go_at_call_of 72 (Value.slice s.ba.A s.ba.n s.ba.c); refine (covers_any F B s.ba.A s.ba.n s.ba.c _ _ (HS.out.ba.below (hA0.mono hBw)) (by have := hA0.size; omega)).mono ?_; rintro e w9 ⟨t9, rfl, -, hb⟩; have hA0 := bgo hA0 hb; clear hb)
      | (go_at_call_of 72 (Value.slice s.ah.A s.ah.n s.ah.c); refine (covers_any F B s.ah.A s.ah.n s.ah.c _ _ (HS.out.ah.below (hA0.mono hBw)) (by have := hA0.size; omega)).mono ?_; rintro e w9 ⟨t9, rfl, -, hb⟩; have hA0 := bgo hA0 hb; clear hb))
    all_goals
      go_ret
      exact ⟨_, rfl, SubP.not H1.out H2.out, hb1.trans (hA0.mono (by omega))⟩
  have H5 := Lib.hid q5
  have p5 : (l.ki == 5) = false := by simpa using q5
  clear q5
  by_cases q6 : l.ki = 6
  · have HK := Lib.hid q6
    have q : (l.ki == 6) = true := by rw [q6]; rfl
    clear q6
    go_wp2_with fail
    go_loopw [7] (fun v wr => ∃ k : Nat, v = .int .i64 (k : Int) ∧ k ≤ s.va.n ∧ Below w1.heap.size w1 wr) (fun v _ => s.va.n - (intOf v).toNat)
    case atStart => exact ⟨0, rfl, Nat.zero_le _, hA0⟩
    case round =>
      obtain ⟨k, rfl, hk, hA⟩ := hrel
      by_cases hlt : k < s.va.n
      · obtain ⟨b, o, ad, dx, dy, eV, hbb, ⟨c0, c1, c2⟩, _⟩ := HS.out.va.atValue hlt
        rw [eV] at k7 ⊢
        have v0 := up_fact c0
        have v1 := up_fact c1
        have v2 := up_fact c2
        clear c0 c1 c2
        go_wp2_with (first | (go_at_call 73; refine (value_any _ _ _ _).mono ?_; rintro e w9 ⟨rfl, hb⟩; have hA := bgo hA hb; clear hb))
        all_goals first
          | (go_ret; exact ⟨_, rfl, SubP.false, hb1.trans (hA.mono (by omega))⟩)
          | (go_roundw; (case rel => exact ⟨k + 1, by go_num, by omega, hA⟩); (case measure => simp [intOf]; omega))
      · have hz : decide ((k : Int) < (s.va.n : Int)) = false := by simp; omega
        go_wp2_with (first | (go_at_call 49; refine (cover_any F B s.co.A s.co.n s.co.c cov _ (HCO.out.below (hA.mono hBw)) (by have := hA.size; omega)).mono ?_; rintro e w9 ⟨rfl, hb⟩; have hA := bgo hA hb; clear hb))
        all_goals
          go_ret
          exact ⟨_, rfl, SubP.not H1.out H2.out, hb1.trans (hA.mono (by omega))⟩
  have H6 := Lib.hid q6
  have p6 : (l.ki == 6) = false := by simpa using q6
  clear q6
  by_cases q7 : l.ki = 7
  · have HK := Lib.hid q7
    have q : (l.ki == 7) = true := by rw [q7]; rfl
    clear q7
    go_wp2_with (first | (go_at_call 74; refine (pairs_any F B s.pr.A s.pr.n s.pr.c _ (HS.out.pr.below (hA0.mono hBw)) (by have := hA0.size; omega)).mono ?_; rintro e w9 ⟨t9, rfl, -, hb⟩; have hA0 := bgo hA0 hb; clear hb))
    all_goals
      go_ret
      exact ⟨_, rfl, SubP.not H1.out H2.out, hb1.trans (hA0.mono (by omega))⟩
  have H7 := Lib.hid q7
  have p7 : (l.ki == 7) = false := by simpa using q7
  clear q7
  by_cases q8 : l.ki = 8
  · have HK := Lib.hid q8
    have q : (l.ki == 8) = true := by rw [q8]; rfl
    clear q8
    go_wp2_with (first | (go_at_call 75; refine (curs_any F B s.cu.A s.cu.n s.cu.c _ (HS.out.cu.below (hA0.mono hBw)) (by have := hA0.size; omega)).mono ?_; rintro e w9 ⟨t9, rfl, -, hb⟩; have hA0 := bgo hA0 hb; clear hb))
    all_goals
      go_ret
      exact ⟨_, rfl, SubP.not H1.out H2.out, hb1.trans (hA0.mono (by omega))⟩
  have H8 := Lib.hid q8
  have p8 : (l.ki == 8) = false := by simpa using q8
  clear q8
  go_wp2_with (first | (go_at_call 76; refine (marks_any F B l s _ (HS.out.below (hA0.mono hBw)) (by have := hA0.size; omega)).mono ?_; rintro e w9 ⟨t9, rfl, -, hb⟩; have hA0 := bgo hA0 hb; clear hb))
  all_goals
    go_ret
    exact ⟨_, rfl, SubP.not H1.out H2.out, hb1.trans (hA0.mono (by omega))⟩

end Go.Proofs.Ytbjeflblhjfagaa
