/- The walks of Check and Small. Condition: the font reads as its shape. Printed by wip/tools/g27k.py. -/
import Derived.Test.YtbjeflblhjfagaaFontI
import Derived.Test.YtbjeflblhjfagaaFontJ
namespace Go.Proofs.Ytbjeflblhjfagaa
open Go.RowKit

/-- what Check leaves -/
def RetE (w : World) (p : Bool → Prop) (e : Ending) (w' : World) : Prop := ∃ b : Bool, e = .returned (.int .i64 (if b then 0 else 12)) ∧ p b ∧ Below w.heap.size w w'
set_option maxRecDepth 100000 in
set_option maxHeartbeats 4000000 in
theorem check_any (F : Fnt) (B : Nat) (ls : List PL) (w : World) (h : FntOk w B F) (hls : LksR w B F.LA F.ln F.lc ls) (hB : B ≤ w.heap.size) :
    Calls Try.prog 18 #[.agg #[.int .i64 F.em, .slice F.GA F.gn F.gc, .slice F.MA F.mn F.mc, .slice F.LA F.ln F.lc, .slice F.FA F.fn F.fc, .slice F.SA F.sn F.sc]] w (RetE w (LkP ls)) := by
  obtain ⟨w1, hw1⟩ : ∃ z, z = w.alloc (.cells #[.int .i64 F.em, .slice F.GA F.gn F.gc, .slice F.MA F.mn F.mc, .slice F.LA F.ln F.lc, .slice F.FA F.fn F.fc, .slice F.SA F.sn F.sc] 28) := ⟨_, rfl⟩
  have hb1 : Below w.heap.size w w1 := by rw [hw1]; exact (Below.refl _ _).alloc (Nat.le_refl _) _
  have hs1 : w.heap.size < w1.heap.size := by rw [hw1]; simp
  have hfb : FBox w1 w.heap.size F := by rw [hw1]; exact FBox.new w F
  obtain ⟨f0, f1, f2, f3, f4, f5⟩ := hfb.cells
  have g0 := up_fact f0
  have g1 := up_fact f1
  have g2 := up_fact f2
  have g3 := up_fact f3
  have g4 := up_fact f4
  have g5 := up_fact f5
  have hA0 := Below.refl w1.heap.size w1
  clear f0 f1 f2 f3 f4 f5 hfb
  have HW1 := Lib.hid hw1
  clear hw1
  have HF := Lib.hid (h.below (hb1.mono hB))
  have HLS := Lib.hid (hls.below (hb1.mono hB))
  clear h hls
  go_enter Try.func18, Try.ntmps18
  go_upto_region 1 with (fail)
  rw [← HW1.out]
  have hBw : B ≤ w1.heap.size := by omega
  go_wp2_with (first
    | (go_at_call 30; refine (glyphs_any F B _ (HF.out.below (hA0.mono hBw)) (by have := hA0.size; omega)).mono ?_; rintro e w9 ⟨t9, rfl, -, hb⟩; have hA0 := bgo hA0 hb; clear hb; rcases t9 with _ | _)
    | (go_at_call 31; refine (maps_any F B _ (HF.out.below (hA0.mono hBw)) (by have := hA0.size; omega)).mono ?_; rintro e w9 ⟨t9, rfl, -, hb⟩; have hA0 := bgo hA0 hb; clear hb; rcases t9 with _ | _)
    | (go_at_call 32; refine (lookups_any F B ls _ (HF.out.below (hA0.mono hBw)) (HLS.out.below (hA0.mono hBw)) (by have := hA0.size; omega)).mono ?_; rintro e w9 ⟨t9, rfl, hp, hb⟩; have HP := Lib.hid hp; have hA0 := bgo hA0 hb; clear hb hp; rcases t9 with _ | _)
    | (go_at_call 33; refine (feats_any F B _ (HF.out.below (hA0.mono hBw)) (by have := hA0.size; omega)).mono ?_; rintro e w9 ⟨t9, rfl, -, hb⟩; have hA0 := bgo hA0 hb; clear hb; rcases t9 with _ | _))
  all_goals
    go_ret
    first
      | exact ⟨true, rfl, HP.out, hb1.trans (hA0.mono (by omega))⟩
      | exact ⟨false, rfl, LkP.false, hb1.trans (hA0.mono (by omega))⟩

set_option maxRecDepth 100000 in
set_option maxHeartbeats 4000000 in
theorem small_any (F : Fnt) (B : Nat) (w : World) (h : FntOk w B F) (hB : B ≤ w.heap.size) :
    Calls Try.prog 17 #[.agg #[.int .i64 F.em, .slice F.GA F.gn F.gc, .slice F.MA F.mn F.mc, .slice F.LA F.ln F.lc, .slice F.FA F.fn F.fc, .slice F.SA F.sn F.sc]] w (RetB w fun _ => True) := by
  have hcap := h.hL.cap
  have hcapG := h.hG.cap
  have hcapM := h.hM.cap
  have hcapF := h.hF.cap
  have hcapS := h.hS.cap
  obtain ⟨w1, hw1⟩ : ∃ z, z = w.alloc (.cells #[.int .i64 F.em, .slice F.GA F.gn F.gc, .slice F.MA F.mn F.mc, .slice F.LA F.ln F.lc, .slice F.FA F.fn F.fc, .slice F.SA F.sn F.sc] 28) := ⟨_, rfl⟩
  have hb1 : Below w.heap.size w w1 := by rw [hw1]; exact (Below.refl _ _).alloc (Nat.le_refl _) _
  have hs1 : w.heap.size < w1.heap.size := by rw [hw1]; simp
  have hfb : FBox w1 w.heap.size F := by rw [hw1]; exact FBox.new w F
  obtain ⟨f0, f1, f2, f3, f4, f5⟩ := hfb.cells
  have g0 := up_fact f0
  have g1 := up_fact f1
  have g2 := up_fact f2
  have g3 := up_fact f3
  have g4 := up_fact f4
  have g5 := up_fact f5
  have hA0 := Below.refl w1.heap.size w1
  clear f0 f1 f2 f3 f4 f5 hfb
  have HW1 := Lib.hid hw1
  clear hw1
  have HL := Lib.hid (h.hL.below (hb1.mono hB))
  clear h
  go_enter Try.func17, Try.ntmps17
  go_upto_region 1 with (fail)
  rw [← HW1.out]
  have hBw : B ≤ w1.heap.size := by omega
  go_cut [34] (fun v W => ∃ t : Bool, v = .bool t ∧ Below w1.heap.size w1 W)
  case first =>
    go_wp2_with (first
      | fail)
    all_goals
      go_meet
      exact ⟨_, rfl, hA0⟩
  obtain ⟨t, rfl, hA0⟩ := hcut
  rcases t with _ | _
  rotate_left
  · go_wp2_with fail
    go_ret
    exact ⟨_, rfl, trivial, hb1.trans (hA0.mono (by omega))⟩
  go_wp2_with fail
  go_loopw [3] (fun v wr => ∃ k : Nat, v = .int .i64 (k : Int) ∧ k ≤ F.ln ∧ Below w1.heap.size w1 wr) (fun v _ => F.ln - (intOf v).toNat)
  case atStart => exact ⟨0, rfl, Nat.zero_le _, hA0⟩
  case round =>
    obtain ⟨k, rfl, hk, hA⟩ := hrel
    by_cases hlt : k < F.ln
    · obtain ⟨b, o, l, eL, hbb, ⟨c0, c1, c2, c3⟩, hlk⟩ := HL.out.look hlt
      have hcs := ShSl.cap hlk
      rw [eL] at g3 ⊢
      have v3 := up_fact c3
      have HS := Lib.hid (show ShSl w1 B shSub l.su.A l.su.n l.su.c from hlk)
      clear c0 c1 c2 c3 hlk
      by_cases h10 : 10 < l.su.n
      · have q0 : decide ((10 : Int) < (l.su.n : Int)) = true := by simp; omega
        have q00 : decide (10 < l.su.n) = true := by simp; omega
        clear h10
        go_wp2_with fail
        go_ret
        exact ⟨_, rfl, trivial, hb1.trans (hA.mono (by omega))⟩
      have q0 : decide ((10 : Int) < (l.su.n : Int)) = false := by simp; omega
      have q00 : decide (10 < l.su.n) = false := by simp; omega
      clear h10
      go_wp2_with fail
      obtain ⟨wo, hwo⟩ : ∃ wo : World, wo = wr := ⟨_, rfl⟩
      subst hwo
      go_loopw [5] (fun v wr => ∃ i : Nat, v = .int .i64 (i : Int) ∧ i ≤ l.su.n ∧ Below w1.heap.size w1 wr) (fun v _ => l.su.n - (intOf v).toNat)
      case atStart => exact ⟨0, rfl, Nat.zero_le _, hA⟩
      case round =>
        obtain ⟨i, rfl, hi, hA⟩ := hrel
        by_cases hli : i < l.su.n
        · obtain ⟨b2, o2, s, eS, hbb2, ⟨c0, c1, c2, c3, c4, c5, c6, c7, c8, c9, c10, c11⟩, hok⟩ := HS.out.sub hli
          rw [eS] at v3 ⊢
          have y0 := up_fact c0
          have y1 := up_fact c1
          have y2 := up_fact c2
          have y3 := up_fact c3
          have y4 := up_fact c4
          have y5 := up_fact c5
          have y6 := up_fact c6
          have y7 := up_fact c7
          have y8 := up_fact c8
          have y9 := up_fact c9
          have y10 := up_fact c10
          have y11 := up_fact c11
          have hcapco := hok.co.cap
          have hcaptt := hok.tt.cap
          have hcapli := hok.li.cap
          have hcapba := hok.ba.cap
          have hcapinn := hok.inn.cap
          have hcapah := hok.ah.cap
          have hcapne := hok.ne.cap
          have hcapva := hok.va.cap
          have hcappr := hok.pr.cap
          have hcapcu := hok.cu.cap
          have hcapma := hok.ma.cap
          have hcapho := hok.ho.cap
          clear c0 c1 c2 c3 c4 c5 c6 c7 c8 c9 c10 c11 hok
          go_upto_region 13 with (fail)
          obtain ⟨w3, hw3⟩ : ∃ z, z = wr.alloc (.cells #[.slice s.co.A s.co.n s.co.c, .slice s.tt.A s.tt.n s.tt.c, .slice s.li.A s.li.n s.li.c, .slice s.ba.A s.ba.n s.ba.c, .slice s.inn.A s.inn.n s.inn.c, .slice s.ah.A s.ah.n s.ah.c, .slice s.ne.A s.ne.n s.ne.c, .slice s.va.A s.va.n s.va.c, .slice s.pr.A s.pr.n s.pr.c, .slice s.cu.A s.cu.n s.cu.c, .slice s.ma.A s.ma.n s.ma.c, .slice s.ho.A s.ho.n s.ho.c] 62) := ⟨_, rfl⟩
          obtain ⟨bx, hbx⟩ : ∃ z, z = wr.heap.size := ⟨_, rfl⟩
          rw [← hw3, ← hbx]
          have hA3 := (show Below w1.heap.size w1 w3 by rw [hw3]; exact hA.alloc hA.size _)
          have hX : w3.heap[bx]? = some (.cells #[.slice s.co.A s.co.n s.co.c, .slice s.tt.A s.tt.n s.tt.c, .slice s.li.A s.li.n s.li.c, .slice s.ba.A s.ba.n s.ba.c, .slice s.inn.A s.inn.n s.inn.c, .slice s.ah.A s.ah.n s.ah.c, .slice s.ne.A s.ne.n s.ne.c, .slice s.va.A s.va.n s.va.c, .slice s.pr.A s.pr.n s.pr.c, .slice s.cu.A s.cu.n s.cu.c, .slice s.ma.A s.ma.n s.ma.c, .slice s.ho.A s.ho.n s.ho.c] 62 (0, 0)) := by rw [hw3, hbx]; exact heap_alloc_new _ _
          have xf0 := up_fact (show w3.cell? ⟨bx, 0, none⟩ = some (.slice s.co.A s.co.n s.co.c) by rw [cell_of_row _ _ 0 _ _ _ hX]; rfl)
          have xf1 := up_fact (show w3.cell? ⟨bx, 1, none⟩ = some (.slice s.tt.A s.tt.n s.tt.c) by rw [cell_of_row _ _ 1 _ _ _ hX]; rfl)
          have xf2 := up_fact (show w3.cell? ⟨bx, 2, none⟩ = some (.slice s.li.A s.li.n s.li.c) by rw [cell_of_row _ _ 2 _ _ _ hX]; rfl)
          have xf3 := up_fact (show w3.cell? ⟨bx, 3, none⟩ = some (.slice s.ba.A s.ba.n s.ba.c) by rw [cell_of_row _ _ 3 _ _ _ hX]; rfl)
          have xf4 := up_fact (show w3.cell? ⟨bx, 4, none⟩ = some (.slice s.inn.A s.inn.n s.inn.c) by rw [cell_of_row _ _ 4 _ _ _ hX]; rfl)
          have xf5 := up_fact (show w3.cell? ⟨bx, 5, none⟩ = some (.slice s.ah.A s.ah.n s.ah.c) by rw [cell_of_row _ _ 5 _ _ _ hX]; rfl)
          have xf6 := up_fact (show w3.cell? ⟨bx, 6, none⟩ = some (.slice s.ne.A s.ne.n s.ne.c) by rw [cell_of_row _ _ 6 _ _ _ hX]; rfl)
          have xf7 := up_fact (show w3.cell? ⟨bx, 7, none⟩ = some (.slice s.va.A s.va.n s.va.c) by rw [cell_of_row _ _ 7 _ _ _ hX]; rfl)
          have xf8 := up_fact (show w3.cell? ⟨bx, 8, none⟩ = some (.slice s.pr.A s.pr.n s.pr.c) by rw [cell_of_row _ _ 8 _ _ _ hX]; rfl)
          have xf9 := up_fact (show w3.cell? ⟨bx, 9, none⟩ = some (.slice s.cu.A s.cu.n s.cu.c) by rw [cell_of_row _ _ 9 _ _ _ hX]; rfl)
          have xf10 := up_fact (show w3.cell? ⟨bx, 10, none⟩ = some (.slice s.ma.A s.ma.n s.ma.c) by rw [cell_of_row _ _ 10 _ _ _ hX]; rfl)
          have xf11 := up_fact (show w3.cell? ⟨bx, 11, none⟩ = some (.slice s.ho.A s.ho.n s.ho.c) by rw [cell_of_row _ _ 11 _ _ _ hX]; rfl)
          have hC := Below.refl w3.heap.size w3
          clear hX hw3 hbx
          go_wp2_with fail
          all_goals first
            | (go_ret; exact ⟨_, rfl, trivial, hb1.trans (hA3.mono (by omega))⟩)
            | (go_roundw; (case rel => exact ⟨i + 1, by go_num, by omega, hA3⟩); (case measure => simp [intOf]; omega))
        · have hz1 : decide ((i : Int) < (l.su.n : Int)) = false := by simp; omega
          go_wp2_with fail
          go_roundw
          case rel => exact ⟨k + 1, by go_num, by omega, hA⟩
          case measure => simp [intOf]; omega
    · have hz2 : decide ((k : Int) < (F.ln : Int)) = false := by simp; omega
      go_wp2_with fail
      go_ret
      exact ⟨_, rfl, trivial, hb1.trans (hA.mono (by omega))⟩

end Go.Proofs.Ytbjeflblhjfagaa
