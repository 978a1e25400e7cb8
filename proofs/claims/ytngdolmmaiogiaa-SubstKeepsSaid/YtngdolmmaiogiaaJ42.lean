/- Joined: Keeps. -/
import Derived.Test.YtngdolmmaiogiaaJ36
import Derived.Test.YtngdolmmaiogiaaJ41

/- The walk of SubstKeeps. Condition: the font, the plan and the buffer read as plain data. Printed by wip/tools/g32r.py. Printed by wip/tools. -/
namespace Go.Proofs.Ytngdolmmaiogiaa
open Go.RowKit

theorem ris_first {gs : List Gl} {g : Gl} {k : Nat} (hk : k = 0) (hg : gs[k]? = some g) : Ris (gs.take (k + 1)) := by
  subst hk
  rw [List.take_add_one, hg]
  exact List.pairwise_singleton _ _
theorem ris_next {gs : List Gl} {g g' : Gl} {k : Nat} (h : Ris (gs.take k)) (hg : gs[k]? = some g) (hp : gs[k - 1]? = some g') (hk : 0 < k) (hle : g'.cl ≤ g.cl) : Ris (gs.take (k + 1)) := by
  rw [List.take_add_one, hg, Option.toList_some]
  refine Ris.append h (List.pairwise_singleton _ _) fun x hx y hy => ?_
  rw [List.mem_singleton] at hy
  subst hy
  obtain ⟨i, hi, he⟩ := List.mem_iff_getElem.1 hx
  have h1 : (gs.take k)[i]? = some x := by rw [List.getElem?_eq_getElem hi, he]
  have h2 : (gs.take k)[k - 1]? = some g' := by rw [List.getElem?_take_of_lt (by omega)]; exact hp
  have h3 : i ≤ k - 1 := by rw [List.length_take] at hi; omega
  exact Int.le_trans (h.le h1 h2 h3) hle

set_option maxRecDepth 100000 in
set_option maxHeartbeats 4000000 in
theorem keeps_any (P : PFt) (Ls : List LkS) (F : Fnt) (B : Nat) (xs : List (Int × Int)) (SA : Option Addr) (sn sc : Nat) (A : Option Addr) (n c : Nat) (gs : List Gl) (w : World) (hF : FtR w B F P) (hLs : SlR w B 4 (LkR2 w B) F.LA F.ln F.lc Ls) (hS : SlR w B 2 NestR SA sn sc xs) (hg : GlsR w B A n c gs) (hB : B ≤ w.heap.size) :
    Calls Try.prog 3 #[.agg #[.int .i64 F.em, .slice F.GA F.gn F.gc, .slice F.MA F.mn F.mc, .slice F.LA F.ln F.lc, .slice F.FA F.fn F.fc, .slice F.SA F.sn F.sc], .slice SA sn sc, .slice A n c] w (fun e w' => e = .returned (.bool true) ∧ Below w.heap.size w w') := by
  have hcap := hg.cap
  have hgl := hg.length
  have hscap := SlR.cap hS
  have hfc := hF.ok.hG.cap
  have hlc := hF.ok.hL.cap
  have hll := SlR.length hLs
  have HF := Lib.hid hF
  have HLS := Lib.hid hLs
  have HS := Lib.hid hS
  have HG := Lib.hid hg
  clear hF hLs hS hg
  obtain ⟨w1, hw_w1⟩ : ∃ z, z = w.alloc (.cells #[.int .i64 F.em, .slice F.GA F.gn F.gc, .slice F.MA F.mn F.mc, .slice F.LA F.ln F.lc, .slice F.FA F.fn F.fc, .slice F.SA F.sn F.sc] 28) := ⟨_, rfl⟩
  have hs_w1 : w1.heap.size = w.heap.size + 1 := by rw [hw_w1]; simp
  have hb_w1 : Below w.heap.size w w1 := by rw [hw_w1]; exact (Below.refl _ _).alloc (Nat.le_refl _) _
  have hx_0 : w1.heap[w.heap.size]? = some (.cells #[.int .i64 F.em, .slice F.GA F.gn F.gc, .slice F.MA F.mn F.mc, .slice F.LA F.ln F.lc, .slice F.FA F.fn F.fc, .slice F.SA F.sn F.sc] 28 (0, 0)) := by rw [hw_w1]; exact heap_alloc_new _ _
  have g0 := up_fact (show w1.cell? ⟨w.heap.size, 0, none⟩ = some (.int .i64 F.em) by rw [cell_of_row _ _ 0 _ _ _ hx_0]; rfl)
  have g1 := up_fact (show w1.cell? ⟨w.heap.size, 1, none⟩ = some (.slice F.GA F.gn F.gc) by rw [cell_of_row _ _ 1 _ _ _ hx_0]; rfl)
  have g2 := up_fact (show w1.cell? ⟨w.heap.size, 2, none⟩ = some (.slice F.MA F.mn F.mc) by rw [cell_of_row _ _ 2 _ _ _ hx_0]; rfl)
  have g3 := up_fact (show w1.cell? ⟨w.heap.size, 3, none⟩ = some (.slice F.LA F.ln F.lc) by rw [cell_of_row _ _ 3 _ _ _ hx_0]; rfl)
  have g4 := up_fact (show w1.cell? ⟨w.heap.size, 4, none⟩ = some (.slice F.FA F.fn F.fc) by rw [cell_of_row _ _ 4 _ _ _ hx_0]; rfl)
  have g5 := up_fact (show w1.cell? ⟨w.heap.size, 5, none⟩ = some (.slice F.SA F.sn F.sc) by rw [cell_of_row _ _ 5 _ _ _ hx_0]; rfl)
  have hA0 := Below.refl w1.heap.size w1
  have HS1 := Lib.hid hs_w1
  have hs1 : w.heap.size + 0 < w1.heap.size := by omega
  have HB1 := Lib.hid hb_w1
  have HW_w1 := Lib.hid hw_w1
  clear hw_w1 hs_w1 hb_w1
  clear hx_0
  have HUP := Lib.hid (show ∀ W, Below w1.heap.size w1 W → Below B w W ∧ B ≤ W.heap.size ∧ Below w.heap.size w W from fun W hW => ⟨(HB1.out.mono hB).trans (hW.mono (by omega)), by have := hW.size; omega, HB1.out.trans (hW.mono (by omega))⟩)
  have HMAY := Lib.hid (fun W (hW : Below w1.heap.size w1 W) => may_any F B P.ls Ls A n c gs W (HF.out.ok.below (HUP.out W hW).1) (SlR.below HLS.out (HUP.out W hW).1 fun _ _ h => h.below (HUP.out W hW).1) (SlR.below HF.out.ls (HUP.out W hW).1 fun _ _ h => LkR.below h (HUP.out W hW).1) (HG.out.below (HUP.out W hW).1) (HUP.out W hW).2.1)
  go_enter Try.func3, Try.ntmps3
  go_upto_region 1 with fail
  rw [← HW_w1.out]
  go_cut [36] (fun v W => ∃ t : Bool, v = .bool t ∧ Below w1.heap.size w1 W ∧ Hid (t = false → (n ≤ 40 ∧ sn ≤ 8) ∧ (∀ x ∈ Ls, FkGood F.gn P.ls x) ∧ ∀ g ∈ gs, 0 ≤ g.id ∧ g.id < (F.gn : Int)))
  case first =>
    by_cases h8 : sn ≤ 8
    rotate_left
    · have q1 : decide ((8 : Int) < (sn : Int)) = true := by simp; omega
      have q2 : decide (8 < sn) = true := by simp; omega
      clear h8
      go_wp2_with (first | (go_at_call 5; refine (HMAY.out _ hA0).mono ?_; rintro e w4 ⟨b4, rfl, hp4, hb4⟩; have HP4 := Lib.hid hp4; have hA4 := bgo hA0 hb4; clear hp4 hb4; rcases b4 with _ | _))
      · go_meet
        exact ⟨true, rfl, hA4, Lib.hid (fun h => by cases h)⟩
      · go_meet
        exact ⟨true, rfl, hA4, Lib.hid (fun h => by cases h)⟩
    have q1 : decide ((8 : Int) < (sn : Int)) = false := by simp; omega
    have q2 : decide (8 < sn) = false := by simp; omega
    have HLI := Lib.hid (fun W (hW : Below w1.heap.size w1 W) => light_any F B sn (n : Int) W (HF.out.ok.below (HUP.out W hW).1) (HUP.out W hW).2.1 (by omega))
    have H8 := Lib.hid h8
    clear h8
    go_wp2_with (first | (go_at_call 5; refine (HMAY.out _ hA0).mono ?_; rintro e w4 ⟨b4, rfl, hp4, hb4⟩; have HP4 := Lib.hid hp4; have hA4 := bgo hA0 hb4; clear hp4 hb4; rcases b4 with _ | _) | (go_at_call 6; refine (HLI.out _ hA4).mono ?_; rintro e w5 ⟨b5, rfl, -, hb5⟩; have hA5 := bgo hA4 hb5; clear hb5; rcases b5 with _ | _))
    · go_meet
      exact ⟨true, rfl, hA4, Lib.hid (fun h => by cases h)⟩
    · go_meet
      exact ⟨true, rfl, hA5, Lib.hid (fun h => by cases h)⟩
    · go_meet
      exact ⟨false, rfl, hA5, Lib.hid (fun _ => ⟨⟨(HP4.out (by trivial)).1, H8.out⟩, (HP4.out (by trivial)).2⟩)⟩
  obtain ⟨t, rfl, hA, HT⟩ := hcut
  rcases t with _ | _
  rotate_left
  · go_wp2_with (first | (go_at_call 7; refine (alive_any _).mono ?_; rintro e w10 ⟨rfl, hb10⟩; have hZ := bgo hA hb10))
    go_ret
    exact ⟨rfl, HB1.out.trans (hZ.mono (by omega))⟩
  have HGD := Lib.hid (HT.out (by trivial))
  have hn40 := HGD.out.1.1
  have hs8 := HGD.out.1.2
  clear HT
  go_upto_region 5 with fail
  obtain ⟨wo, hwo⟩ : ∃ wo : World, wo = wc := ⟨_, rfl⟩
  subst hwo
  go_loopw [7, 41] (fun v7 v wr => ∃ (k : Nat) (pl : Bool), v7 = .bool pl ∧ v = .int .i64 (k : Int) ∧ k ≤ F.ln ∧ Below w1.heap.size w1 wr ∧ Hid (pl = true → ∀ x ∈ Ls.take k, x.1.ki ≠ 2 ∧ x.1.ki ≠ 3)) (fun _ v _ => F.ln - (intOf v).toNat)
  case atStart => exact ⟨0, true, rfl, rfl, Nat.zero_le _, hA, Lib.hid (fun _ x hx => by simp at hx)⟩
  case round =>
    clear hA
    obtain ⟨k, pl, rfl, rfl, hk, hA, HPL⟩ := hrel
    by_cases hin : k < F.ln
    · have r1 : decide ((k : Int) < (F.ln : Int)) = true := by simp; omega
      have r2 : decide (k < F.ln) = true := by simp; omega
      have sk : IntKind.i64.wrap ((k : Int) + 1) = (k : Int) + 1 := by rw [IntKind.wrap_i64]; omega
      obtain ⟨x, b, o, cs, hx, eA, hbb, hc, rfl, _⟩ := SlR.at_ HLS.out hin
      have y0 := ((HUP.out _ hA).1.cell (p := ⟨b, o + k * 4 + 0, none⟩) (by show b < _; omega)).trans (hc 0 _ rfl)
      have y1 := ((HUP.out _ hA).1.cell (p := ⟨b, o + k * 4 + 1, none⟩) (by show b < _; omega)).trans (hc 1 _ rfl)
      have y2 := ((HUP.out _ hA).1.cell (p := ⟨b, o + k * 4 + 2, none⟩) (by show b < _; omega)).trans (hc 2 _ rfl)
      have y3 := ((HUP.out _ hA).1.cell (p := ⟨b, o + k * 4 + 3, none⟩) (by show b < _; omega)).trans (hc 3 _ rfl)
      rw [Nat.add_zero] at y0
      have HX := Lib.hid hx
      have HEA := Lib.hid eA
      clear hc hx eA
      rw [HEA.out]
      go_upto_region 7 with fail
      obtain ⟨w3, hw3⟩ : ∃ z, z = wr.alloc (.cells #[.int .i64 x.1.ki, .int .i64 x.1.fl, .int .i64 x.1.se, .slice x.1.su.A x.1.su.n x.1.su.c] 36) := ⟨_, rfl⟩
      obtain ⟨bx, hbx⟩ : ∃ z, z = wr.heap.size := ⟨_, rfl⟩
      rw [← hw3, ← hbx]
      have hA3 := (show Below w1.heap.size w1 w3 by rw [hw3]; exact hA.alloc hA.size _)
      have hX : w3.heap[bx]? = some (.cells #[.int .i64 x.1.ki, .int .i64 x.1.fl, .int .i64 x.1.se, .slice x.1.su.A x.1.su.n x.1.su.c] 36 (0, 0)) := by rw [hw3, hbx]; exact heap_alloc_new _ _
      have x0 := up_fact (show w3.cell? ⟨bx, 0, none⟩ = some (.int .i64 x.1.ki) by rw [cell_of_row _ _ 0 _ _ _ hX]; rfl)
      have x1 := up_fact (show w3.cell? ⟨bx, 1, none⟩ = some (.int .i64 x.1.fl) by rw [cell_of_row _ _ 1 _ _ _ hX]; rfl)
      have x2 := up_fact (show w3.cell? ⟨bx, 2, none⟩ = some (.int .i64 x.1.se) by rw [cell_of_row _ _ 2 _ _ _ hX]; rfl)
      have x3 := up_fact (show w3.cell? ⟨bx, 3, none⟩ = some (.slice x.1.su.A x.1.su.n x.1.su.c) by rw [cell_of_row _ _ 3 _ _ _ hX]; rfl)
      have hC := Below.refl w3.heap.size w3
      clear hX hw3 hbx
      rcases pl with _ | _
      · go_wp2_with fail
        go_roundw
        case rel => exact ⟨k + 1, false, rfl, by go_num, by omega, hA3, Lib.hid (fun h => by cases h)⟩
        case measure => simp [intOf] <;> omega
      by_cases h2 : x.1.ki = 2
      · have u1 : (x.1.ki != 2) = false := by simp [h2]
        go_wp2_with fail
        go_roundw
        case rel => exact ⟨k + 1, false, rfl, by go_num, by omega, hA3, Lib.hid (fun h => by cases h)⟩
        case measure => simp [intOf] <;> omega
      by_cases h3 : x.1.ki = 3
      · have u1 : (x.1.ki != 2) = true := by simp [h3]
        have u2 : (x.1.ki != 3) = false := by simp [h3]
        clear h2
        go_wp2_with fail
        go_roundw
        case rel => exact ⟨k + 1, false, rfl, by go_num, by omega, hA3, Lib.hid (fun h => by cases h)⟩
        case measure => simp [intOf] <;> omega
      have u1 : (x.1.ki != 2) = true := by simp [h2]
      have u2 : (x.1.ki != 3) = true := by simp [h3]
      have HK := Lib.hid (And.intro h2 h3)
      clear h2 h3
      go_wp2_with fail
      go_roundw
      case rel => exact ⟨k + 1, true, rfl, by go_num, by omega, hA3, Lib.hid (fun _ z hz => by
        rw [List.take_add_one, HX.out, Option.toList_some, List.mem_append, List.mem_singleton] at hz
        rcases hz with hz | rfl
        · exact HPL.out rfl z hz
        · exact HK.out)⟩
      case measure => simp [intOf] <;> omega
    have r1 : decide ((k : Int) < (F.ln : Int)) = false := by simp; omega
    have r2 : decide (k < F.ln) = false := by simp; omega
    have HPL2 := Lib.hid (show pl = true → ∀ x ∈ Ls, x.1.ki ≠ 2 ∧ x.1.ki ≠ 3 by have h0 := HPL.out; rwa [List.take_of_length_le (by omega)] at h0)
    clear hin HPL hk
    go_upto_region 10 with fail
    clear r1 r2
    obtain ⟨wo2, hwo2⟩ : ∃ wo : World, wo = wr := ⟨_, rfl⟩
    subst hwo2
    go_loopw [8, 59] (fun v8 v wr => ∃ (k : Nat) (ri : Bool), v8 = .bool ri ∧ v = .int .i64 (k : Int) ∧ k ≤ n ∧ Below w1.heap.size w1 wr ∧ Hid (ri = true → Ris (gs.take k))) (fun _ v _ => n - (intOf v).toNat)
    case atStart => exact ⟨0, true, rfl, rfl, Nat.zero_le _, hA, Lib.hid (fun _ => List.Pairwise.nil)⟩
    case round =>
      clear hA
      obtain ⟨k, ri, rfl, rfl, hk, hA, HRI⟩ := hrel
      by_cases hin : k < n
      · have r1 : decide ((k : Int) < (n : Int)) = true := by simp; omega
        have r2 : decide (k < n) = true := by simp; omega
        have sk : IntKind.i64.wrap ((k : Int) + 1) = (k : Int) + 1 := by rw [IntKind.wrap_i64]; omega
        obtain ⟨b, o, g, eA, hbb, hgk, yc0, yc1, yc2, yc3, yc4, yc5, yc6, yc7, yc8, yc9⟩ := HG.out.at_ hin
        have y0 := ((HUP.out _ hA).1.cell (p := ⟨b, o + k * 10, none⟩) (by show b < _; omega)).trans yc0
        have y1 := ((HUP.out _ hA).1.cell (p := ⟨b, o + k * 10 + 1, none⟩) (by show b < _; omega)).trans yc1
        have y2 := ((HUP.out _ hA).1.cell (p := ⟨b, o + k * 10 + 2, none⟩) (by show b < _; omega)).trans yc2
        have y3 := ((HUP.out _ hA).1.cell (p := ⟨b, o + k * 10 + 3, none⟩) (by show b < _; omega)).trans yc3
        have y4 := ((HUP.out _ hA).1.cell (p := ⟨b, o + k * 10 + 4, none⟩) (by show b < _; omega)).trans yc4
        have y5 := ((HUP.out _ hA).1.cell (p := ⟨b, o + k * 10 + 5, none⟩) (by show b < _; omega)).trans yc5
        have y6 := ((HUP.out _ hA).1.cell (p := ⟨b, o + k * 10 + 6, none⟩) (by show b < _; omega)).trans yc6
        have y7 := ((HUP.out _ hA).1.cell (p := ⟨b, o + k * 10 + 7, none⟩) (by show b < _; omega)).trans yc7
        have y8 := ((HUP.out _ hA).1.cell (p := ⟨b, o + k * 10 + 8, none⟩) (by show b < _; omega)).trans yc8
        have y9 := ((HUP.out _ hA).1.cell (p := ⟨b, o + k * 10 + 9, none⟩) (by show b < _; omega)).trans yc9
        have HEA := Lib.hid eA
        have HGK := Lib.hid hgk
        clear eA hgk yc0 yc1 yc2 yc3 yc4 yc5 yc6 yc7 yc8 yc9
        rw [HEA.out]
        go_upto_region 12 with fail
        obtain ⟨w3, hw3⟩ : ∃ z, z = wr.alloc (.cells #[.int .i64 g.id, .int .i64 g.cl, .int .i64 g.ad, .int .i64 g.dx, .int .i64 g.dy, .int .i64 g.tw, .int .i64 g.hg, .int .i64 g.li, .int .i64 g.co, .int .i64 g.ma] 38) := ⟨_, rfl⟩
        obtain ⟨bx, hbx⟩ : ∃ z, z = wr.heap.size := ⟨_, rfl⟩
        rw [← hw3, ← hbx]
        have hA3 := (show Below w1.heap.size w1 w3 by rw [hw3]; exact hA.alloc hA.size _)
        have hX : w3.heap[bx]? = some (.cells #[.int .i64 g.id, .int .i64 g.cl, .int .i64 g.ad, .int .i64 g.dx, .int .i64 g.dy, .int .i64 g.tw, .int .i64 g.hg, .int .i64 g.li, .int .i64 g.co, .int .i64 g.ma] 38 (0, 0)) := by rw [hw3, hbx]; exact heap_alloc_new _ _
        have x0 := up_fact (show w3.cell? ⟨bx, 0, none⟩ = some (.int .i64 g.id) by rw [cell_of_row _ _ 0 _ _ _ hX]; rfl)
        have x1 := up_fact (show w3.cell? ⟨bx, 1, none⟩ = some (.int .i64 g.cl) by rw [cell_of_row _ _ 1 _ _ _ hX]; rfl)
        have x2 := up_fact (show w3.cell? ⟨bx, 2, none⟩ = some (.int .i64 g.ad) by rw [cell_of_row _ _ 2 _ _ _ hX]; rfl)
        have x3 := up_fact (show w3.cell? ⟨bx, 3, none⟩ = some (.int .i64 g.dx) by rw [cell_of_row _ _ 3 _ _ _ hX]; rfl)
        have x4 := up_fact (show w3.cell? ⟨bx, 4, none⟩ = some (.int .i64 g.dy) by rw [cell_of_row _ _ 4 _ _ _ hX]; rfl)
        have x5 := up_fact (show w3.cell? ⟨bx, 5, none⟩ = some (.int .i64 g.tw) by rw [cell_of_row _ _ 5 _ _ _ hX]; rfl)
        have x6 := up_fact (show w3.cell? ⟨bx, 6, none⟩ = some (.int .i64 g.hg) by rw [cell_of_row _ _ 6 _ _ _ hX]; rfl)
        have x7 := up_fact (show w3.cell? ⟨bx, 7, none⟩ = some (.int .i64 g.li) by rw [cell_of_row _ _ 7 _ _ _ hX]; rfl)
        have x8 := up_fact (show w3.cell? ⟨bx, 8, none⟩ = some (.int .i64 g.co) by rw [cell_of_row _ _ 8 _ _ _ hX]; rfl)
        have x9 := up_fact (show w3.cell? ⟨bx, 9, none⟩ = some (.int .i64 g.ma) by rw [cell_of_row _ _ 9 _ _ _ hX]; rfl)
        have hC := Below.refl w3.heap.size w3
        clear hX hw3 hbx
        rcases ri with _ | _
        · have hU0 := bup hC
          have hU1 := bup hA3
          refine wp_region_up w3.heap.size (by kernel_rfl) (by kernel_rfl) ?_
          repeat (go_big_quiet_step (fail))
          refine wpQuiet_nil (up_all fun w2 hb2 => ?_)
          have hC := bgo hC hb2
          have hA3 := bgo hA3 hb2
          clear hb2 hU0 hU1
          go_wp2_with fail
          go_roundw
          case rel => exact ⟨k + 1, false, rfl, by go_num, by omega, hA3, Lib.hid (fun h => by cases h)⟩
          case measure => simp [intOf] <;> omega
        by_cases hk0 : k = 0
        · have u0 : ((k : Int) == 0) = true := by simp [hk0]
          have HK0 := Lib.hid hk0
          clear hk0
          have hU0 := bup hC
          have hU1 := bup hA3
          refine wp_region_up w3.heap.size (by kernel_rfl) (by kernel_rfl) ?_
          repeat (go_big_quiet_step (fail))
          refine wpQuiet_nil (up_all fun w2 hb2 => ?_)
          have hC := bgo hC hb2
          have hA3 := bgo hA3 hb2
          clear hb2 hU0 hU1
          go_wp2_with fail
          go_roundw
          case rel => exact ⟨k + 1, true, rfl, by go_num, by omega, hA3, Lib.hid (fun _ => ris_first HK0.out HGK.out)⟩
          case measure => simp [intOf] <;> omega
        have hk0' : 0 < k := by omega
        have u0 : ((k : Int) == 0) = false := by simp; omega
        obtain ⟨b', o', g', eA', hbb', hgp, -, d1, -⟩ := HG.out.at_ (k := k - 1) (by omega)
        have p1 := up_fact (((HUP.out _ hA3).1.cell (p := ⟨b', o' + (k - 1) * 10 + 1, none⟩) (by show b' < B; exact hbb')).trans d1)
        rw [HEA.out] at eA'
        cases eA'
        have s1 : IntKind.i64.wrap ((k : Int) - 1) = ((k - 1 : Nat) : Int) := by rw [IntKind.wrap_i64]; omega
        have hk1 : k - 1 < n := by omega
        have HGP := Lib.hid hgp
        clear d1 hgp
        by_cases hle : g'.cl ≤ g.cl
        · have u1 : decide (g'.cl ≤ g.cl) = true := by simp [hle]
          have HLE := Lib.hid hle
          clear hle
          have hU0 := bup hC
          have hU1 := bup hA3
          refine wp_region_up w3.heap.size (by kernel_rfl) (by kernel_rfl) ?_
          repeat (go_big_quiet_step (fail))
          refine wpQuiet_nil (up_all fun w2 hb2 => ?_)
          have hC := bgo hC hb2
          have hA3 := bgo hA3 hb2
          clear hb2 hU0 hU1
          go_wp2_with fail
          go_roundw
          case rel => exact ⟨k + 1, true, rfl, by go_num, by omega, hA3, Lib.hid (fun _ => ris_next (HRI.out rfl) HGK.out HGP.out (by omega) HLE.out)⟩
          case measure => simp [intOf] <;> omega
        have u1 : decide (g'.cl ≤ g.cl) = false := by simp [hle]
        have hU0 := bup hC
        have hU1 := bup hA3
        refine wp_region_up w3.heap.size (by kernel_rfl) (by kernel_rfl) ?_
        repeat (go_big_quiet_step (fail))
        refine wpQuiet_nil (up_all fun w2 hb2 => ?_)
        have hC := bgo hC hb2
        have hA3 := bgo hA3 hb2
        clear hb2 hU0 hU1
        go_wp2_with fail
        go_roundw
        case rel => exact ⟨k + 1, false, rfl, by go_num, by omega, hA3, Lib.hid (fun h => by cases h)⟩
        case measure => simp [intOf] <;> omega
      have r1 : decide ((k : Int) < (n : Int)) = false := by simp; omega
      have r2 : decide (k < n) = false := by simp; omega
      have HRI2 := Lib.hid (show ri = true → Ris gs by have h0 := HRI.out; rwa [List.take_of_length_le (by omega)] at h0)
      clear hin HRI hk
      go_upto_region 14 with fail
      clear r1 r2
      have HOU := Lib.hid (fun W (hW : Below w1.heap.size w1 W) => ours_any B SA sn sc xs W (SlR.below HS.out (HUP.out W hW).1 fun _ _ h => h) (HUP.out W hW).2.1 (by omega))
      have HALL := Lib.hid (fun W (hW : Below w1.heap.size w1 W) (A3 : Option Addr) (c3 : Nat) (h3 : SlR W W.heap.size 2 NestR A3 xs.length c3 xs) (h4 : ∀ x, A3 = some x → x.block < W.heap.size) => allt_any P Ls F B xs A3 xs.length c3 A n c gs W (HF.out.below (HUP.out W hW).1) (SlR.below HLS.out (HUP.out W hW).1 fun _ _ h => h.below (HUP.out W hW).1) (fun x hx => (HGD.out.2.1 x hx).good) h3 ((HG.out.below (HUP.out W hW).1).more (HUP.out W hW).2.1) (HUP.out W hW).2.1 (by omega) (fun x hx _ => h4 x hx))
      have HKE := Lib.hid (kept_all (P := P) xs gs 65536 HGD.out.2.1 HGD.out.2.2 (by omega))
      go_region_held3 (fun W => W.cell? ⟨w.heap.size, 0, none⟩ = some (.int .i64 F.em) ∧ W.cell? ⟨w.heap.size, 1, none⟩ = some (.slice F.GA F.gn F.gc) ∧ W.cell? ⟨w.heap.size, 2, none⟩ = some (.slice F.MA F.mn F.mc) ∧ W.cell? ⟨w.heap.size, 3, none⟩ = some (.slice F.LA F.ln F.lc) ∧ W.cell? ⟨w.heap.size, 4, none⟩ = some (.slice F.FA F.fn F.fc) ∧ W.cell? ⟨w.heap.size, 5, none⟩ = some (.slice F.SA F.sn F.sc)) (first | exact ⟨g0 wr hA, g1 wr hA, g2 wr hA, g3 wr hA, g4 wr hA, g5 wr hA⟩ | exact ⟨g0 w5 hA5, g1 w5 hA5, g2 w5 hA5, g3 w5 hA5, g4 w5 hA5, g5 w5 hA5⟩ | exact ⟨g0 w6 hA6, g1 w6 hA6, g2 w6 hA6, g3 w6 hA6, g4 w6 hA6, g5 w6 hA6⟩)
        (first
          | (go_at_call 9; refine (HOU.out _ hA.drew).mono ?_; rintro e w5 ⟨A5, c5, rfl, hi5, hbl5, hb5⟩; have hA5 := hA.drew.trans (hb5.mono hA.size))
          | (go_at_call 8; refine (HALL.out _ hA5 _ _ hi5 hbl5).mono ?_; rintro e w6 ⟨A6, c6, rfl, hi6, hb6⟩; have hA6 := bgo hA5 hb6)
      )
      obtain ⟨out, hout⟩ : ∃ z, z = (allB P Ls xs gs 65536).1 := ⟨_, rfl⟩
      rw [← hout] at hi6 HKE ⊢
      obtain ⟨N, hN⟩ : ∃ z, z = out.length := ⟨_, rfl⟩
      rw [← hN] at hi6 ⊢
      have hN1 : N ≤ 16384 := by rw [hN]; exact HKE.out.len
      have HN := Lib.hid hN
      have HI6 := Lib.hid hi6
      have hc6 := hi6.cap
      have hB6 := Below.refl w6.heap.size w6
      clear hi6 hi5 hb5 hb6 hbl5 hout hN hA5 hA HOU HALL
      go_upto_region 16 with fail
      obtain ⟨wo3, hwo3⟩ : ∃ wo : World, wo = w6 := ⟨_, rfl⟩
      go_loopw [88] (fun v wr => ∃ k : Nat, v = .int .i64 (k : Int) ∧ k ≤ N ∧ Below w6.heap.size w6 wr) (fun v _ => N - (intOf v).toNat)
      case atStart => exact ⟨0, rfl, Nat.zero_le _, hB6⟩
      case round =>
        clear hB6
        obtain ⟨k, rfl, hk, hB⟩ := hrel
        have hA := hA6.trans (hB.mono hA6.size)
        by_cases hin : k < N
        · have r1 : decide ((k : Int) < (N : Int)) = true := by simp; omega
          have r2 : decide (k < N) = true := by simp; omega
          have sk : IntKind.i64.wrap ((k : Int) + 1) = (k : Int) + 1 := by rw [IntKind.wrap_i64]; omega
          obtain ⟨b, o, g, eA, hbb, hgk, yc0, yc1, yc2, yc3, yc4, yc5, yc6, yc7, yc8, yc9⟩ := HI6.out.at_ hin
          have y0 := (hB.cell (p := ⟨b, o + k * 10, none⟩) (by show b < _; omega)).trans yc0
          have y1 := (hB.cell (p := ⟨b, o + k * 10 + 1, none⟩) (by show b < _; omega)).trans yc1
          have y2 := (hB.cell (p := ⟨b, o + k * 10 + 2, none⟩) (by show b < _; omega)).trans yc2
          have y3 := (hB.cell (p := ⟨b, o + k * 10 + 3, none⟩) (by show b < _; omega)).trans yc3
          have y4 := (hB.cell (p := ⟨b, o + k * 10 + 4, none⟩) (by show b < _; omega)).trans yc4
          have y5 := (hB.cell (p := ⟨b, o + k * 10 + 5, none⟩) (by show b < _; omega)).trans yc5
          have y6 := (hB.cell (p := ⟨b, o + k * 10 + 6, none⟩) (by show b < _; omega)).trans yc6
          have y7 := (hB.cell (p := ⟨b, o + k * 10 + 7, none⟩) (by show b < _; omega)).trans yc7
          have y8 := (hB.cell (p := ⟨b, o + k * 10 + 8, none⟩) (by show b < _; omega)).trans yc8
          have y9 := (hB.cell (p := ⟨b, o + k * 10 + 9, none⟩) (by show b < _; omega)).trans yc9
          have HEA := Lib.hid eA
          have HGK := Lib.hid hgk
          clear eA hgk yc0 yc1 yc2 yc3 yc4 yc5 yc6 yc7 yc8 yc9
          rw [HEA.out]
          go_upto_region 18 with fail
          obtain ⟨w3, hw3⟩ : ∃ z, z = wr.alloc (.cells #[.int .i64 g.id, .int .i64 g.cl, .int .i64 g.ad, .int .i64 g.dx, .int .i64 g.dy, .int .i64 g.tw, .int .i64 g.hg, .int .i64 g.li, .int .i64 g.co, .int .i64 g.ma] 38) := ⟨_, rfl⟩
          obtain ⟨bx, hbx⟩ : ∃ z, z = wr.heap.size := ⟨_, rfl⟩
          rw [← hw3, ← hbx]
          have hA3 := (show Below w1.heap.size w1 w3 by rw [hw3]; exact hA.alloc hA.size _)
          have hX : w3.heap[bx]? = some (.cells #[.int .i64 g.id, .int .i64 g.cl, .int .i64 g.ad, .int .i64 g.dx, .int .i64 g.dy, .int .i64 g.tw, .int .i64 g.hg, .int .i64 g.li, .int .i64 g.co, .int .i64 g.ma] 38 (0, 0)) := by rw [hw3, hbx]; exact heap_alloc_new _ _
          have x0 := up_fact (show w3.cell? ⟨bx, 0, none⟩ = some (.int .i64 g.id) by rw [cell_of_row _ _ 0 _ _ _ hX]; rfl)
          have x1 := up_fact (show w3.cell? ⟨bx, 1, none⟩ = some (.int .i64 g.cl) by rw [cell_of_row _ _ 1 _ _ _ hX]; rfl)
          have x2 := up_fact (show w3.cell? ⟨bx, 2, none⟩ = some (.int .i64 g.ad) by rw [cell_of_row _ _ 2 _ _ _ hX]; rfl)
          have x3 := up_fact (show w3.cell? ⟨bx, 3, none⟩ = some (.int .i64 g.dx) by rw [cell_of_row _ _ 3 _ _ _ hX]; rfl)
          have x4 := up_fact (show w3.cell? ⟨bx, 4, none⟩ = some (.int .i64 g.dy) by rw [cell_of_row _ _ 4 _ _ _ hX]; rfl)
          have x5 := up_fact (show w3.cell? ⟨bx, 5, none⟩ = some (.int .i64 g.tw) by rw [cell_of_row _ _ 5 _ _ _ hX]; rfl)
          have x6 := up_fact (show w3.cell? ⟨bx, 6, none⟩ = some (.int .i64 g.hg) by rw [cell_of_row _ _ 6 _ _ _ hX]; rfl)
          have x7 := up_fact (show w3.cell? ⟨bx, 7, none⟩ = some (.int .i64 g.li) by rw [cell_of_row _ _ 7 _ _ _ hX]; rfl)
          have x8 := up_fact (show w3.cell? ⟨bx, 8, none⟩ = some (.int .i64 g.co) by rw [cell_of_row _ _ 8 _ _ _ hX]; rfl)
          have x9 := up_fact (show w3.cell? ⟨bx, 9, none⟩ = some (.int .i64 g.ma) by rw [cell_of_row _ _ 9 _ _ _ hX]; rfl)
          have hC := Below.refl w3.heap.size w3
          have HWR3 := Lib.hid (show Below wr.heap.size wr w3 by rw [hw3]; exact (Below.refl _ _).alloc (Nat.le_refl _) _)
          clear hX hw3 hbx
          have HB3 := Lib.hid (hB.trans (HWR3.out.mono hB.size))
          have hid := HKE.out.ids g (List.mem_of_getElem? HGK.out)
          have v1 : decide (g.id < 0) = false := by simp; omega
          have v2 : decide ((F.gn : Int) ≤ g.id) = false := by simp; omega
          clear hid
          have k1 := fun W (h : Below w3.heap.size w3 W) => g1 W (hA3.trans (h.mono hA3.size))
          go_cut [121] (fun v W => v = .bool false ∧ Below w3.heap.size w3 W)
          case first =>
            rcases ri with _ | _
            · have hU0 := bup hC
              refine wp_region_up w3.heap.size (by kernel_rfl) (by kernel_rfl) ?_
              repeat (go_big_quiet_step (fail))
              refine wpQuiet_nil (up_all fun w2 hb2 => ?_)
              have hC := bgo hC hb2
              clear hb2 hU0
              go_wp2_with fail
              go_meet
              exact ⟨rfl, hC⟩
            by_cases hk0 : 0 < k
            rotate_left
            · have u0 : decide ((0 : Int) < (k : Int)) = false := by simp; omega
              have u00 : decide (0 < k) = false := by simp; omega
              have hU0 := bup hC
              refine wp_region_up w3.heap.size (by kernel_rfl) (by kernel_rfl) ?_
              repeat (go_big_quiet_step (fail))
              refine wpQuiet_nil (up_all fun w2 hb2 => ?_)
              have hC := bgo hC hb2
              clear hb2 hU0
              go_wp2_with fail
              go_meet
              exact ⟨rfl, hC⟩
            have u0 : decide ((0 : Int) < (k : Int)) = true := by simp; omega
            have u00 : decide (0 < k) = true := by simp; omega
            obtain ⟨b', o', g', eA', hbb', hgp, -, d1, -⟩ := HI6.out.at_ (k := k - 1) (by omega)
            have p1 := up_fact ((HB3.out.cell (p := ⟨b', o' + (k - 1) * 10 + 1, none⟩) (by show b' < _; exact hbb')).trans d1)
            have hle := (HRI2.out rfl |> HKE.out.ris).le hgp HGK.out (by omega)
            rw [HEA.out] at eA'
            cases eA'
            have s1 : IntKind.i64.wrap ((k : Int) - 1) = ((k - 1 : Nat) : Int) := by rw [IntKind.wrap_i64]; omega
            have hk1 : k - 1 < N := by omega
            have u1 : decide (g.cl < g'.cl) = false := by simp; omega
            clear hle d1 hgp
            have hU0 := bup hC
            refine wp_region_up w3.heap.size (by kernel_rfl) (by kernel_rfl) ?_
            repeat (go_big_quiet_step (fail))
            refine wpQuiet_nil (up_all fun w2 hb2 => ?_)
            have hC := bgo hC hb2
            clear hb2 hU0
            go_wp2_with fail
            go_meet
            exact ⟨rfl, hC⟩
          obtain ⟨rfl, hD⟩ := hcut
          go_upto_region 22 with fail
          obtain ⟨wo4, hwo4⟩ : ∃ wo : World, wo = wc := ⟨_, rfl⟩
          subst hwo4
          go_loopw [16, 124] (fun v16 v wr => ∃ (j : Nat) (was : Bool), v16 = .bool was ∧ v = .int .i64 (j : Int) ∧ j ≤ n ∧ Below w3.heap.size w3 wr ∧ Hid ((∃ i y, i < j ∧ gs[i]? = some y ∧ y.cl = g.cl) → was = true)) (fun _ v _ => n - (intOf v).toNat)
          case atStart => exact ⟨0, false, rfl, rfl, Nat.zero_le _, hD, Lib.hid (fun ⟨i, y, h, _⟩ => by omega)⟩
          case round =>
            clear hD
            obtain ⟨j, was, rfl, rfl, hj, hD, HW⟩ := hrel
            by_cases hjn : j < n
            · have r3 : decide ((j : Int) < (n : Int)) = true := by simp; omega
              have r4 : decide (j < n) = true := by simp; omega
              have sj : IntKind.i64.wrap ((j : Int) + 1) = (j : Int) + 1 := by rw [IntKind.wrap_i64]; omega
              obtain ⟨b4, o4, y, e4, hb4, hy, zc0, zc1, zc2, zc3, zc4, zc5, zc6, zc7, zc8, zc9⟩ := HG.out.at_ hjn
              have hAD := hA3.trans (hD.mono hA3.size)
              have q0 := ((HUP.out _ hAD).1.cell (p := ⟨b4, o4 + j * 10, none⟩) (by show b4 < _; omega)).trans zc0
              have q1 := ((HUP.out _ hAD).1.cell (p := ⟨b4, o4 + j * 10 + 1, none⟩) (by show b4 < _; omega)).trans zc1
              have q2 := ((HUP.out _ hAD).1.cell (p := ⟨b4, o4 + j * 10 + 2, none⟩) (by show b4 < _; omega)).trans zc2
              have q3 := ((HUP.out _ hAD).1.cell (p := ⟨b4, o4 + j * 10 + 3, none⟩) (by show b4 < _; omega)).trans zc3
              have q4 := ((HUP.out _ hAD).1.cell (p := ⟨b4, o4 + j * 10 + 4, none⟩) (by show b4 < _; omega)).trans zc4
              have q5 := ((HUP.out _ hAD).1.cell (p := ⟨b4, o4 + j * 10 + 5, none⟩) (by show b4 < _; omega)).trans zc5
              have q6 := ((HUP.out _ hAD).1.cell (p := ⟨b4, o4 + j * 10 + 6, none⟩) (by show b4 < _; omega)).trans zc6
              have q7 := ((HUP.out _ hAD).1.cell (p := ⟨b4, o4 + j * 10 + 7, none⟩) (by show b4 < _; omega)).trans zc7
              have q8 := ((HUP.out _ hAD).1.cell (p := ⟨b4, o4 + j * 10 + 8, none⟩) (by show b4 < _; omega)).trans zc8
              have q9 := ((HUP.out _ hAD).1.cell (p := ⟨b4, o4 + j * 10 + 9, none⟩) (by show b4 < _; omega)).trans zc9
              have HE4 := Lib.hid e4
              have HY := Lib.hid hy
              clear e4 hy zc0 zc1 zc2 zc3 zc4 zc5 zc6 zc7 zc8 zc9
              rw [HE4.out]
              go_upto_region 24 with fail
              obtain ⟨w7, hw3⟩ : ∃ z, z = wr.alloc (.cells #[.int .i64 y.id, .int .i64 y.cl, .int .i64 y.ad, .int .i64 y.dx, .int .i64 y.dy, .int .i64 y.tw, .int .i64 y.hg, .int .i64 y.li, .int .i64 y.co, .int .i64 y.ma] 38) := ⟨_, rfl⟩
              obtain ⟨bq, hbx⟩ : ∃ z, z = wr.heap.size := ⟨_, rfl⟩
              rw [← hw3, ← hbx]
              have hD7 := (show Below w3.heap.size w3 w7 by rw [hw3]; exact hD.alloc hD.size _)
              have hX : w7.heap[bq]? = some (.cells #[.int .i64 y.id, .int .i64 y.cl, .int .i64 y.ad, .int .i64 y.dx, .int .i64 y.dy, .int .i64 y.tw, .int .i64 y.hg, .int .i64 y.li, .int .i64 y.co, .int .i64 y.ma] 38 (0, 0)) := by rw [hw3, hbx]; exact heap_alloc_new _ _
              have z0 := up_fact (show w7.cell? ⟨bq, 0, none⟩ = some (.int .i64 y.id) by rw [cell_of_row _ _ 0 _ _ _ hX]; rfl)
              have z1 := up_fact (show w7.cell? ⟨bq, 1, none⟩ = some (.int .i64 y.cl) by rw [cell_of_row _ _ 1 _ _ _ hX]; rfl)
              have z2 := up_fact (show w7.cell? ⟨bq, 2, none⟩ = some (.int .i64 y.ad) by rw [cell_of_row _ _ 2 _ _ _ hX]; rfl)
              have z3 := up_fact (show w7.cell? ⟨bq, 3, none⟩ = some (.int .i64 y.dx) by rw [cell_of_row _ _ 3 _ _ _ hX]; rfl)
              have z4 := up_fact (show w7.cell? ⟨bq, 4, none⟩ = some (.int .i64 y.dy) by rw [cell_of_row _ _ 4 _ _ _ hX]; rfl)
              have z5 := up_fact (show w7.cell? ⟨bq, 5, none⟩ = some (.int .i64 y.tw) by rw [cell_of_row _ _ 5 _ _ _ hX]; rfl)
              have z6 := up_fact (show w7.cell? ⟨bq, 6, none⟩ = some (.int .i64 y.hg) by rw [cell_of_row _ _ 6 _ _ _ hX]; rfl)
              have z7 := up_fact (show w7.cell? ⟨bq, 7, none⟩ = some (.int .i64 y.li) by rw [cell_of_row _ _ 7 _ _ _ hX]; rfl)
              have z8 := up_fact (show w7.cell? ⟨bq, 8, none⟩ = some (.int .i64 y.co) by rw [cell_of_row _ _ 8 _ _ _ hX]; rfl)
              have z9 := up_fact (show w7.cell? ⟨bq, 9, none⟩ = some (.int .i64 y.ma) by rw [cell_of_row _ _ 9 _ _ _ hX]; rfl)
              have hC7 := Below.refl w7.heap.size w7
              clear hX hw3 hbx
              rcases was with _ | _
              rotate_left
              · go_wp2_with fail
                go_roundw
                case rel => exact ⟨j + 1, true, rfl, by go_num, by omega, hD7, Lib.hid (fun _ => rfl)⟩
                case measure => simp [intOf] <;> omega
              by_cases hq : y.cl = g.cl
              · have u5 : (y.cl == g.cl) = true := by simp [hq]
                clear hq
                go_wp2_with fail
                go_roundw
                case rel => exact ⟨j + 1, true, rfl, by go_num, by omega, hD7, Lib.hid (fun _ => rfl)⟩
                case measure => simp [intOf] <;> omega
              have u5 : (y.cl == g.cl) = false := by simp [hq]
              have HQ := Lib.hid hq
              clear hq
              go_wp2_with fail
              go_roundw
              case rel => exact ⟨j + 1, false, rfl, by go_num, by omega, hD7, Lib.hid (fun ⟨i, y', h1, h2, h3⟩ => by
                by_cases hij : i = j
                · subst hij
                  rw [HY.out] at h2
                  cases h2
                  exact absurd h3 HQ.out
                · exact HW.out ⟨i, y', by omega, h2, h3⟩)⟩
              case measure => simp [intOf] <;> omega
            have r3 : decide ((j : Int) < (n : Int)) = false := by simp; omega
            have r4 : decide (j < n) = false := by simp; omega
            have hwas : was = true := HW.out (by
              obtain ⟨y, hy, hcl⟩ := HKE.out.cls g (List.mem_of_getElem? HGK.out)
              obtain ⟨i, hi, he⟩ := List.mem_iff_getElem.1 hy
              exact ⟨i, y, by omega, by rw [List.getElem?_eq_getElem hi, he], hcl⟩)
            subst hwas
            clear hjn
            go_wp2_with fail
            go_roundw
            case rel => exact ⟨k + 1, by go_num, by omega, HB3.out.trans (hD.mono HB3.out.size)⟩
            case measure => simp [intOf] <;> omega
        have r1 : decide ((k : Int) < (N : Int)) = false := by simp; omega
        have r2 : decide (k < N) = false := by simp; omega
        have m1 : decide ((N : Int) ≤ 16384) = true := by simp; omega
        have m2 : decide (N ≤ 16384) = true := by simp; omega
        clear hin
        rcases pl with _ | _
        · go_wp2_with (first | (go_at_call 7; refine (alive_any _).mono ?_; rintro e w10 ⟨rfl, hb10⟩; have hZ := bgo hA hb10))
          go_ret
          exact ⟨rfl, HB1.out.trans (hZ.mono (by omega))⟩
        have hone := HKE.out.one (HPL2.out rfl)
        have m3 : ((N : Int) == (n : Int)) = true := by simp; have := HN.out; omega
        have m4 : (N == n) = true := by simp; have := HN.out; omega
        go_wp2_with (first | (go_at_call 7; refine (alive_any _).mono ?_; rintro e w10 ⟨rfl, hb10⟩; have hZ := bgo hA hb10))
        go_ret
        exact ⟨rfl, HB1.out.trans (hZ.mono (by omega))⟩

end Go.Proofs.Ytngdolmmaiogiaa
