/- The walk of SubstIdle. Condition: the font, the plans and the buffer read as plain data. Printed by wip/tools/g32s.py. Printed by wip/tools. -/
import Derived.Test.YtngdolmmaiogiaaJ36
import Derived.Test.YtngdolmmaiogiaaJ43
import Derived.Test.YtngdolmmaiogiaaJ41
namespace Go.Proofs.Ytngdolmmaiogiaa
open Go.RowKit

/-- a step that calls nothing of what was met -/
def idS (m : Int) (x : Int × Int) : Int × Int := (x.1, bits BinOp.andNot IntKind.i64 x.2 m)

theorem SlR.go {w w' : World} {A : Option Addr} {n c : Nat} {ps : List (Int × Int)} (h : SlR w w.heap.size 2 NestR A n c ps) (hb : Below w.heap.size w w') : SlR w' w'.heap.size 2 NestR A n c ps :=
  SlR.more (SlR.below h hb fun _ _ h => h) hb.size fun _ _ h => h
theorem GlsR.go {w w' : World} {A : Option Addr} {n c : Nat} {gs : List Gl} (h : GlsR w w.heap.size A n c gs) (hb : Below w.heap.size w w') : GlsR w' w'.heap.size A n c gs := (h.below hb).more hb.size
theorem blk_go {w w' : World} {A : Option Addr} (h : ∀ x, A = some x → x.block < w.heap.size) (hb : Below w.heap.size w w') : ∀ x, A = some x → x.block < w'.heap.size := fun x hx => Nat.lt_of_lt_of_le (h x hx) hb.size
theorem StRow.empty (w : World) : StRow (w.alloc (.cells #[] 45)) w.heap.size (some ⟨w.heap.size, 0, none⟩) 0 0 [] :=
  ⟨rfl, rfl, .inr ⟨w.heap.size, 0, #[], rfl, Nat.le_refl _, heap_alloc_new w _, Nat.le_refl _, by unfold maxLen; omega, rfl, rfl⟩⟩

set_option maxRecDepth 100000 in
set_option maxHeartbeats 4000000 in
theorem idle_any (P : PFt) (Ls : List LkS) (F : Fnt) (B : Nat) (xs ys : List (Int × Int)) (SA : Option Addr) (sn sc : Nat) (TA : Option Addr) (tn tc : Nat) (A : Option Addr) (n c : Nat) (gs : List Gl) (w : World) (hF : FtR w B F P) (hLs : SlR w B 4 (LkR2 w B) F.LA F.ln F.lc Ls) (hS : SlR w B 2 NestR SA sn sc xs) (hT : SlR w B 2 NestR TA tn tc ys) (hg : GlsR w B A n c gs) (hB : B ≤ w.heap.size) :
    Calls Try.prog 4 #[.agg #[.int .i64 F.em, .slice F.GA F.gn F.gc, .slice F.MA F.mn F.mc, .slice F.LA F.ln F.lc, .slice F.FA F.fn F.fc, .slice F.SA F.sn F.sc], .slice SA sn sc, .slice TA tn tc, .slice A n c] w (fun e w' => e = .returned (.bool true) ∧ Below w.heap.size w w') := by
  have hcap := hg.cap
  have hgl := hg.length
  have hscap := SlR.cap hS
  have htcap := SlR.cap hT
  have hsl := SlR.length hS
  have htl := SlR.length hT
  have HTT := Lib.hid hT
  have hfc := hF.ok.hG.cap
  have hlc := hF.ok.hL.cap
  have hll := SlR.length hLs
  have HF := Lib.hid hF
  have HLS := Lib.hid hLs
  have HS := Lib.hid hS
  have HG := Lib.hid hg
  clear hF hLs hS hT hg
  obtain ⟨w1, hw_w1⟩ : ∃ z, z = w.alloc (.cells #[.int .i64 F.em, .slice F.GA F.gn F.gc, .slice F.MA F.mn F.mc, .slice F.LA F.ln F.lc, .slice F.FA F.fn F.fc, .slice F.SA F.sn F.sc] 28) := ⟨_, rfl⟩
  have hs_w1 : w1.heap.size = w.heap.size + 1 := by rw [hw_w1]; simp
  have hb_w1 : Below w.heap.size w w1 := by rw [hw_w1]; exact (Below.refl _ _).alloc (Nat.le_refl _) _
  have hx_0 : w1.heap[w.heap.size]? = some (.cells #[.int .i64 F.em, .slice F.GA F.gn F.gc, .slice F.MA F.mn F.mc, .slice F.LA F.ln F.lc, .slice F.FA F.fn F.fc, .slice F.SA F.sn F.sc] 28 (0, 0)) := by rw [hw_w1]; exact heap_alloc_new _ _
  have g0 := up_fact (show w1.cell? ⟨w.heap.size, 0, none⟩ = some (.int .i64 F.em) by rw [cell_of_row _ _ 0 _ _ _ hx_0]; rfl)
  have g1 := up_fact (show w1.cell? ⟨w.heap.size, 1, none⟩ = some (.slice F.GA F.gn F.gc) by rw [cell_of_row _ _ 1 _ _ _ hx_0]; rfl)
  have g2 := up_fact (show w1.cell? ⟨w.heap.size, 2, none⟩ = some (.slice F.MA F.mn F.mc) by rw [cell_of_row _ _ 2 _ _ _ hx_0]; rfl)
  have g3 := up_fact (show w1.cell? ⟨w.heap.size, 3, none⟩ = some (.slice F.LA F.ln F.lc) by rw [cell_of_row _ _ 3 _ _ _ hx_0]; rfl)
  have g4 := up_fact (show w1.cell? ⟨w.heap.size, 4, none⟩ = some (.slice F.FA F.fn F.fc) by rw [cell_of_row _ _ 4 _ _ _ hx_0]; rfl)
  have g5 := up_fact (show w1.cell? ⟨w.heap.size, 5, none⟩ = some (.slice F.SA F.sn F.sc) by rw [cell_of_row _ _ 5 _ _ _ hx_0]; rfl)
  have hA0 := Below.refl w1.heap.size w1
  have HS1 := Lib.hid hs_w1
  have hs1 : w.heap.size + 0 < w1.heap.size := by omega
  have HB1 := Lib.hid hb_w1
  have HW_w1 := Lib.hid hw_w1
  clear hw_w1 hs_w1 hb_w1
  clear hx_0
  have HUP := Lib.hid (show ∀ W, Below w1.heap.size w1 W → Below B w W ∧ B ≤ W.heap.size ∧ Below w.heap.size w W from fun W hW => ⟨(HB1.out.mono hB).trans (hW.mono (by omega)), by have := hW.size; omega, HB1.out.trans (hW.mono (by omega))⟩)
  have HMAY := Lib.hid (fun W (hW : Below w1.heap.size w1 W) => may_any F B P.ls Ls A n c gs W (HF.out.ok.below (HUP.out W hW).1) (SlR.below HLS.out (HUP.out W hW).1 fun _ _ h => h.below (HUP.out W hW).1) (SlR.below HF.out.ls (HUP.out W hW).1 fun _ _ h => LkR.below h (HUP.out W hW).1) (HG.out.below (HUP.out W hW).1) (HUP.out W hW).2.1)
  go_enter Try.func4, Try.ntmps4
  go_upto_region 1 with fail
  rw [← HW_w1.out]
  go_cut [46] (fun v W => ∃ t : Bool, v = .bool t ∧ Below w1.heap.size w1 W ∧ Hid (t = false → (n ≤ 40 ∧ sn ≤ 5 ∧ tn ≤ 5) ∧ (∀ x ∈ Ls, FkGood F.gn P.ls x) ∧ ∀ g ∈ gs, 0 ≤ g.id ∧ g.id < (F.gn : Int)))
  case first =>
    by_cases h8 : sn ≤ 5
    rotate_left
    · have qsn1 : decide ((5 : Int) < (sn : Int)) = true := by simp; omega
      have qsn2 : decide (5 < sn) = true := by simp; omega
      clear h8
      go_wp2_with (first | (go_at_call 5; refine (HMAY.out _ hA0).mono ?_; rintro e w4 ⟨b4, rfl, hp4, hb4⟩; have HP4 := Lib.hid hp4; have hA4 := bgo hA0 hb4; clear hp4 hb4; rcases b4 with _ | _))
      · go_meet
        exact ⟨true, rfl, hA4, Lib.hid (fun h => by cases h)⟩
      · go_meet
        exact ⟨true, rfl, hA4, Lib.hid (fun h => by cases h)⟩
    have qsn1 : decide ((5 : Int) < (sn : Int)) = false := by simp; omega
    have qsn2 : decide (5 < sn) = false := by simp; omega
    by_cases h9 : tn ≤ 5
    rotate_left
    · have qtn1 : decide ((5 : Int) < (tn : Int)) = true := by simp; omega
      have qtn2 : decide (5 < tn) = true := by simp; omega
      clear h8 h9
      go_wp2_with (first | (go_at_call 5; refine (HMAY.out _ hA0).mono ?_; rintro e w4 ⟨b4, rfl, hp4, hb4⟩; have HP4 := Lib.hid hp4; have hA4 := bgo hA0 hb4; clear hp4 hb4; rcases b4 with _ | _))
      · go_meet
        exact ⟨true, rfl, hA4, Lib.hid (fun h => by cases h)⟩
      · go_meet
        exact ⟨true, rfl, hA4, Lib.hid (fun h => by cases h)⟩
    have qtn1 : decide ((5 : Int) < (tn : Int)) = false := by simp; omega
    have qtn2 : decide (5 < tn) = false := by simp; omega
    have s0 : IntKind.i64.wrap ((sn : Int) + (tn : Int)) = ((sn + tn : Nat) : Int) := by rw [IntKind.wrap_i64]; omega
    have HLI := Lib.hid (fun W (hW : Below w1.heap.size w1 W) => light_any F B (sn + tn) (n : Int) W (HF.out.ok.below (HUP.out W hW).1) (HUP.out W hW).2.1 (by omega))
    have H8 := Lib.hid (And.intro h8 h9)
    clear h8 h9
    go_wp2_with (first | (go_at_call 5; refine (HMAY.out _ hA0).mono ?_; rintro e w4 ⟨b4, rfl, hp4, hb4⟩; have HP4 := Lib.hid hp4; have hA4 := bgo hA0 hb4; clear hp4 hb4; rcases b4 with _ | _) | (go_at_call 6; refine (HLI.out _ hA4).mono ?_; rintro e w5 ⟨b5, rfl, -, hb5⟩; have hA5 := bgo hA4 hb5; clear hb5; rcases b5 with _ | _))
    · go_meet
      exact ⟨true, rfl, hA4, Lib.hid (fun h => by cases h)⟩
    · go_meet
      exact ⟨true, rfl, hA5, Lib.hid (fun h => by cases h)⟩
    · go_meet
      exact ⟨false, rfl, hA5, Lib.hid (fun _ => ⟨⟨(HP4.out (by trivial)).1, H8.out⟩, (HP4.out (by trivial)).2⟩)⟩
  obtain ⟨t, rfl, hA, HT⟩ := hcut
  rcases t with _ | _
  rotate_left
  · go_wp2_with (first | (go_at_call 7; refine (alive_any _).mono ?_; rintro e w10 ⟨rfl, hb10⟩; have hZ := bgo hA hb10))
    go_ret
    exact ⟨rfl, HB1.out.trans (hZ.mono (by omega))⟩
  have HGD := Lib.hid (HT.out (by trivial))
  have hn40 := HGD.out.1.1
  have hs5 := HGD.out.1.2.1
  have ht5 := HGD.out.1.2.2
  clear HT
  go_upto_region 5 with fail
  obtain ⟨wo, hwo⟩ : ∃ wo : World, wo = wc := ⟨_, rfl⟩
  subst hwo
  go_loopw [9, 50] (fun v9 v wr => ∃ (k : Nat) (m : Int), v9 = .int .i64 m ∧ v = .int .i64 (k : Int) ∧ k ≤ n ∧ Below w1.heap.size w1 wr ∧ Hid (Met m (gs.take k))) (fun _ v _ => n - (intOf v).toNat)
  case atStart => exact ⟨0, 0, rfl, rfl, Nat.zero_le _, hA, Lib.hid (fun g hg => by simp at hg)⟩
  case round =>
    clear hA
    obtain ⟨k, m, rfl, rfl, hk, hA, HM⟩ := hrel
    by_cases hin : k < n
    · have r1 : decide ((k : Int) < (n : Int)) = true := by simp; omega
      have r2 : decide (k < n) = true := by simp; omega
      have sk : IntKind.i64.wrap ((k : Int) + 1) = (k : Int) + 1 := by rw [IntKind.wrap_i64]; omega
      obtain ⟨b, o, g, eA, hbb, hgk, yc0, yc1, yc2, yc3, yc4, yc5, yc6, yc7, yc8, yc9⟩ := HG.out.at_ hin
      have y0 := ((HUP.out _ hA).1.cell (p := ⟨b, o + k * 10, none⟩) (by show b < _; omega)).trans yc0
      have y1 := ((HUP.out _ hA).1.cell (p := ⟨b, o + k * 10 + 1, none⟩) (by show b < _; omega)).trans yc1
      have y2 := ((HUP.out _ hA).1.cell (p := ⟨b, o + k * 10 + 2, none⟩) (by show b < _; omega)).trans yc2
      have y3 := ((HUP.out _ hA).1.cell (p := ⟨b, o + k * 10 + 3, none⟩) (by show b < _; omega)).trans yc3
      have y4 := ((HUP.out _ hA).1.cell (p := ⟨b, o + k * 10 + 4, none⟩) (by show b < _; omega)).trans yc4
      have y5 := ((HUP.out _ hA).1.cell (p := ⟨b, o + k * 10 + 5, none⟩) (by show b < _; omega)).trans yc5
      have y6 := ((HUP.out _ hA).1.cell (p := ⟨b, o + k * 10 + 6, none⟩) (by show b < _; omega)).trans yc6
      have y7 := ((HUP.out _ hA).1.cell (p := ⟨b, o + k * 10 + 7, none⟩) (by show b < _; omega)).trans yc7
      have y8 := ((HUP.out _ hA).1.cell (p := ⟨b, o + k * 10 + 8, none⟩) (by show b < _; omega)).trans yc8
      have y9 := ((HUP.out _ hA).1.cell (p := ⟨b, o + k * 10 + 9, none⟩) (by show b < _; omega)).trans yc9
      have HEA := Lib.hid eA
      have HGK := Lib.hid hgk
      clear eA hgk yc0 yc1 yc2 yc3 yc4 yc5 yc6 yc7 yc8 yc9
      rw [HEA.out]
      go_upto_region 7 with fail
      obtain ⟨w3, hw3⟩ : ∃ z, z = wr.alloc (.cells #[.int .i64 g.id, .int .i64 g.cl, .int .i64 g.ad, .int .i64 g.dx, .int .i64 g.dy, .int .i64 g.tw, .int .i64 g.hg, .int .i64 g.li, .int .i64 g.co, .int .i64 g.ma] 38) := ⟨_, rfl⟩
      obtain ⟨bx, hbx⟩ : ∃ z, z = wr.heap.size := ⟨_, rfl⟩
      rw [← hw3, ← hbx]
      have hA3 := (show Below w1.heap.size w1 w3 by rw [hw3]; exact hA.alloc hA.size _)
      have hX : w3.heap[bx]? = some (.cells #[.int .i64 g.id, .int .i64 g.cl, .int .i64 g.ad, .int .i64 g.dx, .int .i64 g.dy, .int .i64 g.tw, .int .i64 g.hg, .int .i64 g.li, .int .i64 g.co, .int .i64 g.ma] 38 (0, 0)) := by rw [hw3, hbx]; exact heap_alloc_new _ _
      have x0 := up_fact (show w3.cell? ⟨bx, 0, none⟩ = some (.int .i64 g.id) by rw [cell_of_row _ _ 0 _ _ _ hX]; rfl)
      have x1 := up_fact (show w3.cell? ⟨bx, 1, none⟩ = some (.int .i64 g.cl) by rw [cell_of_row _ _ 1 _ _ _ hX]; rfl)
      have x2 := up_fact (show w3.cell? ⟨bx, 2, none⟩ = some (.int .i64 g.ad) by rw [cell_of_row _ _ 2 _ _ _ hX]; rfl)
      have x3 := up_fact (show w3.cell? ⟨bx, 3, none⟩ = some (.int .i64 g.dx) by rw [cell_of_row _ _ 3 _ _ _ hX]; rfl)
      have x4 := up_fact (show w3.cell? ⟨bx, 4, none⟩ = some (.int .i64 g.dy) by rw [cell_of_row _ _ 4 _ _ _ hX]; rfl)
      have x5 := up_fact (show w3.cell? ⟨bx, 5, none⟩ = some (.int .i64 g.tw) by rw [cell_of_row _ _ 5 _ _ _ hX]; rfl)
      have x6 := up_fact (show w3.cell? ⟨bx, 6, none⟩ = some (.int .i64 g.hg) by rw [cell_of_row _ _ 6 _ _ _ hX]; rfl)
      have x7 := up_fact (show w3.cell? ⟨bx, 7, none⟩ = some (.int .i64 g.li) by rw [cell_of_row _ _ 7 _ _ _ hX]; rfl)
      have x8 := up_fact (show w3.cell? ⟨bx, 8, none⟩ = some (.int .i64 g.co) by rw [cell_of_row _ _ 8 _ _ _ hX]; rfl)
      have x9 := up_fact (show w3.cell? ⟨bx, 9, none⟩ = some (.int .i64 g.ma) by rw [cell_of_row _ _ 9 _ _ _ hX]; rfl)
      have hC := Below.refl w3.heap.size w3
      clear hX hw3 hbx
      go_wp2_with fail
      go_roundw
      case rel => exact ⟨k + 1, _, rfl, by go_num, by omega, hA3, Lib.hid (HM.out.next HGK.out)⟩
      case measure => simp [intOf] <;> omega
    have r1 : decide ((k : Int) < (n : Int)) = false := by simp; omega
    have r2 : decide (k < n) = false := by simp; omega
    have HMET := Lib.hid (show Met m gs by have h0 := HM.out; rwa [List.take_of_length_le (by omega)] at h0)
    clear hin HM hk
    go_upto_region 11 with fail
    clear r1 r2
    obtain ⟨wo2, hwo2⟩ : ∃ wo : World, wo = wr := ⟨_, rfl⟩
    subst hwo2
    go_loopw [12, 61] (fun v12 v wr => ∃ (k : Nat) (Ao : Option Addr) (co : Nat), v12 = .slice Ao k co ∧ v = .int .i64 (k : Int) ∧ k ≤ sn ∧ Hid (StRow wr w1.heap.size Ao k co ((xs.map (idS m)).take k)) ∧ Below w1.heap.size w1 wr) (fun _ v _ => sn - (intOf v).toNat)
    case atStart => exact ⟨0, none, 0, rfl, rfl, Nat.zero_le _, Lib.hid (StRow.nil_ _ _), hA⟩
    case round =>
      clear hA
      obtain ⟨k, Ao, co, rfl, rfl, hk, HROW, hA⟩ := hrel
      by_cases hin : k < sn
      · have r1 : decide ((k : Int) < (sn : Int)) = true := by simp; omega
        have r2 : decide (k < sn) = true := by simp; omega
        have sk : IntKind.i64.wrap ((k : Int) + 1) = (k : Int) + 1 := by rw [IntKind.wrap_i64]; omega
        obtain ⟨x, b, o, cs, hx, eA, hbb, hc, hcs⟩ := SlR.at_ HS.out hin
        obtain ⟨xa, xl⟩ := x
        obtain rfl : cs = [.int .i64 xa, .int .i64 xl] := hcs
        have f0 := ((HUP.out _ hA).1.cell (p := ⟨b, o + k * 2 + 0, none⟩) (by show b < _; omega)).trans (hc 0 _ rfl)
        have f1 := ((HUP.out _ hA).1.cell (p := ⟨b, o + k * 2 + 1, none⟩) (by show b < _; omega)).trans (hc 1 _ rfl)
        rw [Nat.add_zero] at f0
        have HEA := Lib.hid eA
        have HX := Lib.hid hx
        clear hc eA hx
        rw [HEA.out]
        go_upto_region 13 with fail
        obtain ⟨w3, hw3⟩ : ∃ z, z = wr.alloc (.cells #[.int .i64 xa, .int .i64 xl] 44) := ⟨_, rfl⟩
        obtain ⟨bx, hbx⟩ : ∃ z, z = wr.heap.size := ⟨_, rfl⟩
        rw [← hw3, ← hbx]
        have hA3 := (show Below w1.heap.size w1 w3 by rw [hw3]; exact hA.alloc hA.size _)
        have hX : w3.heap[bx]? = some (.cells #[.int .i64 xa, .int .i64 xl] 44 (0, 0)) := by rw [hw3, hbx]; exact heap_alloc_new _ _
        have x0 := up_fact (show w3.cell? ⟨bx, 0, none⟩ = some (.int .i64 xa) by rw [cell_of_row _ _ 0 _ _ _ hX]; rfl)
        have x1 := up_fact (show w3.cell? ⟨bx, 1, none⟩ = some (.int .i64 xl) by rw [cell_of_row _ _ 1 _ _ _ hX]; rfl)
        have hC := Below.refl w3.heap.size w3
        have HAL := Lib.hid (show Below wr.heap.size wr w3 by rw [hw3]; exact (Below.refl _ _).alloc (Nat.le_refl _) _)
        clear hX hw3 hbx
        have HR3 := Lib.hid (show StRow w3 w1.heap.size Ao k co ((xs.map (idS m)).take k) from HROW.out.below HAL.out (Nat.le_refl _))
        have hAx := hA3.alloc hA3.size (.cells #[.int .i64 (idS m (xa, xl)).1, .int .i64 (idS m (xa, xl)).2] 45)
        go_wp2_with (first | (at_builtin; refine wpList_append_st _ rfl (.tmp 65) (.tmp 73) 40 rfl w1.heap.size _ Try.underlying40 infoSt rfl Ao k co ((xs.map (idS m)).take k) rfl (HR3.out.alloc _) _ (some ⟨w3.heap.size, 0, none⟩) 1 1 [idS m (xa, xl)] rfl (stepLit w3 (idS m (xa, xl)) _) (by omega) hAx.size ?_; intro A9 c9 w9 ho9 hg9 _; have hA9 := st_below hAx hAx.size hg9 (HR3.out.alloc _) (Nat.le_refl _)))
        go_roundw
        case rel => exact ⟨k + 1, _, _, rfl, by go_num, by omega, Lib.hid (by rw [List.take_add_one, List.getElem?_map, HX.out]; exact ho9), hA9⟩
        case measure => simp [intOf] <;> omega
      have r1 : decide ((k : Int) < (sn : Int)) = false := by simp; omega
      have r2 : decide (k < sn) = false := by simp; omega
      have HROW2 := Lib.hid (show StRow wr w1.heap.size Ao k co (xs.map (idS m)) by have h0 := HROW.out; rwa [List.take_of_length_le (by rw [List.length_map]; omega)] at h0)
      have hks : k = sn := by omega
      clear hin HROW hk
      go_upto_region 15 with fail
      clear r1 r2
      have HALL := Lib.hid (fun W (hW : Below w1.heap.size w1 W) (zs : List (Int × Int)) (A3 : Option Addr) (n3 c3 : Nat) (h3 : SlR W W.heap.size 2 NestR A3 n3 c3 zs) (h4 : ∀ x, A3 = some x → x.block < W.heap.size) (A4 : Option Addr) (n4 c4 : Nat) (hs : List Gl) (h5 : GlsR W W.heap.size A4 n4 c4 hs) (h6 : n4 ≤ 16384) => allt_any P Ls F B zs A3 n3 c3 A4 n4 c4 hs W (HF.out.below (HUP.out W hW).1) (SlR.below HLS.out (HUP.out W hW).1 fun _ _ h => h.below (HUP.out W hW).1) (fun x hx => (HGD.out.2.1 x hx).good) h3 h5 (HUP.out W hW).2.1 h6 (fun x hx _ => h4 x hx))
      have HDONE := Lib.hid (fun W (hW : Below w1.heap.size w1 W) (zs : List (Int × Int)) (A3 : Option Addr) (n3 c3 : Nat) (h3 : SlR W W.heap.size 2 NestR A3 n3 c3 zs) (h4 : ∀ x, A3 = some x → x.block < W.heap.size) (A4 : Option Addr) (n4 c4 : Nat) (hs : List Gl) (h5 : GlsR W W.heap.size A4 n4 c4 hs) (h6 : n4 ≤ 16384) => donet_any P Ls F B zs A3 n3 c3 A4 n4 c4 hs W (HF.out.below (HUP.out W hW).1) (SlR.below HLS.out (HUP.out W hW).1 fun _ _ h => h.below (HUP.out W hW).1) (fun x hx => (HGD.out.2.1 x hx).good) h3 h5 (HUP.out W hW).2.1 h6 (fun x hx _ => h4 x hx))
      have HGW := Lib.hid (fun W (hW : Below w1.heap.size w1 W) => (HG.out.below (HUP.out W hW).1).more (HUP.out W hW).2.1)
      have HIDLE := Lib.hid (show allB P Ls (xs.map (idS m)) gs 65536 = (gs, 65536) from allB_idle _ fun x hx g hg => by
        obtain ⟨y, _, rfl⟩ := List.mem_map.1 hx
        exact HMET.out.miss hg)
      have HBK := Lib.hid (show ∀ x, Ao = some x → x.block < wr.heap.size from fun x hx => (HROW2.out.block x.block (by rw [hx]; rfl)).2)
      subst hks
      go_cut [89] (fun v W => v = .bool false ∧ Below w1.heap.size w1 W)
      case first =>
        go_wp2_with (first | (go_at_call 8; refine (HALL.out _ hA _ _ _ _ HROW2.out.slr HBK.out _ _ _ _ (HGW.out _ hA) (by omega)).mono ?_; rw [HIDLE.out]; rintro e w5 ⟨A5, c5, rfl, hi5, hb5⟩; have hA5 := bgo hA hb5; have HI5 := Lib.hid hi5; clear hi5) | (go_at_call 10; refine (rsame_any _ B _ _ n _ _ gs _ (by have h0 := HI5.out; rwa [hgl] at h0) (HG.out.below (HUP.out _ hA5).1)).mono ?_; rintro e w6 ⟨rfl, hb6⟩; have hA6 := bgo hA5 hb6) | (go_at_call 11; refine (HDONE.out _ hA6 _ _ _ _ (SlR.below (SlR.more HROW2.out.slr (Nat.le_refl _) fun _ _ h => h) (hb5.trans (hb6.mono hb5.size)) (fun _ _ h => h) |> fun h => SlR.more h (hb5.trans (hb6.mono hb5.size)).size fun _ _ h => h) (fun x hx => Nat.lt_of_lt_of_le (HBK.out x hx) (hb5.trans (hb6.mono hb5.size)).size) _ _ _ _ (HGW.out _ hA6) (by omega)).mono ?_; rw [HIDLE.out]; rintro e w7 ⟨rfl, hb7⟩; have hA7 := bgo hA6 hb7))
        go_meet
        exact ⟨rfl, hA7⟩
      obtain ⟨rfl, hB⟩ := hcut
      clear hA
      have HO1 := Lib.hid (fun W (hW : Below w1.heap.size w1 W) => ours_any B SA k sc xs W (SlR.below HS.out (HUP.out W hW).1 fun _ _ h => h) (HUP.out W hW).2.1 (by omega))
      have HO2 := Lib.hid (fun W (hW : Below w1.heap.size w1 W) => ours_any B TA tn tc ys W (SlR.below HTT.out (HUP.out W hW).1 fun _ _ h => h) (HUP.out W hW).2.1 (by omega))
      have HKE := Lib.hid (kept_all (P := P) xs gs 65536 HGD.out.2.1 HGD.out.2.2 (by omega))
      go_upto_region 19 with (first | (go_at_call_of 9 (Value.slice SA k sc); refine (HO1.out _ hB).mono ?_; rintro e w8 ⟨A8, c8, rfl, hi8, hk8, hb8⟩; rw [hsl] at hi8; have hB8 := bgo hB hb8) | (go_at_call_of 9 (Value.slice TA tn tc); refine (HO2.out _ hB8).mono ?_; rintro e w9 ⟨A9, c9, rfl, hi9, hk9, hb9⟩; rw [htl] at hi9; have hB9 := bgo hB8 hb9; have hi89 := SlR.more (SlR.below hi8 hb9 fun _ _ h => h) hb9.size fun _ _ h => h; have hk89 := fun x hx => Nat.lt_of_lt_of_le (hk8 x hx) hb9.size) | (go_at_call 8; refine (HALL.out _ hB9 _ _ _ _ hi89 hk89 _ _ _ _ (HGW.out _ hB9) (by omega)).mono ?_; rintro e w10 ⟨A10, c10, rfl, hi10, hb10⟩; have hB10 := bgo hB9 hb10))
      obtain ⟨out, hout⟩ : ∃ z, z = (allB P Ls xs gs 65536).1 := ⟨_, rfl⟩
      rw [← hout] at hi10 HKE ⊢
      obtain ⟨fin, hfin⟩ : ∃ z, z = (allB P Ls ys out 65536).1 := ⟨_, rfl⟩
      obtain ⟨d1, hd1⟩ : ∃ d : Nat, (65536 - ((allB P Ls xs gs 65536).2 : Int)) = (d : Int) := ⟨65536 - (allB P Ls xs gs 65536).2, by have := allB_left (P := P) (Ls := Ls) xs gs 65536; omega⟩
      obtain ⟨d2, hd2⟩ : ∃ d : Nat, (65536 - ((allB P Ls ys out 65536).2 : Int)) = (d : Int) := ⟨65536 - (allB P Ls ys out 65536).2, by have := allB_left (P := P) (Ls := Ls) ys out 65536; omega⟩
      obtain ⟨D, hD⟩ : ∃ d, d = d1 + d2 := ⟨_, rfl⟩
      have hdb : d1 ≤ 65536 ∧ d2 ≤ 65536 := ⟨by omega, by omega⟩
      have HTWO := Lib.hid (show D < 65536 → (allB P Ls (xs ++ ys) gs 65536).1 = fin ∧ (65536 - ((allB P Ls (xs ++ ys) gs 65536).2 : Int)) = (D : Int) from fun h => by
        rw [hfin]
        rw [hout] at hd2 ⊢
        have h1 := allB_left (P := P) (Ls := Ls) xs gs 65536
        have h2 := allB_left (P := P) (Ls := Ls) ys (allB P Ls xs gs 65536).1 65536
        have h3 := allB_left (P := P) (Ls := Ls) (xs ++ ys) gs 65536
        have h4 := allB_two (P := P) (Ls := Ls) (xs := xs) (ys := ys) (gs := gs) (by omega)
        exact ⟨h4.1, by have := h4.2; omega⟩)
      have sD : IntKind.i64.wrap ((d1 : Int) + (d2 : Int)) = (D : Int) := by rw [IntKind.wrap_i64]; omega
      have HX := Lib.hid (fun W (hW : Below w10.heap.size w10 W) => SlR.go hi89 (bgo hb10 hW))
      have HXB := Lib.hid (fun W (hW : Below w10.heap.size w10 W) => blk_go hk89 (bgo hb10 hW))
      have HY := Lib.hid (fun W (hW : Below w10.heap.size w10 W) => SlR.go hi9 (bgo hb10 hW))
      have HYB := Lib.hid (fun W (hW : Below w10.heap.size w10 W) => blk_go hk9 (bgo hb10 hW))
      have HOUT := Lib.hid (fun W (hW : Below w10.heap.size w10 W) => GlsR.go hi10 hW)
      have HB := Lib.hid (fun W (hW : Below w10.heap.size w10 W) => bgo hB10 hW)
      have HD1 := Lib.hid (fun W (hW : Below w10.heap.size w10 W) => HDONE.out W (HB.out W hW) xs A8 k c8 (HX.out W hW) (HXB.out W hW) A n c gs (HGW.out W (HB.out W hW)) (by omega))
      have HD2 := Lib.hid (fun W (hW : Below w10.heap.size w10 W) => HDONE.out W (HB.out W hW) ys A9 tn c9 (HY.out W hW) (HYB.out W hW) A10 out.length c10 out (HOUT.out W hW) HKE.out.len)
      have HE2 := Lib.hid (fun W (hW : Below w10.heap.size w10 W) => HALL.out W (HB.out W hW) ys A9 tn c9 (HY.out W hW) (HYB.out W hW) A10 out.length c10 out (HOUT.out W hW) HKE.out.len)
      rw [hd1] at HD1
      rw [hd2] at HD2
      rw [← hfin] at HE2
      have hC10 := Below.refl w10.heap.size w10
      have hN1 := HKE.out.len
      have hc10 := hi10.cap
      clear hD hdb hout hfin hd1 hd2 hi10 hi8 hi89 hi9 hk8 hk89 hk9 hB8 hB9 hb8 hb9 hb10 HO1 HO2 hB HIDLE HMET
      go_cut [18, 19] (fun v18 v19 W => v18 = .int .i64 (d1 : Int) ∧ v19 = .int .i64 (d2 : Int) ∧ Below w10.heap.size w10 W)
      case first =>
        go_region_held3 (fun W => W.cell? ⟨w.heap.size, 0, none⟩ = some (.int .i64 F.em) ∧ W.cell? ⟨w.heap.size, 1, none⟩ = some (.slice F.GA F.gn F.gc) ∧ W.cell? ⟨w.heap.size, 2, none⟩ = some (.slice F.MA F.mn F.mc) ∧ W.cell? ⟨w.heap.size, 3, none⟩ = some (.slice F.LA F.ln F.lc) ∧ W.cell? ⟨w.heap.size, 4, none⟩ = some (.slice F.FA F.fn F.fc) ∧ W.cell? ⟨w.heap.size, 5, none⟩ = some (.slice F.SA F.sn F.sc)) (first | exact ⟨g0 w10 hB10, g1 w10 hB10, g2 w10 hB10, g3 w10 hB10, g4 w10 hB10, g5 w10 hB10⟩ | exact ⟨g0 w11 (bgo hB10 hC11), g1 w11 (bgo hB10 hC11), g2 w11 (bgo hB10 hC11), g3 w11 (bgo hB10 hC11), g4 w11 (bgo hB10 hC11), g5 w11 (bgo hB10 hC11)⟩ | exact ⟨g0 w12 (bgo hB10 hC12), g1 w12 (bgo hB10 hC12), g2 w12 (bgo hB10 hC12), g3 w12 (bgo hB10 hC12), g4 w12 (bgo hB10 hC12), g5 w12 (bgo hB10 hC12)⟩)
          (first
            | (go_at_call_of 11 (Value.slice A8 k c8); refine (HD1.out _ hC10.drew).mono ?_; rintro e w11 ⟨rfl, hb11⟩; have hC11 := bgo hC10.drew hb11)
            | (go_at_call_of 11 (Value.slice A9 tn c9); refine (HD2.out _ hC11).mono ?_; rintro e w12 ⟨rfl, hb12⟩; have hC12 := bgo hC11 hb12)
        )
        all_goals (go_wp2_with fail; go_meet; exact ⟨rfl, rfl, hC12⟩)
      obtain ⟨rfl, rfl, hC12⟩ := hcut
      obtain ⟨w12, hw12⟩ : ∃ z : World, z = wc := ⟨_, rfl⟩
      subst hw12
      have hB12 := HB.out _ hC12
      by_cases h65 : 65536 ≤ D
      · have q1 : decide ((65536 : Int) ≤ (D : Int)) = true := by simp; omega
        have q2 : decide (65536 ≤ D) = true := by simp; omega
        clear h65
        go_wp2_with (first | (go_at_call 7; refine (alive_any _).mono ?_; rintro e w10 ⟨rfl, hb10⟩; have hZ := bgo hB12 hb10))
        go_ret
        exact ⟨rfl, HB1.out.trans (hZ.mono (by omega))⟩
      have q1 : decide ((65536 : Int) ≤ (D : Int)) = false := by simp; omega
      have q2 : decide (65536 ≤ D) = false := by simp; omega
      have hTW := HTWO.out (by omega)
      clear h65
      go_upto_region 23 with (first | (at_builtin; refine wpList_append_st _ rfl (.tmp 111) (.tmp 112) 40 rfl w12.heap.size _ Try.underlying40 infoSt rfl (some ⟨w12.heap.size, 0, none⟩) 0 0 [] rfl (StRow.empty w12) _ A8 k c8 xs rfl (HX.out _ (hC12.alloc hC12.size _)) (by omega) (by simp) ?_; intro A13 c13 w13 ho13 hg13 _; have hF13 := st_below ((Below.refl w12.heap.size w12).alloc (Nat.le_refl _) _) (by simp) hg13 (StRow.empty w12) (Nat.le_refl _); rw [Nat.zero_add, List.nil_append] at ho13; try rw [Nat.zero_add]) | (at_builtin; refine wpList_append_st _ rfl (.tmp 113) (.tmp 114) 40 rfl w12.heap.size _ Try.underlying40 infoSt rfl A13 k c13 xs rfl ho13 _ A9 tn c9 ys rfl (HY.out _ (bgo hC12 hF13)) (by omega) hF13.size ?_; intro A14 c14 w14 ho14 hg14 _; have hF14 := st_below hF13 hF13.size hg14 ho13 (Nat.le_refl _)))
      have hC14 := bgo hC12 hF14
      have hB14 := HB.out _ hC14
      have hB3 := hB14
      have HU := Lib.hid (show ∀ W, Below w14.heap.size w14 W → Below w10.heap.size w10 W from fun W hW => bgo hC14 hW)
      have HR := Lib.hid (show ∀ W, Below w14.heap.size w14 W → SlR W W.heap.size 2 NestR A14 (k + tn) c14 (xs ++ ys) from fun W hW => SlR.go ho14.slr hW)
      have HRB := Lib.hid (show ∀ x, A14 = some x → x.block < w14.heap.size from fun x hx => (ho14.block x.block (by rw [hx]; rfl)).2)
      have HE1 := Lib.hid (fun W (hW : Below w14.heap.size w14 W) => HALL.out W (HB.out W (HU.out W hW)) (xs ++ ys) A14 _ c14 (HR.out W hW) (blk_go HRB.out hW) A n c gs (HGW.out W (HB.out W (HU.out W hW))) (by omega))
      have HD3 := Lib.hid (fun W (hW : Below w14.heap.size w14 W) => HDONE.out W (HB.out W (HU.out W hW)) (xs ++ ys) A14 _ c14 (HR.out W hW) (blk_go HRB.out hW) A n c gs (HGW.out W (HB.out W (HU.out W hW))) (by omega))
      rw [hTW.1] at HE1
      rw [hTW.2] at HD3
      have hE14 := Below.refl w14.heap.size w14
      clear hTW ho14 hg14 ho13 hg13 hF13 hF14 HTWO HX HXB HALL HDONE HD1 HD2
      go_region_held3 (fun W => W.cell? ⟨w.heap.size, 0, none⟩ = some (.int .i64 F.em) ∧ W.cell? ⟨w.heap.size, 1, none⟩ = some (.slice F.GA F.gn F.gc) ∧ W.cell? ⟨w.heap.size, 2, none⟩ = some (.slice F.MA F.mn F.mc) ∧ W.cell? ⟨w.heap.size, 3, none⟩ = some (.slice F.LA F.ln F.lc) ∧ W.cell? ⟨w.heap.size, 4, none⟩ = some (.slice F.FA F.fn F.fc) ∧ W.cell? ⟨w.heap.size, 5, none⟩ = some (.slice F.SA F.sn F.sc)) (first | exact ⟨g0 w14 hB14, g1 w14 hB14, g2 w14 hB14, g3 w14 hB14, g4 w14 hB14, g5 w14 hB14⟩ | exact ⟨g0 w15 (bgo hB14 hE15), g1 w15 (bgo hB14 hE15), g2 w15 (bgo hB14 hE15), g3 w15 (bgo hB14 hE15), g4 w15 (bgo hB14 hE15), g5 w15 (bgo hB14 hE15)⟩ | exact ⟨g0 w16 (bgo hB14 hE16), g1 w16 (bgo hB14 hE16), g2 w16 (bgo hB14 hE16), g3 w16 (bgo hB14 hE16), g4 w16 (bgo hB14 hE16), g5 w16 (bgo hB14 hE16)⟩ | exact ⟨g0 w17 (bgo hB14 hE17), g1 w17 (bgo hB14 hE17), g2 w17 (bgo hB14 hE17), g3 w17 (bgo hB14 hE17), g4 w17 (bgo hB14 hE17), g5 w17 (bgo hB14 hE17)⟩ | exact ⟨g0 w18 (bgo hB14 hE18), g1 w18 (bgo hB14 hE18), g2 w18 (bgo hB14 hE18), g3 w18 (bgo hB14 hE18), g4 w18 (bgo hB14 hE18), g5 w18 (bgo hB14 hE18)⟩ | exact ⟨g0 w19 (bgo hB14 hE19), g1 w19 (bgo hB14 hE19), g2 w19 (bgo hB14 hE19), g3 w19 (bgo hB14 hE19), g4 w19 (bgo hB14 hE19), g5 w19 (bgo hB14 hE19)⟩)
        (first
          | (go_at_call_of 8 (Value.slice A14 (k + tn) c14); refine (HE1.out _ hE14.drew).mono ?_; rintro e w15 ⟨A15, c15, rfl, hi15, hb15⟩; have hE15 := bgo hE14.drew hb15)
          | (go_at_call_of 8 (Value.slice A9 tn c9); refine (HE2.out _ (HU.out _ hE15)).mono ?_; rintro e w16 ⟨A16, c16, rfl, hi16, hb16⟩; have hE16 := bgo hE15 hb16)
          | (go_at_call 10; refine (rsame_any _ _ _ _ _ _ _ fin _ (GlsR.go hi15 hb16) hi16).mono ?_; rintro e w17 ⟨rfl, hb17⟩; have hE17 := bgo hE16 hb17)
          | (go_at_call 11; refine (HD3.out _ hE17).mono ?_; rintro e w18 ⟨rfl, hb18⟩; have hE18 := bgo hE17 hb18)
          | (go_at_call 7; refine (alive_any _).mono ?_; rintro e w19 ⟨rfl, hb19⟩; have hE19 := bgo hE18 hb19)
      )
      all_goals (go_wp2_with fail; go_ret; exact ⟨rfl, HB1.out.trans ((bgo hB14 hE19).mono (by omega))⟩)

end Go.Proofs.Ytngdolmmaiogiaa
