/- Joined: FkA. -/
import Derived.Test.YtngdolmmaiogiaaJ02

/- The walks of within, Sorts, measure, rising, there, cover, covers of the check. Condition: the lists read as lists. Printed by wip/tools/g32a.py. Printed by wip/tools. -/
namespace Go.Proofs.Ytngdolmmaiogiaa
open Go.RowKit

def fkW (n lo hi : Int) : Bool := decide (lo ≤ n) && decide (n ≤ hi)
def fkM (n : Int) : Bool := fkW n (-1048576) 1048576
def fkT (m : Nat) (g : Int) : Bool := fkW g 0 ((m : Int) - 1)
def fkS (k : Int) : Int := if fkW k 1 5 then 1 else if fkW k 6 12 then 2 else 0
theorem fkW_iff {n lo hi : Int} : fkW n lo hi = true ↔ lo ≤ n ∧ n ≤ hi := by unfold fkW; simp
theorem all_bad {α : Type} {p : α → Bool} {zs : List α} {k : Nat} {x : α} (h : zs[k]? = some x) (hp : p x = false) : zs.all p = false := by
  rw [List.all_eq_false]
  exact ⟨x, List.mem_of_getElem? h, by rw [hp]; exact Bool.false_ne_true⟩
theorem all_next {α : Type} {p : α → Bool} {zs : List α} {k : Nat} {x : α} (h : zs[k]? = some x) (hz : (zs.take k).all p = true) (hp : p x = true) : (zs.take (k + 1)).all p = true := by
  rw [List.take_add_one, h]
  simp only [Option.toList_some, List.all_append, hz, List.all_cons, hp, List.all_nil, Bool.and_self]
theorem all_done {α : Type} {p : α → Bool} {zs : List α} {k : Nat} (hk : zs.length ≤ k) (hz : (zs.take k).all p = true) : zs.all p = true := by rwa [List.take_of_length_le hk] at hz
/-- Some bool, of which p holds. -/
def RetB (w : World) (p : Bool → Prop) (e : Ending) (w' : World) : Prop := ∃ b, e = .returned (.bool b) ∧ p b ∧ Below w.heap.size w w'
/-- The bool, no memory written. -/
def RetV (w : World) (b : Bool) (e : Ending) (w' : World) : Prop := e = .returned (.bool b) ∧ Below w.heap.size w w'
set_option maxRecDepth 100000 in
set_option maxHeartbeats 4000000 in
theorem kwithin_any (n lo hi : Int) (w : World) :
    Calls Try.prog 23 #[.int .i64 n, .int .i64 lo, .int .i64 hi] w (fun e w' => e = .returned (.bool (fkW n lo hi)) ∧ w = w') := by
  by_cases h1 : lo ≤ n
  · by_cases h2 : n ≤ hi
    · have z1 : decide (lo ≤ n) = true := by simp [h1]
      have z2 : decide (n ≤ hi) = true := by simp [h2]
      have HR := Lib.hid (show fkW n lo hi = true by unfold fkW; rw [z1, z2]; rfl)
      clear h1 h2
      go_enter Try.func23, Try.ntmps23
      go_wp2_with fail
      go_ret
      rw [HR.out]
      exact ⟨rfl, rfl⟩
    · have z1 : decide (lo ≤ n) = true := by simp [h1]
      have z2 : decide (n ≤ hi) = false := by simp; omega
      have HR := Lib.hid (show fkW n lo hi = false by unfold fkW; rw [z1, z2]; rfl)
      clear h1 h2
      go_enter Try.func23, Try.ntmps23
      go_wp2_with fail
      go_ret
      rw [HR.out]
      exact ⟨rfl, rfl⟩
  · have z1 : decide (lo ≤ n) = false := by simp; omega
    have HR := Lib.hid (show fkW n lo hi = false by unfold fkW; rw [z1]; rfl)
    clear h1
    go_enter Try.func23, Try.ntmps23
    go_wp2_with fail
    go_ret
    rw [HR.out]
    exact ⟨rfl, rfl⟩

set_option maxRecDepth 100000 in
set_option maxHeartbeats 4000000 in
theorem ksorts_any (k : Int) (w : World) :
    Calls Try.prog 46 #[.int .i64 k] w (fun e w' => e = .returned (.int .i64 (fkS k)) ∧ w = w') := by
  cases h1 : fkW k 1 5 with
  | true =>
    have HR := Lib.hid (show fkS k = 1 by unfold fkS; rw [h1]; rfl)
    go_enter Try.func46, Try.ntmps46
    go_wp2_with (go_at_call 23; refine (kwithin_any _ _ _ _).mono ?_; rintro e w9 ⟨rfl, rfl⟩)
    go_ret
    rw [HR.out]
    exact ⟨rfl, rfl⟩
  | false =>
    cases h2 : fkW k 6 12 with
    | true =>
      have HR := Lib.hid (show fkS k = 2 by unfold fkS; rw [h1, h2]; rfl)
      go_enter Try.func46, Try.ntmps46
      go_wp2_with (go_at_call 23; refine (kwithin_any _ _ _ _).mono ?_; rintro e w9 ⟨rfl, rfl⟩)
      go_ret
      rw [HR.out]
      exact ⟨rfl, rfl⟩
    | false =>
      have HR := Lib.hid (show fkS k = 0 by unfold fkS; rw [h1, h2]; rfl)
      go_enter Try.func46, Try.ntmps46
      go_wp2_with (go_at_call 23; refine (kwithin_any _ _ _ _).mono ?_; rintro e w9 ⟨rfl, rfl⟩)
      go_ret
      rw [HR.out]
      exact ⟨rfl, rfl⟩

set_option maxRecDepth 100000 in
set_option maxHeartbeats 4000000 in
theorem kmeasure_any (B : Nat) (A : Option Addr) (n c : Nat) (zs : List Int) (w : World) (h : Ints w B A n c zs) :
    Calls Try.prog 24 #[.slice A n c] w (fun e w' => e = .returned (.bool (zs.all fkM)) ∧ w = w') := by
  have hcap := h.cap
  have HI := Lib.hid h
  clear h
  go_enter Try.func24, Try.ntmps24
  go_upto_region 2 with fail
  go_loopw [7] (fun v wr => ∃ k : Nat, v = .int .i64 (k : Int) ∧ k ≤ n ∧ (zs.take k).all (fkM) = true ∧ wr = w) (fun v _ => n - (intOf v).toNat)
  case atStart => exact ⟨0, rfl, Nat.zero_le _, rfl, rfl⟩
  case round =>
    obtain ⟨k, rfl, hk, hpre, hA⟩ := hrel
    have HPRE := Lib.hid hpre
    clear hpre
    by_cases hin : k < n
    rotate_left
    · have q1 : decide ((k : Int) < (n : Int)) = false := by simp; omega
      have q2 : decide (k < n) = false := by simp; omega
      have HR := Lib.hid (show zs.all (fkM) = true from all_done (by have := HI.out.length; omega) HPRE.out)
      clear hin
      go_wp2_with fail
      go_ret
      rw [HR.out]
      exact ⟨rfl, rfl⟩
    · have q1 : decide ((k : Int) < (n : Int)) = true := by simp; omega
      have q2 : decide (k < n) = true := by simp; omega
      have sk : IntKind.i64.wrap ((k : Int) + 1) = (k : Int) + 1 := by rw [IntKind.wrap_i64]; omega
      obtain ⟨b, o, x, eA, hbb, hx, d0⟩ := HI.out.at_ hin
      subst hA
      have HX := Lib.hid hx
      have HEA := Lib.hid eA
      cases hp : (fkM) x with
      | true =>
        have HP := Lib.hid hp
        have hp2 : fkW x (-1048576) 1048576 = _ := hp
        clear hx eA hp
        go_upto_region 3 with fail
        rw [HEA.out]
        go_wp2_with (go_at_call 23; refine (kwithin_any _ _ _ _).mono ?_; rintro e w9 ⟨rfl, rfl⟩)
        rw [← HEA.out]
        go_roundw
        case rel => exact ⟨k + 1, by go_num, by omega, all_next HX.out HPRE.out HP.out, (by first | rfl | trivial)⟩
        case measure => simp [intOf] <;> omega
      | false =>
        have HR := Lib.hid (show zs.all (fkM) = false from all_bad HX.out hp)
        have hp2 : fkW x (-1048576) 1048576 = _ := hp
        clear hx eA hp
        go_upto_region 3 with fail
        rw [HEA.out]
        go_wp2_with (go_at_call 23; refine (kwithin_any _ _ _ _).mono ?_; rintro e w9 ⟨rfl, rfl⟩)
        go_ret
        rw [HR.out]
        exact ⟨rfl, rfl⟩

set_option maxRecDepth 100000 in
set_option maxHeartbeats 4000000 in
theorem krising_any (B : Nat) (A : Option Addr) (n c : Nat) (zs : List Int) (w : World) (h : Ints w B A n c zs) (hB : B ≤ w.heap.size) :
    Calls Try.prog 25 #[.slice A n c] w (RetB w (fun b => n ≤ 1 → b = true)) := by
  have hcap := h.cap
  have HI := Lib.hid h
  clear h
  go_enter Try.func25, Try.ntmps25
  go_upto_region 2 with fail
  go_loopw [3] (fun v wr => ∃ k : Nat, v = .int .i64 (k : Int) ∧ 1 ≤ k ∧ (k ≤ n ∨ k = 1) ∧ Below w.heap.size w wr) (fun v _ => n - (intOf v).toNat)
  case atStart => exact ⟨1, rfl, Nat.le_refl _, .inr rfl, Below.refl _ _⟩
  case round =>
    obtain ⟨k, rfl, hk1, hk, hA⟩ := hrel
    by_cases hin : k < n
    rotate_left
    · have q1 : decide ((k : Int) < (n : Int)) = false := by simp; omega
      have q2 : decide (k < n) = false := by simp; omega
      clear hin
      go_wp2_with fail
      go_ret
      exact ⟨true, rfl, fun _ => rfl, hA⟩
    · have q1 : decide ((k : Int) < (n : Int)) = true := by simp; omega
      have q2 : decide (k < n) = true := by simp; omega
      have sk : IntKind.i64.wrap ((k : Int) + 1) = (k : Int) + 1 := by rw [IntKind.wrap_i64]; omega
      have sk1 : IntKind.i64.wrap ((k : Int) - 1) = ((k - 1 : Nat) : Int) := by rw [IntKind.wrap_i64]; omega
      have hk2 : k - 1 < n := by omega
      obtain ⟨b, o, x, eA, hbb, hx, d0⟩ := (HI.out.below (hA.mono hB)).at_ hin
      obtain ⟨b2, o2, y, eA2, hbb2, hy, d1⟩ := (HI.out.below (hA.mono hB)).at_ hk2
      rw [eA] at eA2
      cases eA2
      have d0 := fun W (hW : Below w.heap.size w W) => (hW.cell (p := ⟨b, o + k, none⟩) (by show b < _; omega)).trans ((hA.cell (p := ⟨b, o + k, none⟩) (by show b < _; omega)).symm.trans d0)
      have d1 := fun W (hW : Below w.heap.size w W) => (hW.cell (p := ⟨b, o + (k - 1), none⟩) (by show b < _; omega)).trans ((hA.cell (p := ⟨b, o + (k - 1), none⟩) (by show b < _; omega)).symm.trans d1)
      have HEA := Lib.hid eA
      clear hx hy eA
      by_cases hxy : x ≤ y
      · have q3 : decide (x ≤ y) = true := by simp [hxy]
        clear hxy
        go_upto_region 4 with fail
        rw [HEA.out]
        have hU0 := bup hA
        have HUP := Lib.hid (bup hA)
        refine wp_region_up wr.heap.size (by kernel_rfl) (by kernel_rfl) ?_
        repeat (go_big_quiet_step (fail))
        refine wpQuiet_nil (up_all fun w2 hb2 => ?_)
        have hA := bgo hA hb2
        clear hb2 HUP hU0
        go_wp2_with fail
        go_ret
        exact ⟨false, rfl, fun h => by omega, hA⟩
      · have q3 : decide (x ≤ y) = false := by simp; omega
        clear hxy
        go_upto_region 4 with fail
        rw [HEA.out]
        have hU0 := bup hA
        have HUP := Lib.hid (bup hA)
        refine wp_region_up wr.heap.size (by kernel_rfl) (by kernel_rfl) ?_
        repeat (go_big_quiet_step (fail))
        refine wpQuiet_nil (up_all fun w2 hb2 => ?_)
        have hA := bgo hA hb2
        clear hb2 HUP hU0
        go_wp2_with fail
        rw [← HEA.out]
        go_roundw
        case rel => exact ⟨k + 1, by go_num, by omega, by omega, hA⟩
        case measure => simp [intOf] <;> omega

set_option maxRecDepth 100000 in
set_option maxHeartbeats 4000000 in
theorem kthere_any (F : Fnt) (B : Nat) (A : Option Addr) (n c : Nat) (zs : List Int) (w : World) (hgn : F.gn ≤ 9223372036854775807) (h : Ints w B A n c zs) (hB : B ≤ w.heap.size) :
    Calls Try.prog 26 #[.agg #[.int .i64 F.em, .slice F.GA F.gn F.gc, .slice F.MA F.mn F.mc, .slice F.LA F.ln F.lc, .slice F.FA F.fn F.fc, .slice F.SA F.sn F.sc], .slice A n c] w (RetV w (zs.all (fkT F.gn))) := by
  have hcap := h.cap
  have HI0 := Lib.hid h
  clear h
  obtain ⟨w1, hw_w1⟩ : ∃ z, z = w.alloc (.cells #[.int .i64 F.em, .slice F.GA F.gn F.gc, .slice F.MA F.mn F.mc, .slice F.LA F.ln F.lc, .slice F.FA F.fn F.fc, .slice F.SA F.sn F.sc] 71) := ⟨_, rfl⟩
  have hs_w1 : w1.heap.size = w.heap.size + 1 := by rw [hw_w1]; simp
  have hb_w1 : Below w.heap.size w w1 := by rw [hw_w1]; exact (Below.refl _ _).alloc (Nat.le_refl _) _
  have hx_0 : w1.heap[w.heap.size]? = some (.cells #[.int .i64 F.em, .slice F.GA F.gn F.gc, .slice F.MA F.mn F.mc, .slice F.LA F.ln F.lc, .slice F.FA F.fn F.fc, .slice F.SA F.sn F.sc] 71 (0, 0)) := by rw [hw_w1]; exact heap_alloc_new _ _
  have g0 := up_fact (show w1.cell? ⟨w.heap.size, 0, none⟩ = some (.int .i64 F.em) by rw [cell_of_row _ _ 0 _ _ _ hx_0]; rfl)
  have g1 := up_fact (show w1.cell? ⟨w.heap.size, 1, none⟩ = some (.slice F.GA F.gn F.gc) by rw [cell_of_row _ _ 1 _ _ _ hx_0]; rfl)
  have g2 := up_fact (show w1.cell? ⟨w.heap.size, 2, none⟩ = some (.slice F.MA F.mn F.mc) by rw [cell_of_row _ _ 2 _ _ _ hx_0]; rfl)
  have g3 := up_fact (show w1.cell? ⟨w.heap.size, 3, none⟩ = some (.slice F.LA F.ln F.lc) by rw [cell_of_row _ _ 3 _ _ _ hx_0]; rfl)
  have g4 := up_fact (show w1.cell? ⟨w.heap.size, 4, none⟩ = some (.slice F.FA F.fn F.fc) by rw [cell_of_row _ _ 4 _ _ _ hx_0]; rfl)
  have g5 := up_fact (show w1.cell? ⟨w.heap.size, 5, none⟩ = some (.slice F.SA F.sn F.sc) by rw [cell_of_row _ _ 5 _ _ _ hx_0]; rfl)
  have hA0 := Below.refl w1.heap.size w1
  have HS1 := Lib.hid hs_w1
  have hs1 : w.heap.size + 0 < w1.heap.size := by omega
  have HB1 := Lib.hid hb_w1
  have HW_w1 := Lib.hid hw_w1
  clear hw_w1 hs_w1 hb_w1
  clear hx_0
  have HI := Lib.hid (HI0.out.below (HB1.out.mono hB))
  have sg : IntKind.i64.wrap ((F.gn : Int) - 1) = (F.gn : Int) - 1 := by rw [IntKind.wrap_i64]; omega
  have g1 := g1 w1 hA0
  clear g0 g2 g3 g4 g5
  go_enter Try.func26, Try.ntmps26
  go_upto_region 1 with fail
  rw [← HW_w1.out]
  go_upto_region 2 with fail
  go_loopw [9] (fun v wr => ∃ k : Nat, v = .int .i64 (k : Int) ∧ k ≤ n ∧ (zs.take k).all (fkT F.gn) = true ∧ wr = w1) (fun v _ => n - (intOf v).toNat)
  case atStart => exact ⟨0, rfl, Nat.zero_le _, rfl, rfl⟩
  case round =>
    obtain ⟨k, rfl, hk, hpre, hA⟩ := hrel
    have HPRE := Lib.hid hpre
    clear hpre
    by_cases hin : k < n
    rotate_left
    · have q1 : decide ((k : Int) < (n : Int)) = false := by simp; omega
      have q2 : decide (k < n) = false := by simp; omega
      have HR := Lib.hid (show zs.all (fkT F.gn) = true from all_done (by have := HI.out.length; omega) HPRE.out)
      clear hin
      go_wp2_with fail
      go_ret
      rw [HR.out]
      exact ⟨rfl, HB1.out⟩
    · have q1 : decide ((k : Int) < (n : Int)) = true := by simp; omega
      have q2 : decide (k < n) = true := by simp; omega
      have sk : IntKind.i64.wrap ((k : Int) + 1) = (k : Int) + 1 := by rw [IntKind.wrap_i64]; omega
      obtain ⟨b, o, x, eA, hbb, hx, d0⟩ := HI.out.at_ hin
      subst hA
      have HX := Lib.hid hx
      have HEA := Lib.hid eA
      cases hp : (fkT F.gn) x with
      | true =>
        have HP := Lib.hid hp
        have hp2 : fkW x 0 ((F.gn : Int) - 1) = _ := hp
        clear hx eA hp
        go_upto_region 3 with fail
        rw [HEA.out]
        go_wp2_with (go_at_call 23; refine (kwithin_any _ _ _ _).mono ?_; rintro e w9 ⟨rfl, rfl⟩)
        rw [← HEA.out]
        go_roundw
        case rel => exact ⟨k + 1, by go_num, by omega, all_next HX.out HPRE.out HP.out, (by first | rfl | trivial)⟩
        case measure => simp [intOf] <;> omega
      | false =>
        have HR := Lib.hid (show zs.all (fkT F.gn) = false from all_bad HX.out hp)
        have hp2 : fkW x 0 ((F.gn : Int) - 1) = _ := hp
        clear hx eA hp
        go_upto_region 3 with fail
        rw [HEA.out]
        go_wp2_with (go_at_call 23; refine (kwithin_any _ _ _ _).mono ?_; rintro e w9 ⟨rfl, rfl⟩)
        go_ret
        rw [HR.out]
        exact ⟨rfl, HB1.out⟩

set_option maxRecDepth 100000 in
set_option maxHeartbeats 4000000 in
theorem kcover_any (F : Fnt) (B : Nat) (A : Option Addr) (n c : Nat) (zs : List Int) (w : World) (hgn : F.gn ≤ 9223372036854775807) (h : Ints w B A n c zs) (hB : B ≤ w.heap.size) :
    Calls Try.prog 27 #[.agg #[.int .i64 F.em, .slice F.GA F.gn F.gc, .slice F.MA F.mn F.mc, .slice F.LA F.ln F.lc, .slice F.FA F.fn F.fc, .slice F.SA F.sn F.sc], .slice A n c] w (RetB w (fun b => (b = true → zs.length ≤ 4096) ∧ (zs.length ≤ 1 → zs.all (fkT F.gn) = true → b = true))) := by
  have hcap := h.cap
  have hlen := h.length
  have HI0 := Lib.hid h
  clear h
  obtain ⟨w1, hw_w1⟩ : ∃ z, z = w.alloc (.cells #[.int .i64 F.em, .slice F.GA F.gn F.gc, .slice F.MA F.mn F.mc, .slice F.LA F.ln F.lc, .slice F.FA F.fn F.fc, .slice F.SA F.sn F.sc] 71) := ⟨_, rfl⟩
  have hs_w1 : w1.heap.size = w.heap.size + 1 := by rw [hw_w1]; simp
  have hb_w1 : Below w.heap.size w w1 := by rw [hw_w1]; exact (Below.refl _ _).alloc (Nat.le_refl _) _
  have hx_0 : w1.heap[w.heap.size]? = some (.cells #[.int .i64 F.em, .slice F.GA F.gn F.gc, .slice F.MA F.mn F.mc, .slice F.LA F.ln F.lc, .slice F.FA F.fn F.fc, .slice F.SA F.sn F.sc] 71 (0, 0)) := by rw [hw_w1]; exact heap_alloc_new _ _
  have g0 := up_fact (show w1.cell? ⟨w.heap.size, 0, none⟩ = some (.int .i64 F.em) by rw [cell_of_row _ _ 0 _ _ _ hx_0]; rfl)
  have g1 := up_fact (show w1.cell? ⟨w.heap.size, 1, none⟩ = some (.slice F.GA F.gn F.gc) by rw [cell_of_row _ _ 1 _ _ _ hx_0]; rfl)
  have g2 := up_fact (show w1.cell? ⟨w.heap.size, 2, none⟩ = some (.slice F.MA F.mn F.mc) by rw [cell_of_row _ _ 2 _ _ _ hx_0]; rfl)
  have g3 := up_fact (show w1.cell? ⟨w.heap.size, 3, none⟩ = some (.slice F.LA F.ln F.lc) by rw [cell_of_row _ _ 3 _ _ _ hx_0]; rfl)
  have g4 := up_fact (show w1.cell? ⟨w.heap.size, 4, none⟩ = some (.slice F.FA F.fn F.fc) by rw [cell_of_row _ _ 4 _ _ _ hx_0]; rfl)
  have g5 := up_fact (show w1.cell? ⟨w.heap.size, 5, none⟩ = some (.slice F.SA F.sn F.sc) by rw [cell_of_row _ _ 5 _ _ _ hx_0]; rfl)
  have hA0 := Below.refl w1.heap.size w1
  have HS1 := Lib.hid hs_w1
  have hs1 : w.heap.size + 0 < w1.heap.size := by omega
  have HB1 := Lib.hid hb_w1
  have HW_w1 := Lib.hid hw_w1
  clear hw_w1 hs_w1 hb_w1
  clear hx_0
  have HI := Lib.hid (HI0.out.below (HB1.out.mono hB))
  have HTH := Lib.hid (kthere_any F B A n c zs w1 hgn HI.out (by omega))
  by_cases hn : n ≤ 4096
  rotate_left
  · have q1 : decide ((n : Int) ≤ 4096) = false := by simp; omega
    have q2 : decide (n ≤ 4096) = false := by simp; omega
    go_enter Try.func27, Try.ntmps27
    go_upto_region 1 with fail
    rw [← HW_w1.out]
    go_wp2_with fail
    go_ret
    exact ⟨false, rfl, ⟨(fun h => by cases h), fun h => by omega⟩, HB1.out⟩
  have q1 : decide ((n : Int) ≤ 4096) = true := by simp; omega
  have q2 : decide (n ≤ 4096) = true := by simp; omega
  cases ht : zs.all (fkT F.gn) with
  | false =>
    have HT := Lib.hid ht
    rw [ht] at HTH
    clear ht
    go_enter Try.func27, Try.ntmps27
    go_upto_region 1 with fail
    rw [← HW_w1.out]
    go_wp2_with (go_at_call 26; refine (HTH.out).mono ?_; rintro e w2 ⟨rfl, hb2⟩; have hA2 := bgo hA0 hb2)
    go_ret
    exact ⟨false, rfl, ⟨(fun h => by cases h), fun _ h => h⟩, HB1.out.trans (hA2.mono (by omega))⟩
  | true =>
    rw [ht] at HTH
    clear ht
    go_enter Try.func27, Try.ntmps27
    go_upto_region 1 with fail
    rw [← HW_w1.out]
    go_wp2_with (first | (go_at_call 26; refine (HTH.out).mono ?_; rintro e w2 ⟨rfl, hb2⟩; have hA2 := bgo hA0 hb2) | (go_at_call 25; refine (krising_any B A n c zs _ (HI.out.below (hA2.mono (by have := hs1; omega))) (by have := hA2.size; omega)).mono ?_; rintro e w3 ⟨b3, rfl, hp3, hb3⟩; have HP3 := Lib.hid hp3; have hA3 := bgo hA2 hb3; clear hp3))
    go_ret
    exact ⟨_, rfl, ⟨fun _ => by omega, fun h _ => HP3.out (by omega)⟩, HB1.out.trans (hA3.mono (by omega))⟩

set_option maxRecDepth 100000 in
set_option maxHeartbeats 4000000 in
theorem kcovers_any (F : Fnt) (B : Nat) (A : Option Addr) (n c : Nat) (zss : List (List Int)) (lo : Int) (w : World) (hgn : F.gn ≤ 9223372036854775807) (h : Grd w B A n c zss) (hB : B ≤ w.heap.size) :
    Calls Try.prog 33 #[.agg #[.int .i64 F.em, .slice F.GA F.gn F.gc, .slice F.MA F.mn F.mc, .slice F.LA F.ln F.lc, .slice F.FA F.fn F.fc, .slice F.SA F.sn F.sc], .slice A n c, .int .i64 lo] w (RetB w (fun b => (b = true → zss.length ≤ 16) ∧ (fkW (zss.length : Int) lo 16 = true → (∀ zs ∈ zss, zs.length ≤ 1 ∧ zs.all (fkT F.gn) = true) → b = true))) := by
  have hcap := h.cap
  have hlen := h.1
  have HI0 := Lib.hid h
  clear h
  obtain ⟨w1, hw_w1⟩ : ∃ z, z = w.alloc (.cells #[.int .i64 F.em, .slice F.GA F.gn F.gc, .slice F.MA F.mn F.mc, .slice F.LA F.ln F.lc, .slice F.FA F.fn F.fc, .slice F.SA F.sn F.sc] 71) := ⟨_, rfl⟩
  have hs_w1 : w1.heap.size = w.heap.size + 1 := by rw [hw_w1]; simp
  have hb_w1 : Below w.heap.size w w1 := by rw [hw_w1]; exact (Below.refl _ _).alloc (Nat.le_refl _) _
  have hx_0 : w1.heap[w.heap.size]? = some (.cells #[.int .i64 F.em, .slice F.GA F.gn F.gc, .slice F.MA F.mn F.mc, .slice F.LA F.ln F.lc, .slice F.FA F.fn F.fc, .slice F.SA F.sn F.sc] 71 (0, 0)) := by rw [hw_w1]; exact heap_alloc_new _ _
  have g0 := up_fact (show w1.cell? ⟨w.heap.size, 0, none⟩ = some (.int .i64 F.em) by rw [cell_of_row _ _ 0 _ _ _ hx_0]; rfl)
  have g1 := up_fact (show w1.cell? ⟨w.heap.size, 1, none⟩ = some (.slice F.GA F.gn F.gc) by rw [cell_of_row _ _ 1 _ _ _ hx_0]; rfl)
  have g2 := up_fact (show w1.cell? ⟨w.heap.size, 2, none⟩ = some (.slice F.MA F.mn F.mc) by rw [cell_of_row _ _ 2 _ _ _ hx_0]; rfl)
  have g3 := up_fact (show w1.cell? ⟨w.heap.size, 3, none⟩ = some (.slice F.LA F.ln F.lc) by rw [cell_of_row _ _ 3 _ _ _ hx_0]; rfl)
  have g4 := up_fact (show w1.cell? ⟨w.heap.size, 4, none⟩ = some (.slice F.FA F.fn F.fc) by rw [cell_of_row _ _ 4 _ _ _ hx_0]; rfl)
  have g5 := up_fact (show w1.cell? ⟨w.heap.size, 5, none⟩ = some (.slice F.SA F.sn F.sc) by rw [cell_of_row _ _ 5 _ _ _ hx_0]; rfl)
  have hA0 := Below.refl w1.heap.size w1
  have HS1 := Lib.hid hs_w1
  have hs1 : w.heap.size + 0 < w1.heap.size := by omega
  have HB1 := Lib.hid hb_w1
  have HW_w1 := Lib.hid hw_w1
  clear hw_w1 hs_w1 hb_w1
  clear hx_0
  have HI := Lib.hid (HI0.out.below (HB1.out.mono hB))
  cases hw : fkW (n : Int) lo 16 with
  | false =>
    have HW2 := Lib.hid hw
    go_enter Try.func33, Try.ntmps33
    go_upto_region 1 with fail
    rw [← HW_w1.out]
    go_wp2_with (go_at_call 23; refine (kwithin_any _ _ _ _).mono ?_; rintro e w9 ⟨rfl, rfl⟩)
    go_ret
    exact ⟨false, rfl, ⟨(fun h => by cases h), fun h _ => by rw [hlen, HW2.out] at h; exact h⟩, HB1.out⟩
  | true =>
    have HW2 := Lib.hid hw
    go_enter Try.func33, Try.ntmps33
    go_upto_region 1 with fail
    rw [← HW_w1.out]
    go_upto_region 4 with (go_at_call 23; refine (kwithin_any _ _ _ _).mono ?_; rintro e w9 ⟨rfl, rfl⟩)
    go_loopw [16] (fun v wr => ∃ k : Nat, v = .int .i64 (k : Int) ∧ k ≤ n ∧ Below w1.heap.size w1 wr) (fun v _ => n - (intOf v).toNat)
    case atStart => exact ⟨0, rfl, Nat.zero_le _, hA0⟩
    case round =>
      obtain ⟨k, rfl, hk, hA⟩ := hrel
      by_cases hin : k < n
      rotate_left
      · have q1 : decide ((k : Int) < (n : Int)) = false := by simp; omega
        have q2 : decide (k < n) = false := by simp; omega
        clear hin
        go_wp2_with fail
        go_ret
        exact ⟨true, rfl, ⟨fun _ => by have := (fkW_iff.1 HW2.out).2; omega, fun _ _ => rfl⟩, HB1.out.trans (hA.mono (by omega))⟩
      · have q1 : decide ((k : Int) < (n : Int)) = true := by simp; omega
        have q2 : decide (k < n) = true := by simp; omega
        have sk : IntKind.i64.wrap ((k : Int) + 1) = (k : Int) + 1 := by rw [IntKind.wrap_i64]; omega
        obtain ⟨b, o, A', n', c', eA, hbb, d0, hz⟩ := HI.out.2.2.2 k hin
        have d0 := (hA.cell (p := ⟨b, o + k, none⟩) (by show b < _; omega)).trans d0
        have HEA := Lib.hid eA
        have HCO := Lib.hid (fun W (hW : Below w1.heap.size w1 W) => kcover_any F B A' n' c' (zss.getD k []) W hgn (hz.below (hW.mono (by omega))) (by have := hW.size; omega))
        clear hz eA
        go_upto_region 5 with fail
        rw [HEA.out]
        go_wp2_with (go_at_call 27; refine (HCO.out _ hA).mono ?_; rintro e w3 ⟨b3, rfl, hp3, hb3⟩; have HP3 := Lib.hid hp3; have hA3 := bgo hA hb3; clear hp3 hb3; rcases b3 with _ | _)
        · go_ret
          refine ⟨false, rfl, ⟨(fun h => by cases h), fun _ h => HP3.out.2 (h _ ?_).1 (h _ ?_).2⟩, HB1.out.trans (hA3.mono (by omega))⟩ <;>
            (rw [List.getD_eq_getElem?_getD, List.getElem?_eq_getElem (by omega)]; exact List.getElem_mem _)
        · rw [← HEA.out]
          go_roundw
          case rel => exact ⟨k + 1, by go_num, by omega, hA3⟩
          case measure => simp [intOf] <;> omega

end Go.Proofs.Ytngdolmmaiogiaa
