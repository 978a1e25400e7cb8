/- The walks of rises, all, Cover, covers. Condition: the lists read as lists. Printed by wip/tools/g27b.py. -/
import Derived.Test.YtbjeflblhjfagaaFontB0
import Derived.Deep.DeepCutAuto
namespace Go.Proofs.Ytbjeflblhjfagaa
open Go.RowKit

theorem range_false {n i : Nat} {p : Nat → Bool} (hi : i < n) (h : p i = false) : (List.range n).all p = false := by
  rw [List.all_eq_false]
  exact ⟨i, List.mem_range.2 hi, by simp [h]⟩
theorem range_true {n : Nat} {p : Nat → Bool} (h : ∀ i, i < n → p i = true) : (List.range n).all p = true := by
  rw [List.all_eq_true]
  exact fun i hi => h i (List.mem_range.1 hi)
theorem all_succ {k : Nat} {p : Nat → Prop} (h : ∀ j, j < k → p j) (hk : p k) : ∀ j, j < k + 1 → p j := fun j hj => by
  rcases Nat.lt_succ_iff_lt_or_eq.1 hj with h1 | rfl
  · exact h j h1
  · exact hk
theorem or_pos {k : Nat} (h : 1 ≤ k) (b : Bool) : (k == 0 || b) = b := by
  have : (k == 0) = false := by simp; omega
  rw [this]; rfl
def allB (m : Nat) (zs : List Int) : Bool := (List.range zs.length).all fun i => thB m (zs.getD i 0)
def riB (zs : List Int) : Bool := (List.range zs.length).all fun i => i == 0 || decide (zs.getD (i - 1) 0 < zs.getD i 0)
def coB (m : Nat) (zs : List Int) : Bool := decide (zs.length ≤ 4096) && riB zs && allB m zs
def csB (m : Nat) (lo : Int) (zss : List (List Int)) : Bool := ((List.range zss.length).all fun i => coB m (zss.getD i [])) && wiB zss.length lo 16
theorem Ints.getD {w : World} {B : Nat} {A : Option Addr} {n c k : Nat} {zs : List Int} (h : Ints w B A n c zs) (hk : k < n) : ∃ b o, A = some ⟨b, o, none⟩ ∧ b < B ∧ w.cell? ⟨b, o + k, none⟩ = some (.int .i64 (zs.getD k 0)) := by
  obtain ⟨b, o, x, e, hb, hx, hc⟩ := h.at_ hk
  exact ⟨b, o, e, hb, by rw [List.getD_eq_getElem?_getD, hx]; exact hc⟩
/-- a slice of lists reads as a list of lists -/
def Grd (w : World) (B : Nat) (A : Option Addr) (n c : Nat) (zss : List (List Int)) : Prop :=
  zss.length = n ∧ n ≤ c ∧ c ≤ maxLen ∧ ∀ k, k < n → ∃ b o A' n' c', A = some ⟨b, o, none⟩ ∧ b < B ∧ w.cell? ⟨b, o + k, none⟩ = some (.slice A' n' c') ∧ Ints w B A' n' c' (zss.getD k [])
theorem Grd.below {w w' : World} {B : Nat} {A : Option Addr} {n c : Nat} {zss : List (List Int)} (h : Grd w B A n c zss) (hb : Below B w w') : Grd w' B A n c zss :=
  ⟨h.1, h.2.1, h.2.2.1, fun k hk => by
    obtain ⟨b, o, A', n', c', e, h1, h2, h3⟩ := h.2.2.2 k hk
    exact ⟨b, o, A', n', c', e, h1, (hb.cell (p := ⟨b, o + k, none⟩) h1).trans h2, h3.below hb⟩⟩
theorem Grd.cap {w : World} {B : Nat} {A : Option Addr} {n c : Nat} {zss : List (List Int)} (h : Grd w B A n c zss) : n ≤ c ∧ c ≤ 9223372036854775807 := by
  have := h.2.2.1; unfold maxLen at this; exact ⟨h.2.1, this⟩
theorem ShSl.grd {w : World} {B : Nat} {A : Option Addr} {n c : Nat} (h : ShSl w B shInts A n c) : ∃ zss, Grd w B A n c zss := by
  obtain ⟨h1, h2, _⟩ := h.open_
  have h5 : ∀ k, k < n → ∃ zs : List Int, ∃ b o A' n' c', A = some ⟨b, o, none⟩ ∧ b < B ∧ w.cell? ⟨b, o + k, none⟩ = some (.slice A' n' c') ∧ Ints w B A' n' c' zs := fun k hk => by
    obtain ⟨b, o, A', n', c', e, hb, hc, hs⟩ := h.atInts hk
    obtain ⟨zs, hz⟩ := hs.ints
    exact ⟨zs, b, o, A', n', c', e, hb, hc, hz⟩
  obtain ⟨f, hf⟩ : ∃ f : Nat → List Int, ∀ k, k < n → ∃ b o A' n' c', A = some ⟨b, o, none⟩ ∧ b < B ∧ w.cell? ⟨b, o + k, none⟩ = some (.slice A' n' c') ∧ Ints w B A' n' c' (f k) := by
    refine ⟨fun k => if hk : k < n then (h5 k hk).choose else [], fun k hk => ?_⟩
    simp only [hk, dite_true]
    exact (h5 k hk).choose_spec
  refine ⟨(List.range n).map f, by simp, h1, h2, fun k hk => ?_⟩
  have e : ((List.range n).map f).getD k [] = f k := by
    rw [List.getD_eq_getElem?_getD, List.getElem?_map, List.getElem?_range hk]; rfl
  rw [e]
  exact hf k hk

set_option maxRecDepth 100000 in
set_option maxHeartbeats 4000000 in
theorem rises_any (B : Nat) (A : Option Addr) (n c : Nat) (zs : List Int) (w : World) (h : Ints w B A n c zs) :
    Calls Try.prog 46 #[.slice A n c] w fun e w' => e = .returned (.bool (riB zs)) ∧ Below w.heap.size w w' := by
  have hcap := h.cap
  have hl := h.length
  obtain ⟨tot, htot⟩ : ∃ z, z = riB zs := ⟨_, rfl⟩
  rw [← htot]
  unfold riB at htot
  rw [hl] at htot
  have HT := Lib.hid htot
  have HI := Lib.hid h
  clear htot h hl
  go_enter Try.func46, Try.ntmps46
  go_wp2_with fail
  go_loopw [3] (fun v wr => ∃ k : Nat, v = .int .i64 (k : Int) ∧ 1 ≤ k ∧ k ≤ n + 1 ∧ (∀ j, j < k → j < n → (j == 0 || decide (zs.getD (j - 1) 0 < zs.getD j 0)) = true) ∧ Below w.heap.size w wr) (fun v _ => n + 1 - (intOf v).toNat)
  case atStart => exact ⟨1, by go_num, Nat.le_refl _, by omega, fun j hj _ => (by have e : j = 0 := (by omega); rw [e]; rfl), Below.refl _ _⟩
  case round =>
    obtain ⟨k, rfl, hk1, hk2, hall, hA⟩ := hrel
    have HALL := Lib.hid hall
    clear hall
    by_cases hlt : k < n
    · obtain ⟨b, o, rfl, hbb, hc⟩ := HI.out.getD hlt
      obtain ⟨_, _, e9, _, hd⟩ := HI.out.getD (k := k - 1) (by omega)
      cases e9
      obtain ⟨x, hx⟩ : ∃ x, x = zs.getD k 0 := ⟨_, rfl⟩
      obtain ⟨y, hy⟩ : ∃ y, y = zs.getD (k - 1) 0 := ⟨_, rfl⟩
      obtain ⟨j, hj⟩ : ∃ j, j = k - 1 := ⟨_, rfl⟩
      rw [← hx] at hc
      rw [← hy, ← hj] at hd
      have c1 := up_fact hc
      have c2 := up_fact hd
      have hw1 : IntKind.i64.wrap ((k : Int) - 1) = (j : Int) := by rw [IntKind.wrap_i64]; omega
      have hjn : j < n := by omega
      have HX := Lib.hid (show (k == 0 || decide (zs.getD (k - 1) 0 < zs.getD k 0)) = decide (y < x) by rw [hx, hy]; exact or_pos hk1 _)
      clear hx hy hj hc hd
      by_cases hxy : x ≤ y
      · have d1 : decide (x ≤ y) = true := by simpa using hxy
        have HD := Lib.hid (show decide (y < x) = false by simp; omega)
        clear hxy
        go_wp2_with fail
        have hU0 := bup hA
        refine wp_region_up wr.heap.size (by kernel_rfl) (by kernel_rfl) ?_
        repeat (go_big_quiet_step ((fail)))
        refine wpQuiet_nil (up_all fun w2 hb2 => ?_)
        have hA := bgo hA hb2
        clear hb2 hU0
        go_wp2_with fail
        go_ret
        exact ⟨by rw [HT.out, range_false hlt (HX.out.trans HD.out)]; rfl, hA⟩
      · have d1 : decide (x ≤ y) = false := by simpa using hxy
        have HD := Lib.hid (show decide (y < x) = true by simp; omega)
        clear hxy
        go_wp2_with fail
        have hU0 := bup hA
        refine wp_region_up wr.heap.size (by kernel_rfl) (by kernel_rfl) ?_
        repeat (go_big_quiet_step ((fail)))
        refine wpQuiet_nil (up_all fun w2 hb2 => ?_)
        have hA := bgo hA hb2
        clear hb2 hU0
        go_wp2_with fail
        go_roundw
        case rel => exact ⟨k + 1, by go_num, by omega, by omega, all_succ HALL.out (fun _ => HX.out.trans HD.out), hA⟩
        case measure => simp [intOf]; omega
    · have h0 : decide ((k : Int) < (n : Int)) = false := by simp; omega
      go_wp2_with fail
      go_ret
      exact ⟨by rw [HT.out, range_true (fun i hi => HALL.out i (by omega) hi)]; rfl, hA⟩

set_option maxRecDepth 100000 in
set_option maxHeartbeats 4000000 in
theorem all_any (F : Fnt) (B : Nat) (A : Option Addr) (n c : Nat) (zs : List Int) (w : World) (h : Ints w B A n c zs) (hB : B ≤ w.heap.size) :
    Calls Try.prog 67 #[.agg #[.int .i64 F.em, .slice F.GA F.gn F.gc, .slice F.MA F.mn F.mc, .slice F.LA F.ln F.lc, .slice F.FA F.fn F.fc, .slice F.SA F.sn F.sc], .slice A n c] w (fun e w' => e = .returned (.bool (allB F.gn zs)) ∧ Below w.heap.size w w') := by
  have hcap := h.cap
  have hl := h.length
  obtain ⟨tot, htot⟩ : ∃ z, z = allB F.gn zs := ⟨_, rfl⟩
  rw [← htot]
  unfold allB at htot
  rw [hl] at htot
  have HT := Lib.hid htot
  obtain ⟨w1, hw1⟩ : ∃ z, z = w.alloc (.cells #[.int .i64 F.em, .slice F.GA F.gn F.gc, .slice F.MA F.mn F.mc, .slice F.LA F.ln F.lc, .slice F.FA F.fn F.fc, .slice F.SA F.sn F.sc] 28) := ⟨_, rfl⟩
  have hb1 : Below w.heap.size w w1 := by rw [hw1]; exact (Below.refl _ _).alloc (Nat.le_refl _) _
  have hs1 : w.heap.size < w1.heap.size := by rw [hw1]; simp
  have hfb : FBox w1 w.heap.size F := by rw [hw1]; exact FBox.new w F
  obtain ⟨f0, f1, f2, f3, f4, f5⟩ := hfb.cells
  have g0 := up_fact f0
  have g1 := up_fact f1
  have g2 := up_fact f2
  have g3 := up_fact f3
  have g4 := up_fact f4
  have g5 := up_fact f5
  have hA0 := Below.refl w1.heap.size w1
  clear f0 f1 f2 f3 f4 f5 hfb
  have HW1 := Lib.hid hw1
  clear hw1
  have HI := Lib.hid (h.below (hb1.mono hB))
  clear htot h hl
  go_enter Try.func67, Try.ntmps67
  go_upto_region 1 with (fail)
  rw [← HW1.out]
  go_wp2_with fail
  go_loopw [5] (fun v wr => ∃ k : Nat, v = .int .i64 (k : Int) ∧ k ≤ n ∧ (∀ j, j < k → thB F.gn (zs.getD j 0) = true) ∧ Below w1.heap.size w1 wr) (fun v _ => n - (intOf v).toNat)
  case atStart => exact ⟨0, rfl, Nat.zero_le _, fun j hj => by omega, hA0⟩
  case round =>
    obtain ⟨k, rfl, hk, hall, hA⟩ := hrel
    have HALL := Lib.hid hall
    clear hall
    by_cases hlt : k < n
    · obtain ⟨b, o, rfl, hbb, hc⟩ := HI.out.getD hlt
      obtain ⟨x, hx⟩ : ∃ x, x = zs.getD k 0 := ⟨_, rfl⟩
      rw [← hx] at hc
      obtain ⟨t, ht⟩ : ∃ t, t = thB F.gn x := ⟨_, rfl⟩
      have HTH := Lib.hid (show ∀ W, Calls Try.prog 48 #[.agg #[.int .i64 F.em, .slice F.GA F.gn F.gc, .slice F.MA F.mn F.mc, .slice F.LA F.ln F.lc, .slice F.FA F.fn F.fc, .slice F.SA F.sn F.sc], .int .i64 x] W fun e w' => e = .returned (.bool t) ∧ Below W.heap.size W w' from fun W => by rw [ht]; exact there_any F x W)
      have HX := Lib.hid (show thB F.gn (zs.getD k 0) = t by rw [ht, hx])
      have y0 := up_fact hc
      clear hx ht hc
      go_wp2_with fail
      have hU0 := bup hA
      refine wp_region_up wr.heap.size (by kernel_rfl) (by kernel_rfl) ?_
      repeat (go_big_quiet_step ((first | (go_at_call 48; exact Calls.up_of (Nat.le_refl _) (HTH.out _)))))
      refine wpQuiet_nil (up_all fun w2 hb2 => ?_)
      have hA := bgo hA hb2
      clear hb2 hU0
      rcases t with _ | _
      · go_wp2_with fail
        go_ret
        exact ⟨by rw [HT.out, range_false hlt HX.out]; rfl, hb1.trans (hA.mono (by omega))⟩
      · go_wp2_with fail
        go_roundw
        case rel => exact ⟨k + 1, by go_num, by omega, all_succ HALL.out HX.out, hA⟩
        case measure => simp [intOf]; omega
    · obtain rfl : k = n := by omega
      have h0 : ¬ k < k := Nat.lt_irrefl k
      go_wp2_with fail
      go_ret
      exact ⟨by rw [HT.out, range_true HALL.out]; rfl, hb1.trans (hA.mono (by omega))⟩

set_option maxRecDepth 100000 in
set_option maxHeartbeats 4000000 in
theorem cover_any (F : Fnt) (B : Nat) (A : Option Addr) (n c : Nat) (zs : List Int) (w : World) (h : Ints w B A n c zs) (hB : B ≤ w.heap.size) :
    Calls Try.prog 49 #[.agg #[.int .i64 F.em, .slice F.GA F.gn F.gc, .slice F.MA F.mn F.mc, .slice F.LA F.ln F.lc, .slice F.FA F.fn F.fc, .slice F.SA F.sn F.sc], .slice A n c] w (fun e w' => e = .returned (.bool (coB F.gn zs)) ∧ Below w.heap.size w w') := by
  have hcap := h.cap
  have hl := h.length
  obtain ⟨t1, ht1⟩ : ∃ t, t = riB zs := ⟨_, rfl⟩
  obtain ⟨t2, ht2⟩ : ∃ t, t = allB F.gn zs := ⟨_, rfl⟩
  unfold coB
  rw [← ht1, ← ht2, hl]
  obtain ⟨w1, hw1⟩ : ∃ z, z = w.alloc (.cells #[.int .i64 F.em, .slice F.GA F.gn F.gc, .slice F.MA F.mn F.mc, .slice F.LA F.ln F.lc, .slice F.FA F.fn F.fc, .slice F.SA F.sn F.sc] 28) := ⟨_, rfl⟩
  have hb1 : Below w.heap.size w w1 := by rw [hw1]; exact (Below.refl _ _).alloc (Nat.le_refl _) _
  have hs1 : w.heap.size < w1.heap.size := by rw [hw1]; simp
  have hfb : FBox w1 w.heap.size F := by rw [hw1]; exact FBox.new w F
  obtain ⟨f0, f1, f2, f3, f4, f5⟩ := hfb.cells
  have g0 := up_fact f0
  have g1 := up_fact f1
  have g2 := up_fact f2
  have g3 := up_fact f3
  have g4 := up_fact f4
  have g5 := up_fact f5
  have hA0 := Below.refl w1.heap.size w1
  clear f0 f1 f2 f3 f4 f5 hfb
  have HW1 := Lib.hid hw1
  clear hw1
  have HI := Lib.hid (h.below (hb1.mono hB))
  have HR := Lib.hid (fun W (hW : Below w1.heap.size w1 W) => rises_any B A n c zs W (HI.out.below (hW.mono (by omega))))
  have HL := Lib.hid (fun W (hW : Below w1.heap.size w1 W) => all_any F B A n c zs W (HI.out.below (hW.mono (by omega))) (by have := hW.size; omega))
  rw [← ht1] at HR
  rw [← ht2] at HL
  clear ht1 ht2 h hl
  go_enter Try.func49, Try.ntmps49
  go_upto_region 1 with (fail)
  rw [← HW1.out]
  by_cases hn : n ≤ 4096
  · have d0 : decide ((n : Int) ≤ 4096) = true := by simp; omega
    have HN := Lib.hid (show decide (n ≤ 4096) = true by simpa using hn)
    clear hn
    rcases t1 with _ | _
    · go_wp2_with (go_at_call 46; refine (HR.out _ hA0).mono ?_; rintro e w9 ⟨rfl, hb⟩; have hA0 := bgo hA0 hb; clear hb)
      go_ret
      exact ⟨by rw [HN.out]; rfl, hb1.trans (hA0.mono (by omega))⟩
    · rcases t2 with _ | _
      all_goals
        go_wp2_with (first
          | (go_at_call 46; refine (HR.out _ hA0).mono ?_; rintro e w9 ⟨rfl, hb⟩; have hA0 := bgo hA0 hb; clear hb)
          | (go_at_call 67; refine (HL.out _ hA0).mono ?_; rintro e w9 ⟨rfl, hb⟩; have hA0 := bgo hA0 hb; clear hb))
        go_ret
        exact ⟨by rw [HN.out]; rfl, hb1.trans (hA0.mono (by omega))⟩
  · have d0 : decide ((n : Int) ≤ 4096) = false := by simp; omega
    have HN := Lib.hid (show decide (n ≤ 4096) = false by simpa using hn)
    clear hn
    go_wp2_with fail
    go_ret
    exact ⟨by rw [HN.out]; rfl, hb1.trans (hA0.mono (by omega))⟩

end Go.Proofs.Ytbjeflblhjfagaa
