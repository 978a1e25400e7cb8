/- The walk of the reference's sort. Condition: a row of pairs of the call's own, at most a million. -/
import Derived.Test.YtbpaogmnaodcaaaDoorPairB
import Derived.Test.YtbpaogmnaodcaaaDoorRefSP
import Derived.BigQuiet
namespace Go.Proofs.YtbpaogmnaodcaaaDoor
open Go.RowKit

theorem cells2_set {q : IntKind} : ∀ (l : List (Int × Int)) (k : Nat) (x : Int × Int), ((cells2 q l).set (k * 2) (.int q x.1)).set (k * 2 + 1) (.int .i64 x.2) = cells2 q (l.set k x)
  | [], k, x => by simp [cells2]
  | y :: l, 0, x => by simp [cells2]
  | y :: l, k + 1, x => by
    have := cells2_set (q := q) l k x
    simp only [cells2, List.flatMap_cons, List.set_cons_succ] at this ⊢
    rw [show (k + 1) * 2 = k * 2 + 1 + 1 by omega]
    simp [this]
theorem Row2.set {q : IntKind} {w : World} {base : Nat} {e : TypeId} {g n c : Nat} {l : List (Int × Int)} (h : Row2 q w base e (some ⟨g, 0, none⟩) n c l) (k : Nat) (x : Int × Int) :
    Row2 q ((w.setCell ⟨g, k * 2, none⟩ (.int q x.1)).setCell ⟨g, k * 2 + 1, none⟩ (.int .i64 x.2)) base e (some ⟨g, 0, none⟩) n c (l.set k x) := by
  have h1 := (World.ownsRow.stored h.2 (k * 2) (.int q x.1)).1
  have h2 := (World.ownsRow.stored h1 (k * 2 + 1) (.int .i64 x.2)).1
  rw [cells2_set] at h2
  exact ⟨by simpa using h.1, h2⟩
theorem Row2.thaw {q : IntKind} {w : World} {base : Nat} {e : TypeId} {g n c : Nat} {l : List (Int × Int)} (h : Row2 q w base e (some ⟨g, 0, none⟩) n c l) (k : Nat) : w.frozen? ⟨g, k, none⟩ = false := World.ownsRow.frozenAt h.2 k
theorem cell?_setCell_far {w : World} {g b i k : Nat} (u : Value) (h : g ≠ b) : (w.setCell ⟨g, i, none⟩ u).cell? ⟨b, k, none⟩ = w.cell? ⟨b, k, none⟩ := by
  have := Below.heap_setCell w ⟨g, i, none⟩ u b (fun e => h e.symm)
  simp only [World.cell?, this]
theorem swap_one (ys zs : List (Int × Int)) (x y : Int × Int) : ((y :: ys).reverse ++ x :: zs).set (ys.length + 1) y = ys.reverse ++ y :: y :: zs := by
  have e : (y :: ys).reverse ++ x :: zs = ys.reverse ++ y :: x :: zs := by simp
  rw [e, List.set_append_right _ _ (by simp)]
  simp
theorem swap_at (ys zs : List (Int × Int)) (x y : Int × Int) : (((y :: ys).reverse ++ x :: zs).set (ys.length + 1) y).set ys.length x = ys.reverse ++ x :: (y :: zs) := by
  have e : (y :: ys).reverse ++ x :: zs = ys.reverse ++ y :: x :: zs := by simp
  rw [e, List.set_append_right _ _ (by simp), List.set_append_right _ _ (by simp)]
  simp

set_option maxRecDepth 100000 in
set_option maxHeartbeats 4000000 in
theorem rsorted_any (w : World) (base : Nat) (A : Option Addr) (n c : Nat) (l : List (Int × Int)) (h : Row2 .i64 w base 29 A n c l) (hb : base ≤ w.heap.size) (hn : n ≤ 1000000) :
    Calls Tryd.prog 24 #[.slice A n c] w fun e w' => e = .returned (.slice A n c) ∧ ∃ l', l'.Perm l ∧ l'.Pairwise (fun a b => a.1 ≤ b.1) ∧ Row2 .i64 w' base 29 A n c l' ∧ Below base w w' := by
  have hcap := h.cap
  have hl := h.1
  have HI := Lib.hid h
  have HL := Lib.hid hl
  clear h hl
  go_enter Tryd.func24, Tryd.ntmps24
  go_wp2_with fail
  go_loopw [3] (fun v3 wr => ∃ (i : Nat) (pre post : List (Int × Int)), v3 = .int .i64 (i : Int) ∧ 1 ≤ i ∧ i ≤ n + 1 ∧ pre.length = min i n ∧ (pre ++ post).Perm l ∧ pre.Pairwise (fun a b => a.1 ≤ b.1) ∧ Row2 .i64 wr base 29 A n c (pre ++ post) ∧ Below base w wr) (fun v3 _ => n + 1 - (intOf v3).toNat)
  case atStart => exact ⟨1, l.take 1, l.drop 1, by go_num, Nat.le_refl _, by omega, by rw [List.length_take, HL.out], by rw [List.take_append_drop], by rcases l with _ | ⟨a, _ | ⟨b, l⟩⟩ <;> simp, by rw [List.take_append_drop]; exact HI.out, Below.refl _ _⟩
  case round =>
    obtain ⟨i, pre, post, rfl, hi1, hi2, hpl, hperm, hsort, hrow, hbel⟩ := hrel
    have hsz := hbel.size
    by_cases hlt : i < n
    · rcases post with _ | ⟨x, zs⟩
      · exfalso; have := hrow.1; simp at this; omega
      have hpi : pre.length = i := by omega
      obtain ⟨tot, htot⟩ : ∃ z, z = (insR pre.reverse x).reverse := ⟨_, rfl⟩
      have HST := Lib.hid (ins_step hperm hsort htot)
      have HT := Lib.hid htot
      have HR := Lib.hid hrow
      have HB := Lib.hid hbel
      have HPI := Lib.hid hpi
      clear hperm hsort htot hrow hbel hpl hpi
      go_upto_region 5 with (fail)
      obtain ⟨wo, hwo⟩ : ∃ wo : World, wo = wr := ⟨_, rfl⟩
      subst hwo
      go_loopw [4] (fun v4 wi => ∃ (k : Nat) (ys us : List (Int × Int)), v4 = .int .i64 (k : Int) ∧ ys.length = k ∧ k ≤ i ∧ (insR ys x).reverse ++ us = tot ++ zs ∧ Row2 .i64 wi base 29 A n c (ys.reverse ++ x :: us) ∧ Below base w wi) (fun v4 _ => (intOf v4).toNat)
      case atStart => exact ⟨i, pre.reverse, zs, rfl, by rw [List.length_reverse, HPI.out], Nat.le_refl _, by rw [HT.out], by rw [List.reverse_reverse]; exact HR.out, HB.out⟩
      case round =>
        obtain ⟨k, ys, us, rfl, hyk, hki, hto, hrow, hbel⟩ := hrel
        have hsz2 := hbel.size
        have HTO := Lib.hid hto
        have HBEL := Lib.hid hbel
        have HROW := Lib.hid hrow
        obtain ⟨xa, xb⟩ := x
        rcases ys with _ | ⟨⟨ya, yb⟩, ys⟩
        · obtain rfl : k = 0 := by simp at hyk; omega
          have d0 : decide ((0 : Int) < 0) = false := by simp
          clear hto hbel hrow hyk
          go_wp2_with fail
          go_quiet (fail)
          go_wp2_with fail
          go_roundw
          case rel =>
            have e : (xa, xb) :: us = tot ++ zs := HTO.out
            exact ⟨i + 1, tot, zs, by go_num, by omega, by omega, by rw [HST.out.2.2, HPI.out]; omega, HST.out.1, HST.out.2.1, by rw [← e]; exact (show Row2 .i64 (wr.drewN nq) base _ A n c _ from HROW.out.drewN nq), (show Below base w (wr.drewN nq) from below_drewN HBEL.out nq)⟩
          case measure => simp [intOf]; omega
        · obtain ⟨j, hkj⟩ : ∃ j, k = j + 1 := ⟨ys.length, by simp at hyk; omega⟩
          have hjl : ys.length = j := by simp at hyk; omega
          have hgx : ((((ya, yb) :: ys).reverse ++ (xa, xb) :: us))[k]? = some (xa, xb) := by rw [List.getElem?_append_right (by simp; omega)]; simp [hkj, hjl]
          have hgy : ((((ya, yb) :: ys).reverse ++ (xa, xb) :: us))[j]? = some (ya, yb) := by rw [List.getElem?_append_left (by simp; omega)]; simp [← hjl]
          obtain ⟨hkn, g, rfl, hg1, hg2, cx1, cx2⟩ := hrow.at_ hgx
          obtain ⟨hjn, _, e9, _, _, cy1, cy2⟩ := hrow.at_ hgy
          cases e9
          have fx := hrow.thaw
          simp only at cx1 cx2 cy1 cy2
          have d0 : decide ((0 : Int) < (k : Int)) = true := by simp; omega
          have d00 : decide (0 < k) = true := by simp; omega
          have hw1 : IntKind.i64.wrap ((k : Int) - 1) = (j : Int) := by rw [IntKind.wrap_i64]; omega
          have HKJ := Lib.hid hkj
          have HJL := Lib.hid hjl
          have HFX := Lib.hid fx
          clear hto hbel hrow hyk hkj hjl hgx hgy fx
          by_cases hxy : xa < ya
          · have d1 : decide (xa < ya) = true := by simpa using hxy
            have HXY := Lib.hid hxy
            clear hxy
            go_wp2_with fail
            go_quiet (fail)
            have h1 : (wr.drewN nq).cell? ⟨g, k * 2, none⟩ = some (.int .i64 xa) := cx1
            have h2 : (wr.drewN nq).cell? ⟨g, k * 2 + 1, none⟩ = some (.int .i64 xb) := cx2
            have h3 : (wr.drewN nq).cell? ⟨g, j * 2, none⟩ = some (.int .i64 ya) := cy1
            have h4 : (wr.drewN nq).cell? ⟨g, j * 2 + 1, none⟩ = some (.int .i64 yb) := cy2
            have HR2 := Lib.hid (show Row2 .i64 (wr.drewN nq) base _ _ n c _ from HROW.out.drewN nq)
            have HB2 := Lib.hid (show Below base w (wr.drewN nq) from below_drewN HBEL.out nq)
            have hg3 : g < (wr.drewN nq).heap.size := hg2
            have hsz3 : w.heap.size ≤ (wr.drewN nq).heap.size := hsz2
            clear cx1 cx2 cy1 cy2 hg2 hsz2 HROW HBEL
            generalize wr.drewN nq = w3 at *
            go_upto_region 8 with (fail)
            have hbA : Below w3.heap.size w3 (w3.alloc (.cells #[.int .i64 xa, .int .i64 xb] 29)) := (Below.refl _ _).alloc (Nat.le_refl _) _
            obtain ⟨p1, p2⟩ := cell2_lit w3 (.int .i64 xa) (.int .i64 xb) 29 rfl
            have k1 := (hbA.cell (p := ⟨g, k * 2, none⟩) hg3).trans h1
            have k2 := (hbA.cell (p := ⟨g, k * 2 + 1, none⟩) hg3).trans h2
            have k3 := (hbA.cell (p := ⟨g, j * 2, none⟩) hg3).trans h3
            have k4 := (hbA.cell (p := ⟨g, j * 2 + 1, none⟩) hg3).trans h4
            have HR3 := Lib.hid (HR2.out.alloc (.cells #[.int .i64 xa, .int .i64 xb] 29))
            have HB3 := Lib.hid (HB2.out.alloc (show base ≤ w3.heap.size by omega) (.cells #[.int .i64 xa, .int .i64 xb] 29))
            have f1 := HR3.out.thaw (k * 2)
            have f2 := HR3.out.thaw (k * 2 + 1)
            have f3 := HR3.out.thaw (j * 2)
            have f4 := HR3.out.thaw (j * 2 + 1)
            have hgs : g ≠ w3.heap.size := by omega
            have hsz4 : w.heap.size ≤ (w3.alloc (.cells #[.int .i64 xa, .int .i64 xb] 29)).heap.size := by simp; omega
            clear h1 h2 h3 h4 hbA hsz3 hg3
            generalize w3.heap.size = b3 at *
            generalize w3.alloc (.cells #[.int .i64 xa, .int .i64 xb] 29) = w4 at *
            go_upto_region 9 with (fail)
            have HR5 := Lib.hid (HR3.out.set k (ya, yb))
            have HB5 := Lib.hid ((HB3.out.setCell (p := ⟨g, k * 2, none⟩) hg1 (.int .i64 ya)).setCell (p := ⟨g, k * 2 + 1, none⟩) hg1 (.int .i64 yb))
            have q1 : ((w4.setCell ⟨g, k * 2, none⟩ (.int .i64 ya)).setCell ⟨g, k * 2 + 1, none⟩ (.int .i64 yb)).cell? ⟨b3, 0, none⟩ = some (.int .i64 xa) := by
              rw [cell?_setCell_far _ hgs, cell?_setCell_far _ hgs]; exact p1
            have q2 : ((w4.setCell ⟨g, k * 2, none⟩ (.int .i64 ya)).setCell ⟨g, k * 2 + 1, none⟩ (.int .i64 yb)).cell? ⟨b3, 1, none⟩ = some (.int .i64 xb) := by
              rw [cell?_setCell_far _ hgs, cell?_setCell_far _ hgs]; exact p2
            have hjk : (((ya, yb) :: ys).reverse ++ (xa, xb) :: us).set k (ya, yb) = ys.reverse ++ (ya, yb) :: (ya, yb) :: us := by
              have := swap_one ys us (xa, xb) (ya, yb)
              rwa [HJL.out, ← HKJ.out] at this
            obtain ⟨_, _, e9, _, _, m3, m4⟩ := HR5.out.at_ (k := j) (x := (ya, yb)) (by rw [hjk, List.getElem?_append_right (by simp; have := HJL.out; omega)]; simp [HJL.out])
            cases e9
            have v3 := HR5.out.thaw (j * 2)
            have v4 := HR5.out.thaw (j * 2 + 1)
            have hsz5 : w.heap.size ≤ ((w4.setCell ⟨g, k * 2, none⟩ (.int .i64 ya)).setCell ⟨g, k * 2 + 1, none⟩ (.int .i64 yb)).heap.size := by simpa using hsz4
            have HJK := Lib.hid hjk
            simp only at m3 m4
            clear k1 k2 k3 k4 f1 f2 f3 f4 p1 p2 hjk hsz4 hgs
            generalize (w4.setCell ⟨g, k * 2, none⟩ (.int .i64 ya)).setCell ⟨g, k * 2 + 1, none⟩ (.int .i64 yb) = w5 at *
            go_wp2_with fail
            go_roundw
            case rel =>
              have e : (((ya, yb) :: ys).reverse ++ (xa, xb) :: us |>.set k (ya, yb)).set j (xa, xb) = ys.reverse ++ (xa, xb) :: ((ya, yb) :: us) := by
                rw [HJK.out, ← HJL.out, List.set_append_right _ _ (by simp)]; simp
              refine ⟨j, ys, (ya, yb) :: us, by go_num, HJL.out, by have := HKJ.out; omega, ?_, ?_, (HB5.out.setCell (p := ⟨g, j * 2, none⟩) hg1 _).setCell (p := ⟨g, j * 2 + 1, none⟩) hg1 _⟩
              · rw [← HTO.out, insR, if_pos (show xa < ya by have := HXY.out; omega)]; simp
              · rw [← e]; exact HR5.out.set j (xa, xb)
            case measure => simp [intOf]; have := HKJ.out; omega
          · have d1 : decide (xa < ya) = false := by simpa using hxy
            have HXY := Lib.hid hxy
            clear hxy
            go_wp2_with fail
            go_quiet (fail)
            go_wp2_with fail
            go_roundw
            case rel =>
              have e : ((ya, yb) :: ys).reverse ++ (xa, xb) :: us = tot ++ zs := by
                rw [← HTO.out, insR, if_neg (show ¬ xa < ya by have := HXY.out; omega)]
                simp
              exact ⟨i + 1, tot, zs, by go_num, by omega, by omega, by rw [HST.out.2.2, HPI.out]; omega, HST.out.1, HST.out.2.1, by rw [← e]; exact (show Row2 .i64 (wr.drewN nq) base _ _ n c _ from HROW.out.drewN nq), (show Below base w (wr.drewN nq) from below_drewN HBEL.out nq)⟩
            case measure => simp [intOf]; omega
    · have hge : n ≤ i := by omega
      have hpost : post = [] := by
        have h1 := hrow.1
        simp at h1
        exact List.eq_nil_of_length_eq_zero (by omega)
      subst hpost
      rw [List.append_nil] at hperm hrow
      have HP := Lib.hid hperm
      have HS := Lib.hid hsort
      have HR := Lib.hid hrow
      have HB := Lib.hid hbel
      clear hperm hsort hrow hbel hpl
      go_wp2_with fail
      go_ret
      exact ⟨rfl, pre, HP.out, HS.out, HR.out, HB.out⟩

end Go.Proofs.YtbpaogmnaodcaaaDoor
