import Derived.Test.YtbjeflblhjfagaaExam
import Derived.Test.YtbjeflblhjfagaaGlyA
import Derived.Great.BuildSlice
import Derived.Great.Walk
import Derived.BigRegion
import Derived.Deep.RegionHeld3
namespace Go.Proofs.Ytbjeflblhjfagaa
open Go.RowKit
theorem keep4 {W0 W : World} {K : Nat} {v0 v1 v2 v3 : Value} (h : (W0.cell? ⟨K, 0, none⟩ = some v0 ∧ W0.cell? ⟨K, 1, none⟩ = some v1 ∧ W0.cell? ⟨K, 2, none⟩ = some v2 ∧ W0.cell? ⟨K, 3, none⟩ = some v3) ∧ K < W0.heap.size) (hb : Below W0.heap.size W0 W) :
    W.cell? ⟨K, 0, none⟩ = some v0 ∧ W.cell? ⟨K, 1, none⟩ = some v1 ∧ W.cell? ⟨K, 2, none⟩ = some v2 ∧ W.cell? ⟨K, 3, none⟩ = some v3 :=
  ⟨(hb.cell (p := ⟨K, 0, none⟩) h.2).trans h.1.1, (hb.cell (p := ⟨K, 1, none⟩) h.2).trans h.1.2.1, (hb.cell (p := ⟨K, 2, none⟩) h.2).trans h.1.2.2.1, (hb.cell (p := ⟨K, 3, none⟩) h.2).trans h.1.2.2.2⟩
/-- Apply at the example. -/
def RetEx (W0 : World) (gs : List Gl) (n : Nat) (m : Int) (d : Bool) (e : Ending) (w' : World) : Prop :=
  ∃ A c, e = .returned (.tuple #[.slice A n c, .int .i64 m, .bool d]) ∧ GlsR w' w'.heap.size A n c gs ∧ Below W0.heap.size W0 w'
def exG1 : List Gl := (applyG (2, exPS) (rowG [1, 3, 2]) 1).1
def exG0 : List Gl := rowG [1, 3, 2]
theorem ex_one (s : Nat) (W0 W : World) (A : Option Addr) (c : Nat) (hs : SubsR W0 W0.heap.size (some ⟨s + 1 + 1 + 1, 0, none⟩) 1 1 exPS) (hb : Below W0.heap.size W0 W) (h : GlsR W W.heap.size A 3 c (rowG [1, 3, 2])) :
    Calls Try.prog 14 #[.agg #[.int .i64 0, .slice none 0 0, .slice none 0 0, .slice none 0 0, .slice none 0 0, .slice none 0 0], .agg #[.int .i64 2, .int .i64 0, .int .i64 0, .slice (some ⟨s + 1 + 1 + 1, 0, none⟩) 1 1], .slice A 3 c, .int .i64 1] W (RetEx W0 exG1 4 3 true) := by
  refine (sapply_any exF W.heap.size (exLk s) exPS A 3 c (rowG [1, 3, 2]) 1 W ?_ (exOne s) h (Nat.le_refl _) (by omega)).mono ?_
  · exact SubsR.more (hs.below hb) hb.size
  · rintro e w' ⟨A', c', rfl, hg, hb'⟩
    have e1 : applyG ((exLk s).ki, exPS) (rowG [1, 3, 2]) 1 = (exG1, 3, true) := by show applyG (2, exPS) (rowG [1, 3, 2]) 1 = _; rfl
    rw [e1] at hg
    have e2 : exG1.length = 4 := by decide
    simp only [e2] at hg
    exact ⟨A', c', by rw [e1]; simp only [e2], hg, hb.trans (hb'.mono hb.size)⟩
theorem ex_two (s : Nat) (W0 W : World) (A : Option Addr) (c : Nat) (hs : SubsR W0 W0.heap.size (some ⟨s + 1 + 1 + 1, 0, none⟩) 1 1 exPS) (hb : Below W0.heap.size W0 W) (h : GlsR W W.heap.size A 3 c (rowG [1, 3, 2])) :
    Calls Try.prog 14 #[.agg #[.int .i64 0, .slice none 0 0, .slice none 0 0, .slice none 0 0, .slice none 0 0, .slice none 0 0], .agg #[.int .i64 2, .int .i64 0, .int .i64 0, .slice (some ⟨s + 1 + 1 + 1, 0, none⟩) 1 1], .slice A 3 c, .int .i64 0] W (RetEx W0 exG0 3 0 false) := by
  refine (sapply_any exF W.heap.size (exLk s) exPS A 3 c (rowG [1, 3, 2]) 0 W ?_ (exOne s) h (Nat.le_refl _) (by omega)).mono ?_
  · exact SubsR.more (hs.below hb) hb.size
  · rintro e w' ⟨A', c', rfl, hg, hb'⟩
    have e1 : applyG ((exLk s).ki, exPS) (rowG [1, 3, 2]) 0 = (exG0, 0, false) := by show applyG (2, exPS) (rowG [1, 3, 2]) 0 = _; rfl
    rw [e1] at hg
    have e2 : exG0.length = 3 := by decide
    simp only [e2] at hg
    exact ⟨A', c', by rw [e1]; simp only [e2], hg, hb.trans (hb'.mono hb.size)⟩
/-- row at the example. -/
theorem ex_row (W0 W : World) (h : Below W0.heap.size W0 W) : Calls Try.prog 20 #[.slice (some ⟨W.heap.size, 0, none⟩) 3 3] (W.alloc (.cells #[.int .i64 1, .int .i64 3, .int .i64 2] 3)) (fun e w' => ∃ A c, e = .returned (.slice A 3 c) ∧ GlsR w' w'.heap.size A 3 c (rowG [1, 3, 2]) ∧ Below W0.heap.size W0 w') := by
  refine (row_any (W.heap.size + 1) _ 3 3 [1, 3, 2] _ (Ints.lit W [1, 3, 2] _ _ (by omega) rfl rfl) (by omega)).mono ?_
  rintro e w' ⟨A, c, rfl, hg, hb⟩
  have hA : Below W0.heap.size W0 (W.alloc (.cells #[.int .i64 1, .int .i64 3, .int .i64 2] 3)) := h.alloc h.size _
  exact ⟨A, c, rfl, hg.gls, hA.trans (hb.mono hA.size)⟩
theorem ex_gly {s : Nat} : glyB ((exLk s).ki, exPS) = [3] := by show Lib.compact (sortI (covs exPS)) = [3]; simp [covs, exPS, sortI, Lib.compact]; first | rfl | decide | simp [Lib.compactUpTo]
set_option maxRecDepth 100000 in
set_option maxHeartbeats 4000000 in
theorem alive_any (w : World) : Calls Try.prog 8 #[] w (fun e w' => e = .returned (.bool true) ∧ Below w.heap.size w w') := by
  obtain ⟨hbE, hsE, hsub, hkb⟩ := exW_ok w
  obtain ⟨W0, hW0⟩ : ∃ z, z = exW w := ⟨_, rfl⟩
  rw [← hW0] at hbE hsE hsub hkb
  rw [← hsE] at hsub
  have HK := Lib.hid (And.intro (show W0.cell? ⟨w.heap.size + 1 + 1 + 1 + 1, 0, none⟩ = some (.int .i64 2) ∧ W0.cell? ⟨w.heap.size + 1 + 1 + 1 + 1, 1, none⟩ = some (.int .i64 0) ∧ W0.cell? ⟨w.heap.size + 1 + 1 + 1 + 1, 2, none⟩ = some (.int .i64 0) ∧ W0.cell? ⟨w.heap.size + 1 + 1 + 1 + 1, 3, none⟩ = some (.slice (some ⟨w.heap.size + 1 + 1 + 1, 0, none⟩) 1 1) from hkb.cells) (show w.heap.size + 1 + 1 + 1 + 1 < W0.heap.size by omega))
  unfold exW at hW0
  have HW0 := Lib.hid hW0
  have HSUB := Lib.hid hsub
  have HBE := Lib.hid hbE
  clear hW0 hsub hbE hkb hsE
  go_enter Try.func8, Try.ntmps8
  go_upto_region 2 with (fail)
  rw [← HW0.out]
  obtain ⟨K, hK⟩ : ∃ K, K = w.heap.size + 1 + 1 + 1 + 1 := ⟨_, rfl⟩
  rw [← hK] at HK ⊢
  obtain ⟨s, hs⟩ : ∃ s, s = w.heap.size := ⟨_, rfl⟩
  rw [← hs] at HK HSUB ⊢
  have hl0 := keep4 HK.out (Below.refl _ _)
  clear hK hs
  go_region_held3 (fun W => W.cell? ⟨K, 0, none⟩ = some (.int .i64 2) ∧ W.cell? ⟨K, 1, none⟩ = some (.int .i64 0) ∧ W.cell? ⟨K, 2, none⟩ = some (.int .i64 0) ∧ W.cell? ⟨K, 3, none⟩ = some (.slice (some ⟨s + 1 + 1 + 1, 0, none⟩) 1 1)) (first | exact hl0 | exact keep4 HK.out ((Below.refl _ _).drew.alloc (Nat.le_refl _) _) | exact keep4 HK.out hb2 | exact keep4 HK.out hb3 | go_keep)
    (first | (go_at_call 20; refine (ex_row W0 _ ((Below.refl _ _).drew)).mono ?_; rintro e w2 ⟨A2, c2, rfl, hg2, hb2⟩) | (go_at_call 14; refine (ex_one s W0 _ _ _ HSUB.out hb2 hg2).mono ?_; rintro e w3 ⟨A3, c3, rfl, hg3, hb3⟩))
  have HB3 := Lib.hid hb3
  have HG3 := Lib.hid hg3
  have hl3 := keep4 HK.out hb3
  clear hg2 hb2 hl0
  go_upto_region 3 with (fail)
  go_region_held3 (fun W => W.cell? ⟨K, 0, none⟩ = some (.int .i64 2) ∧ W.cell? ⟨K, 1, none⟩ = some (.int .i64 0) ∧ W.cell? ⟨K, 2, none⟩ = some (.int .i64 0) ∧ W.cell? ⟨K, 3, none⟩ = some (.slice (some ⟨s + 1 + 1 + 1, 0, none⟩) 1 1)) (first | exact hl3 | exact keep4 HK.out ((hb3.drew).alloc (hb3.size) _) | exact keep4 HK.out (hb3.trans (hb5.mono hb3.size)) | exact keep4 HK.out (hb3.trans (hb6.mono hb3.size)) | go_keep)
    (first | (go_at_call 20; refine (ex_row w3 _ ((Below.refl _ _).drew)).mono ?_; rintro e w5 ⟨A5, c5, rfl, hg5, hb5⟩) | (go_at_call 14; refine (ex_two s w3 _ _ _ (SubsR.more (HSUB.out.below HB3.out) HB3.out.size) hb5 hg5).mono ?_; rintro e w6 ⟨A6, c6, rfl, hg6, hb6⟩))
  have HB6 := Lib.hid (show Below W0.heap.size W0 w6 from HB3.out.trans (hb6.mono HB3.out.size))
  have hg36 : GlsR w6 w3.heap.size A3 4 c3 exG1 := HG3.out.below hb6
  obtain ⟨b1, o1, g1, rfl, hbb, hx1, ⟨x1, -⟩⟩ := hg36.at_ (k := 1) (by omega)
  obtain ⟨b2, o2, g2, e2, -, hx2, ⟨x2, -⟩⟩ := hg36.at_ (k := 2) (by omega)
  cases e2
  obtain ⟨b2, o2, g3, e2, -, hx3, ⟨x3, -⟩⟩ := hg36.at_ (k := 3) (by omega)
  cases e2
  have i1 : g1.id = 4 := by cases hx1; rfl
  have i2 : g2.id = 5 := by cases hx2; rfl
  have i3 : g3.id = 2 := by cases hx3; rfl
  rw [i1] at x1
  rw [i2] at x2
  rw [i3] at x3
  have hl6 := keep4 HK.out HB6.out
  have hcap := hg36.cap
  clear hx1 hx2 hx3 i1 i2 i3 hg36 hg6 hg5 hb5 hb6 hb3 hl3 hg3
  simp only [Nat.one_mul, Nat.reduceMul] at x1 x2 x3
  have HGL := Lib.hid (show ∀ W, Below W0.heap.size W0 W → Calls Try.prog 12 #[.agg #[.int .i64 2, .int .i64 0, .int .i64 0, .slice (some ⟨s + 1 + 1 + 1, 0, none⟩) 1 1]] W (fun e w' => ∃ A c, e = .returned (.slice A 1 c) ∧ Ints w' w'.heap.size A 1 c [3] ∧ Below W.heap.size W w') from fun W hW => by
    have h := sgly_any W0.heap.size (exLk s) exPS W (HSUB.out.below hW) (exOne s) hW.size
    rw [ex_gly] at h
    exact h)
  clear HK
  go_wp2_with (first
    | (go_at_call 12; refine (HGL.out _ (by exact HB6.out)).mono ?_; rintro e w7 ⟨A7, c7, rfl, hi7, hb7⟩)
    | (go_at_call 11; refine (eqints_any _ _ _ _ 1 _ _ [3] _ (hi7.below ((Below.refl _ _).alloc (Nat.le_refl _) _)) (Ints.lit_at _ [3] _ _ (by omega) rfl rfl rfl)).mono ?_; rintro e w8 ⟨rfl, hb8⟩))
  go_ret
  exact ⟨rfl, HBE.out.trans ((HB6.out.trans ((hb7.trans ((((Below.refl _ _).alloc (Nat.le_refl _) _).trans (hb8.mono (by simp))).mono hb7.size)).mono HB6.out.size)).mono HBE.out.size)⟩
end Go.Proofs.Ytbjeflblhjfagaa
