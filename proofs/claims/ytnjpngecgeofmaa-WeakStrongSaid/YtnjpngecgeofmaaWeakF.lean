/- The walks of Weak, of the law's numbers (two lists that are the same), and of alive. Condition: at most a million classes. -/
import Derived.Test.YtnjpngecgeofmaaWeakE
namespace Go.Proofs.Ytnjpngecgeofmaa
open Go.RowKit

set_option maxHeartbeats 1000000 in
theorem weak_any (B : Nat) (A : Option Addr) (n c : Nat) (zs : List Int) (s : Int) (w : World) (h : Ints w B A n c zs) (hB : B ≤ w.heap.size) (hn : n ≤ 1000000) :
    Calls Try.prog 7 #[.slice A n c, .int .i64 s] w (RetOwn 3 w n (Wk.weak s zs)) := by
  go_enter Try.func7, Try.ntmps7
  go_wp2_with fail
  refine (w1_any B A n c zs s _ h hB hn).mono ?_
  rintro e w1 ⟨A1, c1, rfl, ho1, hb1⟩
  clear h
  go_wp2_with fail
  refine (arabic_any w.heap.size A1 n c1 _ _ ho1 hn).mono ?_
  rintro e w2 ⟨rfl, ho2, hb2⟩
  clear ho1
  go_wp2_with fail
  refine (w4_any _ A1 n c1 _ _ ho2.ints (Nat.le_refl _) hn).mono ?_
  rintro e w3 ⟨A3, c3, rfl, ho3, hb3⟩
  clear ho2
  go_wp2_with fail
  refine (w5_any _ A3 n c3 _ _ ho3.ints (Nat.le_refl _) hn).mono ?_
  rintro e w4 ⟨A4, c4, rfl, ho4, hb4⟩
  clear ho3
  go_wp2_with fail
  refine (rest_any w3.heap.size A4 n c4 _ s _ ho4 hn).mono ?_
  rintro e w5 ⟨rfl, ho5, hb5⟩
  go_wp2
  go_ret
  have s1 := hb1.size
  have s2 := hb2.size
  have s3 := hb3.size
  exact ⟨A4, c4, rfl, ho5.more (by omega), (((hb1.trans hb2).trans (hb3.mono (by omega))).trans (hb4.mono (by omega))).trans (hb5.mono (by omega))⟩

/-- What a call leaves that answers b and only reads. -/
def Says (b : Bool) (w : World) (e : Ending) (w' : World) : Prop := e = .returned (.bool b) ∧ ∃ k, w' = w.drewN k

set_option maxHeartbeats 1000000 in
theorem numbers_same (A A2 : Option Addr) (n c B c2 B2 : Nat) (zs : List Int) (w : World) (h : Ints w B A n c zs) (h2 : Ints w B2 A2 n c2 zs) :
    Calls Try.prog 9 #[.slice A n c, .slice A2 n c2] w (Says true w) := by
  have hcap := h.cap
  have hcap2 := h2.cap
  have hnn : ((n : Int) != (n : Int)) = false := by simp
  go_enter Try.func9, Try.ntmps9
  go_wp2_with fail
  go_loopw [13] (fun i wr => ∃ (k q : Nat), i = .int .i64 (k : Int) ∧ k ≤ n ∧ wr = w.drewN q) (fun i _ => n - (intOf i).toNat)
  case atStart => exact ⟨0, 0, rfl, Nat.zero_le _, rfl⟩
  case round =>
    obtain ⟨k, q, rfl, hk, rfl⟩ := hrel
    by_cases hlt : k < n
    · obtain ⟨b, o, x, rfl, hb, hx, hc⟩ := h.at_ hlt
      obtain ⟨b2, o2, x2, rfl, hb2, hx2, hc2⟩ := h2.at_ hlt
      rw [hx] at hx2
      cases hx2
      have hxx : (x != x) = false := by simp
      clear hx h h2
      go_wp2_with fail
      go_quiet (fail)
      go_wp2
      go_roundw
      case rel => exact ⟨k + 1, _, by go_num, by omega, rfl⟩
      case measure => simp [intOf]; omega
    · have hge : n ≤ k := by omega
      go_wp2
      go_ret
      exact ⟨rfl, _, rfl⟩

set_option maxHeartbeats 1000000 in
theorem alive_any (w : World) :
    Calls Try.prog 6 #[] w fun e w' => e = .returned (.bool true) ∧ Below w.heap.size w w' := by
  go_enter Try.func6, Try.ntmps6
  go_wp2_with fail
  refine (weak_any _ _ 2 2 [3, 4] 1 _ (Ints.lit w [3, 4] _ _ (by omega) rfl rfl) (by simp) (by omega)).mono ?_
  rintro e w1 ⟨A1, c1, rfl, ho1, hb1⟩
  go_wp2_with fail
  refine (weak_any _ _ 4 4 [2, 6, 4, 6] 1 _ (Ints.lit w1 [2, 6, 4, 6] _ _ (by omega) rfl rfl) (by simp) (by omega)).mono ?_
  rintro e w2 ⟨A2, c2, rfl, ho2, hb2⟩
  go_wp2_with fail
  refine (w1_any _ _ 2 2 [20, 9] 1 _ (Ints.lit w2 [20, 9] _ _ (by omega) rfl rfl) (by simp) (by omega)).mono ?_
  rintro e w3 ⟨A3, c3, rfl, ho3, hb3⟩
  go_wp2_with fail
  refine (weak_any _ _ 4 4 [1, 4, 8, 4] 2 _ (Ints.lit w3 [1, 4, 8, 4] _ _ (by omega) rfl rfl) (by simp) (by omega)).mono ?_
  rintro e w4 ⟨A4, c4, rfl, ho4, hb4⟩
  have g1 : ∀ W, Below w4.heap.size w4 W → Ints W w4.heap.size A1 2 c1 [2, 7] := by
    intro W hW
    have s2 := hb2.size; have s3 := hb3.size; have s4 := hb4.size
    simp at s2 s3 s4
    exact (((((((ho1.ints.alloc (Nat.le_refl _) _).to (by first | omega | (simp; omega) | simp) hb2).alloc (by first | omega | (simp; omega)) _).to (by first | omega | (simp; omega)) hb3).alloc (by first | omega | (simp; omega)) _).to (by first | omega | (simp; omega)) hb4).more (by omega)).below hW
  have g2 : ∀ W, Below w4.heap.size w4 W → Ints W w4.heap.size A2 4 c2 [2, 4, 4, 4] := by
    intro W hW
    have s3 := hb3.size; have s4 := hb4.size
    simp at s3 s4
    exact (((((ho2.ints.alloc (Nat.le_refl _) _).to (by first | omega | (simp; omega) | simp) hb3).alloc (by first | omega | (simp; omega)) _).to (by first | omega | (simp; omega)) hb4).more (by omega)).below hW
  have g3 : ∀ W, Below w4.heap.size w4 W → Ints W w4.heap.size A3 2 c3 [20, 14] := by
    intro W hW
    have s4 := hb4.size
    simp at s4
    exact (((ho3.ints.alloc (Nat.le_refl _) _).to (by first | omega | (simp; omega) | simp) hb4).more (by omega)).below hW
  have g4 : ∀ W, Below w4.heap.size w4 W → Ints W w4.heap.size A4 4 c4 [1, 1, 1, 1] := by
    intro W hW
    exact ho4.ints.below hW
  have gb : Below w.heap.size w w4 := by
    have s1 := hb1.size; have s2 := hb2.size; have s3 := hb3.size
    simp at s1 s2 s3
    have e1 := ((Below.refl w.heap.size w).alloc (Nat.le_refl _) _).trans (hb1.mono (by first | omega | (simp; omega) | simp))
    have e2 := (e1.alloc (by omega) _).trans (hb2.mono (by first | omega | (simp; omega)))
    have e3 := (e2.alloc (by omega) _).trans (hb3.mono (by first | omega | (simp; omega)))
    exact (e3.alloc (by omega) _).trans (hb4.mono (by first | omega | (simp; omega)))
  have G1 := Lib.hid g1
  have G2 := Lib.hid g2
  have G3 := Lib.hid g3
  have G4 := Lib.hid g4
  have GB := Lib.hid gb
  clear g1 g2 g3 g4 gb ho1 ho2 ho3 ho4 hb1 hb2 hb3 hb4
  go_wp2_with fail
  refine (numbers_same A1 _ 2 c1 _ 2 _ [2, 7] _ (G1.out _ ((Below.refl _ _).alloc (Nat.le_refl _) _)) (Ints.lit w4 [2, 7] _ _ (by omega) rfl rfl)).mono ?_
  rintro e w5 ⟨rfl, q5, rfl⟩
  go_wp2_with fail
  refine (numbers_same A2 _ 4 c2 w4.heap.size 4 (w4.heap.size + 1 + 1) [2, 4, 4, 4] _ ?_ ?_).mono ?_
  · refine G2.out _ ?_
    repeat (first | exact Below.refl _ _ | refine below_drewN ?_ _ | refine Below.alloc ?_ (by simp <;> omega) _)
  · exact Ints.lit_at _ [2, 4, 4, 4] _ _ (by omega) rfl rfl (by simp)
  rintro e w6 ⟨rfl, q6, rfl⟩
  go_wp2_with fail
  refine (numbers_same A3 _ 2 c3 w4.heap.size 2 (w4.heap.size + 1 + 1 + 1) [20, 14] _ ?_ ?_).mono ?_
  · refine G3.out _ ?_
    repeat (first | exact Below.refl _ _ | refine below_drewN ?_ _ | refine Below.alloc ?_ (by simp <;> omega) _)
  · exact Ints.lit_at _ [20, 14] _ _ (by omega) rfl rfl (by simp)
  rintro e w7 ⟨rfl, q7, rfl⟩
  go_wp2_with fail
  refine (numbers_same A4 _ 4 c4 w4.heap.size 4 (w4.heap.size + 1 + 1 + 1 + 1) [1, 1, 1, 1] _ ?_ ?_).mono ?_
  · refine G4.out _ ?_
    repeat (first | exact Below.refl _ _ | refine below_drewN ?_ _ | refine Below.alloc ?_ (by simp <;> omega) _)
  · exact Ints.lit_at _ [1, 1, 1, 1] _ _ (by omega) rfl rfl (by simp)
  rintro e w8 ⟨rfl, q8, rfl⟩
  go_wp2
  go_ret
  refine ⟨rfl, GB.out.trans (Below.mono (B := w4.heap.size) ?_ GB.out.size)⟩
  repeat (first | exact Below.refl _ _ | refine below_drewN ?_ _ | refine Below.alloc ?_ (by simp <;> omega) _)

end Go.Proofs.Ytnjpngecgeofmaa
