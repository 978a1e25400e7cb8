/- The walk of W4: it hands back a list of its own, the classes behind W4, and turns nothing that was there. Condition: at most a million classes. -/
import Derived.Test.YtnjpngecgeofmaaWeakC
namespace Go.Proofs.Ytnjpngecgeofmaa
open Go.RowKit

/-- as Pass, over three neighbours: the place is one behind what is done -/
def Pass4 (base : Nat) (e : TypeId) (A : Option Addr) (n c : Nat) (w0 : World) (total : List Int) (i : Value) (wr : World) : Prop :=
  ∃ (pre r : List Int), i = .int .i64 ((pre.length : Int) + 1) ∧ Own wr base e A n c (pre ++ r) ∧ pre ++ Wk.w4 r = total ∧ Below base w0 wr

theorem Pass4.go {base : Nat} {e : TypeId} {A : Option Addr} {n c : Nat} {w0 wr : World} {total pre r : List Int} {a y : Int}
    (h : Own wr base e A n c (pre ++ a :: y :: r)) (ht : pre ++ a :: Wk.w4 (y :: r) = total) (hb : Below base w0 wr) : Pass4 base e A n c w0 total (.int .i64 ((pre.length : Int) + 1 + 1)) wr :=
  ⟨pre ++ [a], y :: r, by simp, by simpa using h, by simpa using ht, hb⟩

theorem w4_step (a x b : Int) (r : List Int) : Wk.w4 (a :: x :: b :: r) = a :: Wk.w4 (Wk.one4 a x b :: b :: r) := rfl
theorem w4_short (r : List Int) (h : r.length ≤ 2) : Wk.w4 r = r := by
  match r, h with
  | [], _ => rfl
  | [_], _ => rfl
  | [_, _], _ => rfl

set_option maxHeartbeats 1000000 in
theorem w4_any (B : Nat) (A : Option Addr) (n c : Nat) (zs : List Int) (w : World) (h : Ints w B A n c zs) (hB : B ≤ w.heap.size) (hn : n ≤ 1000000) :
    Calls Try.prog 15 #[.slice A n c] w (RetOwn 3 w n (Wk.w4 zs)) := by
  go_enter Try.func15, Try.ntmps15
  go_wp2_with (go_at_call 17; refine (clone_any B A n c zs _ h hB hn).mono ?_; rintro e w1 ⟨A', c', rfl, hown, hbel⟩)
  clear h
  go_loopw [4] (fun i wr => Pass4 w.heap.size 3 A' n c' w (Wk.w4 zs) i wr) (fun i _ => n - (intOf i).toNat)
  case atStart => exact ⟨[], zs, rfl, hown, rfl, hbel⟩
  case round =>
    clear hown hbel
    obtain ⟨pre, r, rfl, hown, htot, hbel⟩ := hrel
    have hlen := hown.length
    by_cases hr : r.length ≤ 2
    · have HT := Lib.hid htot
      have hge : n ≤ pre.length + 2 := by simp at hlen; omega
      have hle : pre.length ≤ n := by simp at hlen; omega
      clear htot hlen
      go_wp2
      go_ret
      refine ⟨A', c', rfl, ?_, hbel⟩
      have := HT.out
      rw [w4_short r hr] at this
      rw [← this]
      exact hown
    · obtain ⟨a, x, b, r, rfl⟩ : ∃ a x b r', r = a :: x :: b :: r' := by
        match r, hr with
        | a :: x :: b :: r', _ => exact ⟨a, x, b, r', rfl⟩
        | [], h => simp at h
        | [_], h => simp at h
        | [_, _], h => simp at h
      clear hr
      have h1 : Own wr w.heap.size 3 A' n c' ((pre ++ [a]) ++ x :: b :: r) := by simpa using hown
      have h2 : Own wr w.heap.size 3 A' n c' ((pre ++ [a, x]) ++ b :: r) := by simpa using hown
      obtain ⟨hk, g, rfl, hg, hgs, hc, hf⟩ := hown.mid (k := pre.length) rfl
      obtain ⟨hk1, g1, e1, _, _, hc1, hf1⟩ := h1.mid (k := pre.length + 1) (by simp)
      obtain ⟨hk2, g2, e2, _, _, hc2, hf2⟩ := h2.mid (k := pre.length + 2) (by simp)
      cases e1; cases e2
      rw [w4_step] at htot
      have HT := Lib.hid htot
      clear htot hlen
      have hgo : ∀ (y : Int) (w2 : World), y = Wk.one4 a x b → Own w2 w.heap.size 3 (some ⟨g, 0, none⟩) n c' (pre ++ a :: y :: b :: r) → Below w.heap.size w w2 → Pass4 w.heap.size 3 (some ⟨g, 0, none⟩) n c' w (Wk.w4 zs) (.int .i64 ((pre.length : Int) + 1 + 1)) w2 := by
        rintro y w2 rfl ho hb
        exact Pass4.go ho HT.out hb
      have HG := Lib.hid hgo
      clear hgo hf2 hf HT
      have hput : ∀ y, Own (wr.setCell ⟨g, pre.length + 1, none⟩ (.int .i64 y)) w.heap.size 3 (some ⟨g, 0, none⟩) n c' (pre ++ a :: y :: b :: r) := by
        intro y
        simpa using h1.put (k := pre.length + 1) (by simp) y
      have HP := Lib.hid hput
      clear hput h1 h2
      rcases (show (a ≠ b) ∨ (a = b ∧ x = 5 ∧ a = 4) ∨ (a = b ∧ x = 5 ∧ a ≠ 4) ∨ (a = b ∧ x = 8 ∧ a = 4) ∨ (a = b ∧ x = 8 ∧ a = 7) ∨ (a = b ∧ x = 8 ∧ a ≠ 4 ∧ a ≠ 7) ∨ (a = b ∧ x ≠ 5 ∧ x ≠ 8) from by omega) with
        h1 | ⟨rfl, rfl, rfl⟩ | ⟨rfl, rfl, h1⟩ | ⟨rfl, rfl, rfl⟩ | ⟨rfl, rfl, rfl⟩ | ⟨rfl, rfl, h1, h2⟩ | ⟨rfl, h1, h2⟩
      · have hb : (a != b) = true := by simpa using h1
        go_wp2_with fail
        go_quiet (fail)
        go_wp2
        go_roundw
        case rel => exact HG.out _ _ (by simp [Wk.one4, h1]) (hown.drewN nq) (below_drewN hbel nq)
        case measure => simp [intOf]; omega
      · have hb : ((4 : Int) != 4) = false := by decide
        go_wp2_with fail
        go_quiet (fail)
        go_wp2
        go_roundw
        case rel => exact HG.out _ _ (by simp [Wk.one4]) ((HP.out 4).drewN nq) (below_drewN (hbel.setCell hg _) nq)
        case measure => simp [intOf]; omega
      · have hb : (a != a) = false := by simp
        have hc4 : (a == 4) = false := by simpa using h1
        go_wp2_with fail
        go_quiet (fail)
        go_wp2
        go_roundw
        case rel => exact HG.out _ _ (by simp [Wk.one4, h1]) (hown.drewN nq) (below_drewN hbel nq)
        case measure => simp [intOf]; omega
      · have hb : ((4 : Int) != 4) = false := by decide
        go_wp2_with fail
        go_quiet (fail)
        go_wp2
        go_roundw
        case rel => exact HG.out _ _ (by simp [Wk.one4]) ((HP.out 4).drewN nq) (below_drewN (hbel.setCell hg _) nq)
        case measure => simp [intOf]; omega
      · have hb : ((7 : Int) != 7) = false := by decide
        go_wp2_with fail
        go_quiet (fail)
        go_wp2
        go_roundw
        case rel => exact HG.out _ _ (by simp [Wk.one4]) ((HP.out 7).drewN nq) (below_drewN (hbel.setCell hg _) nq)
        case measure => simp [intOf]; omega
      · have hb : (a != a) = false := by simp
        have hc4 : (a == 4) = false := by simpa using h1
        have hc7 : (a == 7) = false := by simpa using h2
        go_wp2_with fail
        go_quiet (fail)
        go_wp2
        go_roundw
        case rel => exact HG.out _ _ (by simp [Wk.one4, h1, h2]) (hown.drewN nq) (below_drewN hbel nq)
        case measure => simp [intOf]; omega
      · have hb : (a != a) = false := by simp
        have hc4 : (x == 5) = false := by simpa using h1
        have hc7 : (x == 8) = false := by simpa using h2
        go_wp2_with fail
        go_quiet (fail)
        go_wp2
        go_roundw
        case rel => exact HG.out _ _ (by simp [Wk.one4, h1, h2]) (hown.drewN nq) (below_drewN hbel nq)
        case measure => simp [intOf]; omega

end Go.Proofs.Ytnjpngecgeofmaa
