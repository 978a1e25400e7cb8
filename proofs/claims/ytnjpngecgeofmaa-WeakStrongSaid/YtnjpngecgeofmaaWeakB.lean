/- The walk of W1: it hands back a list of its own, the classes behind W1, and turns nothing that was there. Condition: at most a million classes. -/
import Derived.Test.YtnjpngecgeofmaaWeakA
namespace Go.Proofs.Ytnjpngecgeofmaa
open Go.RowKit

/-- A pass from left to right over a row of the call's own, with one number kept: what is done, and what is left. -/
def Pass (base : Nat) (e : TypeId) (A : Option Addr) (n c : Nat) (w0 : World) (f : Int → List Int → List Int) (total : List Int) (i a : Value) (wr : World) : Prop :=
  ∃ (pre r : List Int) (s : Int), i = .int .i64 (pre.length : Int) ∧ a = .int .i64 s ∧ Own wr base e A n c (pre ++ r) ∧ pre ++ f s r = total ∧ Below base w0 wr

theorem Pass.go {base : Nat} {e : TypeId} {A : Option Addr} {n c : Nat} {w0 wr : World} {f : Int → List Int → List Int} {total pre r : List Int} {y s : Int}
    (h : Own wr base e A n c (pre ++ y :: r)) (ht : pre ++ y :: f s r = total) (hb : Below base w0 wr) : Pass base e A n c w0 f total (.int .i64 ((pre.length : Int) + 1)) (.int .i64 s) wr :=
  ⟨pre ++ [y], r, s, by simp, rfl, by simpa using h, by simpa using ht, hb⟩

set_option maxHeartbeats 1000000 in
theorem w1_any (B : Nat) (A : Option Addr) (n c : Nat) (zs : List Int) (s : Int) (w : World) (h : Ints w B A n c zs) (hB : B ≤ w.heap.size) (hn : n ≤ 1000000) :
    Calls Try.prog 12 #[.slice A n c, .int .i64 s] w (RetOwn 3 w n (Wk.w1 (Wk.start s) zs)) := by
  go_enter Try.func12, Try.ntmps12
  go_wp2_with (first
    | (go_at_call 17; refine (clone_any B A n c zs _ h hB hn).mono ?_; rintro e w1 ⟨A', c', rfl, hown, hbel⟩)
    | (go_at_call 18; refine (start_any s _).mono ?_; rintro e w2 ⟨rfl, rfl⟩))
  have hl := h.length
  clear h
  go_loopw [15, 6] (fun i a wr => Pass w.heap.size 3 A' n c' w Wk.w1 (Wk.w1 (Wk.start s) zs) i a wr) (fun i _ _ => n - (intOf i).toNat)
  case atStart => exact ⟨[], zs, _, rfl, rfl, hown, rfl, hbel⟩
  case round =>
    clear hown hbel
    obtain ⟨pre, r, a, rfl, rfl, hown, htot, hbel⟩ := hrel
    have hlen := hown.length
    rcases r with _ | ⟨x, r⟩
    · have HT := Lib.hid htot
      have HL := Lib.hid hlen
      have hge : n ≤ pre.length := by simp at hlen; omega
      have hle : pre.length ≤ n := by simp at hlen; omega
      clear htot hlen
      go_wp2
      go_ret
      refine ⟨A', c', rfl, ?_, hbel⟩
      have := HT.out
      simp only [Wk.w1, List.append_nil] at this
      rw [← this]
      simpa using hown
    · obtain ⟨hk, g, rfl, hg, hgs, hc, hf⟩ := hown.mid rfl
      have HT := Lib.hid htot
      clear htot hlen hl
      by_cases hx : x = 9
      · subst hx
        rcases hi : Wk.iso a with _ | _
        · go_wp2_with (go_at_call 19; refine (isolate_any a _).mono ?_; rintro e w2 ⟨rfl, rfl⟩)
          go_roundw
          case rel => exact Pass.go (hown.put rfl a) (by have := HT.out; simpa [Wk.w1, Wk.one1, hi] using this) (hbel.setCell hg _)
          case measure => simp [intOf]; omega
        · go_wp2_with (go_at_call 19; refine (isolate_any a _).mono ?_; rintro e w2 ⟨rfl, rfl⟩)
          go_roundw
          case rel => exact Pass.go ((hown.put rfl a).put rfl 14) (by have := HT.out; simpa [Wk.w1, Wk.one1, hi] using this) ((hbel.setCell hg _).setCell hg _)
          case measure => simp [intOf]; omega
      · go_wp2_with fail
        go_roundw
        case rel => exact Pass.go hown (by have := HT.out; simpa [Wk.w1, Wk.one1, hx] using this) hbel
        case measure => simp [intOf]; omega

end Go.Proofs.Ytnjpngecgeofmaa
