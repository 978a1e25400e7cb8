/- The walks of arabic (W2, W3) and rest (W6, W7), which turn a row of the call's own in place. Condition: at most a million classes. -/
import Derived.Test.YtnjpngecgeofmaaWeakB
namespace Go.Proofs.Ytnjpngecgeofmaa
open Go.RowKit

/-- What a call leaves that turns a row of the caller's own from 'base' on, and nothing below. -/
def Turned (base : Nat) (e3 : TypeId) (A : Option Addr) (n c : Nat) (w : World) (ys : List Int) (e : Ending) (w' : World) : Prop :=
  e = .returned (.tuple #[]) ∧ Own w' base e3 A n c ys ∧ Below base w w'

set_option maxHeartbeats 1000000 in
theorem arabic_any (base : Nat) (A : Option Addr) (n c : Nat) (zs : List Int) (w : World) (h : Own w base 3 A n c zs) (hn : n ≤ 1000000) :
    Calls Try.prog 13 #[.slice A n c] w (Turned base 3 A n c w (Wk.w3 (Wk.w2 0 zs))) := by
  go_enter Try.func13, Try.ntmps13
  go_wp2_with fail
  go_loopw [9, 2] (fun i a wr => Pass base 3 A n c w Wk.w2 (Wk.w2 0 zs) i a wr) (fun i _ _ => n - (intOf i).toNat)
  case atStart => exact ⟨[], zs, 0, rfl, rfl, h, rfl, Below.refl _ _⟩
  case round =>
    clear h
    obtain ⟨pre, r, a, rfl, rfl, hown, htot, hbel⟩ := hrel
    have hlen := hown.length
    rcases r with _ | ⟨x, r⟩
    · have hge : n ≤ pre.length := by simp at hlen; omega
      have hle : pre.length ≤ n := by simp at hlen; omega
      have HT := Lib.hid htot
      clear htot hlen
      go_wp2_with fail
      have hown' : Own wr base 3 A n c (Wk.w2 0 zs) := by
        have := HT.out
        simp only [Wk.w2, List.append_nil] at this
        rw [← this]; simpa using hown
      clear hown hge hle HT
      go_loopw [30] (fun i wr => Pass base 3 A n c w (fun _ r => Wk.w3 r) (Wk.w3 (Wk.w2 0 zs)) i (.int .i64 0) wr) (fun i _ => n - (intOf i).toNat)
      case atStart => exact ⟨[], _, 0, rfl, rfl, hown', rfl, hbel⟩
      case round =>
        clear hown' hbel
        obtain ⟨pre, r, a, rfl, _, hown, htot, hbel⟩ := hrel
        have hlen := hown.length
        rcases r with _ | ⟨x, r⟩
        · have hge : n ≤ pre.length := by simp at hlen; omega
          have hle : pre.length ≤ n := by simp at hlen; omega
          have HT := Lib.hid htot
          clear htot hlen
          go_wp2_with fail
          go_end0
          refine ⟨rfl, ?_, hbel⟩
          have := HT.out
          simp only [Wk.w3, List.map_nil, List.append_nil] at this
          rw [← show _ = Wk.w3 (Wk.w2 0 zs) from this]; simpa using hown
        · obtain ⟨hk, g, rfl, hg, hgs, hc, hf⟩ := hown.mid rfl
          have HT := Lib.hid htot
          clear htot hlen
          by_cases hx : x = 3
          · subst hx
            go_wp2_with fail
            go_roundw
            case rel => exact Pass.go (s := 0) (hown.put rfl 2) (by have := HT.out; simpa [Wk.w3] using this) (hbel.setCell hg _)
            case measure => simp [intOf]; omega
          · go_wp2_with fail
            go_roundw
            case rel => exact Pass.go (s := 0) hown (by have := HT.out; simpa [Wk.w3, hx] using this) hbel
            case measure => simp [intOf]; omega
    · obtain ⟨hk, g, rfl, hg, hgs, hc, hf⟩ := hown.mid rfl
      have HT := Lib.hid htot
      clear htot hlen
      rcases (show (x = 1 ∨ x = 2 ∨ x = 3) ∨ (x = 4 ∧ a = 3) ∨ (x = 4 ∧ a ≠ 3) ∨ (x ≠ 1 ∧ x ≠ 2 ∧ x ≠ 3 ∧ x ≠ 4) from by omega) with h1 | ⟨rfl, rfl⟩ | ⟨rfl, h2⟩ | ⟨h1, h2, h3, h4⟩
      · have hsx : Wk.st2 a x = x := by rcases h1 with rfl | rfl | rfl <;> simp [Wk.st2]
        have hox : Wk.one2 a x = x := by rcases h1 with rfl | rfl | rfl <;> simp [Wk.one2]
        have H1 := Lib.hid hsx
        have H2 := Lib.hid hox
        clear hsx hox
        rcases h1 with rfl | rfl | rfl
        all_goals
          go_wp2_with fail
          go_roundw
          case rel => exact Pass.go hown (by have := HT.out; simp only [Wk.w2] at this; rw [H1.out, H2.out] at this; exact this) hbel
          case measure => simp [intOf]; omega
      · go_wp2_with fail
        go_roundw
        case rel => exact Pass.go (hown.put rfl 7) (by have := HT.out; simpa [Wk.w2, Wk.one2, Wk.st2] using this) (hbel.setCell hg _)
        case measure => simp [intOf]; omega
      · have hb : (a == 3) = false := by simpa using h2
        go_wp2_with fail
        go_roundw
        case rel => exact Pass.go hown (by have := HT.out; simpa [Wk.w2, Wk.one2, Wk.st2, h2] using this) hbel
        case measure => simp [intOf]; omega
      · go_wp2_with fail
        go_roundw
        case rel => exact Pass.go hown (by have := HT.out; simpa [Wk.w2, Wk.one2, Wk.st2, h1, h2, h3, h4] using this) hbel
        case measure => simp [intOf]; omega

set_option maxHeartbeats 1000000 in
theorem rest_any (base : Nat) (A : Option Addr) (n c : Nat) (zs : List Int) (s : Int) (w : World) (h : Own w base 3 A n c zs) (hn : n ≤ 1000000) :
    Calls Try.prog 16 #[.slice A n c, .int .i64 s] w (Turned base 3 A n c w (Wk.w7 (Wk.start s) zs)) := by
  go_enter Try.func16, Try.ntmps16
  go_wp2_with (go_at_call 18; refine (start_any s _).mono ?_; rintro e w2 ⟨rfl, rfl⟩)
  go_loopw [11, 4] (fun i a wr => Pass base 3 A n c w Wk.w7 (Wk.w7 (Wk.start s) zs) i a wr) (fun i _ _ => n - (intOf i).toNat)
  case atStart => exact ⟨[], zs, _, rfl, rfl, h, rfl, Below.refl _ _⟩
  case round =>
    clear h
    obtain ⟨pre, r, a, rfl, rfl, hown, htot, hbel⟩ := hrel
    have hlen := hown.length
    rcases r with _ | ⟨x, r⟩
    · have hge : n ≤ pre.length := by simp at hlen; omega
      have hle : pre.length ≤ n := by simp at hlen; omega
      have HT := Lib.hid htot
      clear htot hlen
      go_wp2_with fail
      go_end0
      refine ⟨rfl, ?_, hbel⟩
      have := HT.out
      simp only [Wk.w7, List.append_nil] at this
      rw [← this]; simpa using hown
    · obtain ⟨hk, g, rfl, hg, hgs, hc, hf⟩ := hown.mid rfl
      have HT := Lib.hid htot
      clear htot hlen
      rcases (show (x = 5 ∨ x = 6 ∨ x = 8) ∨ (x = 1 ∨ x = 2) ∨ (x = 4 ∧ a = 1) ∨ (x = 4 ∧ a ≠ 1) ∨ (x ≠ 5 ∧ x ≠ 6 ∧ x ≠ 8 ∧ x ≠ 1 ∧ x ≠ 2 ∧ x ≠ 4) from by omega) with h1 | h1 | ⟨rfl, rfl⟩ | ⟨rfl, h2⟩ | ⟨h1, h2, h3, h4, h5, h6⟩
      · rcases h1 with rfl | rfl | rfl
        all_goals
          go_wp2_with fail
          go_roundw
          case rel => exact Pass.go (hown.put rfl 14) (by have := HT.out; simpa [Wk.w7, Wk.one7, Wk.st7] using this) (hbel.setCell hg _)
          case measure => simp [intOf]; omega
      · rcases h1 with rfl | rfl
        all_goals
          go_wp2_with fail
          go_roundw
          case rel => exact Pass.go hown (by have := HT.out; simpa [Wk.w7, Wk.one7, Wk.st7] using this) hbel
          case measure => simp [intOf]; omega
      · go_wp2_with fail
        go_roundw
        case rel => exact Pass.go (hown.put rfl 1) (by have := HT.out; simpa [Wk.w7, Wk.one7, Wk.st7] using this) (hbel.setCell hg _)
        case measure => simp [intOf]; omega
      · have hb : (a == 1) = false := by simpa using h2
        go_wp2_with fail
        go_roundw
        case rel => exact Pass.go hown (by have := HT.out; simpa [Wk.w7, Wk.one7, Wk.st7, h2] using this) hbel
        case measure => simp [intOf]; omega
      · go_wp2_with fail
        go_roundw
        case rel => exact Pass.go hown (by have := HT.out; simpa [Wk.w7, Wk.one7, Wk.st7, h1, h2, h3, h4, h5, h6] using this) hbel
        case measure => simp [intOf]; omega

end Go.Proofs.Ytnjpngecgeofmaa
