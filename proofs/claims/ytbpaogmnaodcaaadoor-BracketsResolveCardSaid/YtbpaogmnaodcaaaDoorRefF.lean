/- The walks of the reference's Canon, strong and found. Condition: the stack is a row of the call's own. -/
import Derived.Test.YtbpaogmnaodcaaaDoorPairD
import Derived.Deep.RegionWith
import Derived.Test.YtbpaogmnaodcaaaDoorPairP
import Derived.Test.YtbpaogmnaodcaaaDoorKeepP
namespace Go.Proofs.YtbpaogmnaodcaaaDoor
open Go.RowKit

set_option maxHeartbeats 400000 in
theorem rcanon_any (r : Int) (w : World) : Calls Tryd.prog 36 #[.int .i32 r] w fun e w' => e = .returned (.int .i32 (canon r)) ∧ w = w' := by
  by_cases h1 : r = 9001
  · subst h1
    go_enter Tryd.func36, Tryd.ntmps36
    go_wp2
    go_ret
    exact ⟨rfl, rfl⟩
  · by_cases h2 : r = 9002
    · subst h2
      go_enter Tryd.func36, Tryd.ntmps36
      go_wp2
      go_ret
      exact ⟨rfl, rfl⟩
    · have d1 : (r == 9001) = false := by simpa using h1
      have d2 : (r == 9002) = false := by simpa using h2
      have hc : canon r = r := by unfold canon; rw [if_neg h1, if_neg h2]
      rw [hc]
      clear hc h1 h2
      go_enter Tryd.func36, Tryd.ntmps36
      go_wp2
      go_ret
      exact ⟨rfl, rfl⟩

set_option maxHeartbeats 400000 in
theorem rstrong_any (c : Int) (w : World) : Calls Tryd.prog 40 #[.int .i64 c] w fun e w' => e = .returned (.int .i64 (dirOf c)) ∧ w = w' := by
  by_cases h1 : c = 1
  · subst h1
    go_enter Tryd.func40, Tryd.ntmps40
    go_wp2
    go_ret
    exact ⟨rfl, rfl⟩
  · by_cases h2 : c = 2
    · subst h2
      go_enter Tryd.func40, Tryd.ntmps40
      go_wp2
      go_ret
      exact ⟨rfl, rfl⟩
    · by_cases h4 : c = 4
      · subst h4
        go_enter Tryd.func40, Tryd.ntmps40
        go_wp2
        go_ret
        exact ⟨rfl, rfl⟩
      · by_cases h7 : c = 7
        · subst h7
          go_enter Tryd.func40, Tryd.ntmps40
          go_wp2
          go_ret
          exact ⟨rfl, rfl⟩
        · have d1 : (c == 1) = false := by simpa using h1
          have d2 : (c == 2) = false := by simpa using h2
          have d4 : (c == 4) = false := by simpa using h4
          have d7 : (c == 7) = false := by simpa using h7
          have hc : dirOf c = 0 := by unfold dirOf; rw [if_neg h1, if_neg (by omega)]
          rw [hc]
          clear hc h1 h2 h4 h7
          go_enter Tryd.func40, Tryd.ntmps40
          go_wp2
          go_ret
          exact ⟨rfl, rfl⟩

/-- the program's stack out of the reference's -/
def stOf (st : List (Int × Int)) : List (Int × Int) := st.map fun p => (canon p.2, p.1)
theorem stOf_append (a b : List (Int × Int)) : stOf (a ++ b) = stOf a ++ stOf b := List.map_append
theorem stOf_take (a : List (Int × Int)) (k : Nat) : stOf (a.take k) = (stOf a).take k := List.map_take
theorem stOf_length (a : List (Int × Int)) : (stOf a).length = a.length := List.length_map ..
theorem stOf_get {a : List (Int × Int)} {k : Nat} {p : Int × Int} (h : a[k]? = some p) : (stOf a).getD k (0, 0) = (canon p.2, p.1) := by
  rw [List.getD_eq_getElem?_getD, stOf, List.getElem?_map, h]; rfl
/-- a place, or none -/
def numOf : Option Nat → Int
  | some k => (k : Int)
  | none => -1

set_option maxRecDepth 100000 in
set_option maxHeartbeats 1000000 in
theorem found_of_any (base : Nat) (A : Option Addr) (n c : Nat) (st : List (Int × Int)) (pa : Int) (w : World) (h : Duo .i64 w base 48 A n c st) :
    Calls Tryd.prog 23 #[.slice A n c, .int .i32 pa] w fun e w' => e = .returned (.int .i64 (numOf (seek (stOf st) (canon pa) n))) ∧ w = w' := by
  have hcap := h.cap
  have HI := Lib.hid h
  have HL := Lib.hid h.1
  obtain ⟨tot, htot⟩ : ∃ z, z = seek (stOf st) (canon pa) n := ⟨_, rfl⟩
  rw [← htot]
  obtain ⟨cn, hcn⟩ : ∃ z, z = canon pa := ⟨_, rfl⟩
  rw [← hcn] at htot
  have HCN := Lib.hid (show ∀ W, Calls Tryd.prog 36 #[.int .i32 pa] W fun e w' => e = .returned (.int .i32 cn) ∧ W = w' from fun W => by rw [hcn]; exact rcanon_any pa W)
  have HT := Lib.hid htot
  clear htot h hcn
  go_enter Tryd.func23, Tryd.ntmps23
  go_wp2_with fail
  go_loop [5] (fun v5 => ∃ (z : Int) (j : Nat), v5 = .int .i64 z ∧ z = (j : Int) - 1 ∧ j ≤ n ∧ seek (stOf st) cn j = tot) (fun v5 => (intOf v5 + 1).toNat)
  case atStart => exact ⟨_, n, rfl, rfl, Nat.le_refl _, HT.out.symm⟩
  case round =>
    obtain ⟨z, j, rfl, hzj, hj, hto⟩ := hrel
    rcases j with _ | j
    · have hz1 : z = -1 := by omega
      subst hz1
      have hd0 : decide ((0 : Int) ≤ -1) = false := by simp
      have hso : none = tot := by rw [← hto]; rfl
      subst hso
      clear hto hzj
      go_wp2_with fail
      go_ret
      exact ⟨rfl, rfl⟩
    · have hz1 : z = (j : Int) := by omega
      subst hz1
      have hjn : j < n := by omega
      obtain ⟨⟨sa, sr⟩, hsj⟩ : ∃ p, st[j]? = some p := ⟨_, List.getElem?_eq_getElem (by rw [HL.out]; omega)⟩
      obtain ⟨_, g5, rfl, hg51, hg52, e1, e2⟩ := HI.out.at_ hsj
      have hgd := stOf_get hsj
      have hd0 : decide ((0 : Int) ≤ (j : Int)) = true := by simp
      rw [seek, hgd] at hto
      simp only at e1 e2 hto
      obtain ⟨cs, hcs⟩ : ∃ z, z = canon sr := ⟨_, rfl⟩
      rw [← hcs] at hto
      have HX := Lib.hid hto
      have HCS := Lib.hid (show ∀ W, Calls Tryd.prog 36 #[.int .i32 sr] W fun e w' => e = .returned (.int .i32 cs) ∧ W = w' from fun W => by rw [hcs]; exact rcanon_any sr W)
      clear hto hgd hsj hzj hcs
      by_cases hdx : cs = cn
      · have d1 : (cs == cn) = true := by simpa using hdx
        rw [if_pos hdx] at HX
        have hto : some j = tot := HX.out
        subst hto
        clear hdx HX
        go_wp2_with (first
          | (go_at_call_of 36 (Value.int .i32 sr); refine (HCS.out _).mono ?_; rintro e w9 ⟨rfl, rfl⟩)
          | (go_at_call_of 36 (Value.int .i32 pa); refine (HCN.out _).mono ?_; rintro e w9 ⟨rfl, rfl⟩))
        go_ret
        exact ⟨rfl, rfl⟩
      · have d1 : (cs == cn) = false := by simpa using hdx
        rw [if_neg hdx] at HX
        clear hdx
        go_wp2_with (first
          | (go_at_call_of 36 (Value.int .i32 sr); refine (HCS.out _).mono ?_; rintro e w9 ⟨rfl, rfl⟩)
          | (go_at_call_of 36 (Value.int .i32 pa); refine (HCN.out _).mono ?_; rintro e w9 ⟨rfl, rfl⟩))
        go_round
        case rel => exact ⟨_, j, rfl, by omega, by omega, HX.out⟩
        case measure => simp [intOf]

end Go.Proofs.YtbpaogmnaodcaaaDoor
