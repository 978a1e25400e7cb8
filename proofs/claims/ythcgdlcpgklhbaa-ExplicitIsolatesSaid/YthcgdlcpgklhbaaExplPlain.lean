/- A class that X1 to X8 leave alone, by any number; what becomes of a list of them; and the walk of plain. No condition. -/
import Derived.Test.YthcgdlcpgklhbaaExplF
namespace Go.Proofs.Ythcgdlcpgklhbaa.Lv

def pl (n : Int) : Int :=
  let m := n.tmod 12
  let m := if m < 0 then -m else m
  if 9 ≤ m then m + 3 else m + 1
theorem tmod12 (n : Int) : -12 < n.tmod 12 ∧ n.tmod 12 < 12 := by
  rcases Int.le_total 0 n with h | h
  · rw [Int.tmod_eq_emod_of_nonneg h]; omega
  · have := Int.neg_tmod (a := -n) (b := 12)
    rw [Int.neg_neg] at this
    rw [this, Int.tmod_eq_emod_of_nonneg (by omega)]
    omega
/-- no class that X1 to X8 speak of -/
def Calm (c : Int) : Prop := removed c = false ∧ c ≠ 20 ∧ c ≠ 21 ∧ c ≠ 22 ∧ c ≠ 23 ∧ c ≠ 11
theorem pl_calm (n : Int) : Calm (pl n) := by
  have h := tmod12 n
  have hr : (1 ≤ pl n ∧ pl n ≤ 9) ∨ (12 ≤ pl n ∧ pl n ≤ 14) := by
    unfold pl
    simp only
    split <;> split <;> omega
  refine ⟨?_, by omega, by omega, by omega, by omega, by omega⟩
  unfold removed
  simp
  omega
theorem lev_calm (base : Int) : ∀ (l : List Int) (was : Int), (∀ c ∈ l, Calm c) → lev base (begin0 base) was l = l.map fun c => ⟨base, c⟩
  | [], _, _ => rfl
  | c :: r, was, h => by
    obtain ⟨h1, h2, h3, h4, h5, h6⟩ := h c (by simp)
    have hs : step base (begin0 base) was c r = (⟨base, c⟩, begin0 base) := by
      unfold step
      rw [if_neg (by simp [h1]), if_neg (by omega), if_neg h4, if_neg h5, if_neg h6]
      rfl
    simp only [lev, hs, List.map_cons, lev_calm base r base (fun c hc => h c (by simp [hc]))]
theorem levels_calm (base : Int) (l : List Int) (h : ∀ c ∈ l, Calm c) : levels base l = List.replicate l.length base := by
  unfold levels
  rw [lev_calm base l base h]
  simp [List.map_map, Function.comp_def, List.map_const']
theorem classes_calm (base : Int) (l : List Int) (h : ∀ c ∈ l, Calm c) : classes base l = l := by
  unfold classes
  rw [lev_calm base l base h]
  simp [List.map_map, Function.comp_def]
theorem foldl_max_rep (base : Int) : ∀ (n : Nat), (List.replicate n base).foldl max base = base
  | 0 => rfl
  | n + 1 => by rw [List.replicate_succ, List.foldl_cons, Int.max_self, foldl_max_rep base n]
theorem depth_calm (base : Int) (l : List Int) (h : ∀ c ∈ l, Calm c) : depth base l = base := by
  rw [depth, levels_calm base l h, foldl_max_rep]

end Go.Proofs.Ythcgdlcpgklhbaa.Lv
namespace Go.Proofs.Ythcgdlcpgklhbaa
open Go.RowKit

theorem ret_int {k : IntKind} {a b : Int} (h : a = b) : Ending.returned (.int k a) = .returned (.int k b) := by rw [h]

set_option maxHeartbeats 400000 in
theorem plain_any (x : Int) (w : World) :
    Calls Try.prog 17 #[.int .i64 x] w fun e w' => e = .returned (.int .i64 (Lv.pl x)) ∧ w = w' := by
  have h := Lv.tmod12 x
  by_cases h0 : x.tmod 12 < 0
  · by_cases h9 : 9 ≤ -(x.tmod 12)
    · have hp : Lv.pl x = -(x.tmod 12) + 3 := by unfold Lv.pl; simp only; rw [if_pos h0, if_pos h9]
      have HP := Lib.hid hp
      clear hp
      go_enter Try.func17, Try.ntmps17
      go_wp2
      go_ret
      exact ⟨ret_int HP.out.symm, rfl⟩
    · have hp : Lv.pl x = -(x.tmod 12) + 1 := by unfold Lv.pl; simp only; rw [if_pos h0, if_neg h9]
      have HP := Lib.hid hp
      clear hp
      go_enter Try.func17, Try.ntmps17
      go_wp2
      go_ret
      exact ⟨ret_int HP.out.symm, rfl⟩
  · by_cases h9 : 9 ≤ x.tmod 12
    · have hp : Lv.pl x = x.tmod 12 + 3 := by unfold Lv.pl; simp only; rw [if_neg h0, if_pos h9]
      have HP := Lib.hid hp
      clear hp
      go_enter Try.func17, Try.ntmps17
      go_wp2
      go_ret
      exact ⟨ret_int HP.out.symm, rfl⟩
    · have hp : Lv.pl x = x.tmod 12 + 1 := by unfold Lv.pl; simp only; rw [if_neg h0, if_neg h9]
      have HP := Lib.hid hp
      clear hp
      go_enter Try.func17, Try.ntmps17
      go_wp2
      go_ret
      exact ⟨ret_int HP.out.symm, rfl⟩

end Go.Proofs.Ythcgdlcpgklhbaa
