/- The walks of Removed and right, the program's and the reference's. Conditions: at most a million classes; the sign is an initiator. -/
import Derived.Test.YtojcphfonbdlpaaFirst
import Derived.Test.YtojcphfonbdlpaaLevPlain
import Derived.Test.YtojcphfonbdlpaaRefA
namespace Go.Proofs.Ytojcphfonbdlpaa.Lv
/-- what an initiator's inside runs like -/
def rtc (x : Int) (r : List Int) : Bool := if x = 22 then rt r else x == 21
end Go.Proofs.Ytojcphfonbdlpaa.Lv
namespace Go.Proofs.Ytojcphfonbdlpaa
open Go.RowKit

theorem RetVal.bool {w w' : World} {v u : Bool} (h : v = u) (hb : Below w.heap.size w w') : RetVal w (.bool v) (.returned (.bool u)) w' := ⟨by rw [h], hb⟩

theorem Ints.get {w : World} {B n c : Nat} {A : Option Addr} {zs : List Int} (h : Ints w B A n c zs) {k : Nat} {x : Int} (hx : zs[k]? = some x) : ∃ b o, A = some ⟨b, o, none⟩ ∧ b < B ∧ w.cell? ⟨b, o + k, none⟩ = some (.int .i64 x) :=
  h.2.2.2.2 k x hx

set_option maxHeartbeats 400000 in
theorem removed_any (c : Int) (b : Bool) (hb : Lv.removed c = b) (w : World) :
    Calls Try.prog 41 #[.int .i64 c] w fun e w' => e = .returned (.bool b) ∧ w = w' := by
  subst hb
  rcases (show c = 15 ∨ c = 17 ∨ c = 16 ∨ c = 18 ∨ c = 19 ∨ c = 10 ∨ (c ≠ 15 ∧ c ≠ 17 ∧ c ≠ 16 ∧ c ≠ 18 ∧ c ≠ 19 ∧ c ≠ 10) from by omega) with rfl | rfl | rfl | rfl | rfl | rfl | ⟨h1, h2, h3, h4, h5, h6⟩
  all_goals try
   (go_enter Try.func41, Try.ntmps41
    go_wp2
    go_ret
    exact ⟨rfl, rfl⟩)
  have hs : Lv.removed c = false := by simp [Lv.removed, h1, h2, h3, h4, h5, h6]
  rw [hs]
  have b1 : (c == 15) = false := by simpa using h1
  have b2 : (c == 17) = false := by simpa using h2
  have b3 : (c == 16) = false := by simpa using h3
  have b4 : (c == 18) = false := by simpa using h4
  have b5 : (c == 19) = false := by simpa using h5
  have b6 : (c == 10) = false := by simpa using h6
  clear hs
  go_enter Try.func41, Try.ntmps41
  go_wp2
  go_ret
  exact ⟨rfl, rfl⟩

set_option maxHeartbeats 400000 in
theorem rremoved_any (c : Int) (b : Bool) (hb : Lv.removed c = b) (w : World) :
    Calls Try.prog 11 #[.int .i64 c] w fun e w' => e = .returned (.bool b) ∧ w = w' := by
  subst hb
  rcases (show c = 15 ∨ c = 17 ∨ c = 16 ∨ c = 18 ∨ c = 19 ∨ c = 10 ∨ (c ≠ 15 ∧ c ≠ 17 ∧ c ≠ 16 ∧ c ≠ 18 ∧ c ≠ 19 ∧ c ≠ 10) from by omega) with rfl | rfl | rfl | rfl | rfl | rfl | ⟨h1, h2, h3, h4, h5, h6⟩
  all_goals try
   (go_enter Try.func11, Try.ntmps11
    go_wp2
    go_ret
    exact ⟨rfl, rfl⟩)
  have hs : Lv.removed c = false := by simp [Lv.removed, h1, h2, h3, h4, h5, h6]
  rw [hs]
  have b1 : (c == 15) = false := by simpa using h1
  have b2 : (c == 17) = false := by simpa using h2
  have b3 : (c == 16) = false := by simpa using h3
  have b4 : (c == 18) = false := by simpa using h4
  have b5 : (c == 19) = false := by simpa using h5
  have b6 : (c == 10) = false := by simpa using h6
  clear hs
  go_enter Try.func11, Try.ntmps11
  go_wp2
  go_ret
  exact ⟨rfl, rfl⟩

set_option maxHeartbeats 1000000 in
theorem rright_any (B B2 : Nat) (A A2 : Option Addr) (n c n2 c2 k : Nat) (zs pre r : List Int) (x : Int) (w : World) (hi : Ints w B A n c zs) (hm : Ints w B2 A2 n2 c2 (Bd.mt zs)) (hB : B ≤ w.heap.size) (hn : n ≤ 1000000)
    (hz : zs = pre ++ x :: r) (hk : pre.length = k) (ho : Bd.opens x = true) :
    Calls Try.prog 25 #[.slice A n c, .slice A2 n2 c2, .int .i64 (k : Int)] w (RetVal w (.bool (Lv.rt r))) := by
  have hn2 := hm.length
  rw [Bd.mt_length, hi.length] at hn2
  subst hn2
  have hcap2 := hm.cap
  have hma := Bd.mt_at pre r x ho
  rw [← hz, hk] at hma
  have hcm := (hm.get hma)
  have hcx := (hi.get (k := k) (x := x) (by rw [hz, ← hk]; simp))
  have hln := hi.length
  have hlk : k < n := by rw [hz] at hln; simp at hln; omega
  have hcap := hi.cap
  have hd : zs.drop (k + 1) = r := by
    rw [hz, show pre ++ x :: r = (pre ++ [x]) ++ r by simp, List.drop_append_of_le_length (by simp; omega)]
    simp [hk]
  have hrn : k + 1 + r.length = n := by rw [hz] at hln; simp at hln; omega
  rcases hcl : Bd.clo 0 r with _ | j
  · rw [hcl] at hcm
    obtain ⟨b, of, rfl, hb, hcm⟩ := hcm
    obtain ⟨b2, of2, rfl, hb2, hcx⟩ := hcx
    simp only [Bd.ends] at hcm
    have hfa := Bd.fst_all r 0 hcl
    have HI := Lib.hid hi
    have HD := Lib.hid (And.intro hd hfa)
    clear hma hz hk hln hd hcl hfa hi hm ho
    go_enter Try.func25, Try.ntmps25
    go_wp2_with fail
    rw [show ((k : Int) + 1) = ((k + 1 : Nat) : Int) from by omega]
    refine (rfirst_any B _ n c zs (k + 1) n _ HI.out hB hn (by omega) (Nat.le_refl _)).mono ?_
    rw [HD.out.1, show n - (k + 1) = r.length from by omega, List.take_length, HD.out.2]
    rintro e w1 ⟨rfl, hb1⟩
    rcases (show Bd.fs 0 r = 2 ∨ Bd.fs 0 r = 3 ∨ (Bd.fs 0 r ≠ 2 ∧ Bd.fs 0 r ≠ 3) from by omega) with hv | hv | ⟨hv, hv'⟩
    · have hrt : Lv.rt r = true := by simp [Lv.rt, hv]
      have HRT := Lib.hid hrt
      rw [hv]
      clear hv hrt
      clear hcap
      go_wp2
      go_ret
      exact RetVal.bool HRT.out hb1
    · have hrt : Lv.rt r = true := by simp [Lv.rt, hv]
      have HRT := Lib.hid hrt
      rw [hv]
      clear hv hrt
      clear hcap
      go_wp2
      go_ret
      exact RetVal.bool HRT.out hb1
    · have hrt : Lv.rt r = false := by simp [Lv.rt, hv, hv']
      have HRT := Lib.hid hrt
      have e2 : (Bd.fs 0 r == 2) = false := by simpa using hv
      have e3 : (Bd.fs 0 r == 3) = false := by simpa using hv'
      clear hv hv' hrt
      clear hcap
      go_wp2
      go_ret
      exact RetVal.bool HRT.out hb1
  · rw [hcl] at hcm
    have hj := Bd.clo_lt r 0 j hcl
    obtain ⟨b, of, rfl, hb, hcm⟩ := hcm
    obtain ⟨b2, of2, rfl, hb2, hcx⟩ := hcx
    simp only [Bd.ends] at hcm
    have hne : ((k + 1 + j : Nat) : Int) ≠ -1 := by omega
    have hnb : ((k : Int) + 1 + j == -1) = false := by rw [beq_eq_false_iff_ne]; omega
    have hkj : k + 1 + j < n := by omega
    have hpc : ((k + 1 + j : Nat) : Int) = (k : Int) + 1 + j := by omega
    rw [hpc] at hcm
    have hft := Bd.fst_take r 0 j hcl
    have HI := Lib.hid hi
    have HD := Lib.hid (And.intro hd hft)
    clear hma hz hk hln hd hcl hft hi hm ho hne hpc hrn
    go_enter Try.func25, Try.ntmps25
    go_wp2_with fail
    rw [show ((k : Int) + 1) = ((k + 1 : Nat) : Int) from by omega, show (((k + 1 : Nat) : Int) + (j : Int)) = ((k + 1 + j : Nat) : Int) from by omega]
    refine (rfirst_any B _ n c zs (k + 1) (k + 1 + j) _ HI.out hB hn (by omega) (by omega)).mono ?_
    rw [HD.out.1, show k + 1 + j - (k + 1) = j from by omega, HD.out.2]
    rintro e w1 ⟨rfl, hb1⟩
    rcases (show Bd.fs 0 r = 2 ∨ Bd.fs 0 r = 3 ∨ (Bd.fs 0 r ≠ 2 ∧ Bd.fs 0 r ≠ 3) from by omega) with hv | hv | ⟨hv, hv'⟩
    · have hrt : Lv.rt r = true := by simp [Lv.rt, hv]
      have HRT := Lib.hid hrt
      rw [hv]
      clear hv hrt
      clear hcap
      go_wp2
      go_ret
      exact RetVal.bool HRT.out hb1
    · have hrt : Lv.rt r = true := by simp [Lv.rt, hv]
      have HRT := Lib.hid hrt
      rw [hv]
      clear hv hrt
      clear hcap
      go_wp2
      go_ret
      exact RetVal.bool HRT.out hb1
    · have hrt : Lv.rt r = false := by simp [Lv.rt, hv, hv']
      have HRT := Lib.hid hrt
      have e2 : (Bd.fs 0 r == 2) = false := by simpa using hv
      have e3 : (Bd.fs 0 r == 3) = false := by simpa using hv'
      clear hv hv' hrt
      clear hcap
      go_wp2
      go_ret
      exact RetVal.bool HRT.out hb1


end Go.Proofs.Ytojcphfonbdlpaa
