/- The walks of the small helpers of both sides: the isolate initiators, the side, the sign beside. Condition: two lists of one length. -/
import Derived.Test.YtojcphfonbdlpaaSqPlain
import Derived.Test.YtojcphfonbdlpaaRight
import Derived.BigQuiet
namespace Go.Proofs.Ytojcphfonbdlpaa.Sq
open Lv (removed)

def ini (c : Int) : Bool := c == 20 || c == 21 || c == 22
def side (a b : Int) : Int := if (max a b) % 2 = 1 then 2 else 1
/-- the level of the first sign that is not removed -/
def near (base : Int) : List Int → List Int → Int
  | c :: cs, l :: ls => if removed c = true then near base cs ls else l
  | _, _ => base
end Go.Proofs.Ytojcphfonbdlpaa.Sq
namespace Go.Proofs.Ytojcphfonbdlpaa
open Go.RowKit

set_option maxHeartbeats 400000 in
theorem ini_any (c : Int) (b : Bool) (hb : Sq.ini c = b) (w : World) :
    Calls Try.prog 29 #[.int .i64 c] w fun e w' => e = .returned (.bool b) ∧ w = w' := by
  subst hb
  rcases (show c = 20 ∨ c = 21 ∨ c = 22 ∨ (c ≠ 20 ∧ c ≠ 21 ∧ c ≠ 22) from by omega) with rfl | rfl | rfl | ⟨h1, h2, h3⟩
  all_goals try
   (go_enter Try.func29, Try.ntmps29
    go_wp2
    go_ret
    exact ⟨rfl, rfl⟩)
  have e1 : (c == 20) = false := by simpa using h1
  have e2 : (c == 21) = false := by simpa using h2
  have e3 : (c == 22) = false := by simpa using h3
  have hr : Sq.ini c = false := by simp [Sq.ini, h1, h2, h3]
  rw [hr]
  clear hr
  go_enter Try.func29, Try.ntmps29
  go_wp2
  go_ret
  exact ⟨rfl, rfl⟩

set_option maxHeartbeats 400000 in
theorem rini_any (c : Int) (b : Bool) (hb : Sq.ini c = b) (w : World) :
    Calls Try.prog 17 #[.int .i64 c] w fun e w' => e = .returned (.bool b) ∧ w = w' := by
  subst hb
  rcases (show c = 20 ∨ c = 21 ∨ c = 22 ∨ (c ≠ 20 ∧ c ≠ 21 ∧ c ≠ 22) from by omega) with rfl | rfl | rfl | ⟨h1, h2, h3⟩
  all_goals try
   (go_enter Try.func17, Try.ntmps17
    go_wp2
    go_ret
    exact ⟨rfl, rfl⟩)
  have e1 : (c == 20) = false := by simpa using h1
  have e2 : (c == 21) = false := by simpa using h2
  have e3 : (c == 22) = false := by simpa using h3
  have hr : Sq.ini c = false := by simp [Sq.ini, h1, h2, h3]
  rw [hr]
  clear hr
  go_enter Try.func17, Try.ntmps17
  go_wp2
  go_ret
  exact ⟨rfl, rfl⟩

set_option maxHeartbeats 400000 in
theorem side_any (a b : Int) (ha : 0 ≤ a) (hb : 0 ≤ b) (w : World) :
    Calls Try.prog 30 #[.int .i64 a, .int .i64 b] w fun e w' => e = .returned (.int .i64 (Sq.side a b)) ∧ w = w' := by
  by_cases hab : a < b
  · by_cases h1 : b % 2 = 1
    · have hs : Sq.side a b = 2 := by unfold Sq.side; rw [show max a b = b by omega]; rw [if_pos h1]
      have e1 : (b % 2 == 1) = true := by simp; omega
      have e2 : (b % 2 != 0) = true := by simp; omega
      have HS := Lib.hid hs
      clear hs h1
      rw [HS.out]
      go_enter Try.func30, Try.ntmps30
      go_wp2
      all_goals
        go_ret
        exact ⟨rfl, rfl⟩
    · have hs : Sq.side a b = 1 := by unfold Sq.side; rw [show max a b = b by omega]; rw [if_neg h1]
      have e1 : (b % 2 == 1) = false := by simp; omega
      have e2 : (b % 2 != 0) = false := by simp; omega
      have HS := Lib.hid hs
      clear hs h1
      rw [HS.out]
      go_enter Try.func30, Try.ntmps30
      go_wp2
      all_goals
        go_ret
        exact ⟨rfl, rfl⟩
  · by_cases h1 : a % 2 = 1
    · have hs : Sq.side a b = 2 := by unfold Sq.side; rw [show max a b = a by omega]; rw [if_pos h1]
      have e1 : (a % 2 == 1) = true := by simp; omega
      have e2 : (a % 2 != 0) = true := by simp; omega
      have HS := Lib.hid hs
      clear hs h1
      rw [HS.out]
      go_enter Try.func30, Try.ntmps30
      go_wp2
      all_goals
        go_ret
        exact ⟨rfl, rfl⟩
    · have hs : Sq.side a b = 1 := by unfold Sq.side; rw [show max a b = a by omega]; rw [if_neg h1]
      have e1 : (a % 2 == 1) = false := by simp; omega
      have e2 : (a % 2 != 0) = false := by simp; omega
      have HS := Lib.hid hs
      clear hs h1
      rw [HS.out]
      go_enter Try.func30, Try.ntmps30
      go_wp2
      all_goals
        go_ret
        exact ⟨rfl, rfl⟩

set_option maxHeartbeats 400000 in
theorem way_any (a b : Int) (ha : 0 ≤ a) (hb : 0 ≤ b) (w : World) :
    Calls Try.prog 34 #[.int .i64 a, .int .i64 b] w fun e w' => e = .returned (.int .i64 (Sq.side a b)) ∧ w = w' := by
  by_cases hab : a < b
  · by_cases h1 : b % 2 = 1
    · have hs : Sq.side a b = 2 := by unfold Sq.side; rw [show max a b = b by omega]; rw [if_pos h1]
      have e1 : (b % 2 == 1) = true := by simp; omega
      have e2 : (b % 2 != 0) = true := by simp; omega
      have HS := Lib.hid hs
      clear hs h1
      rw [HS.out]
      go_enter Try.func34, Try.ntmps34
      go_wp2
      all_goals
        go_ret
        exact ⟨rfl, rfl⟩
    · have hs : Sq.side a b = 1 := by unfold Sq.side; rw [show max a b = b by omega]; rw [if_neg h1]
      have e1 : (b % 2 == 1) = false := by simp; omega
      have e2 : (b % 2 != 0) = false := by simp; omega
      have HS := Lib.hid hs
      clear hs h1
      rw [HS.out]
      go_enter Try.func34, Try.ntmps34
      go_wp2
      all_goals
        go_ret
        exact ⟨rfl, rfl⟩
  · by_cases h1 : a % 2 = 1
    · have hs : Sq.side a b = 2 := by unfold Sq.side; rw [show max a b = a by omega]; rw [if_pos h1]
      have e1 : (a % 2 == 1) = true := by simp; omega
      have e2 : (a % 2 != 0) = true := by simp; omega
      have HS := Lib.hid hs
      clear hs h1
      rw [HS.out]
      go_enter Try.func34, Try.ntmps34
      go_wp2
      all_goals
        go_ret
        exact ⟨rfl, rfl⟩
    · have hs : Sq.side a b = 1 := by unfold Sq.side; rw [show max a b = a by omega]; rw [if_neg h1]
      have e1 : (a % 2 == 1) = false := by simp; omega
      have e2 : (a % 2 != 0) = false := by simp; omega
      have HS := Lib.hid hs
      clear hs h1
      rw [HS.out]
      go_enter Try.func34, Try.ntmps34
      go_wp2
      all_goals
        go_ret
        exact ⟨rfl, rfl⟩

set_option maxHeartbeats 1000000 in
theorem next_up (B : Nat) (A A2 : Option Addr) (n c c2 t : Nat) (cs ls : List Int) (base : Int) (w : World) (h : Ints w B A n c cs) (h2 : Ints w B A2 n c2 ls) (ht : t < n) :
    Calls Try.prog 31 #[.slice A n c, .slice A2 n c2, .int .i64 (t : Int), .int .i64 1, .int .i64 base] w fun e w' => e = .returned (.int .i64 (Sq.near base (cs.drop (t + 1)) (ls.drop (t + 1)))) ∧ w = w' := by
  have hcap := h.cap
  have hcap2 := h2.cap
  have hl := h.length
  have hl2 := h2.length
  obtain ⟨total, htot⟩ : ∃ v, v = Sq.near base (cs.drop (t + 1)) (ls.drop (t + 1)) := ⟨_, rfl⟩
  rw [← htot]
  have HI := Lib.hid h
  have HI2 := Lib.hid h2
  have HL := Lib.hid hl
  have HL2 := Lib.hid hl2
  have HT0 := Lib.hid htot
  clear h h2 hl hl2 htot
  go_enter Try.func31, Try.ntmps31
  go_wp2_with fail
  go_loop [11] (fun i => ∃ (k : Nat) (pre r plv rlv : List Int), i = .int .i64 (k : Int) ∧ pre.length = k ∧ plv.length = k ∧ cs = pre ++ r ∧ ls = plv ++ rlv ∧ Sq.near base r rlv = total) (fun i => n - (intOf i).toNat)
  case atStart => exact ⟨t + 1, cs.take (t + 1), cs.drop (t + 1), ls.take (t + 1), ls.drop (t + 1), by go_num, by simp [HL.out]; omega, by simp [HL2.out]; omega, by simp, by simp, HT0.out.symm⟩
  case round =>
    obtain ⟨k, pre, r, plv, rlv, rfl, hk, hkl, hz, hzl, htot⟩ := hrel
    have hd0 : decide ((0 : Int) ≤ (k : Int)) = true := by simp
    rcases r with _ | ⟨x, r⟩
    · have hge : n ≤ k := by have := HL.out; rw [hz] at this; simp at this; omega
      have hd : decide ((k : Int) < (n : Int)) = false := by simp; omega
      have hd2 : decide (k < n) = false := by simp; omega
      have HT := Lib.hid htot
      clear hz hzl hk hkl htot
      go_wp2
      go_ret
      exact ⟨by rw [← HT.out]; rfl, rfl⟩
    · rcases rlv with _ | ⟨y, rlv⟩
      · exfalso; have h1 := HL.out; have h2 := HL2.out; rw [hz] at h1; rw [hzl] at h2; simp at h1 h2; omega
      have hlt : k < n := by have := HL.out; rw [hz] at this; simp at this; omega
      have hd : decide ((k : Int) < (n : Int)) = true := by simp; omega
      have hd2 : decide (k < n) = true := by simp; omega
      obtain ⟨b, of, rfl, hbb, hcx⟩ := HI.out.get (k := k) (x := x) (by rw [hz, ← hk]; simp)
      obtain ⟨b2, of2, rfl, hbb2, hcy⟩ := HI2.out.get (k := k) (x := y) (by rw [hzl, ← hkl]; simp)
      have HZ := Lib.hid hz
      have HZL := Lib.hid hzl
      have HK := Lib.hid hk
      have HKL := Lib.hid hkl
      have HT := Lib.hid htot
      clear hz hzl hk hkl htot
      rcases hrm : Lv.removed x with _ | _
      · have HR := Lib.hid hrm
        clear hrm
        go_wp2_with (go_at_call 41; refine (removed_any x false HR.out _).mono ?_; rintro e w3 ⟨rfl, rfl⟩)
        go_ret
        exact ⟨by rw [← HT.out]; simp [Sq.near, HR.out], rfl⟩
      · have HR := Lib.hid hrm
        clear hrm
        go_wp2_with (go_at_call 41; refine (removed_any x true HR.out _).mono ?_; rintro e w3 ⟨rfl, rfl⟩)
        go_round
        case rel => exact ⟨k + 1, pre ++ [x], r, plv ++ [y], rlv, by go_num, by simp [HK.out], by simp [HKL.out], by simp [HZ.out], by simp [HZL.out], by rw [← HT.out]; simp [Sq.near, HR.out]⟩
        case measure => simp [intOf]; omega

set_option maxHeartbeats 1000000 in
theorem next_down (B : Nat) (A A2 : Option Addr) (n c c2 t : Nat) (cs ls : List Int) (base : Int) (w : World) (h : Ints w B A n c cs) (h2 : Ints w B A2 n c2 ls) (ht : t < n) :
    Calls Try.prog 31 #[.slice A n c, .slice A2 n c2, .int .i64 (t : Int), .int .i64 (-1), .int .i64 base] w fun e w' => e = .returned (.int .i64 (Sq.near base (cs.take t).reverse (ls.take t).reverse)) ∧ w = w' := by
  have hcap := h.cap
  have hcap2 := h2.cap
  have hl := h.length
  have hl2 := h2.length
  obtain ⟨total, htot⟩ : ∃ v, v = Sq.near base (cs.take t).reverse (ls.take t).reverse := ⟨_, rfl⟩
  rw [← htot]
  have HI := Lib.hid h
  have HI2 := Lib.hid h2
  have HL := Lib.hid hl
  have HL2 := Lib.hid hl2
  have HT0 := Lib.hid htot
  clear h h2 hl hl2 htot
  go_enter Try.func31, Try.ntmps31
  go_wp2_with fail
  go_loop [11] (fun i => ∃ (z : Int) (k : Nat) (pre r plv rlv : List Int), i = .int .i64 z ∧ z = (k : Int) - 1 ∧ pre.length = k ∧ plv.length = k ∧ cs = pre ++ r ∧ ls = plv ++ rlv ∧ Sq.near base pre.reverse plv.reverse = total) (fun i => (intOf i + 1).toNat)
  case atStart => exact ⟨_, t, cs.take t, cs.drop t, ls.take t, ls.drop t, rfl, by omega, by simp [HL.out]; omega, by simp [HL2.out]; omega, by simp, by simp, HT0.out.symm⟩
  case round =>
    obtain ⟨z, k, pre, r, plv, rlv, rfl, hzk, hk, hkl, hz, hzl, htot⟩ := hrel
    rcases List.eq_nil_or_concat pre with hp | ⟨pre', x, hp⟩
    · have hk0 : k = 0 := by rw [← hk, hp]; rfl
      have hz1 : z = -1 := by omega
      subst hz1
      have hd0 : decide ((0 : Int) ≤ -1) = false := by simp
      have HT := Lib.hid htot
      have HP := Lib.hid hp
      clear hz hzl hk hkl htot hp hk0 hzk
      go_wp2
      go_ret
      exact ⟨by rw [← HT.out, HP.out]; rfl, rfl⟩
    · rw [List.concat_eq_append] at hp
      rcases List.eq_nil_or_concat plv with hq | ⟨plv', y, hq⟩
      · exfalso; rw [hp] at hk; rw [hq] at hkl; simp at hk hkl; omega
      rw [List.concat_eq_append] at hq
      obtain ⟨j, hj⟩ : ∃ j, j = pre'.length := ⟨_, rfl⟩
      have hkj : k = j + 1 := by rw [← hk, hp, hj]; simp
      have hjl : plv'.length = j := by rw [hq] at hkl; simp at hkl; omega
      have hz1 : z = (j : Int) := by omega
      subst hz1
      have hlt : j < n := by have := HL.out; rw [hz, hp] at this; simp at this; omega
      have hd0 : decide ((0 : Int) ≤ (j : Int)) = true := by simp
      have hd : decide ((j : Int) < (n : Int)) = true := by simp; omega
      have hd2 : decide (j < n) = true := by simp; omega
      obtain ⟨b, of, rfl, hbb, hcx⟩ := HI.out.get (k := j) (x := x) (by rw [hz, hp, hj]; simp)
      obtain ⟨b2, of2, rfl, hbb2, hcy⟩ := HI2.out.get (k := j) (x := y) (by rw [hzl, hq, ← hjl]; simp)
      have HZ := Lib.hid hz
      have HZL := Lib.hid hzl
      have HP := Lib.hid hp
      have HQ := Lib.hid hq
      have HJ := Lib.hid hj
      have HJL := Lib.hid hjl
      have HT := Lib.hid htot
      clear hz hzl hk hkl htot hp hq hj hjl hkj hzk
      rcases hrm : Lv.removed x with _ | _
      · have HR := Lib.hid hrm
        clear hrm
        go_wp2_with (go_at_call 41; refine (removed_any x false HR.out _).mono ?_; rintro e w3 ⟨rfl, rfl⟩)
        go_ret
        exact ⟨by rw [← HT.out, HP.out, HQ.out]; simp [Sq.near, HR.out], rfl⟩
      · have HR := Lib.hid hrm
        clear hrm
        go_wp2_with (go_at_call 41; refine (removed_any x true HR.out _).mono ?_; rintro e w3 ⟨rfl, rfl⟩)
        go_round
        case rel => exact ⟨_, j, pre', x :: r, plv', y :: rlv, rfl, by omega, HJ.out.symm, HJL.out, by rw [HZ.out, HP.out]; simp, by rw [HZL.out, HQ.out]; simp, by rw [← HT.out, HP.out, HQ.out]; simp [Sq.near, HR.out]⟩
        case measure => simp [intOf]; omega

set_option maxHeartbeats 1000000 in
theorem beside_up (B : Nat) (A A2 : Option Addr) (n c c2 t : Nat) (cs ls : List Int) (base : Int) (w : World) (h : Ints w B A n c cs) (h2 : Ints w B A2 n c2 ls) (ht : t < n) :
    Calls Try.prog 35 #[.slice A n c, .slice A2 n c2, .int .i64 (t : Int), .int .i64 1, .int .i64 base] w fun e w' => e = .returned (.int .i64 (Sq.near base (cs.drop (t + 1)) (ls.drop (t + 1)))) ∧ w = w' := by
  have hcap := h.cap
  have hcap2 := h2.cap
  have hl := h.length
  have hl2 := h2.length
  obtain ⟨total, htot⟩ : ∃ v, v = Sq.near base (cs.drop (t + 1)) (ls.drop (t + 1)) := ⟨_, rfl⟩
  rw [← htot]
  have HI := Lib.hid h
  have HI2 := Lib.hid h2
  have HL := Lib.hid hl
  have HL2 := Lib.hid hl2
  have HT0 := Lib.hid htot
  clear h h2 hl hl2 htot
  go_enter Try.func35, Try.ntmps35
  go_wp2_with fail
  go_loop [11] (fun i => ∃ (k : Nat) (pre r plv rlv : List Int), i = .int .i64 (k : Int) ∧ pre.length = k ∧ plv.length = k ∧ cs = pre ++ r ∧ ls = plv ++ rlv ∧ Sq.near base r rlv = total) (fun i => n - (intOf i).toNat)
  case atStart => exact ⟨t + 1, cs.take (t + 1), cs.drop (t + 1), ls.take (t + 1), ls.drop (t + 1), by go_num, by simp [HL.out]; omega, by simp [HL2.out]; omega, by simp, by simp, HT0.out.symm⟩
  case round =>
    obtain ⟨k, pre, r, plv, rlv, rfl, hk, hkl, hz, hzl, htot⟩ := hrel
    have hd0 : decide ((0 : Int) ≤ (k : Int)) = true := by simp
    rcases r with _ | ⟨x, r⟩
    · have hge : n ≤ k := by have := HL.out; rw [hz] at this; simp at this; omega
      have hd : decide ((k : Int) < (n : Int)) = false := by simp; omega
      have hd2 : decide (k < n) = false := by simp; omega
      have HT := Lib.hid htot
      clear hz hzl hk hkl htot
      go_wp2
      go_ret
      exact ⟨by rw [← HT.out]; rfl, rfl⟩
    · rcases rlv with _ | ⟨y, rlv⟩
      · exfalso; have h1 := HL.out; have h2 := HL2.out; rw [hz] at h1; rw [hzl] at h2; simp at h1 h2; omega
      have hlt : k < n := by have := HL.out; rw [hz] at this; simp at this; omega
      have hd : decide ((k : Int) < (n : Int)) = true := by simp; omega
      have hd2 : decide (k < n) = true := by simp; omega
      obtain ⟨b, of, rfl, hbb, hcx⟩ := HI.out.get (k := k) (x := x) (by rw [hz, ← hk]; simp)
      obtain ⟨b2, of2, rfl, hbb2, hcy⟩ := HI2.out.get (k := k) (x := y) (by rw [hzl, ← hkl]; simp)
      have HZ := Lib.hid hz
      have HZL := Lib.hid hzl
      have HK := Lib.hid hk
      have HKL := Lib.hid hkl
      have HT := Lib.hid htot
      clear hz hzl hk hkl htot
      rcases hrm : Lv.removed x with _ | _
      · have HR := Lib.hid hrm
        clear hrm
        go_wp2_with (go_at_call 11; refine (rremoved_any x false HR.out _).mono ?_; rintro e w3 ⟨rfl, rfl⟩)
        go_ret
        exact ⟨by rw [← HT.out]; simp [Sq.near, HR.out], rfl⟩
      · have HR := Lib.hid hrm
        clear hrm
        go_wp2_with (go_at_call 11; refine (rremoved_any x true HR.out _).mono ?_; rintro e w3 ⟨rfl, rfl⟩)
        go_round
        case rel => exact ⟨k + 1, pre ++ [x], r, plv ++ [y], rlv, by go_num, by simp [HK.out], by simp [HKL.out], by simp [HZ.out], by simp [HZL.out], by rw [← HT.out]; simp [Sq.near, HR.out]⟩
        case measure => simp [intOf]; omega

set_option maxHeartbeats 1000000 in
theorem beside_down (B : Nat) (A A2 : Option Addr) (n c c2 t : Nat) (cs ls : List Int) (base : Int) (w : World) (h : Ints w B A n c cs) (h2 : Ints w B A2 n c2 ls) (ht : t < n) :
    Calls Try.prog 35 #[.slice A n c, .slice A2 n c2, .int .i64 (t : Int), .int .i64 (-1), .int .i64 base] w fun e w' => e = .returned (.int .i64 (Sq.near base (cs.take t).reverse (ls.take t).reverse)) ∧ w = w' := by
  have hcap := h.cap
  have hcap2 := h2.cap
  have hl := h.length
  have hl2 := h2.length
  obtain ⟨total, htot⟩ : ∃ v, v = Sq.near base (cs.take t).reverse (ls.take t).reverse := ⟨_, rfl⟩
  rw [← htot]
  have HI := Lib.hid h
  have HI2 := Lib.hid h2
  have HL := Lib.hid hl
  have HL2 := Lib.hid hl2
  have HT0 := Lib.hid htot
  clear h h2 hl hl2 htot
  go_enter Try.func35, Try.ntmps35
  go_wp2_with fail
  go_loop [11] (fun i => ∃ (z : Int) (k : Nat) (pre r plv rlv : List Int), i = .int .i64 z ∧ z = (k : Int) - 1 ∧ pre.length = k ∧ plv.length = k ∧ cs = pre ++ r ∧ ls = plv ++ rlv ∧ Sq.near base pre.reverse plv.reverse = total) (fun i => (intOf i + 1).toNat)
  case atStart => exact ⟨_, t, cs.take t, cs.drop t, ls.take t, ls.drop t, rfl, by omega, by simp [HL.out]; omega, by simp [HL2.out]; omega, by simp, by simp, HT0.out.symm⟩
  case round =>
    obtain ⟨z, k, pre, r, plv, rlv, rfl, hzk, hk, hkl, hz, hzl, htot⟩ := hrel
    rcases List.eq_nil_or_concat pre with hp | ⟨pre', x, hp⟩
    · have hk0 : k = 0 := by rw [← hk, hp]; rfl
      have hz1 : z = -1 := by omega
      subst hz1
      have hd0 : decide ((0 : Int) ≤ -1) = false := by simp
      have HT := Lib.hid htot
      have HP := Lib.hid hp
      clear hz hzl hk hkl htot hp hk0 hzk
      go_wp2
      go_ret
      exact ⟨by rw [← HT.out, HP.out]; rfl, rfl⟩
    · rw [List.concat_eq_append] at hp
      rcases List.eq_nil_or_concat plv with hq | ⟨plv', y, hq⟩
      · exfalso; rw [hp] at hk; rw [hq] at hkl; simp at hk hkl; omega
      rw [List.concat_eq_append] at hq
      obtain ⟨j, hj⟩ : ∃ j, j = pre'.length := ⟨_, rfl⟩
      have hkj : k = j + 1 := by rw [← hk, hp, hj]; simp
      have hjl : plv'.length = j := by rw [hq] at hkl; simp at hkl; omega
      have hz1 : z = (j : Int) := by omega
      subst hz1
      have hlt : j < n := by have := HL.out; rw [hz, hp] at this; simp at this; omega
      have hd0 : decide ((0 : Int) ≤ (j : Int)) = true := by simp
      have hd : decide ((j : Int) < (n : Int)) = true := by simp; omega
      have hd2 : decide (j < n) = true := by simp; omega
      obtain ⟨b, of, rfl, hbb, hcx⟩ := HI.out.get (k := j) (x := x) (by rw [hz, hp, hj]; simp)
      obtain ⟨b2, of2, rfl, hbb2, hcy⟩ := HI2.out.get (k := j) (x := y) (by rw [hzl, hq, ← hjl]; simp)
      have HZ := Lib.hid hz
      have HZL := Lib.hid hzl
      have HP := Lib.hid hp
      have HQ := Lib.hid hq
      have HJ := Lib.hid hj
      have HJL := Lib.hid hjl
      have HT := Lib.hid htot
      clear hz hzl hk hkl htot hp hq hj hjl hkj hzk
      rcases hrm : Lv.removed x with _ | _
      · have HR := Lib.hid hrm
        clear hrm
        go_wp2_with (go_at_call 11; refine (rremoved_any x false HR.out _).mono ?_; rintro e w3 ⟨rfl, rfl⟩)
        go_ret
        exact ⟨by rw [← HT.out, HP.out, HQ.out]; simp [Sq.near, HR.out], rfl⟩
      · have HR := Lib.hid hrm
        clear hrm
        go_wp2_with (go_at_call 11; refine (rremoved_any x true HR.out _).mono ?_; rintro e w3 ⟨rfl, rfl⟩)
        go_round
        case rel => exact ⟨_, j, pre', x :: r, plv', y :: rlv, rfl, by omega, HJ.out.symm, HJL.out, by rw [HZ.out, HP.out]; simp, by rw [HZL.out, HQ.out]; simp, by rw [← HT.out, HP.out, HQ.out]; simp [Sq.near, HR.out]⟩
        case measure => simp [intOf]; omega

end Go.Proofs.Ytojcphfonbdlpaa
