/- The walks of Same, long, Depth (the program's and the reference's). Conditions: at most nine hundred classes; the base is 0 to 125. -/
import Derived.Test.YthcgdlcpgklhbaaMainLev
import Derived.Test.YthcgdlcpgklhbaaRefLev
namespace Go.Proofs.Ythcgdlcpgklhbaa
open Go.RowKit

/-- What a call leaves that answers b and only reads. -/
def Says (b : Bool) (w : World) (e : Ending) (w' : World) : Prop := e = .returned (.bool b) ∧ ∃ k, w' = w.drewN k

set_option maxHeartbeats 1000000 in
theorem same_any (A A2 : Option Addr) (n c B c2 B2 : Nat) (zs : List Int) (w : World) (h : Ints w B A n c zs) (h2 : Ints w B2 A2 n c2 zs) :
    Calls Try.prog 11 #[.slice A n c, .slice A2 n c2] w (Says true w) := by
  have hcap := h.cap
  have hcap2 := h2.cap
  have hnn : ((n : Int) != (n : Int)) = false := by simp
  go_enter Try.func11, Try.ntmps11
  go_wp2_with fail
  go_loopw [5] (fun i wr => ∃ (k q : Nat), i = .int .i64 (k : Int) ∧ k ≤ n ∧ wr = w.drewN q) (fun i _ => n - (intOf i).toNat)
  case atStart => exact ⟨0, 0, rfl, Nat.zero_le _, rfl⟩
  case round =>
    obtain ⟨k, q, rfl, hk, rfl⟩ := hrel
    by_cases hlt : k < n
    · obtain ⟨b, o, x, rfl, hb, hx, hc⟩ := h.at_ hlt
      obtain ⟨b2, o2, x2, rfl, hb2, hx2, hc2⟩ := h2.at_ hlt
      rw [hx] at hx2
      cases hx2
      have hxx : (x != x) = false := by simp
      clear hx h h2
      go_wp2_with fail
      go_quiet (fail)
      go_wp2
      go_roundw
      case rel => exact ⟨k + 1, _, by go_num, by omega, rfl⟩
      case measure => simp [intOf]; omega
    · have hge : n ≤ k := by omega
      go_wp2
      go_ret
      exact ⟨rfl, _, rfl⟩

set_option maxHeartbeats 400000 in
theorem long_any (A : Option Addr) (n c : Nat) (b : Bool) (hb : decide (200 < n) = b) (w : World) :
    Calls Try.prog 8 #[.slice A n c] w fun e w' => e = .returned (.bool b) ∧ w = w' := by
  subst hb
  go_enter Try.func8, Try.ntmps8
  go_wp2
  go_ret
  refine ⟨?_, rfl⟩
  have : decide ((200 : Int) < (n : Int)) = decide (200 < n) := by simp; omega
  first | rfl | (rw [← this]; rfl) | simp

set_option maxHeartbeats 1000000 in
theorem depth_any (B : Nat) (A : Option Addr) (n c : Nat) (zs : List Int) (base : Int) (w : World) (h : Ints w B A n c zs) (hB : B ≤ w.heap.size) (hn : n ≤ 900) (hb0 : 0 ≤ base) (hb1 : base ≤ 125) :
    Calls Try.prog 14 #[.slice A n c, .int .i64 base] w (RetNum w (Lv.depth base zs)) := by
  go_enter Try.func14, Try.ntmps14
  go_wp2_with fail
  refine (levels_any B A n c zs base _ h hB hn hb0 hb1).mono ?_
  rintro e w1 ⟨A1, c1, A2, c2, rfl, h1, h2, hb⟩
  have hi := h1.ints
  have hl := hi.length
  have hc := hi.cap
  have HI := Lib.hid hi
  have HB := Lib.hid hb
  clear h h1 h2 hi hb
  go_wp2_with fail
  go_loop [19, 7] (fun i m => ∃ (k : Nat) (pre r : List Int) (a : Int), i = .int .i64 (k : Int) ∧ m = .int .i64 a ∧ pre.length = k ∧ Lv.levels base zs = pre ++ r ∧ r.foldl max a = Lv.depth base zs) (fun i _ => n - (intOf i).toNat)
  case atStart => exact ⟨0, [], _, base, rfl, rfl, rfl, rfl, rfl⟩
  case round =>
    obtain ⟨k, pre, r, a, rfl, rfl, hk, hz, ha⟩ := hrel
    rcases r with _ | ⟨x, r⟩
    · have hge : n ≤ k := by rw [hz] at hl; simp at hl; omega
      have HA := Lib.hid ha
      clear hl hk hz ha
      go_wp2
      go_ret
      exact RetNum.of (by rw [← HA.out]; rfl) HB.out
    · have hlt : k < n := by rw [hz] at hl; simp at hl; omega
      obtain ⟨b, o, rfl, hbb, hcx⟩ := HI.out.get (k := k) (x := x) (by rw [hz, ← hk]; simp)
      have HA := Lib.hid ha
      have HZ := Lib.hid hz
      have HK := Lib.hid hk
      clear hl hk hz ha
      by_cases hax : a ≤ x
      · go_wp2_with fail
        all_goals
          go_round
          case rel => exact ⟨k + 1, pre ++ [x], r, x, by go_num, by first | rfl | (simp; omega), by simp [HK.out], by simp [HZ.out], by rw [← HA.out, List.foldl_cons, show max a x = x from by omega]⟩
          case measure => simp [intOf]; omega
      · go_wp2_with fail
        all_goals
          go_round
          case rel => exact ⟨k + 1, pre ++ [x], r, a, by go_num, by first | rfl | (simp; omega), by simp [HK.out], by simp [HZ.out], by rw [← HA.out, List.foldl_cons, show max a x = a from by omega]⟩
          case measure => simp [intOf]; omega

set_option maxHeartbeats 1000000 in
theorem rdepth_any (B : Nat) (A : Option Addr) (n c : Nat) (zs : List Int) (base : Int) (w : World) (h : Ints w B A n c zs) (hB : B ≤ w.heap.size) (hn : n ≤ 900) (hb0 : 0 ≤ base) (hb1 : base ≤ 125) :
    Calls Try.prog 15 #[.slice A n c, .int .i64 base] w (RetNum w (Lv.depth base zs)) := by
  go_enter Try.func15, Try.ntmps15
  go_wp2_with fail
  refine (rlevels_any B A n c zs base _ h hB hn hb0 hb1).mono ?_
  rintro e w1 ⟨A1, c1, A2, c2, rfl, h1, h2, hb⟩
  have hi := h1.ints
  have hl := hi.length
  have hc := hi.cap
  have HI := Lib.hid hi
  have HB := Lib.hid hb
  clear h h1 h2 hi hb
  go_wp2_with fail
  go_loop [8, 7] (fun i m => ∃ (k : Nat) (pre r : List Int) (a : Int), i = .int .i64 (k : Int) ∧ m = .int .i64 a ∧ pre.length = k ∧ Lv.levels base zs = pre ++ r ∧ r.foldl max a = Lv.depth base zs) (fun i _ => n - (intOf i).toNat)
  case atStart => exact ⟨0, [], _, base, rfl, rfl, rfl, rfl, rfl⟩
  case round =>
    obtain ⟨k, pre, r, a, rfl, rfl, hk, hz, ha⟩ := hrel
    rcases r with _ | ⟨x, r⟩
    · have hge : n ≤ k := by rw [hz] at hl; simp at hl; omega
      have HA := Lib.hid ha
      clear hl hk hz ha
      go_wp2
      go_ret
      exact RetNum.of (by rw [← HA.out]; rfl) HB.out
    · have hlt : k < n := by rw [hz] at hl; simp at hl; omega
      obtain ⟨b, o, rfl, hbb, hcx⟩ := HI.out.get (k := k) (x := x) (by rw [hz, ← hk]; simp)
      have HA := Lib.hid ha
      have HZ := Lib.hid hz
      have HK := Lib.hid hk
      clear hl hk hz ha
      by_cases hax : a ≤ x
      · go_wp2_with fail
        all_goals
          go_round
          case rel => exact ⟨k + 1, pre ++ [x], r, x, by go_num, by first | rfl | (simp; omega), by simp [HK.out], by simp [HZ.out], by rw [← HA.out, List.foldl_cons, show max a x = x from by omega]⟩
          case measure => simp [intOf]; omega
      · go_wp2_with fail
        all_goals
          go_round
          case rel => exact ⟨k + 1, pre ++ [x], r, a, by go_num, by first | rfl | (simp; omega), by simp [HK.out], by simp [HZ.out], by rw [← HA.out, List.foldl_cons, show max a x = a from by omega]⟩
          case measure => simp [intOf]; omega

end Go.Proofs.Ythcgdlcpgklhbaa
