/- The walks of the law's level, of matching, and of with: the run that has a place. Condition: at most a million classes (matching). -/
import Derived.Test.YtojcphfonbdlpaaSeqD
namespace Go.Proofs.Ytojcphfonbdlpaa
open Go.RowKit

set_option maxHeartbeats 400000 in
theorem level_any (b : Bool) (w : World) : Calls Try.prog 9 #[.bool b] w fun e w' => e = .returned (.int .i64 (if b then 1 else 0)) ∧ w = w' := by
  rcases b with _ | _
  · go_enter Try.func9, Try.ntmps9
    go_wp2
    go_ret
    exact ⟨rfl, rfl⟩
  · go_enter Try.func9, Try.ntmps9
    go_wp2
    go_ret
    exact ⟨rfl, rfl⟩

set_option maxHeartbeats 400000 in
theorem matching_any (B : Nat) (A : Option Addr) (n c : Nat) (zs : List Int) (w : World) (h : Ints w B A n c zs) (hB : B ≤ w.heap.size) (hn : n ≤ 1000000) :
    Calls Try.prog 28 #[.slice A n c] w (RetOwn 3 w n (Bd.mt zs)) := by
  have HI := Lib.hid h
  clear h
  go_enter Try.func28, Try.ntmps28
  go_wp2_with fail
  refine (match_any B A n c zs _ HI.out hB hn).mono ?_
  rintro e w1 ⟨A1, c1, rfl, ho, hb⟩
  have HO := Lib.hid ho
  clear ho
  go_wp2_with fail
  go_ret
  exact ⟨A1, c1, rfl, HO.out, hb⟩

/-- the first row that has a place -/
def Find (p : Int) (rs : List Rw) : Option Rw := rs.find? fun r => r.zs.contains p
/-- What is handed back: the row's value, or nil. -/
def Found (r : Option Rw) : Value := match r with | some r => .slice (some ⟨r.g, 0, none⟩) r.zs.length r.c | none => .slice none 0 0
theorem ret_found {v : Value} {r : Option Rw} (h : v = Found r) : Ending.returned v = .returned (Found r) := by rw [h]

set_option maxHeartbeats 2000000 in
theorem with_any (base : Nat) (A : Option Addr) (n c : Nat) (rs : List Rw) (p : Int) (w : World) (h : Grid w base 22 3 A n c rs) :
    Calls Try.prog 33 #[.slice A n c, .int .i64 p] w fun e w' => e = .returned (Found (Find p rs)) ∧ w = w' := by
  have hcap := h.cap
  have hl := h.length
  obtain ⟨total, htot⟩ : ∃ v, v = Find p rs := ⟨_, rfl⟩
  rw [← htot]
  have HH := Lib.hid h
  have HL := Lib.hid hl
  have HT0 := Lib.hid htot
  clear h hl htot
  go_enter Try.func33, Try.ntmps33
  go_wp2_with fail
  go_loop [5] (fun i => ∃ (k : Nat) (pre r : List Rw), i = .int .i64 (k : Int) ∧ pre.length = k ∧ rs = pre ++ r ∧ Find p r = total) (fun i => n - (intOf i).toNat)
  case atStart => exact ⟨0, [], rs, rfl, rfl, rfl, HT0.out.symm⟩
  case round =>
    obtain ⟨k, pre, r, rfl, hk, hz, htot⟩ := hrel
    rcases r with _ | ⟨q, r⟩
    · have hge : n ≤ k := by have := HL.out; rw [hz] at this; simp at this; omega
      have HT := Lib.hid htot
      clear hz hk htot
      go_wp2
      go_ret
      exact ⟨ret_found (by rw [← HT.out]; rfl), rfl⟩
    · have hq : rs[k]? = some q := by rw [hz, ← hk]; simp
      obtain ⟨hlt, g, rfl, hg1, hg2, hgc, _⟩ := HH.out.at_ hq
      have hoq := (HH.out.own hq).ints
      have hqc := hoq.cap
      have hql := hoq.length
      have HQ := Lib.hid hoq
      have HQL := Lib.hid hql
      have HZ := Lib.hid hz
      have HK := Lib.hid hk
      have HT := Lib.hid htot
      clear hz hk htot hq hoq hql
      obtain ⟨lq, hlq⟩ : ∃ l, l = q.zs.length := ⟨_, rfl⟩
      rw [← hlq] at hgc hqc
      have HLQ := Lib.hid hlq
      clear hlq
      go_wp2_with fail
      go_loop [6] (fun i => ∃ (j : Nat) (pz rz : List Int), i = .int .i64 (j : Int) ∧ pz.length = j ∧ q.zs = pz ++ rz ∧ pz.contains p = false) (fun i => lq - (intOf i).toNat)
      case atStart => exact ⟨0, [], q.zs, rfl, rfl, rfl, rfl⟩
      case round =>
        obtain ⟨j, pz, rz, rfl, hj, hjz, hnp⟩ := hrel
        rcases rz with _ | ⟨x, rz⟩
        · have hge : lq ≤ j := by rw [HLQ.out, hjz]; simp; omega
          have HJZ := Lib.hid hjz
          have HNP := Lib.hid hnp
          clear hj hjz hnp
          go_wp2
          go_round
          case rel => exact ⟨k + 1, pre ++ [q], r, by go_num, by simp [HK.out], by simp [HZ.out], by
            rw [← HT.out, Find, Find, List.find?_cons_of_neg]
            have h1 := HJZ.out
            have h2 := HNP.out
            rw [h1]; simpa using h2⟩
          case measure => simp [intOf]; omega
        · have hlj : j < lq := by rw [HLQ.out, hjz]; simp; omega
          obtain ⟨b, of, e1, _, hcx⟩ := HQ.out.get (k := j) (x := x) (by rw [hjz, ← hj]; simp)
          cases e1
          simp only [Nat.zero_add] at hcx
          have HJZ := Lib.hid hjz
          have HNP := Lib.hid hnp
          have HJ := Lib.hid hj
          clear hj hjz hnp
          by_cases hxp : x = p
          · subst hxp
            have d1 : (x == x) = true := by simp
            go_wp2
            go_ret
            exact ⟨ret_found (by
              rw [← HT.out, Find, List.find?_cons_of_pos (by rw [HJZ.out]; simp)]
              simp only [Found]
              rw [← HLQ.out]
              rfl), rfl⟩
          · have d1 : (x == p) = false := by simpa using hxp
            have HX := Lib.hid hxp
            clear hxp
            go_wp2
            go_round
            case rel => exact ⟨j + 1, pz ++ [x], rz, by go_num, by simp [HJ.out], by simp [HJZ.out], by
              have h2 := HNP.out
              have h3 := HX.out
              simp at h2 ⊢
              exact ⟨h2, fun e => h3 e.symm⟩⟩
            case measure => simp [intOf]; omega

/-- What a call leaves that answers b and only reads. -/
def Says (b : Bool) (w : World) (e : Ending) (w' : World) : Prop := e = .returned (.bool b) ∧ ∃ k, w' = w.drewN k

set_option maxHeartbeats 1000000 in
theorem ints_any (A A2 : Option Addr) (n c B c2 B2 : Nat) (zs : List Int) (w : World) (h : Ints w B A n c zs) (h2 : Ints w B2 A2 n c2 zs) :
    Calls Try.prog 16 #[.slice A n c, .slice A2 n c2] w (Says true w) := by
  have hcap := h.cap
  have hcap2 := h2.cap
  have hnn : ((n : Int) != (n : Int)) = false := by simp
  go_enter Try.func16, Try.ntmps16
  go_wp2_with fail
  go_loopw [5] (fun i wr => ∃ (k q : Nat), i = .int .i64 (k : Int) ∧ k ≤ n ∧ wr = w.drewN q) (fun i _ => n - (intOf i).toNat)
  case atStart => exact ⟨0, 0, rfl, Nat.zero_le _, rfl⟩
  case round =>
    obtain ⟨k, q, rfl, hk, rfl⟩ := hrel
    by_cases hlt : k < n
    · obtain ⟨b, o, x, rfl, hb, hx, hc⟩ := h.at_ hlt
      obtain ⟨b2, o2, x2, rfl, hb2, hx2, hc2⟩ := h2.at_ hlt
      rw [hx] at hx2
      cases hx2
      have hxx : (x != x) = false := by simp
      clear hx h h2
      go_wp2_with fail
      go_quiet (fail)
      go_wp2
      go_roundw
      case rel => exact ⟨k + 1, _, by go_num, by omega, rfl⟩
      case measure => simp [intOf]; omega
    · have hge : n ≤ k := by omega
      go_wp2
      go_ret
      exact ⟨rfl, _, rfl⟩

end Go.Proofs.Ytojcphfonbdlpaa
