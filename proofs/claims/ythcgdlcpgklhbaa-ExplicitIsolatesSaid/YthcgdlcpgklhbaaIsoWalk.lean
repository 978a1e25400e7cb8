/- The walks of the law's helpers: a class that may stand within; what is laid. Condition: each list has at most two hundred classes. -/
import Derived.Test.YthcgdlcpgklhbaaExplIso
import Derived.Test.YthcgdlcpgklhbaaExplPlain
namespace Go.Proofs.Ythcgdlcpgklhbaa
open Go.RowKit

set_option maxHeartbeats 400000 in
theorem within_any (x : Int) (w : World) :
    Calls Try.prog 35 #[.int .i64 x] w fun e w' => e = .returned (.int .i64 (Lv.wi x)) ∧ w = w' := by
  have h := Lv.tmod20 x
  by_cases h0 : x.tmod 20 < 0
  · by_cases h9 : -(x.tmod 20) = 11
    · have hp : Lv.wi x = 14 := by unfold Lv.wi; simp only; rw [if_pos h0, if_pos h9]
      have HP := Lib.hid hp
      have he : (-(x.tmod 20) == 11) = true := by simpa using h9
      clear hp
      go_enter Try.func35, Try.ntmps35
      go_wp2
      go_ret
      exact ⟨ret_int HP.out.symm, rfl⟩
    · have hp : Lv.wi x = -(x.tmod 20) := by unfold Lv.wi; simp only; rw [if_pos h0, if_neg h9]
      have HP := Lib.hid hp
      have he : (-(x.tmod 20) == 11) = false := by simpa using h9
      clear hp
      go_enter Try.func35, Try.ntmps35
      go_wp2
      go_ret
      exact ⟨ret_int HP.out.symm, rfl⟩
  · by_cases h9 : x.tmod 20 = 11
    · have hp : Lv.wi x = 14 := by unfold Lv.wi; simp only; rw [if_neg h0, if_pos h9]
      have HP := Lib.hid hp
      have he : (x.tmod 20 == 11) = true := by simpa using h9
      clear hp
      go_enter Try.func35, Try.ntmps35
      go_wp2
      go_ret
      exact ⟨ret_int HP.out.symm, rfl⟩
    · have hp : Lv.wi x = x.tmod 20 := by unfold Lv.wi; simp only; rw [if_neg h0, if_neg h9]
      have HP := Lib.hid hp
      have he : (x.tmod 20 == 11) = false := by simpa using h9
      clear hp
      go_enter Try.func35, Try.ntmps35
      go_wp2
      go_ret
      exact ⟨ret_int HP.out.symm, rfl⟩

/-- Up to a place the inside is laid. -/
def LaidRel (w0 : World) (nx : Nat) (xs us : List Int) (o : Int) (i v : Value) (wr : World) : Prop :=
  ∃ (k : Nat) (pre r : List Int) (A : Option Addr) (c : Nat), i = .int .i64 (k : Int) ∧ v = .slice A (nx + 1 + k) c ∧ pre.length = k ∧ us = pre ++ r ∧
    Own wr w0.heap.size 3 A (nx + 1 + k) c ((xs ++ [o]) ++ pre.map Lv.wi) ∧ Below w0.heap.size w0 wr

set_option maxHeartbeats 2000000 in
theorem laid_any (Ax Au Ay : Option Addr) (nx cx nu cu ny cy : Nat) (xs us ys : List Int) (right : Bool) (w : World) (hx : Ints w w.heap.size Ax nx cx xs) (hu : Ints w w.heap.size Au nu cu us) (hy : Ints w w.heap.size Ay ny cy ys)
    (hnx : nx ≤ 200) (hnu : nu ≤ 200) (hny : ny ≤ 200) :
    Calls Try.prog 13 #[.slice Ax nx cx, .bool right, .slice Au nu cu, .slice Ay ny cy] w (RetOwn 3 w (nx + 1 + nu + 1 + ny) (Lv.laid xs right us ys)) := by
  have hcx := hx.cap
  have hcu := hu.cap
  have hcy := hy.cap
  have hll := hu.length
  have HX := Lib.hid hx
  have HU := Lib.hid hu
  have HY := Lib.hid hy
  clear hx hu hy
  rcases right with _ | _
  · go_enter Try.func13, Try.ntmps13
    go_wp2_with (first
      | (at_builtin; refine wpList_append_ints _ rfl (.tmp 11) (.tmp 12) 22 rfl w.heap.size 3 Try.underlying22 Try.infoInt none 0 0 [] rfl (Own.nil_ _ _ _) w.heap.size Ax nx cx xs rfl (by exact HX.out) (by omega) (by exact Nat.le_refl _) ?_; intro A1 c1 w1 ho1 hg1 _; simp only [Nat.zero_add, List.nil_append] at ho1; have hb1 := below_append (Below.refl _ _) (Nat.le_refl _) hg1 (Own.nil_ _ _ 3) (Nat.le_refl _); have hs1 := hb1.size)
      | (at_builtin; refine wpList_append_ints _ rfl (.tmp 18) (.tmp 19) 22 rfl w.heap.size 3 Try.underlying22 Try.infoInt A1 nx c1 xs rfl (ho1.alloc _) (w1.heap.size + 1) (some ⟨w1.heap.size, 0, none⟩) 1 1 [20] rfl (Ints.lit_at _ [20] _ _ (by omega) rfl rfl (by simp)) (by omega) (by simp; omega) ?_; intro A2 c2 w2 ho2 hg2 _; have hb2 := below_append (hb1.alloc hs1 (.cells #[.int .i64 20] 3)) (by simp; omega) hg2 (ho1.alloc _) (Nat.le_refl _); have hs2 := hb2.size))
    go_loopw [10, 9] (fun i v wr => LaidRel w nx xs us 20 i v wr) (fun i _ _ => nu - (intOf i).toNat)
    case atStart => exact ⟨0, [], us, A2, c2, rfl, rfl, rfl, rfl, by simpa using ho2, hb2⟩
    case round =>
      clear ho1 hg1 hb1 hs1 ho2 hg2 hb2 hs2
      obtain ⟨k, pre, r, A3, c3, rfl, rfl, hk, hz, h3, hb3⟩ := hrel
      have hs3 := hb3.size
      rcases r with _ | ⟨x, r⟩
      · have hge : nu ≤ k := by rw [hz] at hll; simp at hll; omega
        have hle : k ≤ nu := by rw [hz] at hll; simp at hll; omega
        have hke : k = nu := by omega
        have hzp : us = pre := by rw [hz]; simp
        subst hke hzp
        clear hz hk hll hge hle
        have hdk : decide ((k : Int) < (k : Int)) = false := by simp
        go_wp2_with (first
          | (at_builtin; refine wpList_append_ints _ rfl (.tmp 35) (.tmp 36) 22 rfl w.heap.size 3 Try.underlying22 Try.infoInt A3 (nx + 1 + k) c3 ((xs ++ [20]) ++ us.map Lv.wi) rfl (h3.alloc _) (wr.heap.size + 1) (some ⟨wr.heap.size, 0, none⟩) 1 1 [23] rfl (Ints.lit_at _ [23] _ _ (by omega) rfl rfl (by simp)) (by omega) (by simp; omega) ?_; intro A4 c4 w4 ho4 hg4 _; have hb4 := below_append (hb3.alloc hs3 (.cells #[.int .i64 23] 3)) (by simp; omega) hg4 (h3.alloc _) (Nat.le_refl _); have hs4 := hb4.size)
          | (at_builtin; refine wpList_append_ints _ rfl (.tmp 38) (.tmp 39) 22 rfl w.heap.size 3 Try.underlying22 Try.infoInt A4 (nx + 1 + k + 1) c4 (((xs ++ [20]) ++ us.map Lv.wi) ++ [23]) rfl ho4 w.heap.size Ay ny cy ys rfl (HY.out.below hb4) (by omega) (by exact hs4) ?_; intro A5 c5 w5 ho5 hg5 _; have hb5 := below_append hb4 hs4 hg5 ho4 (Nat.le_refl _)))
        go_ret
        exact ⟨A5, c5, rfl, by have := ho5; simpa [Lv.laid] using this, hb5⟩
      · have hlt : k < nu := by rw [hz] at hll; simp at hll; omega
        obtain ⟨b, of, rfl, hbb, hcx2⟩ := (HU.out.below hb3).get (k := k) (x := x) (by rw [hz, ← hk]; simp)
        have HZ := Lib.hid hz
        have HK := Lib.hid hk
        clear hz hk hll
        go_wp2_with (first
          | (go_at_call 35; refine (within_any x _).mono ?_; rintro e w2 ⟨rfl, rfl⟩)
          | (at_builtin; refine wpList_append_ints _ rfl (.tmp 27) (.tmp 33) 22 rfl w.heap.size 3 Try.underlying22 Try.infoInt A3 (nx + 1 + k) c3 ((xs ++ [20]) ++ pre.map Lv.wi) rfl (h3.alloc _) (wr.heap.size + 1) (some ⟨wr.heap.size, 0, none⟩) 1 1 [Lv.wi x] rfl (Ints.lit_at _ [Lv.wi x] _ _ (by omega) rfl rfl (by simp)) (by omega) (by simp; omega) ?_; intro A4 c4 w4 ho4 hg4 _; have hb4 := below_append (hb3.alloc hs3 (.cells #[.int .i64 (Lv.wi x)] 3)) (by simp; omega) hg4 (h3.alloc _) (Nat.le_refl _)))
        go_roundw
        case rel => exact ⟨k + 1, pre ++ [x], r, A4, c4, by go_num, rfl, by simp [HK.out], by simp [HZ.out], by have := ho4; simpa [Nat.add_assoc] using this, hb4⟩
        case measure => simp [intOf]; omega
  · go_enter Try.func13, Try.ntmps13
    go_wp2_with (first
      | (at_builtin; refine wpList_append_ints _ rfl (.tmp 11) (.tmp 12) 22 rfl w.heap.size 3 Try.underlying22 Try.infoInt none 0 0 [] rfl (Own.nil_ _ _ _) w.heap.size Ax nx cx xs rfl (by exact HX.out) (by omega) (by exact Nat.le_refl _) ?_; intro A1 c1 w1 ho1 hg1 _; simp only [Nat.zero_add, List.nil_append] at ho1; have hb1 := below_append (Below.refl _ _) (Nat.le_refl _) hg1 (Own.nil_ _ _ 3) (Nat.le_refl _); have hs1 := hb1.size)
      | (at_builtin; refine wpList_append_ints _ rfl (.tmp 15) (.tmp 16) 22 rfl w.heap.size 3 Try.underlying22 Try.infoInt A1 nx c1 xs rfl (ho1.alloc _) (w1.heap.size + 1) (some ⟨w1.heap.size, 0, none⟩) 1 1 [21] rfl (Ints.lit_at _ [21] _ _ (by omega) rfl rfl (by simp)) (by omega) (by simp; omega) ?_; intro A2 c2 w2 ho2 hg2 _; have hb2 := below_append (hb1.alloc hs1 (.cells #[.int .i64 21] 3)) (by simp; omega) hg2 (ho1.alloc _) (Nat.le_refl _); have hs2 := hb2.size))
    go_loopw [10, 9] (fun i v wr => LaidRel w nx xs us 21 i v wr) (fun i _ _ => nu - (intOf i).toNat)
    case atStart => exact ⟨0, [], us, A2, c2, rfl, rfl, rfl, rfl, by simpa using ho2, hb2⟩
    case round =>
      clear ho1 hg1 hb1 hs1 ho2 hg2 hb2 hs2
      obtain ⟨k, pre, r, A3, c3, rfl, rfl, hk, hz, h3, hb3⟩ := hrel
      have hs3 := hb3.size
      rcases r with _ | ⟨x, r⟩
      · have hge : nu ≤ k := by rw [hz] at hll; simp at hll; omega
        have hle : k ≤ nu := by rw [hz] at hll; simp at hll; omega
        have hke : k = nu := by omega
        have hzp : us = pre := by rw [hz]; simp
        subst hke hzp
        clear hz hk hll hge hle
        have hdk : decide ((k : Int) < (k : Int)) = false := by simp
        go_wp2_with (first
          | (at_builtin; refine wpList_append_ints _ rfl (.tmp 35) (.tmp 36) 22 rfl w.heap.size 3 Try.underlying22 Try.infoInt A3 (nx + 1 + k) c3 ((xs ++ [21]) ++ us.map Lv.wi) rfl (h3.alloc _) (wr.heap.size + 1) (some ⟨wr.heap.size, 0, none⟩) 1 1 [23] rfl (Ints.lit_at _ [23] _ _ (by omega) rfl rfl (by simp)) (by omega) (by simp; omega) ?_; intro A4 c4 w4 ho4 hg4 _; have hb4 := below_append (hb3.alloc hs3 (.cells #[.int .i64 23] 3)) (by simp; omega) hg4 (h3.alloc _) (Nat.le_refl _); have hs4 := hb4.size)
          | (at_builtin; refine wpList_append_ints _ rfl (.tmp 38) (.tmp 39) 22 rfl w.heap.size 3 Try.underlying22 Try.infoInt A4 (nx + 1 + k + 1) c4 (((xs ++ [21]) ++ us.map Lv.wi) ++ [23]) rfl ho4 w.heap.size Ay ny cy ys rfl (HY.out.below hb4) (by omega) (by exact hs4) ?_; intro A5 c5 w5 ho5 hg5 _; have hb5 := below_append hb4 hs4 hg5 ho4 (Nat.le_refl _)))
        go_ret
        exact ⟨A5, c5, rfl, by have := ho5; simpa [Lv.laid] using this, hb5⟩
      · have hlt : k < nu := by rw [hz] at hll; simp at hll; omega
        obtain ⟨b, of, rfl, hbb, hcx2⟩ := (HU.out.below hb3).get (k := k) (x := x) (by rw [hz, ← hk]; simp)
        have HZ := Lib.hid hz
        have HK := Lib.hid hk
        clear hz hk hll
        go_wp2_with (first
          | (go_at_call 35; refine (within_any x _).mono ?_; rintro e w2 ⟨rfl, rfl⟩)
          | (at_builtin; refine wpList_append_ints _ rfl (.tmp 27) (.tmp 33) 22 rfl w.heap.size 3 Try.underlying22 Try.infoInt A3 (nx + 1 + k) c3 ((xs ++ [21]) ++ pre.map Lv.wi) rfl (h3.alloc _) (wr.heap.size + 1) (some ⟨wr.heap.size, 0, none⟩) 1 1 [Lv.wi x] rfl (Ints.lit_at _ [Lv.wi x] _ _ (by omega) rfl rfl (by simp)) (by omega) (by simp; omega) ?_; intro A4 c4 w4 ho4 hg4 _; have hb4 := below_append (hb3.alloc hs3 (.cells #[.int .i64 (Lv.wi x)] 3)) (by simp; omega) hg4 (h3.alloc _) (Nat.le_refl _)))
        go_roundw
        case rel => exact ⟨k + 1, pre ++ [x], r, A4, c4, by go_num, rfl, by simp [HK.out], by simp [HZ.out], by have := ho4; simpa [Nat.add_assoc] using this, hb4⟩
        case measure => simp [intOf]; omega

end Go.Proofs.Ythcgdlcpgklhbaa
