/- The walks of First, the program's and the reference's: the first strong class of a stretch that is in no isolate; nothing that was there turns. Conditions: at most a million classes, the stretch within the list. -/
import Derived.Test.YtojcphfonbdlpaaMatchB
import Derived.Test.YtojcphfonbdlpaaBidiClo
namespace Go.Proofs.Ytojcphfonbdlpaa
open Go.RowKit

/-- What a call leaves that answers a number and turns nothing that was there. -/
def RetNum (w : World) (v : Int) (e : Ending) (w' : World) : Prop := e = .returned (.int .i64 v) ∧ Below w.heap.size w w'

/-- a scan: what is left answers for the whole -/
def Scan (s : List Int) (i : Value) : Prop := ∃ (k : Nat) (pre r : List Int), i = .int .i64 (k : Int) ∧ pre.length = k ∧ s = pre ++ r ∧ Bd.fst 0 r = Bd.fst 0 s

theorem RetNum.of {w w' : World} {v u : Int} (h : v = u) (hb : Below w.heap.size w w') : RetNum w v (.returned (.int .i64 u)) w' := ⟨by rw [h], hb⟩

theorem Ints.cut {w : World} {B b0 of n c a b : Nat} {zs : List Int} (h : Ints w B (some ⟨b0, of, none⟩) n c zs) (hab : a ≤ b) (hbn : b ≤ n) (_hac : a < c) :
    Ints w B (some ⟨b0, of + a, none⟩) (b - a) (c - a) ((zs.drop a).take (b - a)) := by
  refine ⟨by simp [h.1]; omega, by have := h.2.1; omega, by have := h.2.2.1; omega, by simp, fun k x hx => ?_⟩
  rw [List.getElem?_take] at hx
  split at hx
  · rw [List.getElem?_drop] at hx
    obtain ⟨b', o', e, hb, hc⟩ := h.2.2.2.2 (a + k) x hx
    cases e
    exact ⟨b0, of + a, rfl, hb, by rw [Nat.add_assoc]; exact hc⟩
  · cases hx

set_option maxHeartbeats 2000000 in
theorem rfirst_any (B : Nat) (A : Option Addr) (n c : Nat) (zs : List Int) (a b : Nat) (w : World) (h : Ints w B A n c zs) (hB : B ≤ w.heap.size) (hn : n ≤ 1000000) (hab : a ≤ b) (hbn : b ≤ n) :
    Calls Try.prog 40 #[.slice A n c, .int .i64 (a : Int), .int .i64 (b : Int)] w (RetNum w (Bd.fst 0 ((zs.drop a).take (b - a)))) := by
  have hcap := h.cap
  by_cases hlt : a < b
  · obtain ⟨bb, of, x0, rfl, hbb, _, _⟩ := h.at_ (k := a) (by omega)
    have hs := h.cut hab hbn (by omega)
    have hca : ¬ c = a := by omega
    obtain ⟨s, hsd⟩ : ∃ s, s = (zs.drop a).take (b - a) := ⟨_, rfl⟩
    rw [← hsd] at hs ⊢
    clear hsd h
    go_enter Try.func40, Try.ntmps40
    go_wp2_with fail
    refine (rmatch_any B _ _ _ s _ hs hB (by omega)).mono ?_
    rintro e w1 ⟨A1, c1, rfl, ho1, hb1⟩
    have hl := hs.length
    have hsc := hs.cap
    have HI := Lib.hid (hs.below (hb1.mono hB))
    have HM := Lib.hid ho1.ints
    clear hs ho1
    go_wp2_with fail
    go_loop [9] (fun i => Scan s i) (fun i => (b - a) - (intOf i).toNat)
    case atStart => exact ⟨0, [], s, rfl, rfl, rfl, rfl⟩
    case round =>
      obtain ⟨k, pre, r, rfl, hk, hz, hf⟩ := hrel
      rcases r with _ | ⟨x, r⟩
      · have hge : b - a ≤ k := by rw [hz] at hl; simp at hl; omega
        have HF := Lib.hid hf
        clear hl hk hz hf
        go_wp2
        go_ret
        exact RetNum.of (by rw [← HF.out]; rfl) hb1
      · have hlt : k < b - a := by rw [hz] at hl; simp at hl; omega
        obtain ⟨b', o', e, hb', hc⟩ := HI.out.2.2.2.2 k x (by rw [hz, List.getElem?_append_right (by omega)]; simp [hk])
        cases e
        have HF := Lib.hid hf
        have HK := Lib.hid hk
        have HZ := Lib.hid hz
        clear hf
        have ha2 : a ≤ c := by omega
        rcases (show x = 11 ∨ (x = 1 ∨ x = 2 ∨ x = 3) ∨ (x ≠ 11 ∧ x ≠ 1 ∧ x ≠ 2 ∧ x ≠ 3) from by omega) with rfl | hx | ⟨hx11, hx1, hx2, hx3⟩
        · clear hl hk hz
          go_wp2_with fail
          go_ret
          exact RetNum.of (by rw [← HF.out]; simp [Bd.fst]) hb1
        · have hfx : Bd.fst 0 (x :: r) = x := by rcases hx with rfl | rfl | rfl <;> simp [Bd.fst, Bd.opens]
          have HX := Lib.hid hfx
          clear hl hk hz hfx
          rcases hx with rfl | rfl | rfl
          all_goals
            go_wp2_with fail
            go_ret
            exact RetNum.of (by rw [← HF.out, HX.out]) hb1
        · have e11 : (x == 11) = false := by simpa using hx11
          have e1 : (x == 1) = false := by simpa using hx1
          have e2 : (x == 2) = false := by simpa using hx2
          have e3 : (x == 3) = false := by simpa using hx3
          rcases ho : Bd.opens x with _ | _
          · have HO := Lib.hid ho
            clear hl hk hz ho
            go_wp2_with (go_at_call 36; refine (ropens_any x false HO.out _).mono ?_; rintro e w2 ⟨rfl, rfl⟩)
            go_round
            case rel => exact ⟨k + 1, pre ++ [x], r, by go_num, by simp [HK.out], by simp [HZ.out], by rw [← HF.out, Bd.fst, if_neg hx11, if_neg (by rw [HO.out]; decide), if_neg (show ¬(0 = 0 ∧ (x = 1 ∨ x = 2 ∨ x = 3)) from by omega)]; simp⟩
            case measure => simp [intOf]; omega
          · have hm := Bd.mt_at pre r x ho
            rw [← hz, hk] at hm
            obtain ⟨g, gi, e, hg, hcm⟩ := HM.out.2.2.2.2 k _ hm
            cases e
            have HO := Lib.hid ho
            rcases hcl : Bd.clo 0 r with _ | j
            · rw [hcl] at hcm hm
              simp only [Bd.ends] at hcm
              have HC := Lib.hid hcl
              clear hl hk hz ho hm hcl
              go_wp2_with (go_at_call 36; refine (ropens_any x true HO.out _).mono ?_; rintro e w2 ⟨rfl, rfl⟩)
              go_ret
              exact RetNum.of (by rw [← HF.out, Bd.fst, if_neg hx11, if_pos HO.out, Bd.fst_clo, HC.out]) hb1
            · have hj := Bd.clo_lt r 0 j hcl
              rw [hcl] at hcm hm
              simp only [Bd.ends] at hcm
              have hne : ((k + 1 + j : Nat) : Int) ≠ -1 := by omega
              have hnb : ((k : Int) + 1 + j == -1) = false := by rw [beq_eq_false_iff_ne]; omega
              have hkj : k + 1 + j < b - a := by rw [hz] at hl; simp at hl; omega
              have HC := Lib.hid hcl
              have hpc : ((k + 1 + j : Nat) : Int) = (k : Int) + 1 + j := by omega
              rw [hpc] at hcm
              clear hl hk hz ho hm hcl hne hpc
              go_wp2_with (go_at_call 36; refine (ropens_any x true HO.out _).mono ?_; rintro e w2 ⟨rfl, rfl⟩)
              go_round
              case rel =>
                refine ⟨k + 1 + j + 1, pre ++ x :: r.take (j + 1), r.drop (j + 1), by go_num, by simp [HK.out]; omega, by simp [HZ.out], ?_⟩
                rw [← HF.out, Bd.fst, if_neg hx11, if_pos HO.out, Bd.fst_clo, HC.out]
              case measure => simp [intOf]; omega
  · have hge : b ≤ a := by omega
    have : b - a = 0 := by omega
    rw [this]
    clear h
    go_enter Try.func40, Try.ntmps40
    go_wp2
    go_ret
    exact ⟨rfl, Below.refl _ _⟩

end Go.Proofs.Ytojcphfonbdlpaa
