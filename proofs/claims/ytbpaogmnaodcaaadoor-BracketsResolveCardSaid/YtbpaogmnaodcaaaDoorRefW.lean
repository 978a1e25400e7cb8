/- The walk of the reference's way: what a pair becomes. Condition: the directions of the level and of the beginning are 1 or 2. -/
import Derived.Test.YtbpaogmnaodcaaaDoorRefF
import Derived.Test.YtbpaogmnaodcaaaDoorKeepA
namespace Go.Proofs.YtbpaogmnaodcaaaDoor
open Go.RowKit

theorem aheadOf_cases {so : Int} (hso : so = 1 ∨ so = 2) (cs : List Int) : ∀ k, aheadOf so cs k = 1 ∨ aheadOf so cs k = 2
  | 0 => hso
  | k + 1 => by
    rw [aheadOf]
    split
    · exact aheadOf_cases hso cs k
    · rename_i h
      rcases dirOf_cases (cs.getD k 0) with h1 | h1 | h1
      · exact absurd h1 h
      · exact .inl h1
      · exact .inr h1

set_option maxRecDepth 100000 in
set_option maxHeartbeats 4000000 in
theorem way_any (B : Nat) (A : Option Addr) (n c a b : Nat) (cs : List Int) (wy so : Int) (w : World) (h : Ints w B A n c cs) (hB : B ≤ w.heap.size) (hwy : wy = 1 ∨ wy = 2) (hso : so = 1 ∨ so = 2) (hab : a < b) (hbn : b < n) :
    Calls Tryd.prog 30 #[.slice A n c, .agg #[.int .i64 (a : Int), .int .i64 (b : Int)], .int .i64 wy, .int .i64 so] w (RetV w (.int .i64 (insideOf wy so cs a b))) := by
  have hcap := h.cap
  have hbel : Below w.heap.size w (w.alloc (.cells #[.int .i64 (a : Int), .int .i64 (b : Int)] 29)) := (Below.refl _ _).alloc (Nat.le_refl _) _
  obtain ⟨ca, cb⟩ := (cell2_lit w (.int .i64 (a : Int)) (.int .i64 (b : Int)) 29 rfl)
  have HI := Lib.hid (h.below (hbel.mono hB))
  have HL := Lib.hid h.length
  have HW := Lib.hid (And.intro hwy hso)
  obtain ⟨tot, htot⟩ : ∃ z, z = insideOf wy so cs a b := ⟨_, rfl⟩
  rw [← htot]
  obtain ⟨sc, hsc⟩ : ∃ z, z = scan wy 0 ((cs.take b).drop (a + 1)) := ⟨_, rfl⟩
  unfold insideOf at htot
  rw [← hsc] at htot
  have HT := Lib.hid htot
  have hseg : ∀ j, a + 1 ≤ j → j < b → ((cs.take b).drop j) = (cs.getD j 0) :: ((cs.take b).drop (j + 1)) := fun j h1 h2 => by
    have hl := h.length
    have hj : j < (cs.take b).length := by simp; omega
    rw [List.drop_eq_getElem_cons hj, List.getElem_take, List.getD_eq_getElem?_getD, List.getElem?_eq_getElem (by omega)]; rfl
  have HSEG := Lib.hid hseg
  have HSC := Lib.hid hsc
  have HBEL := Lib.hid hbel
  clear h hwy hso htot hsc hseg
  go_enter Tryd.func30, Tryd.ntmps30
  go_wp2_with fail
  generalize w.alloc (.cells #[.int .i64 (a : Int), .int .i64 (b : Int)] 29) = w2 at *
  clear hbel
  go_loop [9, 10] (fun v9 v10 => ∃ (j : Nat) (o : Int), v9 = .bool (o != 0) ∧ v10 = .int .i64 (j : Int) ∧ a + 1 ≤ j ∧ j ≤ b ∧ (o = 0 ∨ (o ≠ wy ∧ (o = 1 ∨ o = 2))) ∧ scan wy o ((cs.take b).drop j) = sc) (fun _ v10 => b - (intOf v10).toNat)
  case atStart => exact ⟨a + 1, 0, rfl, by go_num, Nat.le_refl _, by omega, .inl rfl, HSC.out.symm⟩
  case round =>
    obtain ⟨j, o, rfl, rfl, hj1, hj2, hoo, hsn⟩ := hrel
    have HOO := Lib.hid hoo
    clear hoo
    by_cases hlt : j < b
    · obtain ⟨b6, o6, x, rfl, _, hx, hcx⟩ := HI.out.at_ (k := j) (by omega)
      have hgd : cs.getD j 0 = x := by rw [List.getD_eq_getElem?_getD, hx]; rfl
      rw [HSEG.out j hj1 hlt, scan, hgd] at hsn
      obtain ⟨d, hd⟩ : ∃ d, d = dirOf x := ⟨_, rfl⟩
      rw [← hd] at hsn
      have HS := Lib.hid (show ∀ W, Calls Tryd.prog 40 #[.int .i64 x] W fun e w' => e = .returned (.int .i64 d) ∧ W = w' from fun W => by rw [hd]; exact rstrong_any x W)
      have HD := Lib.hid (show d = 0 ∨ d = 1 ∨ d = 2 by rw [hd]; exact dirOf_cases x)
      have HSN := Lib.hid hsn
      have dlt : decide ((j : Int) < (b : Int)) = true := by simp; omega
      clear hsn hx hgd hd
      by_cases hdw : d = wy
      · subst hdw
        have e1 : (d == d) = true := by simp
        rw [if_pos rfl] at HSN
        rw [← HSN.out] at HT
        clear HSN
        go_wp2_with (go_at_call 40; refine (HS.out _).mono ?_; rintro e w9 ⟨rfl, rfl⟩)
        go_ret
        exact ⟨by rw [HT.out]; rfl, HBEL.out⟩
      · have e1 : (d == wy) = false := by simpa using hdw
        rw [if_neg hdw] at HSN
        by_cases hd0 : d = 0
        · subst hd0
          rw [if_pos rfl] at HSN
          have e2 : ((0 : Int) != 0) = false := by simp
          clear hdw
          go_wp2_with (go_at_call 40; refine (HS.out _).mono ?_; rintro e w9 ⟨rfl, rfl⟩)
          go_round
          case rel => exact ⟨j + 1, o, rfl, by go_num, by omega, by omega, HOO.out, HSN.out⟩
          case measure => simp [intOf]; omega
        · have e2 : (d != 0) = true := by simpa using hd0
          rw [if_neg hd0] at HSN
          have HN := Lib.hid (And.intro hdw hd0)
          clear hdw hd0
          go_wp2_with (go_at_call 40; refine (HS.out _).mono ?_; rintro e w9 ⟨rfl, rfl⟩)
          go_round
          case rel => exact ⟨j + 1, d, by rw [e2], by go_num, by omega, by omega, .inr ⟨HN.out.1, by have := HD.out; have := HN.out.2; omega⟩, HSN.out⟩
          case measure => simp [intOf]; omega
    · have hjb : j = b := by omega
      subst hjb
      have dlt : decide ((j : Int) < (j : Int)) = false := by simp
      have dl2 : ¬ j < j := Nat.lt_irrefl j
      have hdr : (cs.take j).drop j = [] := List.drop_eq_nil_of_le (by simp; omega)
      rw [hdr, scan] at hsn
      rw [← hsn] at HT
      simp only at HT
      clear hsn hdr hlt
      by_cases ho : o = 0
      · subst ho
        rw [if_pos (.inl rfl)] at HT
        have e1 : ((0 : Int) != 0) = false := rfl
        go_wp2_with fail
        go_ret
        exact ⟨by rw [HT.out]; rfl, HBEL.out⟩
      · have e1 : (o != 0) = true := by simpa using ho
        have HO := Lib.hid ho
        clear ho
        go_wp2_with fail
        go_loop [12, 13] (fun v12 v13 => ∃ (i : Nat), v12 = .int .i64 (aheadOf so cs i) ∧ v13 = .int .i64 (i : Int) ∧ i ≤ a) (fun _ v13 => a - (intOf v13).toNat)
        case atStart => exact ⟨0, rfl, rfl, Nat.zero_le _⟩
        case round =>
          obtain ⟨i, rfl, rfl, hi⟩ := hrel
          by_cases hlt2 : i < a
          · obtain ⟨b6, o6, x, rfl, _, hx, hcx⟩ := HI.out.at_ (k := i) (by omega)
            have hgd : cs.getD i 0 = x := by rw [List.getD_eq_getElem?_getD, hx]; rfl
            have hst : aheadOf so cs (i + 1) = if dirOf x = 0 then aheadOf so cs i else dirOf x := by rw [aheadOf, hgd]
            obtain ⟨d, hd⟩ : ∃ d, d = dirOf x := ⟨_, rfl⟩
            rw [← hd] at hst
            have HS := Lib.hid (show ∀ W, Calls Tryd.prog 40 #[.int .i64 x] W fun e w' => e = .returned (.int .i64 d) ∧ W = w' from fun W => by rw [hd]; exact rstrong_any x W)
            have HST := Lib.hid hst
            have dlt2 : decide ((i : Int) < (a : Int)) = true := by simp; omega
            clear hst hx hgd hd
            by_cases hd0 : d = 0
            · subst hd0
              rw [if_pos rfl] at HST
              have e2 : ((0 : Int) != 0) = false := by simp
              go_wp2_with (go_at_call 40; refine (HS.out _).mono ?_; rintro e w9 ⟨rfl, rfl⟩)
              go_round
              case rel => exact ⟨i + 1, by rw [HST.out], by go_num, by omega⟩
              case measure => simp [intOf]; omega
            · have e2 : (d != 0) = true := by simpa using hd0
              rw [if_neg hd0] at HST
              clear hd0
              go_wp2_with (go_at_call 40; refine (HS.out _).mono ?_; rintro e w9 ⟨rfl, rfl⟩)
              go_round
              case rel => exact ⟨i + 1, by rw [HST.out], by go_num, by omega⟩
              case measure => simp [intOf]; omega
          · have hia : i = a := by omega
            subst hia
            have dlt2 : decide ((i : Int) < (i : Int)) = false := by simp
            have dl3 : ¬ i < i := Nat.lt_irrefl i
            obtain ⟨ah, hah⟩ : ∃ z, z = aheadOf so cs i := ⟨_, rfl⟩
            have HC := Lib.hid (show ah = 1 ∨ ah = 2 by rw [hah]; exact aheadOf_cases HW.out.2 cs i)
            rw [← hah] at HT ⊢
            clear hah hlt2
            by_cases haw : ah = wy
            · subst haw
              have e2 : (ah != ah) = false := by simp
              rw [if_neg (by rintro (h | h); exact HO.out h; have := HOO.out; have := HO.out; omega)] at HT
              go_wp2_with fail
              go_ret
              exact ⟨by rw [HT.out]; rfl, HBEL.out⟩
            · have e2 : (ah != wy) = true := by simpa using haw
              rw [if_pos (.inr (by have := HOO.out; have := HO.out; have := HC.out; have := HW.out.1; omega))] at HT
              have hoa : o = ah := by have := HOO.out; have := HO.out; have := HC.out; have := HW.out.1; omega
              have HA := Lib.hid hoa
              clear haw hoa
              go_wp2_with fail
              go_ret
              exact ⟨by rw [HT.out, HA.out]; rfl, HBEL.out⟩

end Go.Proofs.YtbpaogmnaodcaaaDoor
