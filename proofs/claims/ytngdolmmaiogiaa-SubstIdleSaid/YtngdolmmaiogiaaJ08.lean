/- Joined: LigA LigB. -/
import Derived.Test.YtngdolmmaiogiaaJ07
import Derived.Deep.RegionHeld3
import Derived.Deep.RegionHeldLaw
import Derived.BigRegion
import Derived.OwnWalk

/- The walk of liga.Parts. Condition: the lookup reads as plain data. Printed by wip/tools. -/
namespace Go.Proofs.Ytngdolmmaiogiaa
open Go.RowKit

set_option maxRecDepth 100000 in
set_option maxHeartbeats 1000000 in
theorem cloneO_any (B : Nat) (A : Option Addr) (n c : Nat) (zs : List Int) (w : World) (h : Ints w B A n c zs) (hB : B ≤ w.heap.size) (hn : n ≤ 1000000) :
    Calls Try.prog 73 #[.slice A n c] w (RetOwn 3 w zs.length zs) := by
  have hl := h.length
  have HI := Lib.hid h
  have HL := Lib.hid hl
  by_cases hnil : A = none
  · subst hnil
    obtain ⟨rfl, rfl⟩ := h.2.2.2.1 rfl
    obtain rfl : zs = [] := List.eq_nil_of_length_eq_zero hl
    clear h hl
    have he : ∀ w : World, (binOp .eql 51 (.slice none 0 0) (.slice none 0 0)).run Try.prog w = .ok (.bool true) w := fun _ => rfl
    go_enter Try.func73, Try.ntmps73
    go_wp2_with fail
    go_ret
    exact ⟨none, 0, rfl, Own.nil_ _ _ _, Below.refl _ _⟩
  · obtain ⟨a, rfl⟩ : ∃ a, A = some a := by cases A with | none => exact absurd rfl hnil | some a => exact ⟨a, rfl⟩
    clear h hl hnil
    have he : ∀ w : World, (binOp .eql 51 (.slice (some a) n c) (.slice none 0 0)).run Try.prog w = .ok (.bool false) w := fun _ => rfl
    go_enter Try.func73, Try.ntmps73
    go_wp2_with (first
      | (at_builtin; refine wpList_append_ints _ rfl (.tmp 5) (.tmp 6) 51 rfl w.heap.size 3 Try.underlying51 infoInt (some ⟨w.heap.size, 0, none⟩) 0 0 [] rfl (Own.lit w [] _ _ (Nat.le_refl _) (by unfold maxLen; omega) rfl rfl) B (some a) n c zs rfl (HI.out.below ((Below.refl _ _).alloc hB _)) (by omega) (by simp) ?_; intro A3 c3 w3 ho3 hg3 _))
    have hb3 : Below w.heap.size w w3 := below_append ((Below.refl _ _).alloc (Nat.le_refl _) _) (by simp) hg3 (Own.lit w [] _ _ (Nat.le_refl _) (by unfold maxLen; omega) rfl rfl) (Nat.le_refl _)
    go_ret
    have hi := ho3
    rw [Nat.zero_add, List.nil_append, ← HL.out] at hi
    exact ⟨A3, c3, by rw [HL.out]; rfl, hi, hb3⟩

set_option maxRecDepth 100000 in
set_option maxHeartbeats 4000000 in
theorem parts_any (B : Nat) (l : Lk) (su : List PSu) (g : Int) (w : World) (hK : KsR w B l.su.A l.su.n l.su.c su) (hsm : ∀ s ∈ su, ∀ r ∈ s.li, r.length ≤ 100000 ∧ ∀ p ∈ r, p.1.length ≤ 1000) (hB : B ≤ w.heap.size) :
    Calls Try.prog 77 #[.agg #[.int .i64 l.ki, .int .i64 l.fl, .int .i64 l.se, .slice l.su.A l.su.n l.su.c], .int .i64 g] w (RetLigs w (partB su g)) := by
  have HKS := Lib.hid hK
  have HSM := Lib.hid hsm
  have hcaps := SlR.cap hK
  have hlens := SlR.length hK
  clear hK hsm
  obtain ⟨w1, hw_w1⟩ : ∃ z, z = w.alloc (.cells #[.int .i64 l.ki, .int .i64 l.fl, .int .i64 l.se, .slice l.su.A l.su.n l.su.c] 36) := ⟨_, rfl⟩
  have hs_w1 : w1.heap.size = w.heap.size + 1 := by rw [hw_w1]; simp
  have hb_w1 : Below w.heap.size w w1 := by rw [hw_w1]; exact (Below.refl _ _).alloc (Nat.le_refl _) _
  have hx_0 : w1.heap[w.heap.size]? = some (.cells #[.int .i64 l.ki, .int .i64 l.fl, .int .i64 l.se, .slice l.su.A l.su.n l.su.c] 36 (0, 0)) := by rw [hw_w1]; exact heap_alloc_new _ _
  have h0 := up_fact (show w1.cell? ⟨w.heap.size, 0, none⟩ = some (.int .i64 l.ki) by rw [cell_of_row _ _ 0 _ _ _ hx_0]; rfl)
  have h1 := up_fact (show w1.cell? ⟨w.heap.size, 1, none⟩ = some (.int .i64 l.fl) by rw [cell_of_row _ _ 1 _ _ _ hx_0]; rfl)
  have h2 := up_fact (show w1.cell? ⟨w.heap.size, 2, none⟩ = some (.int .i64 l.se) by rw [cell_of_row _ _ 2 _ _ _ hx_0]; rfl)
  have h3 := up_fact (show w1.cell? ⟨w.heap.size, 3, none⟩ = some (.slice l.su.A l.su.n l.su.c) by rw [cell_of_row _ _ 3 _ _ _ hx_0]; rfl)
  have hA0 := Below.refl w1.heap.size w1
  have HS1 := Lib.hid hs_w1
  have hs1 : w.heap.size + 0 < w1.heap.size := by omega
  have HB1 := Lib.hid hb_w1
  have HW_w1 := Lib.hid hw_w1
  clear hw_w1 hs_w1 hb_w1
  clear hx_0
  have HB := Lib.hid hB
  have HBW := Lib.hid (HB1.out.mono hB)
  have HKS1 := Lib.hid (KsR.below HKS.out HBW.out)
  obtain ⟨tot, htot⟩ : ∃ z, z = partB su g := ⟨_, rfl⟩
  rw [← htot]
  have HTOT := Lib.hid htot
  clear htot
  go_enter Try.func77, Try.ntmps77
  go_upto_region 1 with fail
  rw [← HW_w1.out]
  go_wp2_with fail
  go_loopw [15] (fun v wr => ∃ j : Nat, v = .int .i64 (j : Int) ∧ j ≤ l.su.n ∧ tot = partB (su.drop j) g ∧ Below w1.heap.size w1 wr) (fun v _ => l.su.n - (intOf v).toNat)
  case atStart => exact ⟨0, rfl, Nat.zero_le _, HTOT.out, hA0⟩
  case round =>
    clear hA0
    obtain ⟨j, rfl, hj, htr, hA⟩ := hrel
    have HTR := Lib.hid htr
    clear htr
    by_cases hlt : j < l.su.n
    · have z9 : decide ((j : Int) < (l.su.n : Int)) = true := by simp; omega
      obtain ⟨q, b, o, cs, hq, eA, hbb, hc, s, rfl, hs⟩ := SlR.at_ HKS1.out hlt
      have HQ := Lib.hid hq
      have HS := Lib.hid hs
      have HEA := Lib.hid eA
      have y0 := up_fact (show w1.cell? ⟨b, o + j * 12, none⟩ = _ from hc 0 _ rfl)
      have y1 := up_fact (hc 1 _ rfl)
      have y2 := up_fact (hc 2 _ rfl)
      have y3 := up_fact (hc 3 _ rfl)
      have y4 := up_fact (hc 4 _ rfl)
      have y5 := up_fact (hc 5 _ rfl)
      have y6 := up_fact (hc 6 _ rfl)
      have y7 := up_fact (hc 7 _ rfl)
      have y8 := up_fact (hc 8 _ rfl)
      have y9 := up_fact (hc 9 _ rfl)
      have y10 := up_fact (hc 10 _ rfl)
      have y11 := up_fact (hc 11 _ rfl)
      have hcli := SlR.cap hs.li
      have hlli := SlR.length hs.li
      have hcco := hs.co.cap
      have hsq := HSM.out q (List.mem_of_getElem? hq)
      have HSQ := Lib.hid hsq
      clear hq hs eA hc hsq
      rw [HEA.out] at h3 ⊢
      go_upto_region 4 with fail
      obtain ⟨w3, hw3⟩ : ∃ z, z = wr.alloc (.cells #[.slice s.co.A s.co.n s.co.c, .slice s.tt.A s.tt.n s.tt.c, .slice s.li.A s.li.n s.li.c, .slice s.ba.A s.ba.n s.ba.c, .slice s.inn.A s.inn.n s.inn.c, .slice s.ah.A s.ah.n s.ah.c, .slice s.ne.A s.ne.n s.ne.c, .slice s.va.A s.va.n s.va.c, .slice s.pr.A s.pr.n s.pr.c, .slice s.cu.A s.cu.n s.cu.c, .slice s.ma.A s.ma.n s.ma.c, .slice s.ho.A s.ho.n s.ho.c] 60) := ⟨_, rfl⟩
      obtain ⟨bx, hbx⟩ : ∃ z, z = wr.heap.size := ⟨_, rfl⟩
      rw [← hw3, ← hbx]
      have hA3 := (show Below w1.heap.size w1 w3 by rw [hw3]; exact hA.alloc hA.size _)
      have hX : w3.heap[bx]? = some (.cells #[.slice s.co.A s.co.n s.co.c, .slice s.tt.A s.tt.n s.tt.c, .slice s.li.A s.li.n s.li.c, .slice s.ba.A s.ba.n s.ba.c, .slice s.inn.A s.inn.n s.inn.c, .slice s.ah.A s.ah.n s.ah.c, .slice s.ne.A s.ne.n s.ne.c, .slice s.va.A s.va.n s.va.c, .slice s.pr.A s.pr.n s.pr.c, .slice s.cu.A s.cu.n s.cu.c, .slice s.ma.A s.ma.n s.ma.c, .slice s.ho.A s.ho.n s.ho.c] 60 (0, 0)) := by rw [hw3, hbx]; exact heap_alloc_new _ _
      have xf0 := up_fact (show w3.cell? ⟨bx, 0, none⟩ = some (.slice s.co.A s.co.n s.co.c) by rw [cell_of_row _ _ 0 _ _ _ hX]; rfl)
      have xf1 := up_fact (show w3.cell? ⟨bx, 1, none⟩ = some (.slice s.tt.A s.tt.n s.tt.c) by rw [cell_of_row _ _ 1 _ _ _ hX]; rfl)
      have xf2 := up_fact (show w3.cell? ⟨bx, 2, none⟩ = some (.slice s.li.A s.li.n s.li.c) by rw [cell_of_row _ _ 2 _ _ _ hX]; rfl)
      have xf3 := up_fact (show w3.cell? ⟨bx, 3, none⟩ = some (.slice s.ba.A s.ba.n s.ba.c) by rw [cell_of_row _ _ 3 _ _ _ hX]; rfl)
      have xf4 := up_fact (show w3.cell? ⟨bx, 4, none⟩ = some (.slice s.inn.A s.inn.n s.inn.c) by rw [cell_of_row _ _ 4 _ _ _ hX]; rfl)
      have xf5 := up_fact (show w3.cell? ⟨bx, 5, none⟩ = some (.slice s.ah.A s.ah.n s.ah.c) by rw [cell_of_row _ _ 5 _ _ _ hX]; rfl)
      have xf6 := up_fact (show w3.cell? ⟨bx, 6, none⟩ = some (.slice s.ne.A s.ne.n s.ne.c) by rw [cell_of_row _ _ 6 _ _ _ hX]; rfl)
      have xf7 := up_fact (show w3.cell? ⟨bx, 7, none⟩ = some (.slice s.va.A s.va.n s.va.c) by rw [cell_of_row _ _ 7 _ _ _ hX]; rfl)
      have xf8 := up_fact (show w3.cell? ⟨bx, 8, none⟩ = some (.slice s.pr.A s.pr.n s.pr.c) by rw [cell_of_row _ _ 8 _ _ _ hX]; rfl)
      have xf9 := up_fact (show w3.cell? ⟨bx, 9, none⟩ = some (.slice s.cu.A s.cu.n s.cu.c) by rw [cell_of_row _ _ 9 _ _ _ hX]; rfl)
      have xf10 := up_fact (show w3.cell? ⟨bx, 10, none⟩ = some (.slice s.ma.A s.ma.n s.ma.c) by rw [cell_of_row _ _ 10 _ _ _ hX]; rfl)
      have xf11 := up_fact (show w3.cell? ⟨bx, 11, none⟩ = some (.slice s.ho.A s.ho.n s.ho.c) by rw [cell_of_row _ _ 11 _ _ _ hX]; rfl)
      have hC := Below.refl w3.heap.size w3
      clear hX hw3 hbx
      clear y0 y1 y2 y3 y4 y5 y6 y7 y8 y9 y10 y11
      obtain ⟨ix, hix⟩ : ∃ z, z = ixI q.co g := ⟨_, rfl⟩
      have HC := Lib.hid (show ∀ W, Below w1.heap.size w1 W → Calls Try.prog 64 #[.slice s.co.A s.co.n s.co.c, .int .i64 g] W fun e w' => e = .returned (.tuple #[.int .i64 ((ix.getD 0 : Nat) : Int), .bool ix.isSome]) ∧ Below W.heap.size W w' from fun W hW => by rw [hix]; exact index_any B s.co.A s.co.n s.co.c q.co g W (HS.out.co.below (hW.mono (by have := HB.out; omega))))
      have HIX := Lib.hid hix.symm
      clear hix
      rcases ix with _ | i
      · simp only [Option.getD_none, Option.isSome_none] at HC
        go_wp2_with (go_at_call 64; refine (HC.out _ hA3).mono ?_; rintro e w4 ⟨rfl, hb4⟩; have hA3 := bgo hA3 hb4; have hC := bgo hC hb4; clear hb4)
        go_roundw
        case rel => exact ⟨j + 1, by go_num, by omega, partB_none HTR.out HQ.out (HIX.out), hA3⟩
        case measure => simp [intOf] <;> omega
      · simp only [Option.getD_some, Option.isSome_some] at HC
        have HTOT2 := Lib.hid (partB_some HTR.out HQ.out HIX.out)
        by_cases hil : i < s.li.n
        · have z5 : decide ((s.li.n : Int) ≤ (i : Int)) = false := by simp; omega
          have z6 : decide (s.li.n ≤ i) = false := by simp; omega
          obtain ⟨row, b6, o6, cs6, hrow, eR, hb6', hc6, A6, n6, c6, rfl, hr6⟩ := SlR.at_ HS.out.li hil
          have u6 := up_fact (show w1.cell? ⟨b6, o6 + i, none⟩ = _ from by have h0 := hc6 0 _ rfl; simpa using h0)
          have HER := Lib.hid eR
          have hcr := SlR.cap hr6
          have hlr := SlR.length hr6
          have HRB := Lib.hid (HSQ.out row (List.mem_of_getElem? hrow))
          have HROW := Lib.hid (show q.li.getD i [] = row by rw [List.getD_eq_getElem?_getD, hrow]; rfl)
          have HR6 := Lib.hid hr6
          have hrow4 : row.length ≤ 100000 := HRB.out.1
          clear hc6 hrow eR hr6
          rw [HER.out] at xf2
          go_wp2_with (go_at_call 64; refine (HC.out _ hA3).mono ?_; rintro e w4 ⟨rfl, hb4⟩; have hA3 := bgo hA3 hb4; have hC := bgo hC hb4; clear hb4)
          go_loopw [9, 39] (fun v9 v39 wr2 => ∃ (k : Nat) (done : List LP) (Ao : Option Addr) (co : Nat), v9 = .slice Ao k co ∧ v39 = .int .i64 (k : Int) ∧ k ≤ n6 ∧ LpRow wr2 w1.heap.size Ao k co done ∧ LpOk wr2 (Value.slice Ao k co).ownBlock done (row.take k) ∧ Below w1.heap.size w1 wr2) (fun _ v39 _ => n6 - (intOf v39).toNat)
          case atStart => exact ⟨0, [], none, 0, rfl, rfl, Nat.zero_le _, LpRow.nil_ _ _, LpOk.nil_ _ _, hA3⟩
          case round =>
            clear hA3 hC
            obtain ⟨k, done, Ao, co, rfl, rfl, hk, how, hok, hA4⟩ := hrel
            have HOW := Lib.hid how
            have HOK := Lib.hid hok
            clear how hok
            by_cases hkn : k < n6
            · have z7 : decide ((k : Int) < (n6 : Int)) = true := by simp; omega
              obtain ⟨pg, b7, o7, cs7, hpg, e7, hb7', hc7, A7, n7, c7, rfl, hi7⟩ := SlR.at_ HR6.out hkn
              have u7 := up_fact (show w1.cell? ⟨b7, o7 + k * 2, none⟩ = _ from hc7 0 _ rfl)
              have u8 := up_fact (show w1.cell? ⟨b7, o7 + k * 2 + 1, none⟩ = _ from hc7 1 _ rfl)
              have HE7 := Lib.hid e7
              have hp7 := HRB.out.2 pg (List.mem_of_getElem? hpg)
              have hl7 := hi7.length
              have HPG := Lib.hid hpg
              have HI7 := Lib.hid hi7
              have HL7 := Lib.hid hl7
              clear hc7 e7 hpg hi7
              rw [HE7.out]
              go_upto_region 12 with fail
              obtain ⟨w5, hw5⟩ : ∃ z, z = wr.alloc (.cells #[.slice A7 n7 c7, .int .i64 pg.2] 108) := ⟨_, rfl⟩
              obtain ⟨bz, hbz⟩ : ∃ z, z = wr.heap.size := ⟨_, rfl⟩
              rw [← hw5, ← hbz]
              have hX : w5.heap[bz]? = some (.cells #[.slice A7 n7 c7, .int .i64 pg.2] 108 (0, 0)) := by rw [hw5, hbz]; exact heap_alloc_new _ _
              have q0 := up_fact (show w5.cell? ⟨bz, 0, none⟩ = some (.slice A7 n7 c7) by rw [cell_of_row _ _ 0 _ _ _ hX]; rfl)
              have q1 := up_fact (show w5.cell? ⟨bz, 1, none⟩ = some (.int .i64 pg.2) by rw [cell_of_row _ _ 1 _ _ _ hX]; rfl)
              have hA5 : Below w1.heap.size w1 w5 := by rw [hw5]; exact hA4.alloc hA4.size _
              have hb45 : Below wr.heap.size wr w5 := by rw [hw5]; exact (Below.refl _ _).alloc (Nat.le_refl _) _
              have hC5 := Below.refl w5.heap.size w5
              have hU5 := bup hC5
              have HOW5 := Lib.hid (HOW.out.below hb45 (Nat.le_refl _))
              have HOK5 := Lib.hid (HOK.out.below hb45)
              have HA5 := Lib.hid hA5
              have HCL := Lib.hid (fun W (hW : Below w5.heap.size w5 W) => cloneO_any B A7 n7 c7 pg.1 W (HI7.out.below (HA5.out.trans (hW.mono (HA5.out.size)) |>.mono (by have := HB.out; omega))) (by have := HB.out; have := HA5.out.size; have := hW.size; omega) (by omega))
              have HBZ := Lib.hid (show bz < w5.heap.size by rw [hw5, hbz]; simp)
              have HBO := Lib.hid (show some bz ≠ (Value.slice Ao k co).ownBlock by rw [hbz]; intro he; have := (HOW.out.block _ he.symm).2; omega)
              clear hX hw5 hbz hb45 hA5 u7 u8 hU5
              go_region_held_law (fun W => W.cell? ⟨bz, 0, none⟩ = some (.slice A7 n7 c7) ∧ W.cell? ⟨bz, 1, none⟩ = some (.int .i64 pg.2)) (first | exact ⟨q0 w5 hC5, q1 w5 hC5⟩ | exact ⟨q0 w6 hb56, q1 w6 hb56⟩ | exact ⟨q0 _ (hb56.alloc hb56.size _), q1 _ (hb56.alloc hb56.size _)⟩ | exact ⟨(World.cell?_of_block hk8).trans (q0 w5 hC5), (World.cell?_of_block hk8).trans (q1 w5 hC5)⟩)
                (first
                  | (go_at_call 73; refine (HCL.out _ ((Below.refl _ _).drew)).mono ?_; rintro e w6 ⟨A6, c6, rfl, hi6, hb6⟩; have hb56 := ((Below.refl w5.heap.size w5).drew).trans hb6)
                  | (refine step_append_lig _ rfl (.tmp 43) (.tmp 50) 106 rfl w1.heap.size _ Try.underlying106 infoLig rfl Ao k co done rfl ((HOW5.out.below hb56 (Nat.le_refl _)).alloc _) ⟨w6.heap.size, 0, none⟩ (⟨A6, n7, c6⟩, pg.2) rfl (lp_lit w6 (⟨A6, n7, c6⟩, pg.2)) (by omega) (by have := HA5.out.size; have := hb56.size; simp; omega) ?_; intro A8 c8 w8 ho8 hg8 hR8; have hk8 : w8.heap[bz]? = w5.heap[bz]? := (hg8.block bz (by have := HBZ.out; have := hb56.size; simp; omega) HBO.out).trans ((((Below.refl w6.heap.size w6).alloc (Nat.le_refl _) _).block bz (by have := HBZ.out; have := hb56.size; omega)).trans (hb56.block bz HBZ.out))))
              all_goals
                go_wp2_with fail
                go_roundw
                case rel =>
                  have e8 : row.take (k + 1) = row.take k ++ [pg] := by rw [List.take_add_one, HPG.out]; rfl
                  have hi7 : Own w6 w5.heap.size 3 A6 n7 c6 pg.1 := HL7.out ▸ hi6
                  have hok6 := (HOK5.out.below hb56).snoc (a := (⟨A6, n7, c6⟩, pg.2)) (p := pg) rfl hi7.ints (fun x hx => by
                    have h1 := hi7.block x.block (by rw [show A6 = some x from hx]; rfl)
                    refine ⟨h1.2, fun he => ?_⟩
                    have := (HOW5.out.block _ he).2
                    omega)
                  have hok8 := (hok6.below ((Below.refl w6.heap.size w6).alloc (Nat.le_refl _) (.cells #[.slice A6 n7 c6, .int .i64 pg.2] 108))).grown hg8 hR8
                  exact ⟨k + 1, _, A8, c8, rfl, by go_num, by omega, ho8, by rw [e8]; exact hok8, lp_below ((HA5.out.trans (hb56.mono HA5.out.size)).alloc (by have := HA5.out.size; have := hb56.size; omega) _) (by have := HA5.out.size; have := hb56.size; simp; omega) hg8 ((HOW5.out.below hb56 (Nat.le_refl _)).alloc _) (Nat.le_refl _)⟩
                case measure => simp [intOf] <;> omega
            · have hkk : k = n6 := by omega
              have z7 : decide ((k : Int) < (n6 : Int)) = false := by simp; omega
              go_wp2_with fail
              go_ret
              have hokf := HOK.out
              rw [List.take_of_length_le (by omega)] at hokf
              have hrl : row.length = k := by omega
              rw [HTOT2.out, HROW.out]
              exact ⟨Ao, co, by rw [hrl]; rfl, by rw [hrl]; exact HOW.out.slr hokf, HB1.out.trans (hA4.mono (by have := HB.out; omega))⟩
        · have z5 : decide ((s.li.n : Int) ≤ (i : Int)) = true := by simp; omega
          have z6 : decide (s.li.n ≤ i) = true := by simp; omega
          have HROW := Lib.hid (show q.li.getD i [] = [] by rw [List.getD_eq_getElem?_getD, List.getElem?_eq_none (by omega)]; rfl)
          go_wp2_with (go_at_call 64; refine (HC.out _ hA3).mono ?_; rintro e w4 ⟨rfl, hb4⟩; have hA3 := bgo hA3 hb4; have hC := bgo hC hb4; clear hb4)
          go_ret
          rw [HTOT2.out, HROW.out]
          exact ⟨none, 0, rfl, ⟨rfl, Nat.le_refl _, by unfold maxLen; omega, fun _ => ⟨rfl, rfl⟩, fun k p h => by simp at h⟩, HB1.out.trans (hA3.mono (by have := HB.out; omega))⟩
    · have hjn : j = su.length := by omega
      have z9 : decide ((j : Int) < (l.su.n : Int)) = false := by simp; omega
      have HEND := Lib.hid (show tot = [] from partB_end (by have := HTR.out; rw [hjn] at this; exact this))
      go_wp2_with fail
      go_ret
      rw [HEND.out]
      exact ⟨none, 0, rfl, ⟨rfl, Nat.le_refl _, by unfold maxLen; omega, fun _ => ⟨rfl, rfl⟩, fun k p h => by simp at h⟩, HB1.out.trans (hA.mono (by have := HB.out; omega))⟩

end Go.Proofs.Ytngdolmmaiogiaa

/- The walk of liga.follows. Condition: what it reads reads as plain data. Printed by wip/tools. -/
namespace Go.Proofs.Ytngdolmmaiogiaa
open Go.RowKit

/-- sets of one -/
def sing (zs : List Int) : List (List Int) := zs.map fun x => [x]
/-- What follows leaves: as RetTo, and the list lies in new memory. -/
def RetFol (w : World) (r : Option (List Int)) (e : Ending) (w' : World) : Prop :=
  ∃ A c, e = .returned (.tuple #[.slice A (r.getD []).length c, .bool r.isSome]) ∧ Ints w' w'.heap.size A (r.getD []).length c (r.getD []) ∧ (∀ x, A = some x → w.heap.size ≤ x.block) ∧ Below w.heap.size w w'
theorem RetFol.none_ {w w' : World} {r : Option (List Int)} (h : r = none) (hb : Below w.heap.size w w') : RetFol w r (.returned (.tuple #[.slice none 0 0, .bool false])) w' := by
  subst h
  exact ⟨none, 0, rfl, Ints.nil_ _ _, (fun x h => by cases h), hb⟩
theorem RetFol.some_ {w w' : World} {r : Option (List Int)} {zs : List Int} {A : Option Addr} {n c : Nat} (h : r = some zs) (hn : zs.length = n) (hi : Ints w' w'.heap.size A n c zs) (ha : ∀ x, A = some x → w.heap.size ≤ x.block) (hb : Below w.heap.size w w') : RetFol w r (.returned (.tuple #[.slice A n c, .bool true])) w' := by
  subst h; subst hn
  exact ⟨A, c, rfl, hi, ha, hb⟩
set_option maxRecDepth 100000 in
set_option maxHeartbeats 4000000 in
theorem follows_any (F : Fnt) (B : Nat) (P : PFt) (l : Lk) (A : Option Addr) (n c : Nat) (gs : List Gl) (Az : Option Addr) (np cz : Nat) (zs : List Int) (p : Nat) (w : World) (hF : FtR w B F P) (hI : GlsR w B A n c gs) (BZ : Nat) (hZ : Ints w BZ Az np cz zs) (hBZ : BZ ≤ w.heap.size) (hB : B ≤ w.heap.size) (hp : p < n) (hnp : np ≤ 100000) :
    Calls Try.prog 78 #[.agg #[.int .i64 F.em, .slice F.GA F.gn F.gc, .slice F.MA F.mn F.mc, .slice F.LA F.ln F.lc, .slice F.FA F.fn F.fc, .slice F.SA F.sn F.sc], .agg #[.int .i64 l.ki, .int .i64 l.fl, .int .i64 l.se, .slice l.su.A l.su.n l.su.c], .slice A n c, .int .i64 (p : Int), .slice Az np cz] w (RetFol w (((rowB P l gs p (sing zs)).map (p :: ·)).map natI)) := by
  have HF := Lib.hid hF
  have HI := Lib.hid hI
  have HZ := Lib.hid hZ
  have hcap := hI.cap
  have hcapz := hZ.cap
  have hlen := hI.length
  have hlenz := hZ.length
  clear hI hF hZ
  obtain ⟨wb1, hw_wb1⟩ : ∃ z, z = w.alloc (.cells #[.int .i64 F.em, .slice F.GA F.gn F.gc, .slice F.MA F.mn F.mc, .slice F.LA F.ln F.lc, .slice F.FA F.fn F.fc, .slice F.SA F.sn F.sc] 28) := ⟨_, rfl⟩
  have hs_wb1 : wb1.heap.size = w.heap.size + 1 := by rw [hw_wb1]; simp
  have hb_wb1 : Below w.heap.size w wb1 := by rw [hw_wb1]; exact (Below.refl _ _).alloc (Nat.le_refl _) _
  have hx_0 : wb1.heap[w.heap.size]? = some (.cells #[.int .i64 F.em, .slice F.GA F.gn F.gc, .slice F.MA F.mn F.mc, .slice F.LA F.ln F.lc, .slice F.FA F.fn F.fc, .slice F.SA F.sn F.sc] 28 (0, 0)) := by rw [hw_wb1]; exact heap_alloc_new _ _
  obtain ⟨w1, hw_w1⟩ : ∃ z, z = wb1.alloc (.cells #[.int .i64 l.ki, .int .i64 l.fl, .int .i64 l.se, .slice l.su.A l.su.n l.su.c] 36) := ⟨_, rfl⟩
  have hs_w1 : w1.heap.size = w.heap.size + 2 := by rw [hw_w1]; simp <;> omega
  have hb_w1 : Below w.heap.size w w1 := by rw [hw_w1]; exact hb_wb1.alloc (by omega) _
  have hx_1 : w1.heap[w.heap.size + 1]? = some (.cells #[.int .i64 l.ki, .int .i64 l.fl, .int .i64 l.se, .slice l.su.A l.su.n l.su.c] 36 (0, 0)) := by rw [hw_w1]; exact (hs_wb1 ▸ heap_alloc_new wb1 _)
  have hx_0 : w1.heap[w.heap.size]? = some (.cells #[.int .i64 F.em, .slice F.GA F.gn F.gc, .slice F.MA F.mn F.mc, .slice F.LA F.ln F.lc, .slice F.FA F.fn F.fc, .slice F.SA F.sn F.sc] 28 (0, 0)) := by rw [hw_w1]; exact (heap_alloc_old _ _ (by omega)).trans hx_0
  have g0 := up_fact (show w1.cell? ⟨w.heap.size, 0, none⟩ = some (.int .i64 F.em) by rw [cell_of_row _ _ 0 _ _ _ hx_0]; rfl)
  have g1 := up_fact (show w1.cell? ⟨w.heap.size, 1, none⟩ = some (.slice F.GA F.gn F.gc) by rw [cell_of_row _ _ 1 _ _ _ hx_0]; rfl)
  have g2 := up_fact (show w1.cell? ⟨w.heap.size, 2, none⟩ = some (.slice F.MA F.mn F.mc) by rw [cell_of_row _ _ 2 _ _ _ hx_0]; rfl)
  have g3 := up_fact (show w1.cell? ⟨w.heap.size, 3, none⟩ = some (.slice F.LA F.ln F.lc) by rw [cell_of_row _ _ 3 _ _ _ hx_0]; rfl)
  have g4 := up_fact (show w1.cell? ⟨w.heap.size, 4, none⟩ = some (.slice F.FA F.fn F.fc) by rw [cell_of_row _ _ 4 _ _ _ hx_0]; rfl)
  have g5 := up_fact (show w1.cell? ⟨w.heap.size, 5, none⟩ = some (.slice F.SA F.sn F.sc) by rw [cell_of_row _ _ 5 _ _ _ hx_0]; rfl)
  have h0 := up_fact (show w1.cell? ⟨w.heap.size + 1, 0, none⟩ = some (.int .i64 l.ki) by rw [cell_of_row _ _ 0 _ _ _ hx_1]; rfl)
  have h1 := up_fact (show w1.cell? ⟨w.heap.size + 1, 1, none⟩ = some (.int .i64 l.fl) by rw [cell_of_row _ _ 1 _ _ _ hx_1]; rfl)
  have h2 := up_fact (show w1.cell? ⟨w.heap.size + 1, 2, none⟩ = some (.int .i64 l.se) by rw [cell_of_row _ _ 2 _ _ _ hx_1]; rfl)
  have h3 := up_fact (show w1.cell? ⟨w.heap.size + 1, 3, none⟩ = some (.slice l.su.A l.su.n l.su.c) by rw [cell_of_row _ _ 3 _ _ _ hx_1]; rfl)
  have hA0 := Below.refl w1.heap.size w1
  have HS1 := Lib.hid hs_w1
  have hs1 : w.heap.size + 1 < w1.heap.size := by omega
  have HB1 := Lib.hid hb_w1
  have HW_wb1 := Lib.hid hw_wb1
  have HW_w1 := Lib.hid hw_w1
  clear hw_wb1 hs_wb1 hb_wb1 hw_w1 hs_w1 hb_w1
  clear hx_0 hx_1
  have HB := Lib.hid hB
  have HBW := Lib.hid (HB1.out.mono hB)
  have HI1 := Lib.hid (HI.out.below HBW.out)
  have HZ1 := Lib.hid (HZ.out.below (HB1.out.mono hBZ))
  obtain ⟨nx, hnx⟩ : ∃ z : Nat → Int, z = fun p => upB (skF P l) gs (p + 1) := ⟨_, rfl⟩
  have HNX := Lib.hid (show NxOk nx n from by rw [hnx, ← hlen]; exact upB_ok (skF P l) gs)
  obtain ⟨tot, htot⟩ : ∃ z, z = rowB P l gs p (sing zs) := ⟨_, rfl⟩
  rw [← htot]
  have HTOT := Lib.hid (show tot = stB nx gs p (sing zs) by rw [htot, hnx]; rfl)
  have HN0 := Lib.hid (fun W (hW : Below w1.heap.size w1 W) q (hq : q < n) => show Calls Try.prog 68 #[.agg #[.int .i64 F.em, .slice F.GA F.gn F.gc, .slice F.MA F.mn F.mc, .slice F.LA F.ln F.lc, .slice F.FA F.fn F.fc, .slice F.SA F.sn F.sc], .agg #[.int .i64 l.ki, .int .i64 l.fl, .int .i64 l.se, .slice l.su.A l.su.n l.su.c], .slice A n c, .int .i64 (q : Int)] W (fun e w' => e = .returned (.int .i64 (nx q)) ∧ Below W.heap.size W w') from by rw [hnx]; exact next_any F B P l A n c gs q W (HF.out.below (HBW.out.trans (hW.mono (by have := HB.out; omega)))) (HI.out.below (HBW.out.trans (hW.mono (by have := HB.out; omega)))) (by have := HB.out; have := hW.size; omega) hq)
  clear htot hnx
  have hls : (sing zs).length = np := by unfold sing; rw [List.length_map, hlenz]
  go_enter Try.func78, Try.ntmps78
  go_upto_region 1 with fail
  rw [← HW_wb1.out]
  rw [← HW_w1.out]
  go_wp2_with fail
  go_loopw [3, 12, 19] (fun v3 v12 v19 wr => ∃ (q j : Nat) (done : List Nat) (Ao : Option Addr) (co : Nat), v3 = .int .i64 (q : Int) ∧ v12 = .slice Ao (1 + j) co ∧ v19 = .int .i64 (j : Int) ∧ q < n ∧ j ≤ np ∧ tot = (stB nx gs q ((sing zs).drop j)).map (done ++ ·) ∧ Own wr w1.heap.size 3 Ao (1 + j) co (natI (p :: done)) ∧ Below w1.heap.size w1 wr) (fun _ _ v19 _ => np - (intOf v19).toNat)
  case atStart => exact ⟨p, 0, [], some ⟨w1.heap.size, 0, none⟩, 1, rfl, rfl, rfl, hp, Nat.zero_le _, by rw [HTOT.out]; simp, (Own.lit w1 [(p : Int)] _ _ (Nat.le_refl _) (by unfold maxLen; omega) rfl rfl), hA0.alloc (Nat.le_refl _) _⟩
  case round =>
    clear hp hA0
    obtain ⟨q, j, done, Ao, co, rfl, rfl, rfl, hq, hj, htr, how, hA⟩ := hrel
    have HTR := Lib.hid htr
    have HOW := Lib.hid how
    have hmd : (p :: done).length = 1 + j := by rw [← natI_length]; exact how.length
    have hcapo := how.cap
    clear htr how
    by_cases hlt : j < np
    · have z9 : decide ((j : Int) < (np : Int)) = true := by simp; omega
      obtain ⟨b, o, y, eA, hbb, hy, c0⟩ := HZ1.out.at_ hlt
      have c1 := up_fact c0
      have HEA := Lib.hid eA
      have HSJ := Lib.hid (show (sing zs).getD j [] = [y] by unfold sing; rw [List.getD_eq_getElem?_getD, List.getElem?_map, hy]; rfl)
      clear c0 eA hy
      obtain ⟨x, hx⟩ : ∃ z, z = nx q := ⟨_, rfl⟩
      have hnq := HNX.out q hq
      have HNQ := Lib.hid hx
      rw [← hx] at hnq
      have HN := Lib.hid (show ∀ W, Below w1.heap.size w1 W → Calls Try.prog 68 #[.agg #[.int .i64 F.em, .slice F.GA F.gn F.gc, .slice F.MA F.mn F.mc, .slice F.LA F.ln F.lc, .slice F.FA F.fn F.fc, .slice F.SA F.sn F.sc], .agg #[.int .i64 l.ki, .int .i64 l.fl, .int .i64 l.se, .slice l.su.A l.su.n l.su.c], .slice A n c, .int .i64 (q : Int)] W (fun e w' => e = .returned (.int .i64 x) ∧ Below W.heap.size W w') from fun W hW => by rw [hx]; exact HN0.out W hW q hq)
      clear hx
      rcases hnq with rfl | ⟨q2, hq2, rfl⟩
      · have HNONE := Lib.hid (stB_none HTR.out (by omega) (show stepB nx gs q ((sing zs).getD j []) = none by unfold stepB; rw [if_pos HNQ.out.symm]))
        rw [HEA.out]
        go_wp2_with (first
          | (go_at_call 68; refine (HN.out _ hA).mono ?_; rintro e w2 ⟨rfl, hb2⟩; have hA2 := bgo hA hb2)
          | fail)
        go_ret2
        exact RetFol.none_ (by rw [HNONE.out]; rfl) (HB1.out.trans (hA2.mono (by have := HB.out; omega)))
      · obtain ⟨b2, o2, g, eG, hbb2, hg, d0, -⟩ := HI1.out.at_ hq2
        have d1 := up_fact d0
        have z1 : ((q2 : Int) == -1) = false := by simp <;> omega
        have HEG := Lib.hid eG
        have HG := Lib.hid hg
        clear d0 eG hg
        by_cases hgy : g.id = y
        · have HSOME := Lib.hid (stB_some HTR.out (by omega) (show stepB nx gs q ((sing zs).getD j []) = some q2 by unfold stepB; rw [← HNQ.out, if_neg (by omega), Int.toNat_natCast, HG.out, HSJ.out]; simp [hasB, ixI, hgy]))
          have q1 : (g.id != y) = false := by simp [hgy]
          have q3 : (y != y) = false := by simp
          rw [HEA.out]
          rw [HEG.out] at HN ⊢
          clear hgy
          go_wp2_with (first
            | (go_at_call 68; refine (HN.out _ hA).mono ?_; rintro e w2 ⟨rfl, hb2⟩; have hA2 := bgo hA hb2)
            | (at_builtin; refine wpList_append_ints _ rfl (.tmp 39) (.tmp 41) 51 rfl w1.heap.size 3 Try.underlying51 infoInt Ao (1 + j) co (natI (p :: done)) rfl ((HOW.out.below hb2 (Nat.le_refl _)).alloc _) (w2.heap.size + 1) (some ⟨w2.heap.size, 0, none⟩) 1 1 [(q2 : Int)] rfl (Ints.lit_at _ [(q2 : Int)] _ _ (by omega) rfl rfl (by simp)) (by omega) (by have := hA2.size; simp; omega) ?_; intro A4 c4 w4 ho4 hg4 hb4; have hA4 := below_append (hA2.alloc hA2.size (.cells #[.int .i64 (q2 : Int)] 3)) (by have := hA2.size; simp; omega) hg4 ((HOW.out.below hb2 (Nat.le_refl _)).alloc _) (Nat.le_refl _)))
          go_roundw
          case rel => exact ⟨q2, j + 1, done ++ [q2], A4, c4, rfl, rfl, by go_num, hq2, by omega, HSOME.out, by have h0 : Own w4 w1.heap.size 3 A4 (1 + j + 1) c4 (natI (p :: done) ++ natI [q2]) := ho4; rw [← natI_append] at h0; exact h0, hA4⟩
          case measure => simp [intOf] <;> omega
        · have HNONE := Lib.hid (stB_none HTR.out (by omega) (show stepB nx gs q ((sing zs).getD j []) = none by unfold stepB; rw [← HNQ.out, if_neg (by omega), Int.toNat_natCast, HG.out, HSJ.out]; simp [hasB, ixI, Ne.symm hgy]))
          have q1 : (g.id != y) = true := by simp [hgy]
          rw [HEA.out]
          rw [HEG.out] at HN ⊢
          clear hgy
          go_wp2_with (first
            | (go_at_call 68; refine (HN.out _ hA).mono ?_; rintro e w2 ⟨rfl, hb2⟩; have hA2 := bgo hA hb2)
            | fail)
          go_ret2
          exact RetFol.none_ (by rw [HNONE.out]; rfl) (HB1.out.trans (hA2.mono (by have := HB.out; omega)))
    · have z9 : decide ((j : Int) < (np : Int)) = false := by simp; omega
      have HEND := Lib.hid (show tot = some done from stB_end (by have := HTR.out; rw [show j = (sing zs).length by omega] at this; exact this))
      go_wp2_with fail
      go_ret2
      exact RetFol.some_ (by rw [HEND.out]; rfl) (by rw [natI_length]; exact hmd) HOW.out.ints (fun x hx => Nat.le_trans (by omega) (HOW.out.block x.block (by rw [hx]; rfl)).1) (HB1.out.trans (hA.mono (by have := HB.out; omega)))

end Go.Proofs.Ytngdolmmaiogiaa
