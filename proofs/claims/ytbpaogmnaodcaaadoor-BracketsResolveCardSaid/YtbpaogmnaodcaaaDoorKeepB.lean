/- The walk of inside: what a pair becomes. Condition: the solver lies in its block; the level's direction is 1 or 2. -/
import Derived.Test.YtbpaogmnaodcaaaDoorKeepA
namespace Go.Proofs.YtbpaogmnaodcaaaDoor
open Go.RowKit

set_option maxRecDepth 100000 in
set_option maxHeartbeats 4000000 in
theorem inside_any (B bs : Nat) (A : Option Addr) (n c a b : Nat) (cs : List Int) (wy so : Int) (w : World) (h : Ints w B A n c cs) (hB : B ≤ w.heap.size) (hn : n ≤ 1000) (hwy : wy = 1 ∨ wy = 2)
    (h1 : w.cell? ⟨bs, 1, none⟩ = some (.slice A n c)) (h2 : w.cell? ⟨bs, 2, none⟩ = some (.int .i64 wy)) (h3 : w.cell? ⟨bs, 3, none⟩ = some (.int .i64 so)) (hab : a < b) (hbn : b < n) :
    Calls Tryd.prog 28 #[.pointer (some ⟨bs, 0, none⟩), .agg #[.int .i64 (a : Int), .int .i64 (b : Int)]] w (RetV w (.int .i64 (insideOf wy so cs a b))) := by
  have hcap := h.cap
  have hbs := World.block_lt_of_cell? w _ h1
  simp only at hbs
  obtain ⟨b6, o6, x0, rfl, hb6, _, _⟩ := h.at_ (k := 0) (by omega)
  have hbel : Below w.heap.size w (w.alloc (.cells #[.int .i64 (a : Int), .int .i64 (b : Int)] 29)) := (Below.refl _ _).alloc (Nat.le_refl _) _
  have c1 := (hbel.cell (p := ⟨bs, 1, none⟩) hbs).trans h1
  have c2 := (hbel.cell (p := ⟨bs, 2, none⟩) hbs).trans h2
  have c3 := (hbel.cell (p := ⟨bs, 3, none⟩) hbs).trans h3
  obtain ⟨ca, cb⟩ := (cell2_lit w (.int .i64 (a : Int)) (.int .i64 (b : Int)) 29 rfl)
  have HI := Lib.hid (h.below (hbel.mono hB))
  have HL := Lib.hid h.length
  have hw1 : ((0 : Int) == wy) = false := by rcases hwy with rfl | rfl <;> rfl
  obtain ⟨tot, htot⟩ : ∃ z, z = insideOf wy so cs a b := ⟨_, rfl⟩
  rw [← htot]
  have HT := Lib.hid htot
  clear h h1 h2 h3 hwy htot
  go_enter Tryd.func28, Tryd.ntmps28
  go_wp2_with fail
  generalize w.alloc (.cells #[.int .i64 (a : Int), .int .i64 (b : Int)] 29) = w2 at *
  have hwa : IntKind.i64.wrap ((a : Int) + 1) = (a : Int) + 1 := by rw [IntKind.wrap_i64]; omega
  have hwb : IntKind.i64.wrap (b : Int) = (b : Int) := by rw [IntKind.wrap_i64]; omega
  have i1 : (a : Int) + 1 ≤ (b : Int) := by omega
  have i2 : (b : Int) ≤ (c : Int) := by omega
  have i3 : (0 : Int) ≤ (a : Int) + 1 := by omega
  have i4 : ((a : Int) + 1).toNat = a + 1 := by omega
  go_quiet (fail)
  have d1 : (w2.drewN nq).cell? ⟨bs, 1, none⟩ = some (.slice (some ⟨b6, o6, none⟩) n c) := c1
  have d2 : (w2.drewN nq).cell? ⟨bs, 2, none⟩ = some (.int .i64 wy) := c2
  have d3 : (w2.drewN nq).cell? ⟨bs, 3, none⟩ = some (.int .i64 so) := c3
  have da : (w2.drewN nq).cell? ⟨w.heap.size, 0, none⟩ = some (.int .i64 (a : Int)) := ca
  have HB3 := Lib.hid (below_drewN hbel nq)
  have HI3 := Lib.hid (HI.out.drewN nq)
  clear c1 c2 c3 ca cb HI hbel
  generalize w2.drewN nq = w3 at *
  obtain ⟨m, hm⟩ : ∃ m, m = b - (a + 1) := ⟨_, rfl⟩
  rw [← hm]
  obtain ⟨cm, hcm⟩ : ∃ m, m = c - (a + 1) := ⟨_, rfl⟩
  rw [← hcm]
  have hmb : a + 1 + m = b := by omega
  have hmc : m ≤ cm := by omega
  have hseg : ∀ j, j < m → ((cs.take b).drop (a + 1))[j]? = cs[a + 1 + j]? := fun j hj => by
    rw [List.getElem?_drop, List.getElem?_take_of_lt (by omega)]
  have hsegl : ((cs.take b).drop (a + 1)).length = m := by simp [HL.out]; omega
  obtain ⟨seg, hsg⟩ : ∃ z, z = (cs.take b).drop (a + 1) := ⟨_, rfl⟩
  rw [← hsg] at hseg hsegl
  have HTT := Lib.hid (show tot = (match scan wy 0 seg with | none => wy | some o => if o = 0 ∨ aheadOf so cs a = o then o else wy) from by rw [hsg]; exact HT.out)
  obtain ⟨sc, hsc⟩ : ∃ z, z = scan wy 0 seg := ⟨_, rfl⟩
  rw [← hsc] at HTT
  have HSC := Lib.hid hsc
  have HSEG := Lib.hid hseg
  have HSL := Lib.hid hsegl
  clear hm hcm hwa hwb i1 i2 i3 i4 hsg hseg hsegl hsc
  go_wp2_with fail
  go_loop [5, 20] (fun v5 v20 => ∃ (j : Nat) (o : Int), v5 = .int .i64 o ∧ v20 = .int .i64 (j : Int) ∧ j ≤ m ∧ scan wy o (seg.drop j) = sc) (fun _ v20 => m - (intOf v20).toNat)
  case atStart => exact ⟨0, 0, rfl, rfl, Nat.zero_le _, HSC.out.symm⟩
  case round =>
    obtain ⟨j, o, rfl, rfl, hj, hsn⟩ := hrel
    by_cases hlt : j < m
    · obtain ⟨x, hx⟩ : ∃ x, seg[j]? = some x := ⟨_, List.getElem?_eq_getElem (by rw [HSL.out]; exact hlt)⟩
      have hx2 := hx
      rw [HSEG.out j hlt] at hx2
      obtain ⟨_, _, e9, _, hcx⟩ := HI3.out.get hx2
      cases e9
      rw [show o6 + (a + 1 + j) = o6 + (a + 1) + j by omega] at hcx
      have hdr : seg.drop j = x :: seg.drop (j + 1) := by
        obtain ⟨h1, h2⟩ := List.getElem?_eq_some_iff.1 hx
        rw [← h2]; exact List.drop_eq_getElem_cons h1
      rw [hdr, scan] at hsn
      obtain ⟨d, hd⟩ : ∃ d, d = dirOf x := ⟨_, rfl⟩
      rw [← hd] at hsn
      have HS := Lib.hid (show ∀ W, Calls Tryd.prog 38 #[.int .i64 x] W fun e w' => e = .returned (.int .i64 d) ∧ W = w' from fun W => by rw [hd]; exact strong_any x W)
      have HSN := Lib.hid hsn
      clear hsn hdr hx hx2 hd
      by_cases hdw : d = wy
      · subst hdw
        have e1 : (d == d) = true := by simp
        rw [if_pos rfl] at HSN
        rw [← HSN.out] at HTT
        clear HSN
        go_wp2_with (go_at_call 38; refine (HS.out _).mono ?_; rintro e w9 ⟨rfl, rfl⟩)
        go_ret
        exact ⟨by rw [HTT.out]; rfl, HB3.out⟩
      · have e1 : (d == wy) = false := by simpa using hdw
        have e1' : (wy == d) = false := by simp; omega
        rw [if_neg hdw] at HSN
        by_cases hd0 : d = 0
        · subst hd0
          rw [if_pos rfl] at HSN
          clear hdw
          go_wp2_with (go_at_call 38; refine (HS.out _).mono ?_; rintro e w9 ⟨rfl, rfl⟩)
          go_round
          case rel => exact ⟨j + 1, o, rfl, by go_num, by omega, HSN.out⟩
          case measure => simp [intOf]; omega
        · have e2 : (d == 0) = false := by simpa using hd0
          have e2' : ((0 : Int) == d) = false := by simp; omega
          rw [if_neg hd0] at HSN
          clear hdw hd0
          go_wp2_with (go_at_call 38; refine (HS.out _).mono ?_; rintro e w9 ⟨rfl, rfl⟩)
          go_round
          case rel => exact ⟨j + 1, d, rfl, by go_num, by omega, HSN.out⟩
          case measure => simp [intOf]; omega
    · have hge : m ≤ j := by omega
      have hdr : seg.drop j = [] := List.drop_eq_nil_of_le (by rw [HSL.out]; exact hge)
      rw [hdr, scan] at hsn
      rw [← hsn] at HTT
      simp only at HTT
      clear hsn hdr
      have ha := ahead_any B bs (some ⟨b6, o6, none⟩) n c a cs so w3 HI3.out (by omega) d1 d3
      obtain ⟨ah, hah⟩ : ∃ z, z = aheadOf so cs a := ⟨_, rfl⟩
      rw [← hah] at ha HTT
      have HA := Lib.hid ha
      clear ha hah
      by_cases ho : o = 0
      · subst ho
        rw [if_pos (.inl rfl)] at HTT
        have e1 : ((0 : Int) == 0) = true := rfl
        go_wp2_with fail
        go_ret
        exact ⟨by rw [HTT.out]; rfl, HB3.out⟩
      · have e1 : (o == 0) = false := by simpa using ho
        by_cases hao : ah = o
        · subst hao
          rw [if_pos (.inr rfl)] at HTT
          have e2 : (ah == ah) = true := by simp
          clear ho
          go_wp2_with (go_at_call 39; refine HA.out.mono ?_; rintro e w9 ⟨rfl, rfl⟩)
          go_ret
          exact ⟨by rw [HTT.out]; rfl, HB3.out⟩
        · have e2 : (ah == o) = false := by simpa using hao
          rw [if_neg (by rintro (h | h); exact ho h; exact hao h)] at HTT
          clear ho hao
          go_wp2_with (go_at_call 39; refine HA.out.mono ?_; rintro e w9 ⟨rfl, rfl⟩)
          go_ret
          exact ⟨by rw [HTT.out]; rfl, HB3.out⟩

end Go.Proofs.YtbpaogmnaodcaaaDoor
