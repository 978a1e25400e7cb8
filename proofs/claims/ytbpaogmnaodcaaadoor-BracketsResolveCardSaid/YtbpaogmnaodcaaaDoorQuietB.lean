/- The walks of inside and of Resolve where no class has a direction: no pair becomes anything. Condition: classes ON or WS; lists of one length, at most a thousand; the table of last signs lies as laid; the sort sorts. -/
import Derived.Test.YtbpaogmnaodcaaaDoorQuietA
namespace Go.Proofs.YtbpaogmnaodcaaaDoor
open Go.RowKit

set_option maxRecDepth 100000 in
set_option maxHeartbeats 2000000 in
theorem inside_dull (B bs : Nat) (A : Option Addr) (n c a b : Nat) (cs : List Int) (wy : Int) (w : World) (h : Ints w B A n c cs) (hB : B ≤ w.heap.size) (hn : n ≤ 1000) (hd : ∀ x ∈ cs, Dull x) (hwy : wy = 1 ∨ wy = 2)
    (h1 : w.cell? ⟨bs, 1, none⟩ = some (.slice A n c)) (h2 : w.cell? ⟨bs, 2, none⟩ = some (.int .i64 wy)) (hab : a < b) (hbn : b < n) :
    Calls Tryd.prog 28 #[.pointer (some ⟨bs, 0, none⟩), .agg #[.int .i64 (a : Int), .int .i64 (b : Int)]] w (RetV w (.int .i64 0)) := by
  have hcap := h.cap
  have hbs := World.block_lt_of_cell? w _ h1
  simp only at hbs
  obtain ⟨b6, o6, x0, rfl, hb6, _, _⟩ := h.at_ (k := 0) (by omega)
  have c1 : (w.alloc (.cells #[.int .i64 (a : Int), .int .i64 (b : Int)] 29)).cell? ⟨bs, 1, none⟩ = some (.slice (some ⟨b6, o6, none⟩) n c) := (((Below.refl w.heap.size w).alloc (Nat.le_refl _) _).cell (p := ⟨bs, 1, none⟩) hbs).trans h1
  have c2 : (w.alloc (.cells #[.int .i64 (a : Int), .int .i64 (b : Int)] 29)).cell? ⟨bs, 2, none⟩ = some (.int .i64 wy) := (((Below.refl w.heap.size w).alloc (Nat.le_refl _) _).cell (p := ⟨bs, 2, none⟩) hbs).trans h2
  have ca : (w.alloc (.cells #[.int .i64 (a : Int), .int .i64 (b : Int)] 29)).cell? ⟨w.heap.size, 0, none⟩ = some (.int .i64 (a : Int)) := (cell2_lit w _ _ _ rfl).1
  have cb : (w.alloc (.cells #[.int .i64 (a : Int), .int .i64 (b : Int)] 29)).cell? ⟨w.heap.size, 1, none⟩ = some (.int .i64 (b : Int)) := (cell2_lit w _ _ _ rfl).2
  have HI := Lib.hid (h.below (((Below.refl w.heap.size w).alloc (Nat.le_refl _) (.cells #[.int .i64 (a : Int), .int .i64 (b : Int)] 29)).mono hB))
  have hbel : Below w.heap.size w (w.alloc (.cells #[.int .i64 (a : Int), .int .i64 (b : Int)] 29)) := (Below.refl _ _).alloc (Nat.le_refl _) _
  have HD := Lib.hid hd
  have HL := Lib.hid h.length
  have hw1 : ((0 : Int) == wy) = false := by rcases hwy with rfl | rfl <;> rfl
  clear h hd h1 h2 hwy
  go_enter Tryd.func28, Tryd.ntmps28
  go_wp2_with fail
  generalize w.alloc (.cells #[.int .i64 (a : Int), .int .i64 (b : Int)] 29) = w2 at *
  have hwa : IntKind.i64.wrap ((a : Int) + 1) = (a : Int) + 1 := by rw [IntKind.wrap_i64]; omega
  have hwb : IntKind.i64.wrap (b : Int) = (b : Int) := by rw [IntKind.wrap_i64]; omega
  have i1 : (a : Int) + 1 ≤ (b : Int) := by omega
  have i2 : (b : Int) ≤ (c : Int) := by omega
  have i3 : (0 : Int) ≤ (a : Int) + 1 := by omega
  have i4 : ((a : Int) + 1).toNat = a + 1 := by omega
  go_quiet (fail)
  have c12 : (w2.drewN nq).cell? ⟨bs, 2, none⟩ = some (.int .i64 wy) := c2
  have HB3 := Lib.hid (below_drewN hbel nq)
  have HI3 := Lib.hid (HI.out.drewN nq)
  clear c1 c2 ca cb HI hbel
  generalize w2.drewN nq = w3 at *
  obtain ⟨m, hm⟩ : ∃ m, m = b - (a + 1) := ⟨_, rfl⟩
  rw [← hm]
  obtain ⟨cm, hcm⟩ : ∃ m, m = c - (a + 1) := ⟨_, rfl⟩
  rw [← hcm]
  have hmb : a + 1 + m = b := by omega
  have hmc : m ≤ cm := by omega
  clear hm hcm hwa hwb i1 i2 i3 i4
  go_wp2_with fail
  go_loop [5, 20] (fun v5 v20 => ∃ j : Nat, v5 = .int .i64 0 ∧ v20 = .int .i64 (j : Int) ∧ j ≤ m) (fun _ v20 => m - (intOf v20).toNat)
  case atStart => exact ⟨0, rfl, rfl, Nat.zero_le _⟩
  case round =>
    obtain ⟨j, rfl, rfl, hj⟩ := hrel
    by_cases hlt : j < m
    · obtain ⟨x, hx⟩ : ∃ x, cs[a + 1 + j]? = some x := ⟨_, List.getElem?_eq_getElem (by rw [HL.out]; omega)⟩
      have hdx := HD.out x (List.mem_of_getElem? hx)
      obtain ⟨_, _, e9, _, hcx⟩ := HI3.out.get hx
      cases e9
      rw [show o6 + (a + 1 + j) = o6 + (a + 1) + j by omega] at hcx
      have HDX := Lib.hid hdx
      clear hdx hx
      go_wp2_with (go_at_call 38; refine (strong_dull x HDX.out _).mono ?_; rintro e w9 ⟨rfl, rfl⟩)
      go_round
      case rel => exact ⟨j + 1, rfl, by go_num, by omega⟩
      case measure => simp [intOf]; omega
    · have hge : m ≤ j := by omega
      go_wp2_with fail
      go_ret
      exact ⟨rfl, HB3.out⟩

/-- a solver under way: its cells -/
def Solver (w : World) (b : Nat) (tv cv : Value) (wy so : Int) : Prop := w.heap[b]? = some (.cells #[tv, cv, .int .i64 wy, .int .i64 so] 58)
theorem Solver.cell1 {w : World} {b : Nat} {tv cv : Value} {wy so : Int} (h : Solver w b tv cv wy so) : w.cell? ⟨b, 1, none⟩ = some cv ∧ w.cell? ⟨b, 2, none⟩ = some (.int .i64 wy) :=
  ⟨by rw [cell_of_row _ _ 1 _ _ _ h]; rfl, by rw [cell_of_row _ _ 2 _ _ _ h]; rfl⟩
theorem Solver.below {w w' : World} {B b : Nat} {tv cv : Value} {wy so : Int} (h : Solver w b tv cv wy so) (hb : Below B w w') (hB : b < B) : Solver w' b tv cv wy so := (hb.block b hB).trans h

set_option maxRecDepth 100000 in
set_option maxHeartbeats 4000000 in
theorem resolve_dull (B : Nat) (A A2 : Option Addr) (n c c2 : Nat) (rs cs : List Int) (lv so : Int) (w : World) (h : Runes w B A n c rs) (h2 : Ints w B A2 n c2 cs) (hB : B ≤ w.heap.size) (hn : n ≤ 1000) (hL : Lasts w) (hS : SortOk) (hd : ∀ x ∈ cs, Dull x) :
    Calls Tryd.prog 15 #[.slice A n c, .slice A2 n c2, .int .i64 lv, .int .i64 so] w (RetList w n cs) := by
  have hnn : ((n : Int) != (n : Int)) = false := by simp
  have hcap := h.cap
  have hcap2 := h2.cap
  have hpos := hL.pos
  have HSO := Lib.hid hS
  have HI := Lib.hid h
  have HI2 := Lib.hid h2
  have HLA := Lib.hid hL
  have HD := Lib.hid hd
  clear h h2 hL hS hd
  go_enter Tryd.func15, Tryd.ntmps15
  go_upto_region 4 with (go_at_call 27; refine (clone_any B A2 n c2 cs _ HI2.out hB (by omega)).mono ?_; rintro e w1 ⟨A3, c3, rfl, ho3, hb1⟩)
  by_cases hlv : lv.tmod 2 = 0
  · have d1 : (lv.tmod 2 != 0) = false := by simpa using hlv
    clear hlv
    go_upto_region 6 with (fail)
    have hs1 := hb1.size
    have hsol : Solver (w1.alloc (.cells #[.slice A n c, .slice A3 n c3, .int .i64 1, .int .i64 so] 58)) w1.heap.size (.slice A n c) (.slice A3 n c3) 1 so := heap_alloc_new _ _
    have hb0 : Below w.heap.size w (w1.alloc (.cells #[.slice A n c, .slice A3 n c3, .int .i64 1, .int .i64 so] 58)) := hb1.alloc hs1 _
    have ho4 := ho3.alloc (.cells #[.slice A n c, .slice A3 n c3, .int .i64 1, .int .i64 so] 58)
    have hbs : w1.heap.size < (w1.alloc (.cells #[.slice A n c, .slice A3 n c3, .int .i64 1, .int .i64 so] 58)).heap.size := by simp
    have hc3 := ho3.cap
    clear hb1
    generalize w1.alloc (.cells #[.slice A n c, .slice A3 n c3, .int .i64 1, .int .i64 so] 58) = w2 at *
    generalize w1.heap.size = bs at *
    have HSOL := Lib.hid hsol
    have HO4 := Lib.hid ho4
    have hs2 := hb0.size
    clear hsol ho4 ho3
    obtain ⟨l, hl⟩ : ∃ l, l = prs 0 [] [] rs cs := ⟨_, rfl⟩
    have hok : OutOk n l := by
      have h1 := prs_ok rs cs 0 [] [] (fun p hp => by simp at hp) (fun p hp => by simp at hp)
      rw [← hl, Nat.zero_add, HI.out.length] at h1
      exact h1
    have hpa := pairs_any B A A2 n c c2 rs cs w2 (HI.out.below (hb0.mono hB)) (HI2.out.below (hb0.mono hB)) (Nat.le_trans hB hs2) hn (HLA.out.below hb0 hpos) HSO.out
    rw [← hl] at hpa
    have HPA := Lib.hid hpa
    have HOK := Lib.hid hok
    clear hpa hok hl
    go_wp2_with (go_at_call 10; refine HPA.out.mono ?_; rintro e w3 ⟨Ap, cp, l5, rfl, hperm, hpw, hrow, hb3⟩)
    obtain ⟨m, hm⟩ : ∃ m, m = l.length := ⟨_, rfl⟩
    rw [← hm] at hrow ⊢
    have hs3 := hb3.size
    have hpc := hrow.cap
    have HROW := Lib.hid hrow
    have HPERM := Lib.hid hperm
    have HSOL3 := Lib.hid (HSOL.out.below hb3 hbs)
    have HI3 := Lib.hid (((HO4.out.below hb3 (Nat.le_refl _)).ints))
    have HO3 := Lib.hid (HO4.out.below hb3 (Nat.le_refl _))
    have HB0 := Lib.hid (hb0.trans (hb3.mono hs2))
    clear hrow hperm hpw hm hb0 hb3
    go_loopw [31] (fun v wr => ∃ k : Nat, v = .int .i64 (k : Int) ∧ k ≤ m ∧ Below w3.heap.size w3 wr) (fun v _ => m - (intOf v).toNat)
    case atStart => exact ⟨0, rfl, Nat.zero_le _, Below.refl _ _⟩
    case round =>
      obtain ⟨k, rfl, hk, hbel⟩ := hrel
      have hsr := hbel.size
      obtain ⟨k1, k2⟩ := (HSOL3.out.below hbel (by omega)).cell1
      by_cases hlt : k < m
      · obtain ⟨⟨a0, b0⟩, hp⟩ : ∃ p, l5[k]? = some p := ⟨_, List.getElem?_eq_getElem (by rw [HROW.out.1]; exact hlt)⟩
        obtain ⟨a, b, e1, e2, hab, hbn⟩ := HOK.out (a0, b0) (HPERM.out.mem_iff.1 (List.mem_of_getElem? hp))
        simp only at e1 e2
        subst e1 e2
        obtain ⟨_, g, rfl, hg1, hg2, ca, cb⟩ := (HROW.out.below hbel (Nat.le_refl _)).at_ hp
        simp only at ca cb
        have hin := inside_dull w3.heap.size bs A3 n c3 a b cs 1 (wr.alloc (.cells #[.int .i64 (a : Int), .int .i64 (b : Int)] 29)) ((HI3.out.below (hbel.alloc hsr _))) (by simp; omega) hn HD.out (by decide)
          ((((Below.refl wr.heap.size wr).alloc (Nat.le_refl _) _).cell (p := ⟨bs, 1, none⟩) (by show bs < wr.heap.size; omega)).trans k1) ((((Below.refl wr.heap.size wr).alloc (Nat.le_refl _) _).cell (p := ⟨bs, 2, none⟩) (by show bs < wr.heap.size; omega)).trans k2) hab hbn
        have HIN := Lib.hid hin
        clear hin hp k1 k2
        go_wp2_with (go_at_call 28; refine HIN.out.mono ?_; rintro e w5 ⟨rfl, hb5⟩)
        go_roundw
        case rel => exact ⟨k + 1, by go_num, by omega, (hbel.alloc hsr _).trans (hb5.mono (by simp; omega))⟩
        case measure => simp [intOf]; omega
      · have hge : m ≤ k := by omega
        go_wp2_with fail
        go_ret
        exact ⟨A3, c3, rfl, HO3.out.below hbel (Nat.le_refl _), HB0.out.trans (hbel.mono (Nat.le_trans hs2 hs3))⟩
  · have d1 : (lv.tmod 2 != 0) = true := by simpa using hlv
    clear hlv
    go_upto_region 6 with (fail)
    have hs1 := hb1.size
    have hsol : Solver (w1.alloc (.cells #[.slice A n c, .slice A3 n c3, .int .i64 2, .int .i64 so] 58)) w1.heap.size (.slice A n c) (.slice A3 n c3) 2 so := heap_alloc_new _ _
    have hb0 : Below w.heap.size w (w1.alloc (.cells #[.slice A n c, .slice A3 n c3, .int .i64 2, .int .i64 so] 58)) := hb1.alloc hs1 _
    have ho4 := ho3.alloc (.cells #[.slice A n c, .slice A3 n c3, .int .i64 2, .int .i64 so] 58)
    have hbs : w1.heap.size < (w1.alloc (.cells #[.slice A n c, .slice A3 n c3, .int .i64 2, .int .i64 so] 58)).heap.size := by simp
    have hc3 := ho3.cap
    clear hb1
    generalize w1.alloc (.cells #[.slice A n c, .slice A3 n c3, .int .i64 2, .int .i64 so] 58) = w2 at *
    generalize w1.heap.size = bs at *
    have HSOL := Lib.hid hsol
    have HO4 := Lib.hid ho4
    have hs2 := hb0.size
    clear hsol ho4 ho3
    obtain ⟨l, hl⟩ : ∃ l, l = prs 0 [] [] rs cs := ⟨_, rfl⟩
    have hok : OutOk n l := by
      have h1 := prs_ok rs cs 0 [] [] (fun p hp => by simp at hp) (fun p hp => by simp at hp)
      rw [← hl, Nat.zero_add, HI.out.length] at h1
      exact h1
    have hpa := pairs_any B A A2 n c c2 rs cs w2 (HI.out.below (hb0.mono hB)) (HI2.out.below (hb0.mono hB)) (Nat.le_trans hB hs2) hn (HLA.out.below hb0 hpos) HSO.out
    rw [← hl] at hpa
    have HPA := Lib.hid hpa
    have HOK := Lib.hid hok
    clear hpa hok hl
    go_wp2_with (go_at_call 10; refine HPA.out.mono ?_; rintro e w3 ⟨Ap, cp, l5, rfl, hperm, hpw, hrow, hb3⟩)
    obtain ⟨m, hm⟩ : ∃ m, m = l.length := ⟨_, rfl⟩
    rw [← hm] at hrow ⊢
    have hs3 := hb3.size
    have hpc := hrow.cap
    have HROW := Lib.hid hrow
    have HPERM := Lib.hid hperm
    have HSOL3 := Lib.hid (HSOL.out.below hb3 hbs)
    have HI3 := Lib.hid (((HO4.out.below hb3 (Nat.le_refl _)).ints))
    have HO3 := Lib.hid (HO4.out.below hb3 (Nat.le_refl _))
    have HB0 := Lib.hid (hb0.trans (hb3.mono hs2))
    clear hrow hperm hpw hm hb0 hb3
    go_loopw [31] (fun v wr => ∃ k : Nat, v = .int .i64 (k : Int) ∧ k ≤ m ∧ Below w3.heap.size w3 wr) (fun v _ => m - (intOf v).toNat)
    case atStart => exact ⟨0, rfl, Nat.zero_le _, Below.refl _ _⟩
    case round =>
      obtain ⟨k, rfl, hk, hbel⟩ := hrel
      have hsr := hbel.size
      obtain ⟨k1, k2⟩ := (HSOL3.out.below hbel (by omega)).cell1
      by_cases hlt : k < m
      · obtain ⟨⟨a0, b0⟩, hp⟩ : ∃ p, l5[k]? = some p := ⟨_, List.getElem?_eq_getElem (by rw [HROW.out.1]; exact hlt)⟩
        obtain ⟨a, b, e1, e2, hab, hbn⟩ := HOK.out (a0, b0) (HPERM.out.mem_iff.1 (List.mem_of_getElem? hp))
        simp only at e1 e2
        subst e1 e2
        obtain ⟨_, g, rfl, hg1, hg2, ca, cb⟩ := (HROW.out.below hbel (Nat.le_refl _)).at_ hp
        simp only at ca cb
        have hin := inside_dull w3.heap.size bs A3 n c3 a b cs 2 (wr.alloc (.cells #[.int .i64 (a : Int), .int .i64 (b : Int)] 29)) ((HI3.out.below (hbel.alloc hsr _))) (by simp; omega) hn HD.out (by decide)
          ((((Below.refl wr.heap.size wr).alloc (Nat.le_refl _) _).cell (p := ⟨bs, 1, none⟩) (by show bs < wr.heap.size; omega)).trans k1) ((((Below.refl wr.heap.size wr).alloc (Nat.le_refl _) _).cell (p := ⟨bs, 2, none⟩) (by show bs < wr.heap.size; omega)).trans k2) hab hbn
        have HIN := Lib.hid hin
        clear hin hp k1 k2
        go_wp2_with (go_at_call 28; refine HIN.out.mono ?_; rintro e w5 ⟨rfl, hb5⟩)
        go_roundw
        case rel => exact ⟨k + 1, by go_num, by omega, (hbel.alloc hsr _).trans (hb5.mono (by simp; omega))⟩
        case measure => simp [intOf]; omega
      · have hge : m ≤ k := by omega
        go_wp2_with fail
        go_ret
        exact ⟨A3, c3, rfl, HO3.out.below hbel (Nat.le_refl _), HB0.out.trans (hbel.mono (Nat.le_trans hs2 hs3))⟩

end Go.Proofs.YtbpaogmnaodcaaaDoor
