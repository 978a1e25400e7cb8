/- slices.Sort and Compact by the shelf's contracts, and the walk of single.Glyphs. Condition: the lookup reads as its shape and is one that may be. Printed by wip/tools/g27n.py. -/
import Derived.Test.YtbjeflblhjfagaaGlyP
import Derived.Test.YtbjeflblhjfagaaSingA
import Derived.Test.YtbjeflblhjfagaaShelf
import Derived.Shelf.Sort.Plain
import Derived.Shelf.Slices.CompactI
import Derived.Shelf.Slices.In.SortNone
namespace Go.Proofs.Ytbjeflblhjfagaa
open Go.RowKit Go.Shelf Go.Lib
open Go.Sort hiding Below

theorem Own.take {w : World} {base : Nat} {e : TypeId} {A : Option Addr} {n c : Nat} {zs : List Int} {m : Nat} (h : Own w base e A n c zs) (hm : m ≤ n) : Own w base e A m c (zs.take m) := by
  have hl := Own.length h
  refine ⟨by simp [cellsOf]; omega, ?_⟩
  rcases h.2 with ⟨h', rfl⟩ | ⟨g, cap, cur, h', h1, h2, h3, h4, h5, h6⟩
  · obtain rfl : m = 0 := by omega
    exact .inl ⟨h', rfl⟩
  · simp only [Value.slice.injEq] at h'
    obtain ⟨rfl, -, rfl⟩ := h'
    refine .inr ⟨g, c, cur, rfl, h1, h2, by omega, h4, h5, ?_⟩
    have : cur.toList.take (m * 1) = (cur.toList.take (n * 1)).take m := by rw [List.take_take]; congr 1; omega
    rw [this, h6]
    simp [cellsOf, List.map_take]
/-- a row whose cells a library function has laid anew -/
theorem Own.relaid {w : World} {base : Nat} {g n c q : Nat} {zs ys : List Int} {os : Array Obj} (h : Own w base 3 (some ⟨g, 0, none⟩) n c zs) (hy : ys.length = n) (hbase : base ≤ w.heap.size) :
    Own (grow (putRow (Value.int .i64) (Go.Sort.ahead w q) g 0 ys.toArray) os) base 3 (some ⟨g, 0, none⟩) n c ys ∧ Below base w (grow (putRow (Value.int .i64) (Go.Sort.ahead w q) g 0 ys.toArray) os) := by
  rcases h.2 with ⟨h', _⟩ | ⟨g', cap, cur, h', h1, h2, h3, h4, h5, h6⟩
  · simp at h'
  · simp only [Value.slice.injEq, Option.some.injEq, Addr.mk.injEq, and_true, true_and] at h'
    obtain ⟨rfl, rfl⟩ := h'
    have hgs : g < w.heap.size := (Array.getElem?_eq_some_iff.1 h2).1
    refine ⟨⟨by simp [cellsOf, hy], .inr ⟨g, c, putCells (Value.int .i64) 0 ys.toArray cur, rfl, h1, ?_, h3, h4, by simp [putCells, h5], ?_⟩⟩, ?_⟩
    · rw [heap_grow_old _ _ (by simpa using hgs)]
      simp [putRow, mapBlock, Go.Sort.ahead, Array.getElem?_modify, h2, onCells]
    · apply List.ext_getElem?
      intro j
      by_cases hj : j < n
      · rw [List.getElem?_take_of_lt (by omega), Array.getElem?_toList]
        have hjc : j < cur.size := by rw [h5]; omega
        have hjy : j < ys.length := by omega
        simp [putCells, hjc, hjy, cellsOf]
      · rw [List.getElem?_take_eq_none (by omega), List.getElem?_eq_none (by simp [cellsOf]; omega)]
    · refine ⟨rfl, rfl, rfl, ?_, fun k hk => ?_⟩
      · rw [size_grow, size_putRow]
        exact Nat.le_add_right _ _
      · have hks : k < w.heap.size := Nat.lt_of_lt_of_le hk hbase
        rw [heap_grow_old _ _ (by simpa using hks)]
        have hgk : g ≠ k := by omega
        simp [putRow, mapBlock, Go.Sort.ahead, Array.getElem?_modify, hgk]
theorem Own.holds {w : World} {base : Nat} {e : TypeId} {g n c : Nat} {zs : List Int} (h : Own w base e (some ⟨g, 0, none⟩) n c zs) : Holds (Value.int .i64) w g 0 zs.toArray ∧ (0 < n → g < w.heap.size) := by
  refine ⟨fun j hj => ?_, fun hn => ?_⟩
  · have hj' : j < zs.length := by simpa using hj
    have hz : zs = zs.take j ++ zs[j] :: zs.drop (j + 1) := by rw [← List.drop_eq_getElem_cons hj', List.take_append_drop]
    have h' : Own w base e (some ⟨g, 0, none⟩) n c (zs.take j ++ zs[j] :: zs.drop (j + 1)) := by rw [← hz]; exact h
    obtain ⟨_, g2, hA, _, hg, hc, hf⟩ := Own.mid h' (k := j) (by simp; omega)
    simp only [Option.some.injEq, Addr.mk.injEq, and_true] at hA
    obtain rfl := hA
    rw [getI zs hj', Nat.zero_add]
    exact ⟨hc, hf⟩
  · have := Own.block h g (by simp [Value.ownBlock])
    exact this.2
theorem sort_any (w : World) (base : Nat) (A : Option Addr) (n c : Nat) (zs : List Int) (h : Own w base 3 A n c zs) (hbase : base ≤ w.heap.size) (hn : n ≤ 1000000) :
    Calls Try.prog 24 #[.slice A n c] w fun e w' => e = .returned (.tuple #[]) ∧ Own w' base 3 A n c (sortI zs) ∧ Below base w w' := by
  have hl := Own.length h
  rcases A with _ | a
  · obtain ⟨rfl, rfl⟩ := h.ints.2.2.2.1 rfl
    obtain rfl : zs = [] := List.eq_nil_of_length_eq_zero hl
    have h1 := Any.slices_Sort_int_none Tryd.sortI none 0 w
    change Calls Try.prog 24 _ _ _ at h1
    refine h1.mono ?_
    rintro e w' ⟨rfl, rfl⟩
    have e0 : sortI [] = [] := List.eq_nil_of_length_eq_zero (sortI_length [])
    exact ⟨rfl, by rw [e0]; exact h, Below.refl _ _⟩
  · obtain ⟨g, rfl, hg⟩ : ∃ g, a = ⟨g, 0, none⟩ ∧ g < w.heap.size := by
      rcases h.2 with ⟨h', _⟩ | ⟨g, cap, cur, h', _, h2, _⟩
      · simp at h'
      · simp only [Value.slice.injEq, Option.some.injEq] at h'
        exact ⟨g, h'.1, (Array.getElem?_eq_some_iff.1 h2).1⟩
    have h1 := Any.slices_Sort_int Tryd.sortI g 0 c zs w h.holds.1 hg (by omega)
    change Calls Try.prog 24 _ _ _ at h1
    rw [hl] at h1
    refine h1.mono ?_
    rintro e w' ⟨rfl, q, os, rfl⟩
    have h3 := Own.relaid (q := q) (os := os) h (ys := sortI zs) (by rw [sortI_length, hl]) hbase
    exact ⟨rfl, h3.1, h3.2⟩
theorem compact_any (w : World) (base : Nat) (A : Option Addr) (n c : Nat) (zs : List Int) (h : Own w base 3 A n c zs) (hbase : base ≤ w.heap.size) (hn : n ≤ 1000000) :
    Calls Try.prog 25 #[.slice A n c] w fun e w' => e = .returned (.slice A (Lib.compact zs).length c) ∧ Own w' base 3 A (Lib.compact zs).length c (Lib.compact zs) ∧ Below base w w' := by
  have hl := Own.length h
  have hcap := Own.cap h
  rcases A with _ | a
  · obtain ⟨rfl, rfl⟩ := h.ints.2.2.2.1 rfl
    obtain rfl : zs = [] := List.eq_nil_of_length_eq_zero hl
    have h1 := Any.slices_Compact_int_empty Tryd.compI none 0 w
    change Calls Try.prog 25 _ _ _ at h1
    refine h1.mono ?_
    rintro e w' ⟨rfl, rfl⟩
    have e0 : Lib.compact ([] : List Int) = [] := rfl
    exact ⟨rfl, h, Below.refl _ _⟩
  · obtain ⟨g, rfl, hg⟩ : ∃ g, a = ⟨g, 0, none⟩ ∧ g < w.heap.size := by
      rcases h.2 with ⟨h', _⟩ | ⟨g, cap, cur, h', _, h2, _⟩
      · simp at h'
      · simp only [Value.slice.injEq, Option.some.injEq] at h'
        exact ⟨g, h'.1, (Array.getElem?_eq_some_iff.1 h2).1⟩
    have h1 := Any.slices_Compact_int Tryd.compI g 0 c zs w h.holds.1 (by omega) (by omega)
    change Calls Try.prog 25 _ _ _ at h1
    rw [hl] at h1
    refine h1.mono ?_
    rintro e w' ⟨rfl, q, rfl⟩
    have hcl := compact_len zs
    obtain ⟨ys, hys⟩ : ∃ ys, ys = Lib.compact zs ++ List.replicate (n - (Lib.compact zs).length) 0 := ⟨_, rfl⟩
    have hyl : ys.length = n := by rw [hys, List.length_append, List.length_replicate]; omega
    have h3 := Own.relaid (q := q) (os := #[]) h (ys := ys) hyl hbase
    have hgr : grow (putRow (Value.int .i64) (Go.Sort.ahead w q) g 0 ys.toArray) #[] = putRow (Value.int .i64) (Go.Sort.ahead w q) g 0 ys.toArray := by unfold grow; rw [Array.append_empty]
    rw [hgr] at h3
    rw [← hys]
    refine ⟨rfl, ?_, h3.2⟩
    have h4 := Own.take h3.1 (m := (Lib.compact zs).length) (by omega)
    have h5 : ys.take (Lib.compact zs).length = Lib.compact zs := by rw [hys]; simp
    rw [h5] at h4
    exact h4

set_option maxRecDepth 100000 in
set_option maxHeartbeats 4000000 in
theorem sgly_any (B : Nat) (l : Lk) (ps : List PS) (w : World) (h : SubsR w B l.su.A l.su.n l.su.c ps) (h1' : LkOne (l.ki, ps)) (hB : B ≤ w.heap.size) :
    Calls Try.prog 12 #[.agg #[.int .i64 l.ki, .int .i64 l.fl, .int .i64 l.se, .slice l.su.A l.su.n l.su.c]] w (RetInts w (glyB (l.ki, ps))) := by
  have hcap := h.cap
  have hpl := h.1
  obtain ⟨w1, hw1⟩ : ∃ z, z = w.alloc (.cells #[.int .i64 l.ki, .int .i64 l.fl, .int .i64 l.se, .slice l.su.A l.su.n l.su.c] 31) := ⟨_, rfl⟩
  have hb1 : Below w.heap.size w w1 := by rw [hw1]; exact (Below.refl _ _).alloc (Nat.le_refl _) _
  have hs1 : w.heap.size < w1.heap.size := by rw [hw1]; simp
  have hkb : KBox w1 w.heap.size l := by rw [hw1]; exact heap_alloc_new _ _
  obtain ⟨l0, l1, l2, l3⟩ := hkb.cells
  have h0 := up_fact l0
  have h1 := up_fact l1
  have h2 := up_fact l2
  have h3 := up_fact l3
  have hA0 := Below.refl w1.heap.size w1
  clear l0 l1 l2 l3 hkb
  have HW1 := Lib.hid hw1
  clear hw1
  have hBw : B ≤ w1.heap.size := by omega
  have HS := Lib.hid (h.below (hb1.mono hB))
  have HONE := Lib.hid h1'
  have HPL := Lib.hid hpl
  clear h hpl h1'
  obtain ⟨t, ht⟩ : ∃ t, t = kiB l.ki := ⟨_, rfl⟩
  have HK := Lib.hid (show ∀ W, Calls Try.prog 21 #[.agg #[.int .i64 l.ki, .int .i64 l.fl, .int .i64 l.se, .slice l.su.A l.su.n l.su.c]] W fun e w' => e = .returned (.bool t) ∧ Below W.heap.size W w' from fun W => by rw [ht]; exact kind_any l W)
  have HT := Lib.hid ht
  clear ht
  go_enter Try.func12, Try.ntmps12
  go_upto_region 1 with (fail)
  rw [← HW1.out]
  rcases t with _ | _
  · go_wp2_with (go_at_call 21; refine (HK.out _).mono ?_; rintro e w9 ⟨rfl, hb⟩; have hA0 := bgo hA0 hb; clear hb)
    go_ret
    rw [glyB_off HT.out.symm]
    exact ⟨none, 0, rfl, Ints.nil_ _ _, hb1.trans (hA0.mono (by omega))⟩
  have hn64 : l.su.n ≤ 64 := by have h9 : ps.length ≤ 64 := HONE.out.1; have h8 := HPL.out; omega
  go_wp2_with (go_at_call 21; refine (HK.out _).mono ?_; rintro e w9 ⟨rfl, hb⟩; have hA0 := bgo hA0 hb; clear hb)
  go_loopw [3, 12] (fun v3 v wr => ∃ (k n : Nat) (A : Option Addr) (c : Nat) (out : List Int), v3 = .slice A n c ∧ v = .int .i64 (k : Int) ∧ k ≤ l.su.n ∧ Hid (Own wr w1.heap.size 3 A n c out) ∧ Hid (out = covs (ps.take k)) ∧ n ≤ k * 4096 ∧ Below w1.heap.size w1 wr) (fun _ v _ => l.su.n - (intOf v).toNat)
  case atStart => exact ⟨0, 0, none, 0, [], rfl, rfl, Nat.zero_le _, Own.nil_ _ _ _, rfl, by omega, hA0⟩
  case round =>
    obtain ⟨k, n, A, c, out, rfl, rfl, hk, HO, HE, hnk, hA⟩ := hrel
    have hcapo := Own.cap HO.out
    by_cases hlt : k < l.su.n
    · obtain ⟨b, o, s, eS, hbb, ⟨c0, c1, c2, c3, c4, c5, c6, c7, c8, c9, c10, c11⟩, _, hco, _⟩ := HS.out.2.2.2 k hlt
      obtain ⟨p, hp⟩ : ∃ p, p = ps.getD k nS := ⟨_, rfl⟩
      rw [← hp] at hco
      have hone := HONE.out.len HT.out.symm (j := k) (by show k < ps.length; rw [HPL.out]; exact hlt)
      rw [show (l.ki, ps).2.getD k nS = p from hp.symm] at hone
      have hcapc := hco.cap
      have hc4 : s.co.n ≤ 4096 := by rw [← hco.length]; exact hone.2.1
      have HP := Lib.hid hp
      have HCO := Lib.hid hco
      rw [eS] at h3 ⊢
      have y0 := up_fact c0
      have y1 := up_fact c1
      have y2 := up_fact c2
      have y3 := up_fact c3
      have y4 := up_fact c4
      have y5 := up_fact c5
      have y6 := up_fact c6
      have y7 := up_fact c7
      have y8 := up_fact c8
      have y9 := up_fact c9
      have y10 := up_fact c10
      have y11 := up_fact c11
      clear c0 c1 c2 c3 c4 c5 c6 c7 c8 c9 c10 c11 hp hone hco
      go_upto_region 7 with (fail)
      obtain ⟨w3, hw3⟩ : ∃ z, z = wr.alloc (.cells #[.slice s.co.A s.co.n s.co.c, .slice s.tt.A s.tt.n s.tt.c, .slice s.li.A s.li.n s.li.c, .slice s.ba.A s.ba.n s.ba.c, .slice s.inn.A s.inn.n s.inn.c, .slice s.ah.A s.ah.n s.ah.c, .slice s.ne.A s.ne.n s.ne.c, .slice s.va.A s.va.n s.va.c, .slice s.pr.A s.pr.n s.pr.c, .slice s.cu.A s.cu.n s.cu.c, .slice s.ma.A s.ma.n s.ma.c, .slice s.ho.A s.ho.n s.ho.c] 62) := ⟨_, rfl⟩
      obtain ⟨bx, hbx⟩ : ∃ z, z = wr.heap.size := ⟨_, rfl⟩
      rw [← hw3, ← hbx]
      have hA3 := (show Below w1.heap.size w1 w3 by rw [hw3]; exact hA.alloc hA.size _)
      have hX : w3.heap[bx]? = some (.cells #[.slice s.co.A s.co.n s.co.c, .slice s.tt.A s.tt.n s.tt.c, .slice s.li.A s.li.n s.li.c, .slice s.ba.A s.ba.n s.ba.c, .slice s.inn.A s.inn.n s.inn.c, .slice s.ah.A s.ah.n s.ah.c, .slice s.ne.A s.ne.n s.ne.c, .slice s.va.A s.va.n s.va.c, .slice s.pr.A s.pr.n s.pr.c, .slice s.cu.A s.cu.n s.cu.c, .slice s.ma.A s.ma.n s.ma.c, .slice s.ho.A s.ho.n s.ho.c] 62 (0, 0)) := by rw [hw3, hbx]; exact heap_alloc_new _ _
      have xf0 := up_fact (show w3.cell? ⟨bx, 0, none⟩ = some (.slice s.co.A s.co.n s.co.c) by rw [cell_of_row _ _ 0 _ _ _ hX]; rfl)
      have xf1 := up_fact (show w3.cell? ⟨bx, 1, none⟩ = some (.slice s.tt.A s.tt.n s.tt.c) by rw [cell_of_row _ _ 1 _ _ _ hX]; rfl)
      have xf2 := up_fact (show w3.cell? ⟨bx, 2, none⟩ = some (.slice s.li.A s.li.n s.li.c) by rw [cell_of_row _ _ 2 _ _ _ hX]; rfl)
      have xf3 := up_fact (show w3.cell? ⟨bx, 3, none⟩ = some (.slice s.ba.A s.ba.n s.ba.c) by rw [cell_of_row _ _ 3 _ _ _ hX]; rfl)
      have xf4 := up_fact (show w3.cell? ⟨bx, 4, none⟩ = some (.slice s.inn.A s.inn.n s.inn.c) by rw [cell_of_row _ _ 4 _ _ _ hX]; rfl)
      have xf5 := up_fact (show w3.cell? ⟨bx, 5, none⟩ = some (.slice s.ah.A s.ah.n s.ah.c) by rw [cell_of_row _ _ 5 _ _ _ hX]; rfl)
      have xf6 := up_fact (show w3.cell? ⟨bx, 6, none⟩ = some (.slice s.ne.A s.ne.n s.ne.c) by rw [cell_of_row _ _ 6 _ _ _ hX]; rfl)
      have xf7 := up_fact (show w3.cell? ⟨bx, 7, none⟩ = some (.slice s.va.A s.va.n s.va.c) by rw [cell_of_row _ _ 7 _ _ _ hX]; rfl)
      have xf8 := up_fact (show w3.cell? ⟨bx, 8, none⟩ = some (.slice s.pr.A s.pr.n s.pr.c) by rw [cell_of_row _ _ 8 _ _ _ hX]; rfl)
      have xf9 := up_fact (show w3.cell? ⟨bx, 9, none⟩ = some (.slice s.cu.A s.cu.n s.cu.c) by rw [cell_of_row _ _ 9 _ _ _ hX]; rfl)
      have xf10 := up_fact (show w3.cell? ⟨bx, 10, none⟩ = some (.slice s.ma.A s.ma.n s.ma.c) by rw [cell_of_row _ _ 10 _ _ _ hX]; rfl)
      have xf11 := up_fact (show w3.cell? ⟨bx, 11, none⟩ = some (.slice s.ho.A s.ho.n s.ho.c) by rw [cell_of_row _ _ 11 _ _ _ hX]; rfl)
      have hC := Below.refl w3.heap.size w3
      have HW3 := Lib.hid hw3
      clear hX hw3 hbx
      have HO3 := Lib.hid (show Own w3 w1.heap.size 3 A n c out by rw [HW3.out]; exact HO.out.alloc _)
      have hsz3 := hA3.size
      go_wp2_with (first
        | (at_builtin; refine wpList_append_ints _ rfl (.tmp 16) (.tmp 18) 36 rfl w1.heap.size 3 Try.underlying36 infoInt A n c out rfl HO3.out B s.co.A s.co.n s.co.c p.1 rfl (HCO.out.below (hA3.mono (by omega))) (by omega) (by omega) ?_; intro A4 c4 w4 ho4 hg4 _))
      have hA4 := below_append hA3 (by omega) hg4 HO3.out (Nat.le_refl _)
      have HO4 := Lib.hid ho4
      clear ho4 hg4
      have HE4 := Lib.hid (show out ++ p.1 = covs (ps.take (k + 1)) by
        have hkl : k < ps.length := by rw [HPL.out]; exact hlt
        rw [List.take_succ_eq_append_getElem hkl, HE.out, HP.out]
        unfold covs
        rw [List.flatMap_append, List.getD_eq_getElem?_getD, List.getElem?_eq_getElem hkl]
        simp)
      go_roundw
      case rel => exact ⟨k + 1, n + s.co.n, A4, c4, _, rfl, by go_num, by omega, HO4, HE4, by omega, hA4⟩
      case measure => simp [intOf]; omega
    · have hz : decide ((k : Int) < (l.su.n : Int)) = false := by simp; omega
      have HKN := Lib.hid (show k = l.su.n by omega)
      have hn6 : n ≤ 1000000 := by omega
      have hsz := hA.size
      go_wp2_with (first
        | (go_at_call 24; refine (sort_any _ w1.heap.size A n c out HO.out hsz hn6).mono ?_; rintro e w4 ⟨rfl, ho, hb⟩; have HO4 := Lib.hid ho; have hA4 := hA.trans hb; have hsz4 := hb.size; clear ho hb)
        | (go_at_call 25; refine (compact_any _ w1.heap.size A n c (sortI out) HO4.out (by omega) hn6).mono ?_; rintro e w5 ⟨rfl, ho, hb⟩; have HO5 := Lib.hid ho; have hA5 := hA4.trans hb; clear ho hb))
      go_ret
      have hg : glyB (l.ki, ps) = Lib.compact (sortI out) := by
        rw [glyB_on HT.out.symm, HE.out]
        have : ps.take k = ps := List.take_of_length_le (by rw [HPL.out]; exact Nat.le_of_eq HKN.out.symm)
        rw [this]
      rw [hg]
      exact ⟨A, c, rfl, HO5.out.ints, hb1.trans (hA5.mono (by omega))⟩

end Go.Proofs.Ytbjeflblhjfagaa
