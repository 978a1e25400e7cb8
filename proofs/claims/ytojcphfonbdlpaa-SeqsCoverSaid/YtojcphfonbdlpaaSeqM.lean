/- The walks of the law's cuts (equal lists) and alive. No condition. -/
import Derived.Test.YtojcphfonbdlpaaSeqL
import Derived.Test.YtojcphfonbdlpaaSeqH
namespace Go.Proofs.Ytojcphfonbdlpaa
open Go.RowKit

theorem cutCells_at {l : List (Int × Int)} {k : Nat} {x : Int × Int} (hk : l[k]? = some x) : (cutCells l)[k * 2]? = some (.int .i64 x.1) ∧ (cutCells l)[k * 2 + 1]? = some (.int .i64 x.2) := by
  induction l generalizing k with
  | nil => simp at hk
  | cons e l ih =>
    rcases k with _ | k
    · simp at hk; subst hk
      simp [cutCells]
    · simp at hk
      have := ih hk
      simp only [cutCells, List.flatMap_cons] at this ⊢
      rw [show (k + 1) * 2 = k * 2 + 1 + 1 by omega]
      simpa using this
theorem Cuts.at_ {w : World} {base : Nat} {A : Option Addr} {n c k : Nat} {l : List (Int × Int)} {x : Int × Int} (h : Cuts w base A n c l) (hk : l[k]? = some x) :
    ∃ g, A = some ⟨g, 0, none⟩ ∧ base ≤ g ∧ g < w.heap.size ∧ w.cell? ⟨g, k * 2, none⟩ = some (.int .i64 x.1) ∧ w.cell? ⟨g, k * 2 + 1, none⟩ = some (.int .i64 x.2) := by
  have hn := h.1
  have hkl := (List.getElem?_eq_some_iff.1 hk).1
  have hform : ∃ g, A = some ⟨g, 0, none⟩ ∧ base ≤ g ∧ g < w.heap.size := by
    rcases h.2.2 with ⟨h', hz⟩ | ⟨g, cap, cur, h', h1, h2, h3⟩
    · omega
    · simp only [Value.slice.injEq] at h'
      exact ⟨g, h'.1, h1, (Array.getElem?_eq_some_iff.1 h2).1⟩
  obtain ⟨g, rfl, h1, h2⟩ := hform
  obtain ⟨c1, c2⟩ := cutCells_at hk
  exact ⟨g, rfl, h1, h2, by rw [World.ownsRow.cellAt h.2 (k * 2) (by omega)]; exact c1, by rw [World.ownsRow.cellAt h.2 (k * 2 + 1) (by omega)]; exact c2⟩
theorem Cuts.drewN {w : World} {base : Nat} {A : Option Addr} {n c : Nat} {l : List (Int × Int)} (h : Cuts w base A n c l) (k : Nat) : Cuts (w.drewN k) base A n c l := h

theorem Cuts.below {w w' : World} {B base : Nat} {A : Option Addr} {n c : Nat} {l : List (Int × Int)} (h : Cuts w base A n c l) (hb : Below B w w') (hB : w.heap.size ≤ B) : Cuts w' base A n c l := ⟨h.1, row_below h.2 hb hB⟩

set_option maxHeartbeats 1000000 in
theorem cutsEq_any (A A2 : Option Addr) (n c base c2 base2 : Nat) (l : List (Int × Int)) (w : World) (h : Cuts w base A n c l) (h2 : Cuts w base2 A2 n c2 l) :
    Calls Try.prog 13 #[.slice A n c, .slice A2 n c2] w (Says true w) := by
  have hcap := h.cap
  have hcap2 := h2.cap
  have hl := h.1
  have hnn : ((n : Int) != (n : Int)) = false := by simp
  go_enter Try.func13, Try.ntmps13
  go_wp2_with fail
  go_loopw [5] (fun i wr => ∃ (k q : Nat), i = .int .i64 (k : Int) ∧ k ≤ n ∧ wr = w.drewN q) (fun i _ => n - (intOf i).toNat)
  case atStart => exact ⟨0, 0, rfl, Nat.zero_le _, rfl⟩
  case round =>
    obtain ⟨k, q, rfl, hk, rfl⟩ := hrel
    by_cases hlt : k < n
    · obtain ⟨⟨x, y⟩, hx⟩ : ∃ p, l[k]? = some p := ⟨_, List.getElem?_eq_getElem (by omega)⟩
      obtain ⟨g, rfl, _, _, hc1, hc2⟩ := h.at_ hx
      obtain ⟨g2, rfl, _, _, hc3, hc4⟩ := h2.at_ hx
      have hxx : (x != x) = false := by simp
      have hyy : (y != y) = false := by simp
      clear hx h h2 hl
      go_wp2_with fail
      go_quiet (fail)
      go_wp2
      go_roundw
      case rel => exact ⟨k + 1, _, by go_num, by omega, rfl⟩
      case measure => simp [intOf]; omega
    · have hge : n ≤ k := by omega
      go_wp2
      go_ret
      exact ⟨rfl, _, rfl⟩

/-- What a call leaves that answers true and turns nothing that was there. -/
def Fine (w : World) (e : Ending) (w' : World) : Prop := e = .returned (.bool true) ∧ Below w.heap.size w w'

set_option maxRecDepth 100000 in
set_option maxHeartbeats 2000000 in
theorem alive_any (w : World) : Calls Try.prog 7 #[] w (Fine w) := by
  have hbase : Below w.heap.size w ((w.alloc (.cells #[.int .i64 2, .int .i64 20, .int .i64 1, .int .i64 23, .int .i64 2] 3)).alloc (.cells #[.int .i64 1, .int .i64 1, .int .i64 2, .int .i64 1, .int .i64 1] 3)) :=
    ((Below.refl _ _).alloc (Nat.le_refl _) _).alloc (by simp) _
  have h1 : Ints ((w.alloc (.cells #[.int .i64 2, .int .i64 20, .int .i64 1, .int .i64 23, .int .i64 2] 3)).alloc (.cells #[.int .i64 1, .int .i64 1, .int .i64 2, .int .i64 1, .int .i64 1] 3)) (w.heap.size + 2) (some ⟨w.heap.size, 0, none⟩) 5 5 [2, 20, 1, 23, 2] :=
    ((Ints.lit (n := 5) w [2, 20, 1, 23, 2] _ _ (by omega) rfl rfl).alloc (by simp) _).more (by omega)
  have h2 : Ints ((w.alloc (.cells #[.int .i64 2, .int .i64 20, .int .i64 1, .int .i64 23, .int .i64 2] 3)).alloc (.cells #[.int .i64 1, .int .i64 1, .int .i64 2, .int .i64 1, .int .i64 1] 3)) (w.heap.size + 2) (some ⟨w.heap.size + 1, 0, none⟩) 5 5 [1, 1, 2, 1, 1] :=
    Ints.lit_at (n := 5) _ [1, 1, 2, 1, 1] _ _ (by omega) rfl rfl (by simp)
  have h3 := of_any (w.heap.size + 2) _ _ 5 5 5 _ _ 1 _ h1 h2 (by simp) (by omega) (by omega) (by simp)
  rw [Sq.of_alive] at h3
  have H3 := Lib.hid h3
  have HB := Lib.hid hbase
  clear h1 h2 h3 hbase
  go_enter Try.func7, Try.ntmps7
  go_wp2_with fail
  refine H3.out.mono ?_
  rintro e w1 ⟨A, c, rs, rfl, hrs, hsq, hb1⟩
  obtain ⟨r1, r2, rfl⟩ : ∃ r1 r2, rs = [r1, r2] := by
    rcases rs with _ | ⟨r1, _ | ⟨r2, _ | ⟨r3, rs⟩⟩⟩
    · simp at hrs
    · simp at hrs
    · exact ⟨r1, r2, rfl⟩
    · simp at hrs
  obtain ⟨g1, c1, s1⟩ := r1
  obtain ⟨g2, c2, s2⟩ := r2
  simp only [List.map_cons, List.map_nil, List.cons.injEq, and_true] at hrs
  obtain ⟨rfl, rfl⟩ := hrs
  simp only [List.length_cons, List.length_nil, Nat.zero_add, Nat.reduceAdd] at hsq ⊢
  have hqc := hsq.cap
  obtain ⟨_, g, rfl, hg1, hg2, a0, a1, a2, a3, ao⟩ := hsq.at_ (k := 0) rfl
  have hoc1 := ao.cap
  obtain ⟨_, g, e, _, _, b0, b1, b2, b3, bo⟩ := hsq.at_ (k := 1) rfl
  cases e
  have hoc2 := bo.cap
  have HSQ := Lib.hid hsq
  have HB1 := Lib.hid (HB.out.trans (hb1.mono HB.out.size))
  have AO := Lib.hid ao
  clear hb1 hsq ao bo
  go_wp2_with (first
    | (go_at_call_of 16 (Value.slice (some ⟨g1, 0, none⟩) 4 c1); refine (ints_any (some ⟨g1, 0, none⟩) (some ⟨w1.heap.size, 0, none⟩) 4 c1 _ 4 _ [0, 1, 3, 4] _ ((AO.out.alloc _).ints) (Ints.lit (n := 4) w1 [0, 1, 3, 4] _ _ (by omega) rfl rfl)).mono ?_; rintro e w9 ⟨rfl, k9, hk9⟩; have hb9 : Below w1.heap.size w1 w9 := (by rw [hk9]; exact below_drewN ((Below.refl _ _).alloc (Nat.le_refl _) _) k9); have HB9 := Lib.hid hb9; obtain ⟨_, g', e', _, hg9, a10, a11, a12, a13, _⟩ := (HSQ.out.below HB9.out (Nat.le_refl _)).at_ (k := 0) rfl; cases e'; obtain ⟨_, g', e', _, _, b10, b11, b12, b13, bo9⟩ := (HSQ.out.below HB9.out (Nat.le_refl _)).at_ (k := 1) rfl; cases e'; have BO9 := Lib.hid bo9; clear hk9 hb9 bo9)
    | (go_at_call_of 16 (Value.slice (some ⟨g2, 0, none⟩) 1 c2); refine (ints_any (some ⟨g2, 0, none⟩) (some ⟨w9.heap.size, 0, none⟩) 1 c2 _ 1 _ [2] _ ((BO9.out.alloc _).ints) (Ints.lit (n := 1) w9 [2] _ _ (by omega) rfl rfl)).mono ?_; rintro e w10 ⟨rfl, k10, hk10⟩; have hb10 : Below w9.heap.size w9 w10 := (by rw [hk10]; exact below_drewN ((Below.refl _ _).alloc (Nat.le_refl _) _) k10); have HB10 := Lib.hid (HB9.out.trans (hb10.mono HB9.out.size)); obtain ⟨_, g', e', _, hg10, a20, a21, a22, a23, _⟩ := (HSQ.out.below HB10.out (Nat.le_refl _)).at_ (k := 0) rfl; cases e'; obtain ⟨_, g', e', _, _, b20, b21, b22, b23, _⟩ := (HSQ.out.below HB10.out (Nat.le_refl _)).at_ (k := 1) rfl; cases e'; clear hk10 hb10))
  go_ret
  exact ⟨rfl, HB1.out.trans (HB10.out.mono HB1.out.size)⟩

end Go.Proofs.Ytojcphfonbdlpaa
