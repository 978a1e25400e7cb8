/- The walk of find: the row of a sign, by two searches that halve. Condition: the table of last signs lies as laid. -/
import Derived.Test.YtbpaogmnaodcaaaDoorPropC
import Derived.BigQuiet
import Derived.Deep.DeepCutAuto
import Derived.Laws.ResultCell
namespace Go.Proofs.YtbpaogmnaodcaaaDoor
open Go.RowKit

def lastsL : List Int := [42, 96, 180, 1023, 1563, 1644, 1749, 3654, 8232, 8383, 12298, 64335, 917999]
/-- the table of last signs lies as laid -/
def Lasts (w : World) : Prop := ∀ j x, lastsL[j]? = some x → w.cell? ⟨0, j, none⟩ = some (.int .i32 x)
theorem Lasts.below {w w' : World} {B : Nat} (h : Lasts w) (hb : Below B w w') (hB : 0 < B) : Lasts w' := fun j x hx => (hb.cell (p := ⟨0, j, none⟩) hB).trans (h j x hx)
theorem Lasts.pos {w : World} (h : Lasts w) : 0 < w.heap.size := World.block_lt_of_cell? w _ (h 0 42 rfl)

theorem search_iff (r : Int) : ∀ (l : List Int), l.Pairwise (· ≤ ·) → ∀ (m : Nat) (x : Int), l[m]? = some x → (m < l.findIdx (fun y => !decide (y < r)) ↔ x < r)
  | [], _, m, x, h => by simp at h
  | a :: l, hp, 0, x, h => by
    simp at h
    subst h
    rw [List.findIdx_cons]
    by_cases ha : a < r <;> simp [ha]
  | a :: l, hp, m + 1, x, h => by
    have hp' := List.pairwise_cons.1 hp
    have hx := hp'.1 x (List.mem_of_getElem? (by simpa using h))
    have ih := search_iff r l hp'.2 m x (by simpa using h)
    rw [List.findIdx_cons]
    by_cases ha : a < r
    · simp [ha]; simpa using ih
    · simp [ha]; omega
def kOf (r : Int) : Nat := lastsL.findIdx (fun y => !decide (y < r))
theorem kOf_iff (r : Int) {m : Nat} {x : Int} (h : lastsL[m]? = some x) : m < kOf r ↔ x < r := search_iff r lastsL (by decide) m x h
theorem kOf_le (r : Int) : kOf r ≤ 13 := by unfold kOf; exact List.findIdx_le_length
def tos (c : List Sign) : List Int := c.map (·.to)
def jOf (c : List Sign) (r : Int) : Nat := min 19 ((tos c).findIdx (fun y => !decide (y < r)))
theorem jOf_iff {c : List Sign} (hc : (tos c).Pairwise (· ≤ ·)) (r : Int) {m : Nat} {x : Sign} (h : c[m]? = some x) (hm : m < 19) : m < jOf c r ↔ x.to < r := by
  have := search_iff r (tos c) hc m x.to (by unfold tos; simp [h])
  unfold jOf
  rw [← this]
  omega
theorem tabs_ok : ∀ c ∈ tabs, c.length = 20 ∧ (tos c).Pairwise (· ≤ ·) := by decide +kernel
theorem tabs_length : tabs.length = 13 := rfl

theorem cellsL_at {l : List Sign} {k i : Nat} {x : Sign} (hk : l[k]? = some x) (hi : i < 11) : (cellsL l)[k * 11 + i]? = x.cells[i]? := by
  induction l generalizing k with
  | nil => simp at hk
  | cons e l ih =>
    rw [cellsL, List.flatMap_cons]
    rcases k with _ | k
    · simp at hk; subst hk
      rw [List.getElem?_append_left (by simp [Sign.cells, rowV]; omega)]; simp
    · simp at hk
      rw [List.getElem?_append_right (by simp [Sign.cells, rowV]; omega)]
      rw [← ih hk, show (k + 1) * 11 + i - e.cells.toList.length = k * 11 + i by simp [Sign.cells, rowV]; omega]
      rfl
theorem chunk_cell {w : World} {b : Nat} {c : List Sign} {k i : Nat} {x : Sign} {t : TypeId} (h : w.heap[b]? = some (.cells (chunkV c) t (0, 0))) (hk : c[k]? = some x) (hi : i < 11) : w.cell? ⟨b, k * 11 + i, none⟩ = x.cells[i]? := by
  rw [cell_of_row _ _ _ _ _ _ h]
  unfold chunkV
  rw [List.getElem?_toArray, cellsL_at hk hi]

theorem results_row_tmp {P : Program} {fn : Func} {p u : Tmp} {ty : TypeId} (h : fn.results = #[.cell p ty, .tmp u]) (tmps : Array Value) (w : World) (g : Nat) (t : TypeId) (cs : Array Value) (fr : Nat × Nat) (d : TypeDesc)
    (hp : tmps.getD p undef = .pointer (some ⟨g, 0, none⟩)) (hg : w.heap[g]? = some (.cells cs t fr))
    (hu : P.underlying ty = some d) (hd : (match d with | .struct _ | .array _ _ => true | _ => false) = true) (hi : (P.info? ty).map (·.size) = some cs.size) :
    (results fn tmps).run P w = .ok (.tuple #[.agg cs, tmps.getD u undef]) w := by
  rw [results_cell_tmp h, hp]
  simp [asAddr, run_loadVar_row w g t ty cs fr d hg hu hd hi, Result.andThen]

theorem cellsL_length : ∀ (l : List Sign), (cellsL l).length = l.length * 11
  | [] => rfl
  | e :: r => by have := cellsL_length r; simp [cellsL, Sign.cells, rowV] at this ⊢; omega
theorem chunkV_size (c : List Sign) : (chunkV c).size = c.length * 11 := by unfold chunkV; rw [List.size_toArray, cellsL_length]
theorem chunkV_one (c : List Sign) : (chunkV c).all (·.oneCell') = true := by
  rw [Array.all_eq_true_iff_forall_mem]
  intro v hv
  unfold chunkV cellsL at hv
  simp only [List.mem_toArray, List.mem_flatMap] at hv
  obtain ⟨x, _, hx⟩ := hv
  simp [Sign.cells, rowV] at hx
  rcases hx with rfl | rfl | rfl | rfl | rfl | rfl | rfl | rfl | rfl | rfl | rfl <;> rfl

/-- a row is laid into a block of its own, cell by cell -/
theorem zero_filled (w : World) (g : Nat) (x : Sign) (t : TypeId) (h : w.heap[g]? = some (.cells Sign.zero.cells t (0, 0))) :
    ((((((((((((w.setCell ⟨g, 0, none⟩ (.int .i32 x.fr)).setCell ⟨g, 1, none⟩ (.int .i32 x.to)).setCell ⟨g, 2, none⟩ (.int .i64 x.bi)).setCell ⟨g, 3, none⟩ (.int .i64 x.cl)).setCell ⟨g, 4, none⟩ (.int .i64 x.br)).setCell ⟨g, 5, none⟩ (.int .i64 x.sc)).setCell ⟨g, 6, none⟩ (.int .i64 x.jn)).setCell ⟨g, 7, none⟩ (.int .i64 x.wd)).setCell ⟨g, 8, none⟩ (.int .i32 x.mi)).setCell ⟨g, 9, none⟩ (.int .i32 x.pa)).setCell ⟨g, 10, none⟩ (.bool x.op)).drew).heap[g]? = some (.cells x.cells t (0, 0)) := by
  simp only [Sign.zero, Sign.cells, rowV] at h
  have h0 := heap_setCell_same _ g 0 _ _ (.int .i32 x.fr) h
  simp only [List.setIfInBounds_toArray, List.set_cons_zero] at h0
  have h1 := heap_setCell_same _ g 1 _ _ (.int .i32 x.to) h0
  simp only [List.setIfInBounds_toArray, List.set_cons_succ, List.set_cons_zero] at h1
  have h2 := heap_setCell_same _ g 2 _ _ (.int .i64 x.bi) h1
  simp only [List.setIfInBounds_toArray, List.set_cons_succ, List.set_cons_zero] at h2
  have h3 := heap_setCell_same _ g 3 _ _ (.int .i64 x.cl) h2
  simp only [List.setIfInBounds_toArray, List.set_cons_succ, List.set_cons_zero] at h3
  have h4 := heap_setCell_same _ g 4 _ _ (.int .i64 x.br) h3
  simp only [List.setIfInBounds_toArray, List.set_cons_succ, List.set_cons_zero] at h4
  have h5 := heap_setCell_same _ g 5 _ _ (.int .i64 x.sc) h4
  simp only [List.setIfInBounds_toArray, List.set_cons_succ, List.set_cons_zero] at h5
  have h6 := heap_setCell_same _ g 6 _ _ (.int .i64 x.jn) h5
  simp only [List.setIfInBounds_toArray, List.set_cons_succ, List.set_cons_zero] at h6
  have h7 := heap_setCell_same _ g 7 _ _ (.int .i64 x.wd) h6
  simp only [List.setIfInBounds_toArray, List.set_cons_succ, List.set_cons_zero] at h7
  have h8 := heap_setCell_same _ g 8 _ _ (.int .i32 x.mi) h7
  simp only [List.setIfInBounds_toArray, List.set_cons_succ, List.set_cons_zero] at h8
  have h9 := heap_setCell_same _ g 9 _ _ (.int .i32 x.pa) h8
  simp only [List.setIfInBounds_toArray, List.set_cons_succ, List.set_cons_zero] at h9
  have h10 := heap_setCell_same _ g 10 _ _ (.bool x.op) h9
  simp only [List.setIfInBounds_toArray, List.set_cons_succ, List.set_cons_zero] at h10
  rw [heap_drew]
  exact h10

/-- the row that is found, and whether it has the sign -/
def found (r : Int) : Sign × Bool :=
  if kOf r = 13 then (Sign.zero, false)
  else ((tabs.getD (kOf r) []).getD (jOf (tabs.getD (kOf r) []) r) Sign.zero, decide (((tabs.getD (kOf r) []).getD (jOf (tabs.getD (kOf r) []) r) Sign.zero).fr ≤ r))

set_option maxRecDepth 100000 in
set_option maxHeartbeats 2000000 in
theorem find_any (r : Int) (w : World) (h : Lasts w) : Calls Tryd.prog 25 #[.int .i32 r] w (RetV w (.tuple #[.agg (found r).1.cells, .bool (found r).2])) := by
  have hpos := h.pos
  have HL := Lib.hid h
  clear h
  obtain ⟨Z, hz, hzs⟩ := zeroChunk
  have HZS := Lib.hid hzs
  clear hzs
  go_enter Tryd.func25, Tryd.ntmps25
  go_wp2_with fail
  go_loop [4, 5, 6] (fun lo hi _ => ∃ a b : Nat, lo = .int .i64 (a : Int) ∧ hi = .int .i64 (b : Int) ∧ a ≤ kOf r ∧ kOf r ≤ b ∧ b ≤ 13) (fun lo hi _ => (intOf hi).toNat - (intOf lo).toNat)
  case atStart => exact ⟨0, 13, rfl, rfl, Nat.zero_le _, kOf_le r, Nat.le_refl _⟩
  case round =>
    obtain ⟨a, b, rfl, rfl, h1, h2, h3⟩ := hrel
    by_cases hab : a < b
    · obtain ⟨m, hm⟩ : ∃ m, m = (a + b) / 2 := ⟨_, rfl⟩
      have hm1 : a ≤ m := by omega
      have hm2 : m < b := by omega
      obtain ⟨x, hx⟩ : ∃ x, lastsL[m]? = some x := ⟨_, List.getElem?_eq_getElem (by show m < 13; omega)⟩
      have hcx := HL.out m x hx
      have hiff := kOf_iff r hx
      have hq1 : ((a : Int) + (b : Int)).tdiv 2 = (m : Int) := by rw [Int.tdiv_eq_ediv_of_nonneg (by omega)]; omega
      have hwr : IntKind.i64.wrap ((a : Int) + (b : Int)) = (a : Int) + (b : Int) := by rw [IntKind.wrap_i64]; omega
      have hm13 : m < 13 := by omega
      have hcx2 : (w.alloc (.cells #[.int .i32 0, .int .i32 0, .int .i64 0, .int .i64 0, .int .i64 0, .int .i64 0, .int .i64 0, .int .i64 0, .int .i32 0, .int .i32 0, .bool false] 52)).cell? ⟨0, m, none⟩ = some (.int .i32 x) :=
        (((Below.refl w.heap.size w).alloc (Nat.le_refl _) _).cell (p := ⟨0, m, none⟩) hpos).trans hcx
      have HX := Lib.hid (And.intro hm hx)
      clear hm hx hcx
      by_cases hxr : x < r
      · have d1 : decide (x < r) = true := by simpa using hxr
        have hk := hiff.2 hxr
        clear hxr hiff
        go_wp2_with fail
        go_round
        case rel => exact ⟨m + 1, b, by go_num, rfl, by omega, h2, h3⟩
        case measure => simp [intOf]; omega
      · have d1 : decide (x < r) = false := by simpa using hxr
        have hk : kOf r ≤ m := by
          rcases Nat.lt_or_ge m (kOf r) with h | h
          · exact absurd (hiff.1 h) hxr
          · exact h
        clear hxr hiff
        go_wp2_with fail
        go_round
        case rel => exact ⟨a, m, rfl, by go_num, h1, hk, by omega⟩
        case measure => simp [intOf]; omega
    · have hkb : a = kOf r := by omega
      have hbk : b = kOf r := by omega
      by_cases h13 : kOf r = 13
      · have hf : found r = (Sign.zero, false) := by unfold found; rw [if_pos h13]
        have ha : a = 13 := by omega
        have hb : b = 13 := by omega
        subst ha hb
        have HF := Lib.hid hf
        clear hkb hbk h13 hf
        go_wp2_with fail
        (try simp only [Exit.inBlock, Exit.then])
        refine bodyPost_ret (results_row_tmp rfl _ _ w.heap.size 52 Sign.zero.cells (0, 0) _ rfl (heap_alloc_new _ _) Tryd.underlying52 rfl sizeRow) rfl ?_
        exact ⟨by rw [HF.out]; rfl, (Below.refl _ _).alloc (Nat.le_refl _) _⟩
      · have hk13 : kOf r < 13 := by have := kOf_le r; omega
        obtain ⟨k, hk⟩ : ∃ k, k = kOf r := ⟨_, rfl⟩
        obtain ⟨c, hc⟩ : ∃ c, c = tabs.getD k [] := ⟨_, rfl⟩
        have hcm : c ∈ tabs := by
          rw [hc, List.getD_eq_getElem?_getD, List.getElem?_eq_getElem (by show k < 13; omega)]
          simp
        obtain ⟨hcl, hcs⟩ := tabs_ok c hcm
        have hf : found r = (c.getD (jOf c r) Sign.zero, decide ((c.getD (jOf c r) Sign.zero).fr ≤ r)) := by unfold found; rw [if_neg h13, ← hk, ← hc]
        have hak : a = k := by omega
        have hb2 : b = k := by omega
        subst hb2
        subst hak
        have ne : (a == 13) = false := by simp; omega
        have ne2 : ((a : Int) == 13) = false := by simp; omega
        have hof : ∀ w, Calls Tryd.prog 37 #[.int .i64 (a : Int)] w (RetV w (.agg (chunkV c))) := by intro w; rw [hc]; exact of_any a (by omega) w
        have HOFK := Lib.hid hof
        clear hof
        have HSZ := Lib.hid (show (Tryd.prog.info? 69).map (·.size) = some (chunkV c).size ∧ Z.size = (chunkV c).size by rw [chunkV_size, hcl]; exact ⟨sizeChunk, HZS.out⟩)
        have HF := Lib.hid hf
        have HC := Lib.hid hc
        have HCL := Lib.hid hcl
        have HCS := Lib.hid hcs
        have HKK := Lib.hid hk
        clear hf hc hcl hcs hcm h13 hkb hbk h1 h2 h3 hk
        go_upto_region 10 with (first
          | (go_at_call 37; refine (HOFK.out _).mono ?_; rintro e w1 ⟨rfl, hb1⟩)
          | (refine wpList_store_row rfl 69 _ _ rfl w1.heap.size (chunkV c) rfl rfl 69 Z (heap_alloc_new _ _) (HSZ.out.1) (HSZ.out.2) (chunkV_one c) ?_))
        have hb7 : ((w1.alloc (.cells Z 69)).setRow w1.heap.size (chunkV c)).heap[w1.heap.size]? = some (.cells (chunkV c) 69 (0, 0)) := setRow_heap _ _ Z _ _ _ (heap_alloc_new _ _)
        have hs1 := hb1.size
        have hsz1 : w.heap.size < w1.heap.size := by simp at hs1; omega
        have hb2 : ((w1.alloc (.cells Z 69)).setRow w1.heap.size (chunkV c)).heap[w.heap.size]? = some (.cells Sign.zero.cells 52 (0, 0)) := by
          rw [setRow_other _ _ _ _ (by omega), heap_alloc_old _ _ hsz1, hb1.block _ (by simp), heap_alloc_new]; rfl
        have hbel : Below w.heap.size w ((w1.alloc (.cells Z 69)).setRow w1.heap.size (chunkV c)) :=
          below_setRow ((((Below.refl _ _).alloc (Nat.le_refl _) _).trans (hb1.mono (by simp))).alloc (by omega) _) (by omega) _
        generalize (w1.alloc (.cells Z 69)).setRow w1.heap.size (chunkV c) = w2 at hb7 hb2 hbel ⊢
        generalize w1.heap.size = b7 at hb7 hsz1 ⊢
        clear hb1 hs1
        have HB7 := Lib.hid hb7
        have HB2 := Lib.hid hb2
        clear hb7 hb2
        have hj19 : jOf c r ≤ 19 := by unfold jOf; omega
        go_wp2_with fail
        go_loop [4, 5, 8] (fun lo hi _ => ∃ a b : Nat, lo = .int .i64 (a : Int) ∧ hi = .int .i64 (b : Int) ∧ a ≤ jOf c r ∧ jOf c r ≤ b ∧ b ≤ 19) (fun lo hi _ => (intOf hi).toNat - (intOf lo).toNat)
        case atStart => exact ⟨0, 19, rfl, rfl, Nat.zero_le _, hj19, Nat.le_refl _⟩
        case round =>
          obtain ⟨a2, b, rfl, rfl, h1, h2, h3⟩ := hrel
          by_cases hab2 : a2 < b
          · obtain ⟨m, hm⟩ : ∃ m, m = (a2 + b) / 2 := ⟨_, rfl⟩
            have hm1 : a2 ≤ m := by omega
            have hm2 : m < b := by omega
            obtain ⟨x, hx⟩ : ∃ x, c[m]? = some x := ⟨_, List.getElem?_eq_getElem (by rw [HCL.out]; omega)⟩
            have hcx : w2.cell? ⟨b7, m * 11 + 1, none⟩ = some (.int .i32 x.to) := by rw [chunk_cell HB7.out hx (by omega)]; rfl
            have hiff := jOf_iff HCS.out r hx (by omega)
            have hq1 : ((a2 : Int) + (b : Int)).tdiv 2 = (m : Int) := by rw [Int.tdiv_eq_ediv_of_nonneg (by omega)]; omega
            have hwr : IntKind.i64.wrap ((a2 : Int) + (b : Int)) = (a2 : Int) + (b : Int) := by rw [IntKind.wrap_i64]; omega
            have hm20 : m < 20 := by omega
            clear hm hx
            by_cases hxr : x.to < r
            · have d1 : decide (x.to < r) = true := by simpa using hxr
              have hk := hiff.2 hxr
              clear hxr hiff
              go_wp2_with fail
              go_round
              case rel => exact ⟨m + 1, b, by go_num, rfl, by omega, h2, h3⟩
              case measure => simp [intOf]; omega
            · have d1 : decide (x.to < r) = false := by simpa using hxr
              have hk : jOf c r ≤ m := by
                rcases Nat.lt_or_ge m (jOf c r) with h | h
                · exact absurd (hiff.1 h) hxr
                · exact h
              clear hxr hiff
              go_wp2_with fail
              go_round
              case rel => exact ⟨a2, m, rfl, by go_num, h1, hk, by omega⟩
              case measure => simp [intOf]; omega
          · have hj : a2 = jOf c r := by omega
            have hbj : b = a2 := by omega
            subst hbj
            obtain ⟨x, hx⟩ : ∃ x, c[b]? = some x := ⟨_, List.getElem?_eq_getElem (by rw [HCL.out]; omega)⟩
            have hxg : c.getD (jOf c r) Sign.zero = x := by rw [← hj, List.getD_eq_getElem?_getD, hx]; rfl
            have hb20 : b < 20 := by omega
            have c0 : w2.cell? ⟨b7, b * 11, none⟩ = some (.int .i32 x.fr) := by have := chunk_cell HB7.out hx (i := 0) (by omega); exact this
            have c1 : w2.cell? ⟨b7, b * 11 + 1, none⟩ = some (.int .i32 x.to) := by have := chunk_cell HB7.out hx (i := 1) (by omega); exact this
            have c2 : w2.cell? ⟨b7, b * 11 + 2, none⟩ = some (.int .i64 x.bi) := by have := chunk_cell HB7.out hx (i := 2) (by omega); exact this
            have c3 : w2.cell? ⟨b7, b * 11 + 3, none⟩ = some (.int .i64 x.cl) := by have := chunk_cell HB7.out hx (i := 3) (by omega); exact this
            have c4 : w2.cell? ⟨b7, b * 11 + 4, none⟩ = some (.int .i64 x.br) := by have := chunk_cell HB7.out hx (i := 4) (by omega); exact this
            have c5 : w2.cell? ⟨b7, b * 11 + 5, none⟩ = some (.int .i64 x.sc) := by have := chunk_cell HB7.out hx (i := 5) (by omega); exact this
            have c6 : w2.cell? ⟨b7, b * 11 + 6, none⟩ = some (.int .i64 x.jn) := by have := chunk_cell HB7.out hx (i := 6) (by omega); exact this
            have c7 : w2.cell? ⟨b7, b * 11 + 7, none⟩ = some (.int .i64 x.wd) := by have := chunk_cell HB7.out hx (i := 7) (by omega); exact this
            have c8 : w2.cell? ⟨b7, b * 11 + 8, none⟩ = some (.int .i32 x.mi) := by have := chunk_cell HB7.out hx (i := 8) (by omega); exact this
            have c9 : w2.cell? ⟨b7, b * 11 + 9, none⟩ = some (.int .i32 x.pa) := by have := chunk_cell HB7.out hx (i := 9) (by omega); exact this
            have c10 : w2.cell? ⟨b7, b * 11 + 10, none⟩ = some (.bool x.op) := by have := chunk_cell HB7.out hx (i := 10) (by omega); exact this
            have HXG := Lib.hid hxg
            clear hxg hx hj h1 h2 hj19 h3
            have z0 : w2.cell? ⟨w.heap.size, 0, none⟩ = some (.int .i32 0) := by rw [cell_of_row _ _ 0 _ _ _ HB2.out]; rfl
            have f0 : w2.frozen? ⟨w.heap.size, 0, none⟩ = false := frozen_of_row _ _ 0 _ _ HB2.out
            have z1 : w2.cell? ⟨w.heap.size, 1, none⟩ = some (.int .i32 0) := by rw [cell_of_row _ _ 1 _ _ _ HB2.out]; rfl
            have f1 : w2.frozen? ⟨w.heap.size, 1, none⟩ = false := frozen_of_row _ _ 1 _ _ HB2.out
            have z2 : w2.cell? ⟨w.heap.size, 2, none⟩ = some (.int .i64 0) := by rw [cell_of_row _ _ 2 _ _ _ HB2.out]; rfl
            have f2 : w2.frozen? ⟨w.heap.size, 2, none⟩ = false := frozen_of_row _ _ 2 _ _ HB2.out
            have z3 : w2.cell? ⟨w.heap.size, 3, none⟩ = some (.int .i64 0) := by rw [cell_of_row _ _ 3 _ _ _ HB2.out]; rfl
            have f3 : w2.frozen? ⟨w.heap.size, 3, none⟩ = false := frozen_of_row _ _ 3 _ _ HB2.out
            have z4 : w2.cell? ⟨w.heap.size, 4, none⟩ = some (.int .i64 0) := by rw [cell_of_row _ _ 4 _ _ _ HB2.out]; rfl
            have f4 : w2.frozen? ⟨w.heap.size, 4, none⟩ = false := frozen_of_row _ _ 4 _ _ HB2.out
            have z5 : w2.cell? ⟨w.heap.size, 5, none⟩ = some (.int .i64 0) := by rw [cell_of_row _ _ 5 _ _ _ HB2.out]; rfl
            have f5 : w2.frozen? ⟨w.heap.size, 5, none⟩ = false := frozen_of_row _ _ 5 _ _ HB2.out
            have z6 : w2.cell? ⟨w.heap.size, 6, none⟩ = some (.int .i64 0) := by rw [cell_of_row _ _ 6 _ _ _ HB2.out]; rfl
            have f6 : w2.frozen? ⟨w.heap.size, 6, none⟩ = false := frozen_of_row _ _ 6 _ _ HB2.out
            have z7 : w2.cell? ⟨w.heap.size, 7, none⟩ = some (.int .i64 0) := by rw [cell_of_row _ _ 7 _ _ _ HB2.out]; rfl
            have f7 : w2.frozen? ⟨w.heap.size, 7, none⟩ = false := frozen_of_row _ _ 7 _ _ HB2.out
            have z8 : w2.cell? ⟨w.heap.size, 8, none⟩ = some (.int .i32 0) := by rw [cell_of_row _ _ 8 _ _ _ HB2.out]; rfl
            have f8 : w2.frozen? ⟨w.heap.size, 8, none⟩ = false := frozen_of_row _ _ 8 _ _ HB2.out
            have z9 : w2.cell? ⟨w.heap.size, 9, none⟩ = some (.int .i32 0) := by rw [cell_of_row _ _ 9 _ _ _ HB2.out]; rfl
            have f9 : w2.frozen? ⟨w.heap.size, 9, none⟩ = false := frozen_of_row _ _ 9 _ _ HB2.out
            have z10 : w2.cell? ⟨w.heap.size, 10, none⟩ = some (.bool false) := by rw [cell_of_row _ _ 10 _ _ _ HB2.out]; rfl
            have f10 : w2.frozen? ⟨w.heap.size, 10, none⟩ = false := frozen_of_row _ _ 10 _ _ HB2.out
            go_upto_region 16 with (fail)
            go_region
            have hend := zero_filled w2 w.heap.size x 52 HB2.out
            have hbend := Below.drew (((((((((((hbel.setCell (p := ⟨w.heap.size, 0, none⟩) (Nat.le_refl _) (.int .i32 x.fr)).setCell (p := ⟨w.heap.size, 1, none⟩) (Nat.le_refl _) (.int .i32 x.to)).setCell (p := ⟨w.heap.size, 2, none⟩) (Nat.le_refl _) (.int .i64 x.bi)).setCell (p := ⟨w.heap.size, 3, none⟩) (Nat.le_refl _) (.int .i64 x.cl)).setCell (p := ⟨w.heap.size, 4, none⟩) (Nat.le_refl _) (.int .i64 x.br)).setCell (p := ⟨w.heap.size, 5, none⟩) (Nat.le_refl _) (.int .i64 x.sc)).setCell (p := ⟨w.heap.size, 6, none⟩) (Nat.le_refl _) (.int .i64 x.jn)).setCell (p := ⟨w.heap.size, 7, none⟩) (Nat.le_refl _) (.int .i64 x.wd)).setCell (p := ⟨w.heap.size, 8, none⟩) (Nat.le_refl _) (.int .i32 x.mi)).setCell (p := ⟨w.heap.size, 9, none⟩) (Nat.le_refl _) (.int .i32 x.pa)).setCell (p := ⟨w.heap.size, 10, none⟩) (Nat.le_refl _) (.bool x.op))
            have HEND := Lib.hid hend
            have HBEND := Lib.hid hbend
            clear hend hbend c0 c1 c2 c3 c4 c5 c6 c7 c8 c9 c10 z0 f0 z1 f1 z2 f2 z3 f3 z4 f4 z5 f5 z6 f6 z7 f7 z8 f8 z9 f9 z10 f10
            go_wp2_with fail
            (try simp only [Exit.inBlock, Exit.then])
            refine bodyPost_ret (results_row_tmp rfl _ _ w.heap.size 52 x.cells (0, 0) _ rfl HEND.out Tryd.underlying52 rfl sizeRow) rfl ?_
            exact ⟨by rw [HF.out, HXG.out]; rfl, HBEND.out⟩

end Go.Proofs.YtbpaogmnaodcaaaDoor
