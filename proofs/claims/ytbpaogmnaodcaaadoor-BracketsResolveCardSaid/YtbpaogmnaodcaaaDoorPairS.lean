/- slices.SortFunc puts the pairs by their first places: by the shelf's contract. No condition but the pairs' bounds. -/
import Derived.Test.YtbpaogmnaodcaaaDoorShelf
import Derived.Test.YtbpaogmnaodcaaaDoorPairB
import Derived.Shelf.SlSortCmp.WholeK
import Derived.Shelf.SlSortCmp.NoneTotal
namespace Go.Proofs.YtbpaogmnaodcaaaDoor
open Go.RowKit Go.Shelf Go.Lib
open Go.Sort hiding Below

/-- a pair whose first place is bounded -/
abbrev SP := { p : Int × Int // 0 ≤ p.1 ∧ p.1 < 1000000 }
instance : Inhabited SP := ⟨⟨(0, 0), by decide⟩⟩
def encSP (x : SP) : List Value := [.int .i64 x.1.1, .int .i64 x.1.2]
def cfSP (x y : SP) : Int := x.1.1 - y.1.1
theorem ltSP (x y : SP) : ltOf cfSP x y = decide (x.1.1 < y.1.1) := by
  unfold ltOf cfSP
  by_cases h : x.1.1 < y.1.1
  · simp [h]; omega
  · simp [h]; omega
theorem swoSP : SWO (ltOf cfSP) where
  irrefl x := by rw [ltSP]; simp
  trans x y z h1 h2 := by rw [ltSP] at *; simp at *; omega
  ntrans x y z h1 h2 := by rw [ltSP] at *; simp at *; omega

set_option maxHeartbeats 1000000 in
theorem closure_any (x y : SP) (W : World) : Calls Tryd.prog 21 #[.agg #[.int .i64 x.1.1, .int .i64 x.1.2], .agg #[.int .i64 y.1.1, .int .i64 y.1.2]] W fun e w' => e = .returned (.int .i64 (cfSP x y)) ∧ ∃ q os', w' = grow (W.drewN q) os' := by
  obtain ⟨⟨a, a'⟩, ha⟩ := x
  obtain ⟨⟨b, b'⟩, hb⟩ := y
  simp only at ha hb
  unfold cfSP
  simp only
  have hw : IntKind.i64.wrap (a - b) = a - b := by rw [IntKind.wrap_i64]; omega
  go_enter Tryd.func21, Tryd.ntmps21
  go_wp2
  go_ret
  exact ⟨rfl, 0, _, by rw [alloc_eq_grow, alloc_eq_grow, grow_grow]; rfl⟩

/-- the sort's cells are the pairs' -/
theorem flat_cells (l : List SP) : (flatK encSP 2 l.toArray).toList = cells2 .i64 (l.map Subtype.val) := by
  apply List.ext_getElem?
  intro t
  by_cases ht : t < l.length * 2
  · have hk : t / 2 < l.length := by omega
    have h1 : (flatK encSP 2 l.toArray)[t]! = (encSP l.toArray[t / 2]!)[t % 2]! := get_flatK _ _ _ _ (by simpa using ht)
    have h2 : (flatK encSP 2 l.toArray).toList[t]? = some ((flatK encSP 2 l.toArray)[t]!) := by
      rw [getElem!_pos _ t (by simpa using ht)]
      simp
    have hx : (l.map Subtype.val)[t / 2]? = some (l[t / 2]).1 := by simp [hk]
    have h3 : l.toArray[t / 2]! = l[t / 2] := by rw [getElem!_pos _ _ (by simpa using hk)]; simp
    rw [h2, h1, h3]
    obtain ⟨c1, c2⟩ := cells2_at (q := .i64) hx
    rcases Nat.mod_two_eq_zero_or_one t with hm | hm
    · rw [show t / 2 * 2 = t by omega] at c1
      rw [c1, hm]; rfl
    · rw [show t / 2 * 2 + 1 = t by omega] at c2
      rw [c2, hm]; rfl
  · rw [List.getElem?_eq_none (by simp; omega), List.getElem?_eq_none (by rw [cells2_length]; simp; omega)]

theorem toSP (l : List (Int × Int)) (h : ∀ p ∈ l, 0 ≤ p.1 ∧ p.1 < 1000000) : ∃ s : List SP, s.map Subtype.val = l := ⟨l.attach.map fun p => ⟨p.1, h p.1 p.2⟩, by rw [List.map_map]; exact l.attach_map_subtype_val⟩

theorem sorted_of {s : List SP} {d' : Array SP} (hp : PermIn 0 s.toArray.size s.toArray d') (hs : SortedIn (ltOf cfSP) 0 s.toArray.size d') :
    d'.toList.Perm s ∧ (d'.toList.map Subtype.val).Pairwise (fun a b => a.1 ≤ b.1) := by
  obtain ⟨h1, _, h2⟩ := hp
  constructor
  · have e1 : d'.extract 0 s.toArray.size = d' := by rw [← h1]; simp
    have e2 : s.toArray.extract 0 s.toArray.size = s.toArray := by simp
    rw [e1, e2] at h2
    simpa using h2
  · rw [List.pairwise_iff_getElem]
    intro i j hi hj hij
    simp at hi hj
    have h3 := hs i j (Nat.zero_le _) hij (by rw [← h1]; exact hj)
    rw [ltSP, getElem!_pos d' j hj, getElem!_pos d' i hi] at h3
    simp at h3
    simpa using h3

theorem sort_any : SortOk := by
  intro w base A n c l hrow hbd hbase hn
  obtain ⟨s, rfl⟩ := toSP l hbd
  rcases A with _ | a
  · have hz : n = 0 := by
      rcases hrow.2.2 with ⟨h, rfl⟩ | ⟨g, cap, cur, h, _⟩
      · rfl
      · cases h
    subst hz
    have h := AnyF.slices_SortFunc_none Tryd.sortP none c (.func (.func 21) #[] #[]) w
    change Calls Tryd.prog 20 _ _ _ at h
    refine h.mono ?_
    rintro e w' ⟨rfl, rfl⟩
    have hl : s.map Subtype.val = [] := List.eq_nil_of_length_eq_zero hrow.1
    exact ⟨rfl, _, List.Perm.refl _, by rw [hl]; exact List.Pairwise.nil, hrow, Below.refl _ _⟩
  · obtain ⟨g, cap, cur, hv, hg, hb, h1, h2, h3, htake⟩ : ∃ g cap cur, Value.slice (some a) n c = .slice (some ⟨g, 0, none⟩) n cap ∧ base ≤ g ∧ w.heap[g]? = some (.cells cur 29 (0, 0)) ∧ n ≤ cap ∧ cap ≤ maxLen ∧ cur.size = cap * 2 ∧ cur.toList.take (n * 2) = cells2 .i64 (s.map Subtype.val) := by
      rcases hrow.2.2 with ⟨h, _⟩ | h
      · cases h
      · exact h
    cases hv
    have hlen : s.length = n := by simpa using hrow.1
    have hgs : g < w.heap.size := (Array.getElem?_eq_some_iff.1 hb).1
    have hH : HoldsK encSP 2 w g 0 s.toArray := by
      intro j hj
      have hj' : j < n * 2 := by simpa [hlen] using hj
      have hf : (flatK encSP 2 s.toArray).toList[j]? = some ((flatK encSP 2 s.toArray)[j]!) := by
        rw [getElem!_pos _ j hj]
        simp
      rw [flat_cells, ← htake, List.getElem?_take_of_lt hj'] at hf
      refine ⟨?_, ?_⟩
      · rw [Nat.zero_add, cell_of_row _ _ j _ _ _ hb]
        simpa using hf
      · exact World.ownsRow.frozenAt hrow.2 _
    have eg : ∀ args w, (callFunc 21 args).run Tryd.prog w = .ok (.enter 21 args) w := enters_of Tryd.func21 (by kernel_rfl) rfl
    have h := AnyQ.slices_SortFunc Tryd.sortP 2 Tryd.isAgg29 Tryd.sizeOf29 encSP (fun _ => rfl) (fun x v hv => by simp [encSP] at hv; rcases hv with rfl | rfl <;> rfl) cfSP swoSP 21 #[] g 0 c s.toArray w eg (fun _ _ _ _ x y => closure_any x y _) hH hgs (by simp; omega)
    change Calls Tryd.prog 20 _ _ _ at h
    rw [show s.toArray.size = n by simp [hlen]] at h
    refine h.mono ?_
    rintro e w' ⟨rfl, d', n', os, hp, hs, rfl⟩
    rw [show n = s.toArray.size by simp [hlen]] at hp hs
    obtain ⟨hperm, hpw⟩ := sorted_of hp hs
    have hdl : d'.size = n := by have := hp.1; simpa [hlen] using this
    refine ⟨rfl, d'.toList.map Subtype.val, hperm.map _, hpw, ⟨by simp [hdl], ?_⟩, ?_⟩
    · refine ⟨by rw [cells2_length]; simp [hdl], .inr ⟨g, c, putCells id 0 (flatK encSP 2 d') cur, rfl, hg, ?_, h1, h2, by simp [putCells, h3], ?_⟩⟩
      · show (grow (putRow id (Go.Sort.ahead w n') g 0 (flatK encSP 2 d')) os).heap[g]? = _
        rw [heap_grow_old _ _ (by simpa using hgs)]
        simp [putRow, mapBlock, Go.Sort.ahead, Array.getElem?_modify, hb, onCells]
      · have hF : (flatK encSP 2 d').toList = cells2 .i64 (d'.toList.map Subtype.val) := by
          have := flat_cells d'.toList
          simpa using this
        rw [← hF]
        have hFs : (flatK encSP 2 d').size = n * 2 := by simp [hdl]
        generalize flatK encSP 2 d' = F at hFs ⊢
        apply List.ext_getElem?
        intro j
        by_cases hj : j < n * 2
        · rw [List.getElem?_take_of_lt hj, Array.getElem?_toList, Array.getElem?_toList]
          have hjc : j < cur.size := by rw [h3]; omega
          have hjF : j < F.size := by omega
          simp [putCells, hjF, hjc]
        · rw [List.getElem?_take_eq_none (by omega), List.getElem?_eq_none (by simp; omega)]
    · refine ⟨rfl, rfl, rfl, ?_, fun k hk => ?_⟩
      · show w.heap.size ≤ (grow (putRow id (Go.Sort.ahead w n') g 0 (flatK encSP 2 d')) os).heap.size
        rw [size_grow, size_putRow]
        exact Nat.le_add_right _ _
      · show (grow (putRow id (Go.Sort.ahead w n') g 0 (flatK encSP 2 d')) os).heap[k]? = _
        have hks : k < w.heap.size := Nat.lt_of_lt_of_le hk hbase
        rw [heap_grow_old _ _ (by simpa using hks)]
        have hgk : g ≠ k := by omega
        simp [putRow, mapBlock, Go.Sort.ahead, Array.getElem?_modify, hgk]

end Go.Proofs.YtbpaogmnaodcaaaDoor
