/- clear, append of made elements, and overlaps, at buffers of glyphs. No condition. -/
import Derived.Test.YtbjeflblhjfagaaBuf
import Derived.OwnWalk
namespace Go.Proofs.Ytbjeflblhjfagaa
open Go.RowKit

section
variable {P : Program} (w : World)
/-- clear of a part of a row: the row ahead of it stays -/
theorem wpList_clear_gls {ops : Array Oper} {rest : List Oper} {o : Oper} {a : Act} {Q : Exit → Act → World → Prop} (hgd : o.guard = none) (x : Operand) (t : TypeId)
    (ho : o.op = .call { callee := .builtin .clear, args := #[x], argTypes := #[t] }) (elem : TypeId) (z : Value) (hu : P.underlying t = some (.slice elem))
    (hzv : ∀ w, (zeroValue elem).run P w = .ok z w) (hz10 : z.cells.size = 10) (hz1 : ∀ v ∈ z.cells.toList, v.oneCell' = true)
    (p : Option Addr) (m c : Nat) (hx : a.eval x = .slice p m c)
    (g off : Nat) (cur : List Value) (tt : TypeId) (hg : w.heap[g]? = some (.cells cur.toArray tt (0, 0))) (hp : 0 < m → p = some ⟨g, off, none⟩) (hfit : off + m * 10 ≤ cur.length)
    (h : ∀ cur' : List Value, cur'.length = cur.length → (0 < m → cur'.take off = cur.take off) → (m = 0 → cur' = cur) → wpList P ops Q rest (a.put o.dst (.tuple #[])) (w.setRow g cur'.toArray)) : wpList P ops Q (o :: rest) a w := by
  refine wpList_plain hgd fun K hK => ?_
  by_cases hm : m = 0
  · subst hm
    have hr : (Builtin.clear_ #[t] o.type #[.slice p 0 c]).run P w = .ok (.tuple #[]) w := by
      cases p <;> simp [Builtin.clear_, run_underlying hu]
    have h' := h cur rfl (fun h => by omega) (fun _ => rfl)
    rw [setRow_self w g _ tt _ hg] at h'
    unfold Oper.wp
    simp [execOp, ho, resolve, invoke, builtin, hx, hr, Result.andThen]
    exact hK _ _ h'
  · obtain rfl := hp (by omega)
    obtain ⟨m', rfl⟩ : ∃ m', m = m' + 1 := ⟨m - 1, by omega⟩
    have hzs : (Builtin.zeroCells z.cells (m' + 1)).toList.length = (m' + 1) * 10 := by
      rw [Array.length_toList, size_zeroCells, hz10]
    have hz2 : ∀ v ∈ (Builtin.zeroCells z.cells (m' + 1)).toList, v.oneCell' = true := by
      intro v hv
      simp only [Builtin.zeroCells, Array.toList_map, List.mem_map] at hv
      obtain ⟨i, _, rfl⟩ := hv
      refine hz1 _ ?_
      have hi : i % z.cells.size < z.cells.size := Nat.mod_lt _ (by omega)
      rw [getElem!_pos z.cells (i % z.cells.size) hi]
      exact Array.getElem_mem_toList hi
    have hst := run_storeCells_at P g off tt (Builtin.zeroCells z.cells (m' + 1)).toList 0 cur.toArray w hg (by rw [hzs]; simpa using hfit) hz2
    have hr : (Builtin.clear_ #[t] o.type #[.slice (some ⟨g, off, none⟩) (m' + 1) c]).run P w = .ok (.tuple #[]) (w.setRow g (cur.take off ++ (Builtin.zeroCells z.cells (m' + 1)).toList ++ cur.drop (off + (Builtin.zeroCells z.cells (m' + 1)).toList.length)).toArray) := by
      simp [Builtin.clear_, run_underlying hu, hzv]
      simp at hst
      simp [hst]
    have h' := h (cur.take off ++ (Builtin.zeroCells z.cells (m' + 1)).toList ++ cur.drop (off + (Builtin.zeroCells z.cells (m' + 1)).toList.length)) (by
      rw [List.length_append, List.length_append, List.length_take, List.length_drop, hzs]; omega) (fun _ => by
      rw [List.append_assoc, List.take_append_of_le_length (by rw [List.length_take]; omega), List.take_take, Nat.min_self]) (fun h => by omega)
    unfold Oper.wp
    simp only [execOp, ho, resolve, invoke, builtin, Sem.run_bind, Sem.run_pure, Result.andThen_ok, List.map_toArray, List.map_cons, List.map_nil, hx, hr]
    exact hK _ _ h'
/-- append of k made elements, where there is no room: a new row -/
theorem wpList_append_made {ops : Array Oper} {rest : List Oper} {o : Oper} {a : Act} {Q : Exit → Act → World → Prop} (hgd : o.guard = none) (s x : Operand) (t tn : TypeId)
    (ho : o.op = .call { callee := .builtin .append, args := #[s, x], argTypes := #[t, tn] })
    (z : Value) (hts : P.underlying t = some (.slice 49)) (htn : P.underlying tn = some (.int .i64)) (hi : (P.info? 49).map (fun i => (i.zero, i.size, i.bytes)) = some (some z, 10, 80)) (hzs : z.cells.size = 10)
    (base : Nat) (A : Option Addr) (n c : Nat) (gs : List Gl) (hs : a.eval s = .slice A n c) (hown : GRow w base A n c gs)
    (k : Nat) (hx : a.eval x = .int .i64 (k : Int)) (hk : 0 < k) (hroom : c < n + k) (hn : n + k ≤ 1000000)
    (h : ∀ (c' : Nat) (cur : List Value) w', w'.heap[w.heap.size]? = some (.cells cur.toArray 49 (0, 0)) → cur.length = c' * 10 → n + k ≤ c' → c' ≤ maxLen → cur.take (n * 10) = glCells gs → w.heap.size < w'.heap.size → Below w.heap.size w w' →
      wpList P ops Q rest (a.put o.dst (.slice (some ⟨w.heap.size, 0, none⟩) (n + k) c')) w') : wpList P ops Q (o :: rest) a w := by
  obtain ⟨i, hi0, hz, hsz, hby⟩ := info_parts hi
  have hgs := hown.gls
  have hold : (Builtin.firstCells i.size n (.slice A n c)).run P w.drew = .ok (glCells gs).toArray w.drew := by
    rw [hsz]
    by_cases hn0 : n = 0
    · subst hn0
      have hg0 : gs = [] := List.eq_nil_of_length_eq_zero hown.1
      subst hg0
      cases A <;> simp [Builtin.firstCells, loadCells, loadCellsFrom, glCells]
    · obtain ⟨b, o', rfl, _, hc⟩ := hgs.2.2.2.2 (by omega)
      exact run_firstCells_some w.drew 10 n ⟨b, o', none⟩ n c (glCells gs) (by rw [glCells_length, hown.1]) (fun j v hj => by
        have : (⟨b, o', none⟩ : Addr).add j = ⟨b, o' + j, none⟩ := by unfold Addr.add; split <;> simp_all
        rw [this]; exact hc j v hj)
  have hr := Lib.run_append_grow_zeros w t tn o.type 49 i z .i64 .i64 hts htn hi0 hz A n c (glCells gs) hold k hk (by omega) hroom (by omega) (by rw [hby]; omega) (by rw [hby]; exact growslice_fits hroom (by omega))
  refine Lib.wpList_append_run w hgd s x t tn ho _ _ hs hx _ _ hr ?_
  have hge := grownCap_ge w (n + k) c 49
  have hcm := grownCap_le_maxLen w (n + k) c 49 (by unfold maxLen; omega)
  refine h _ ((glCells gs).toArray ++ Builtin.zeroCells z.cells k ++ Builtin.zeroCells z.cells (grownCap w (n + k) c 49 - (n + k))).toList _ (by rw [Array.toArray_toList]; exact heap_alloc_new w.drew _) ?_ hge hcm ?_ (by simp) ?_
  · rw [Array.length_toList]
    simp only [Array.size_append, List.size_toArray, size_zeroCells, hzs, glCells_length, hown.1, ← Nat.add_mul]
    congr 1
    omega
  · simp only [Array.toList_append, List.append_assoc]
    rw [List.take_left' (by rw [glCells_length, hown.1])]
  · exact (Below.refl _ _).drew.alloc (Nat.le_refl _) _
end
theorem zeroGl (w : World) : (zeroValue 49).run Try.prog w = .ok (.agg #[.int .i64 0, .int .i64 0, .int .i64 0, .int .i64 0, .int .i64 0, .int .i64 0, .int .i64 0, .int .i64 0, .int .i64 0, .int .i64 0]) w := by kernel_rfl
theorem sizeGl : (Try.prog.info? 49).map (·.size) = some 10 := by kernel_rfl
theorem sizeOfGl (w : World) : (Go.sizeOf 49).run Try.prog w = .ok 10 w := by kernel_rfl
theorem zeroGl_one : ∀ v ∈ (Value.agg #[.int .i64 0, .int .i64 0, .int .i64 0, .int .i64 0, .int .i64 0, .int .i64 0, .int .i64 0, .int .i64 0, .int .i64 0, .int .i64 0]).cells.toList, v.oneCell' = true := by decide
/-- two rows apart do not overlap -/
theorem overlaps_any (w : World) (g g2 o c1 n1 n2 c2 : Nat) (cur cur2 : List Value) (hne : g ≠ g2) (hg : w.heap[g]? = some (.cells cur.toArray 49 (0, 0))) (hg2 : w.heap[g2]? = some (.cells cur2.toArray 49 (0, 0))) (h2 : 0 < cur2.length) (b2 : Nat) :
    (callFunc 64 #[.slice (some ⟨g, o, none⟩) n1 c1, .slice (some ⟨g2, b2, none⟩) n2 c2]).run Try.prog w = .ok (.value (.bool false)) w := by
  have hs1 : w.shape? g = some (49, cur.toArray.size) := by simp [World.shape?, hg]
  have hs2 : w.shape? g2 = some (49, cur2.toArray.size) := by simp [World.shape?, hg2]
  rw [run_callFunc_extern Try.func64 (by kernel_rfl) (by kernel_rfl) (by kernel_rfl) (e := Extern.SlicesOverlaps.overlaps #[42, 42] #[4]) (by kernel_rfl),
    Lib.run_overlaps_apart w 42 4 49 Try.underlying42 10 sizeOfGl ⟨g, o, none⟩ ⟨g2, b2, none⟩ n1 c1 n2 c2 hne 49 49 cur.toArray.size cur2.toArray.size hs1 hs2 (by simp; intro h; subst h; simp at h2) (frozen_of_row _ _ _ _ _ hg) (frozen_of_row _ _ _ _ _ hg)]
  rfl

end Go.Proofs.Ytbjeflblhjfagaa
