/- More words for memory: two rows of the call's own apart from each other; a row made whole; a pop; a store into another row. Over any program. No condition. -/
import Derived.Test.YtbpaogmnaodcaaaDoorWords
namespace Go.Proofs.YtbpaogmnaodcaaaDoor
open Go.RowKit

/-- two slices do not lie in one block -/
def Apart (A A2 : Option Addr) : Prop := ∀ a a2, A = some a → A2 = some a2 → a.block ≠ a2.block

section
variable {w w' : World} {B base : Nat} {e : TypeId} {A A2 A' : Option Addr} {n c n2 c2 n' c' : Nat} {zs ys : List Int}

theorem Apart.none_left (A : Option Addr) : Apart none A := fun _ _ h => by cases h
theorem Apart.none_right (A : Option Addr) : Apart A none := fun _ _ _ h => by cases h
theorem Apart.symm (h : Apart A A2) : Apart A2 A := fun a a2 h1 h2 e => h a2 a h2 h1 e.symm
/-- behind an append: the other row has grown, in place or into a new block -/
theorem Apart.grow (h : Apart A A2) (ho : Own w base e A n c zs) (hb : (Value.slice A' n' c').ownBlock = (Value.slice A2 n2 c2).ownBlock ∨ (Value.slice A' n' c').ownBlock = some w.heap.size) : Apart A A' := by
  rintro a a2 rfl rfl
  rcases hb with hb | hb
  · rcases A2 with _ | a3
    · simp [Value.ownBlock] at hb
    · simp [Value.ownBlock] at hb
      rw [hb]; exact h a a3 rfl rfl
  · simp [Value.ownBlock] at hb
    have := (Own.block ho a.block (by simp [Value.ownBlock])).2
    omega
/-- a row stays while another grows -/
theorem Own.kept (h : Own w base e A n c zs) (hg : w.grownBy w' (Value.slice A2 n2 c2).ownBlock) (hap : Apart A A2) : Own w' base e A n c zs := by
  refine World.ownsRow.kept h hg ?_
  rcases A with _ | a
  · exact .inl rfl
  · refine .inr ?_
    rcases A2 with _ | a2
    · simp [Value.ownBlock]
    · have := hap a a2 rfl rfl
      simpa [Value.ownBlock] using this
/-- a row stays while a cell of another block is written -/
theorem Own.far (h : Own w base e A n c zs) {p : Addr} (hp : ∀ a, A = some a → a.block ≠ p.block) (u : Value) : Own (w.setCell p u) base e A n c zs := by
  refine ownsRow_setCell_other h ?_ u
  rcases A with _ | a
  · simp [Value.ownBlock]
  · simpa [Value.ownBlock] using hp a rfl
/-- an element by its place -/
theorem Own.at_ {k : Nat} (h : Own w base e A n c zs) (hk : k < n) : ∃ g x, A = some ⟨g, 0, none⟩ ∧ base ≤ g ∧ g < w.heap.size ∧ zs[k]? = some x ∧ w.cell? ⟨g, k, none⟩ = some (.int .i64 x) ∧ w.frozen? ⟨g, k, none⟩ = false := by
  have hl : k < zs.length := by rw [Own.length h]; exact hk
  have hz : zs = zs.take k ++ zs[k] :: zs.drop (k + 1) := by
    rw [← List.drop_eq_getElem_cons hl, List.take_append_drop]
  have h' : Own w base e A n c (zs.take k ++ zs[k] :: zs.drop (k + 1)) := by rw [← hz]; exact h
  obtain ⟨_, g, h1, h2, h3, h4, h5⟩ := Own.mid h' (k := k) (by simp; omega)
  exact ⟨g, zs[k], h1, h2, h3, List.getElem?_eq_getElem hl, h4, h5⟩
theorem Own.set {g k : Nat} (h : Own w base e (some ⟨g, 0, none⟩) n c zs) (y : Int) : Own (w.setCell ⟨g, k, none⟩ (.int .i64 y)) base e (some ⟨g, 0, none⟩) n c (zs.set k y) := by
  have h1 := (World.ownsRow.stored h k (.int .i64 y)).1
  have h2 : (cellsOf zs).set k (.int .i64 y) = cellsOf (zs.set k y) := by simp [cellsOf]
  rw [h2] at h1
  exact h1
theorem Own.pop {g x : Nat} {r : Int} (h : Own w base e (some ⟨g, 0, none⟩) (x + 1) c (zs ++ [r])) : Own w base e (some ⟨g, 0, none⟩) x c zs := by
  have hl := Own.length h
  have h' : w.ownsRow base e 1 (.slice (some ⟨g, 0, none⟩) (x + 1) c) (x + 1) (cellsOf zs ++ [.int .i64 r]) := by
    have := h
    rw [Own, cellsOf, List.map_append] at this
    exact this
  exact ownsRow_pop (by simp at hl; simp [cellsOf, hl]) h'
/-- where the last element is -/
theorem Own.last {x : Int} (h : Own w base e A n c (zs ++ [x])) :
    zs.length + 1 = n ∧ ∃ g, A = some ⟨g, 0, none⟩ ∧ base ≤ g ∧ g < w.heap.size ∧ w.cell? ⟨g, zs.length, none⟩ = some (.int .i64 x) ∧ w.frozen? ⟨g, zs.length, none⟩ = false := by
  have hl := Own.length h
  obtain ⟨_, g, h1, h2, h3, h4, h5⟩ := Own.mid (pre := zs) (r := []) (k := zs.length) h rfl
  exact ⟨by simpa using hl, g, h1, h2, h3, h4, h5⟩
theorem madeCells_int (n : Nat) : (madeCells (Value.int .i64 0).cells (n * 1)).toList = cellsOf (List.replicate n 0) := by
  simp [madeCells, cellsOf, Value.cells, Array.toList_range]
  apply List.ext_getElem
  · simp
  · intro i h1 h2
    simp [Nat.mod_one]
end

section
variable {P : Program} (w : World)
/-- 'make([]int, n)' -/
theorem wpList_make_ints {ops : Array Oper} {rest : List Oper} {o : Oper} {a : Act} {Q : Exit → Act → World → Prop} (hgd : o.guard = none) (l c : Operand) (t : TypeId) (hop : o.op = Op.makeSlice t l c)
    (base : Nat) (e : TypeId) (hts : P.underlying t = some (.slice e)) (hi : (P.info? e).map (fun i => (i.zero, i.size, i.bytes)) = some (some (.int .i64 0), 1, 8))
    (n : Nat) (hl : a.eval l = .int .i64 (n : Int)) (hc : a.eval c = .int .i64 (n : Int)) (hn : n * 8 ≤ 281474976710656) (hbase : base ≤ w.heap.size)
    (hK : ∀ w', Own w' base e (some ⟨w.heap.size, 0, none⟩) n n (List.replicate n 0) → Below w.heap.size w w' → w.heap.size < w'.heap.size → wpList P ops Q rest (a.put o.dst (.slice (some ⟨w.heap.size, 0, none⟩) n n)) w') :
    wpList P ops Q (o :: rest) a w := by
  obtain ⟨i, hi0, hz, hsz, hby⟩ := info_parts hi
  refine wpList_make_full w hgd l c t hop base e i (.int .i64 0) 1 hts hi0 hz hsz .i64 .i64 n n n hl hc rfl rfl (by rw [hby]; omega) (by unfold maxLen; omega) hbase ?_
  intro w' h1 h2
  have h3 : Own w' base e (some ⟨w.heap.size, 0, none⟩) n n (List.replicate n 0) := by
    rw [madeCells_int] at h1
    exact h1
  exact hK w' h3 ((Below.refl _ _).grown h2 (Nat.le_refl _) (by intro k hk; cases hk)) (Own.block h3 w.heap.size (by simp [Value.ownBlock])).2
end

end Go.Proofs.YtbpaogmnaodcaaaDoor
