/- Joined: Buf SkipB. -/
import Derived.Test.YtngdolmmaiogiaaJ02
import Derived.Laws.CopyOwn
import Derived.Lib.AppendZerosOnto
import Derived.Lib.Overlaps
import Derived.Test.YtngdolmmaiogiaaJ04

/- Buffers of glyphs: how one reads as a list, a row of the call's own, append, copy and clear at them. No condition. -/
namespace Go.Proofs.Ytngdolmmaiogiaa
open Go.RowKit

structure Gl where
  id : Int
  cl : Int
  ad : Int
  dx : Int
  dy : Int
  tw : Int
  hg : Int
  li : Int
  co : Int
  ma : Int
def zGl : Gl := ⟨0, 0, 0, 0, 0, 0, 0, 0, 0, 0⟩
def Gl.cells (g : Gl) : List Value := [.int .i64 g.id, .int .i64 g.cl, .int .i64 g.ad, .int .i64 g.dx, .int .i64 g.dy, .int .i64 g.tw, .int .i64 g.hg, .int .i64 g.li, .int .i64 g.co, .int .i64 g.ma]
def glCells (gs : List Gl) : List Value := gs.flatMap Gl.cells
theorem glCells_length : ∀ (l : List Gl), (glCells l).length = l.length * 10
  | [] => rfl
  | e :: r => by have := glCells_length r; simp [glCells, Gl.cells] at this ⊢; omega
theorem glCells_append (l m : List Gl) : glCells (l ++ m) = glCells l ++ glCells m := by simp [glCells]
theorem glCells_one {l : List Gl} : ∀ v ∈ glCells l, v.oneCell' = true := by
  intro v hv
  simp only [glCells, List.mem_flatMap] at hv
  obtain ⟨g, _, hg⟩ := hv
  simp only [Gl.cells, List.mem_cons, List.not_mem_nil, or_false] at hg
  rcases hg with rfl | rfl | rfl | rfl | rfl | rfl | rfl | rfl | rfl | rfl <;> rfl
theorem glCells_at {l : List Gl} {k i : Nat} {g : Gl} (hk : l[k]? = some g) (hi : i < 10) : (glCells l)[k * 10 + i]? = g.cells[i]? := by
  induction l generalizing k with
  | nil => simp at hk
  | cons e l ih =>
    rcases k with _ | k
    · simp only [List.getElem?_cons_zero, Option.some.injEq] at hk
      subst hk
      show (e.cells ++ glCells l)[0 * 10 + i]? = _
      rw [List.getElem?_append_left (by simp [Gl.cells]; omega)]
      congr 1; omega
    · simp only [List.getElem?_cons_succ] at hk
      show (e.cells ++ glCells l)[(k + 1) * 10 + i]? = _
      rw [List.getElem?_append_right (by simp [Gl.cells]; omega), show (k + 1) * 10 + i - e.cells.length = k * 10 + i by simp [Gl.cells]; omega]
      exact ih hk

/-- The slice value reads as the list of glyphs, below block B. -/
def GlsR (w : World) (B : Nat) (A : Option Addr) (n c : Nat) (gs : List Gl) : Prop :=
  gs.length = n ∧ n ≤ c ∧ c ≤ maxLen ∧ (A = none → n = 0 ∧ c = 0) ∧ (0 < n → ∃ b o, A = some ⟨b, o, none⟩ ∧ b < B ∧ ∀ (j : Nat) v, (glCells gs)[j]? = some v → w.cell? ⟨b, o + j, none⟩ = some v)
/-- The slice value is a row of glyphs of the call's own, from block 'base' on. -/
def GRow (w : World) (base : Nat) (A : Option Addr) (n c : Nat) (gs : List Gl) : Prop := gs.length = n ∧ w.ownsRow base 38 10 (.slice A n c) n (glCells gs)
section
variable {w w' : World} {B B' base base' : Nat} {A : Option Addr} {n c : Nat} {gs : List Gl}
theorem GlsR.length (h : GlsR w B A n c gs) : gs.length = n := h.1
theorem GlsR.cap (h : GlsR w B A n c gs) : n ≤ c ∧ c ≤ 9223372036854775807 := by have := h.2.2.1; unfold maxLen at this; exact ⟨h.2.1, this⟩
theorem GlsR.nil_ (w : World) (B : Nat) : GlsR w B none 0 0 [] := ⟨rfl, Nat.le_refl _, by unfold maxLen; omega, fun _ => ⟨rfl, rfl⟩, fun h => by omega⟩
theorem GlsR.below (h : GlsR w B A n c gs) (hb : Below B w w') : GlsR w' B A n c gs :=
  ⟨h.1, h.2.1, h.2.2.1, h.2.2.2.1, fun hn => by
    obtain ⟨b, o, e, h1, h2⟩ := h.2.2.2.2 hn
    exact ⟨b, o, e, h1, fun j v hj => (hb.cell (p := ⟨b, o + j, none⟩) h1).trans (h2 j v hj)⟩⟩
theorem GlsR.more (h : GlsR w B A n c gs) (hB : B ≤ B') : GlsR w B' A n c gs :=
  ⟨h.1, h.2.1, h.2.2.1, h.2.2.2.1, fun hn => by
    obtain ⟨b, o, e, h1, h2⟩ := h.2.2.2.2 hn
    exact ⟨b, o, e, by omega, h2⟩⟩
/-- an element, cell by cell -/
theorem GlsR.at_ (h : GlsR w B A n c gs) {k : Nat} (hk : k < n) : ∃ b o g, A = some ⟨b, o, none⟩ ∧ b < B ∧ gs[k]? = some g ∧ (w.cell? ⟨b, o + k * 10, none⟩ = some (.int .i64 g.id) ∧ w.cell? ⟨b, o + k * 10 + 1, none⟩ = some (.int .i64 g.cl) ∧ w.cell? ⟨b, o + k * 10 + 2, none⟩ = some (.int .i64 g.ad) ∧ w.cell? ⟨b, o + k * 10 + 3, none⟩ = some (.int .i64 g.dx) ∧ w.cell? ⟨b, o + k * 10 + 4, none⟩ = some (.int .i64 g.dy) ∧ w.cell? ⟨b, o + k * 10 + 5, none⟩ = some (.int .i64 g.tw) ∧ w.cell? ⟨b, o + k * 10 + 6, none⟩ = some (.int .i64 g.hg) ∧ w.cell? ⟨b, o + k * 10 + 7, none⟩ = some (.int .i64 g.li) ∧ w.cell? ⟨b, o + k * 10 + 8, none⟩ = some (.int .i64 g.co) ∧ w.cell? ⟨b, o + k * 10 + 9, none⟩ = some (.int .i64 g.ma)) := by
  obtain ⟨b, o, e, h1, h2⟩ := h.2.2.2.2 (by omega)
  have hl := h.1
  have hg : gs[k]? = some gs[k] := List.getElem?_eq_getElem (by omega)
  have hc : ∀ i (hi : i < 10) v, gs[k].cells[i]? = some v → w.cell? ⟨b, o + k * 10 + i, none⟩ = some v := fun i hi v hv => by
    rw [Nat.add_assoc]
    exact h2 _ _ (by rw [glCells_at hg hi]; exact hv)
  exact ⟨b, o, gs[k], e, h1, hg, hc 0 (by omega) _ rfl, hc 1 (by omega) _ rfl, hc 2 (by omega) _ rfl, hc 3 (by omega) _ rfl, hc 4 (by omega) _ rfl, hc 5 (by omega) _ rfl, hc 6 (by omega) _ rfl, hc 7 (by omega) _ rfl, hc 8 (by omega) _ rfl, hc 9 (by omega) _ rfl⟩
/-- a part of it -/
theorem GlsR.part {b o : Nat} (h : GlsR w B (some ⟨b, o, none⟩) n c gs) {i j : Nat} (hij : i ≤ j) (hj : j ≤ n) : GlsR w B (some ⟨b, o + i * 10, none⟩) (j - i) (c - i) ((gs.drop i).take (j - i)) := by
  have hl := h.1
  have hcap := h.2.1
  have hm := h.2.2.1
  refine ⟨by rw [List.length_take, List.length_drop]; omega, by omega, by omega, (fun e => by cases e), fun hn => ?_⟩
  obtain ⟨b', o', e, h1, h2⟩ := h.2.2.2.2 (by omega)
  cases e
  refine ⟨b, o + i * 10, rfl, h1, fun t v ht => ?_⟩
  rw [Nat.add_assoc]
  refine h2 _ _ ?_
  have e1 : glCells gs = glCells (gs.take i) ++ (glCells ((gs.drop i).take (j - i)) ++ glCells ((gs.drop i).drop (j - i))) := by
    rw [← glCells_append, List.take_append_drop, ← glCells_append, List.take_append_drop]
  have hti : (glCells (gs.take i)).length = i * 10 := by rw [glCells_length, List.length_take]; congr 1; omega
  rw [e1, List.getElem?_append_right (by omega), show i * 10 + t - (glCells (gs.take i)).length = t by omega]
  rw [List.getElem?_append_left (List.getElem?_eq_some_iff.1 ht).1]
  exact ht
theorem GRow.nil_ (w : World) (base : Nat) : GRow w base none 0 0 [] := ⟨rfl, World.ownsRow_nil w base _ 10⟩
theorem GRow.cap (h : GRow w base A n c gs) : n ≤ c ∧ c ≤ 9223372036854775807 := by
  rcases h.2.2 with ⟨h, rfl⟩ | ⟨g, cap, cur, h, _, _, h1, h2, _⟩
  · simp only [Value.slice.injEq] at h; omega
  · simp only [Value.slice.injEq] at h; unfold maxLen at h2; omega
theorem GRow.more (h : GRow w base A n c gs) (hb : base' ≤ base) : GRow w base' A n c gs := by
  refine ⟨h.1, h.2.1, ?_⟩
  rcases h.2.2 with h | ⟨g, cap, cur, h, h1, h2⟩
  · exact .inl h
  · exact .inr ⟨g, cap, cur, h, by omega, h2⟩
theorem GRow.below (h : GRow w base A n c gs) (hb : Below B w w') (hB : w.heap.size ≤ B) : GRow w' base A n c gs := by
  refine ⟨h.1, h.2.1, ?_⟩
  rcases h.2.2 with h | ⟨g, cap, cur, h, h1, h2, h3⟩
  · exact .inl h
  · have hg : g < w.heap.size := (Array.getElem?_eq_some_iff.1 h2).1
    exact .inr ⟨g, cap, cur, h, h1, (hb.block g (by omega)).trans h2, h3⟩
theorem GRow.alloc (h : GRow w base A n c gs) (o : Obj) : GRow (w.alloc o) base A n c gs := ⟨h.1, World.ownsRow.alloc h.2 o⟩
theorem GRow.block (h : GRow w base A n c gs) : ∀ g, (Value.slice A n c).ownBlock = some g → base ≤ g ∧ g < w.heap.size := World.ownsRow.lt h.2
theorem GRow.far (h : GRow w base A n c gs) {p : Addr} (hp : ∀ a, A = some a → a.block ≠ p.block) (u : Value) : GRow (w.setCell p u) base A n c gs := by
  refine ⟨h.1, h.2.1, ?_⟩
  rcases h.2.2 with h | ⟨g, cap, cur, h, h1, h2, h3⟩
  · exact .inl h
  · simp only [Value.slice.injEq] at h
    obtain ⟨rfl, -, rfl⟩ := h
    exact .inr ⟨g, c, cur, rfl, h1, by rw [Below.heap_setCell _ _ _ _ (fun e => hp _ rfl e)]; exact h2, h3⟩
/-- its block -/
theorem GRow.form (h : GRow w base A n c gs) (hn : 0 < n ∨ 0 < c ∨ A ≠ none) : ∃ g, A = some ⟨g, 0, none⟩ ∧ base ≤ g ∧ g < w.heap.size ∧ ∃ cur : List Value, w.heap[g]? = some (.cells cur.toArray 38 (0, 0)) ∧ cur.length = c * 10 ∧ cur.take (n * 10) = glCells gs := by
  rcases h.2.2 with ⟨h', hz⟩ | ⟨g, cap, cur, h', h1, h2, h3, h4, h5, h6⟩
  · simp only [Value.slice.injEq] at h'
    rcases hn with hn | hn | hn
    · omega
    · omega
    · exact absurd h'.1 hn
  · simp only [Value.slice.injEq] at h'
    obtain ⟨rfl, -, rfl⟩ := h'
    exact ⟨g, rfl, h1, (Array.getElem?_eq_some_iff.1 h2).1, cur.toList, by simpa using h2, by simpa using h5, h6⟩
theorem GRow.of_block {g : Nat} {cur : List Value} (hg : w.heap[g]? = some (.cells cur.toArray 38 (0, 0))) (hb : base ≤ g) (hn : gs.length = n) (hnc : n ≤ c) (hc : c ≤ maxLen) (hl : cur.length = c * 10) (ht : cur.take (n * 10) = glCells gs) : GRow w base (some ⟨g, 0, none⟩) n c gs :=
  ⟨hn, by rw [glCells_length, hn], .inr ⟨g, c, cur.toArray, rfl, hb, hg, hnc, hc, by simpa using hl, by simpa using ht⟩⟩
theorem GRow.gls (h : GRow w base A n c gs) : GlsR w w.heap.size A n c gs := by
  have hc := h.cap
  refine ⟨h.1, hc.1, by unfold maxLen; exact hc.2, ?_, fun hn => ?_⟩
  · rintro rfl
    rcases h.2.2 with ⟨h', hz⟩ | ⟨g, cap, cur, h', _⟩
    · simp only [Value.slice.injEq] at h'; omega
    · simp at h'
  · obtain ⟨g, rfl, h1, h2, cur, h3, h4, h5⟩ := h.form (.inl hn)
    refine ⟨g, 0, rfl, h2, fun j v hj => ?_⟩
    rw [Nat.zero_add, cell_of_row _ _ j _ _ _ h3]
    have hjl : j < n * 10 := by have := (List.getElem?_eq_some_iff.1 hj).1; rw [glCells_length, h.1] at this; exact this
    rw [← h5, List.getElem?_take_of_lt hjl] at hj
    simpa using hj
/-- its beginning -/
theorem GRow.take {m : Nat} (h : GRow w base A n c gs) (hm : m ≤ n) : GRow w base A m c (gs.take m) := by
  have hl : (gs.take m).length = m := by rw [List.length_take, h.1]; omega
  refine ⟨hl, by rw [glCells_length, hl], ?_⟩
  rcases h.2.2 with ⟨h', hz⟩ | ⟨g, cap, cur, h', h1, h2, h3, h4, h5, h6⟩
  · have : m = 0 := by omega
    subst this
    simp only [Value.slice.injEq] at h'
    exact .inl ⟨by simp [h'], rfl⟩
  · simp only [Value.slice.injEq] at h'
    refine .inr ⟨g, cap, cur, by simp [h'], h1, h2, by omega, h4, h5, ?_⟩
    have hx : (cur.toList.take (n * 10)).take (m * 10) = (glCells gs).take (m * 10) := by rw [h6]
    have hcs : glCells gs = glCells (gs.take m) ++ glCells (gs.drop m) := by rw [← glCells_append, List.take_append_drop]
    rw [List.take_take, Nat.min_eq_left (by omega), hcs, List.take_left' (by rw [glCells_length, hl])] at hx
    exact hx
/-- an argument reads as a list -/
theorem ShSl.gls (h : ShSl w B shGlyph A n c) : ∃ gs, GlsR w B A n c gs := by
  obtain ⟨h1, h2, h3, h4⟩ := h.open_
  have h5 : ∀ k, k < n → ∃ g : Gl, ∃ b o, A = some ⟨b, o, none⟩ ∧ b < B ∧ ∀ i v, g.cells[i]? = some v → w.cell? ⟨b, o + k * 10 + i, none⟩ = some v := fun k hk => by
    obtain ⟨b, o, cs, e, hb, _, hc, hs⟩ := h4 k hk
    obtain ⟨id, cl, ad, dx, dy, tw, hg, li, co, ma, rfl, _⟩ := hs.unGlyph
    exact ⟨⟨id, cl, ad, dx, dy, tw, hg, li, co, ma⟩, b, o, e, hb, fun i v hv => hc i v hv⟩
  obtain ⟨f, hf⟩ : ∃ f : Nat → Gl, ∀ k, k < n → ∃ b o, A = some ⟨b, o, none⟩ ∧ b < B ∧ ∀ i v, (f k).cells[i]? = some v → w.cell? ⟨b, o + k * 10 + i, none⟩ = some v := by
    refine ⟨fun k => if hk : k < n then (h5 k hk).choose else zGl, fun k hk => ?_⟩
    simp only [hk, dite_true]
    exact (h5 k hk).choose_spec
  refine ⟨(List.range n).map f, by simp, h1, h2, h3, fun hn => ?_⟩
  obtain ⟨b, o, e, hb, _⟩ := hf 0 hn
  refine ⟨b, o, e, hb, fun j v hj => ?_⟩
  have hjl := (List.getElem?_eq_some_iff.1 hj).1
  rw [glCells_length, List.length_map, List.length_range] at hjl
  have hd : j / 10 < n := by omega
  have hm : j % 10 < 10 := Nat.mod_lt _ (by omega)
  have hg : ((List.range n).map f)[j / 10]? = some (f (j / 10)) := by rw [List.getElem?_map, List.getElem?_range hd]; rfl
  obtain ⟨b', o', e', _, hc⟩ := hf (j / 10) hd
  rw [e] at e'
  cases e'
  have hjj : j / 10 * 10 + j % 10 = j := by omega
  rw [← hjj, glCells_at hg hm] at hj
  have := hc _ _ hj
  rw [Nat.add_assoc, hjj] at this
  exact this
end
theorem gl_below {w0 w w' : World} {B base : Nat} {A : Option Addr} {n c : Nat} {gs : List Gl} (h : Below B w0 w) (hB : B ≤ w.heap.size) (hg : w.grownBy w' (Value.slice A n c).ownBlock) (ho : GRow w base A n c gs) (hb : B ≤ base) : Below B w0 w' :=
  h.grown hg hB (fun k hk => Nat.le_trans hb (ho.block k hk).1)
theorem infoGl : (Try.prog.info? 38).map (fun i => (i.zero, i.size, i.bytes)) = some (some (.agg #[.int .i64 0, .int .i64 0, .int .i64 0, .int .i64 0, .int .i64 0, .int .i64 0, .int .i64 0, .int .i64 0, .int .i64 0, .int .i64 0]), 10, 80) := by kernel_rfl

section
variable {P : Program} (w : World)
/-- append of a slice that reads as glyphs, onto a row of the call's own -/
theorem wpList_append_gls {ops : Array Oper} {rest : List Oper} {o : Oper} {a : Act} {Q : Exit → Act → World → Prop} (hgd : o.guard = none) (s x : Operand) (t : TypeId)
    (ho : o.op = .call { callee := .builtin .append, args := #[s, x], argTypes := #[t, t] })
    (base : Nat) (z : Value) (hts : P.underlying t = some (.slice 38)) (hi : (P.info? 38).map (fun i => (i.zero, i.size, i.bytes)) = some (some z, 10, 80)) (hzs : z.cells.size = 10)
    (A : Option Addr) (n c : Nat) (gs : List Gl) (hs : a.eval s = .slice A n c) (hown : GRow w base A n c gs)
    (B : Nat) (A2 : Option Addr) (m c2 : Nat) (ys : List Gl) (hx : a.eval x = .slice A2 m c2) (hr : GlsR w B A2 m c2 ys)
    (hbytes : n + m ≤ 1000000) (hbase : base ≤ w.heap.size)
    (h : ∀ A' c' w', GRow w' base A' (n + m) c' (gs ++ ys) → w.grownBy w' (Value.slice A n c).ownBlock → ((Value.slice A' (n + m) c').ownBlock = (Value.slice A n c).ownBlock ∨ (Value.slice A' (n + m) c').ownBlock = some w.heap.size) → (m = 0 → A' = A ∧ c' = c ∧ w' = w) →
      wpList P ops Q rest (a.put o.dst (.slice A' (n + m) c')) w') : wpList P ops Q (o :: rest) a w := by
  obtain ⟨i, hi0, hz, hsz, hby⟩ := info_parts hi
  have run : ∃ A' c' w', (Builtin.append_ #[t, t] o.type #[.slice A n c, .slice A2 m c2]).run P w = .ok (.slice A' (n + m) c') w' ∧ GRow w' base A' (n + m) c' (gs ++ ys) ∧ w.grownBy w' (Value.slice A n c).ownBlock ∧
      ((Value.slice A' (n + m) c').ownBlock = (Value.slice A n c).ownBlock ∨ (Value.slice A' (n + m) c').ownBlock = some w.heap.size) ∧ (m = 0 → A' = A ∧ c' = c ∧ w' = w) := by
    by_cases hm : m = 0
    · subst hm
      have hy : ys = [] := List.eq_nil_of_length_eq_zero hr.1
      subst hy
      have hr0 : (Builtin.append_ #[t, t] o.type #[.slice A n c, .slice A2 0 c2]).run P w = .ok (.slice A n c) w := by
        have hnc := hown.cap
        have hfirst : (Builtin.firstCells i.size 0 (.slice A2 0 c2)).run P w = .ok #[] w := by
          cases A2 <;> simp [Builtin.firstCells, loadCells, loadCellsFrom]
        cases A <;> simp [Builtin.append_, run_underlying hts, sizeOf, typeInfo, hi0, Builtin.lenOf, hfirst, hnc.1, storeCells]
      exact ⟨A, c, w, hr0, by rw [List.append_nil]; exact hown, World.grownBy.refl w _, .inl rfl, fun _ => ⟨rfl, rfl, rfl⟩⟩
    · obtain ⟨b, o', rfl, hbB, hc⟩ := hr.2.2.2.2 (by omega)
      obtain ⟨v', w', hrun, h2, h3, _, h5⟩ := run_append_own_at (P := P) w base t o.type 38 i z 10 80 hts hi0 hz hsz hby hzs (by omega) _ n (glCells gs) hown.2 ⟨b, o', none⟩ m c2 (glCells ys) (by rw [glCells_length, hr.1]) (fun j u hu => by
        have : (⟨b, o', none⟩ : Addr).add j = ⟨b, o' + j, none⟩ := by unfold Addr.add; split <;> simp_all
        rw [this]; exact hc j u hu) glCells_one (by unfold maxLen; omega) (by omega) hbase
      have hform : ∃ A' c', v' = .slice A' (n + m) c' := by
        rcases h2.2 with ⟨rfl, h⟩ | ⟨g, cap, cur, rfl, _⟩
        · omega
        · exact ⟨_, _, rfl⟩
      obtain ⟨A', c', rfl⟩ := hform
      exact ⟨A', c', w', hrun, ⟨by rw [List.length_append, hown.1, hr.1], by rw [glCells_append]; exact h2⟩, h3, h5, fun h => absurd h hm⟩
  obtain ⟨A', c', w', hrun, h2, h3, h4, h5⟩ := run
  refine wpList_plain hgd fun K hK => ?_
  unfold Oper.wp execOp
  simp only [ho, resolve, invoke, builtin, Sem.run_bind, Sem.run_pure, Result.andThen_ok, List.map_toArray, List.map_cons, List.map_nil, hs, hx, hrun]
  exact hK _ _ (h A' c' w' h2 h3 h4 h5)

/-- copy, elements of k cells -/
theorem run_copy_rowK (k : Nat) (dT sT ty elem : TypeId) (g o dLen dCap : Nat) (a : Addr) (sLen sCap : Nat) (cur : Array Value) (t : TypeId) (cs : List Value)
    (hu : P.underlying dT = some (.slice elem)) (hs : (P.info? elem).map (·.size) = some k)
    (hg : w.heap[g]? = some (.cells cur t (0, 0))) (hn : cs.length = Nat.min sLen dLen * k)
    (hsrc : ∀ j v, cs[j]? = some v → w.cell? (a.add j) = some v) (hfit : o + cs.length ≤ cur.size) (h1 : ∀ v ∈ cs, v.oneCell' = true) :
    (Builtin.copy_ #[dT, sT] ty #[.slice (some ⟨g, o, none⟩) dLen dCap, .slice (some a) sLen sCap]).run P w =
      .ok (goInt (Nat.min sLen dLen)) (w.setRow g (cur.toList.take o ++ cs ++ cur.toList.drop (o + cs.length)).toArray) := by
  have hl := run_loadCells_list (P := P) w a cs hsrc
  have hst := run_storeCells_at P g o t cs 0 cur w hg (by simpa using hfit) h1
  cases hq : P.info? elem with
  | none => simp [hq] at hs
  | some i =>
    have hi : i.size = k := by simpa [hq] using hs
    simp [Builtin.copy_, run_underlying hu, Builtin.lenOf, Builtin.firstCells, sizeOf, typeInfo, hq, hi, ← hn, hl, hst]
theorem wpList_copy_gls {ops : Array Oper} {rest : List Oper} {o : Oper} {a : Act} {Q : Exit → Act → World → Prop} (hgd : o.guard = none) (d s : Operand) (dT sT : TypeId)
    (ho : o.op = .call { callee := .builtin .copy, args := #[d, s], argTypes := #[dT, sT] }) (elem : TypeId) (hu : P.underlying dT = some (.slice elem)) (hsz : (P.info? elem).map (·.size) = some 10)
    (dp sp : Option Addr) (dLen dCap sLen sCap : Nat) (hd : a.eval d = .slice dp dLen dCap) (hs : a.eval s = .slice sp sLen sCap)
    (g off : Nat) (cur : List Value) (t : TypeId) (hg : w.heap[g]? = some (.cells cur.toArray t (0, 0))) (cs : List Value) (hn : cs.length = Nat.min sLen dLen * 10)
    (hpos : 0 < cs.length → dp = some ⟨g, off, none⟩ ∧ ∃ b o', sp = some ⟨b, o', none⟩ ∧ ∀ (j : Nat) v, cs[j]? = some v → w.cell? ⟨b, o' + j, none⟩ = some v)
    (hfit : off + cs.length ≤ cur.length) (h1 : ∀ v ∈ cs, v.oneCell' = true)
    (h : wpList P ops Q rest (a.put o.dst (goInt (Nat.min sLen dLen))) (w.setRow g (splice cur off cs).toArray)) :
    wpList P ops Q (o :: rest) a w := by
  by_cases h0 : cs.length = 0
  · obtain rfl : cs = [] := List.eq_nil_of_length_eq_zero h0
    have hmin : Nat.min sLen dLen = 0 := by simp only [List.length_nil] at hn; omega
    have hrow : w.setRow g (splice cur off []).toArray = w := by
      have : splice cur off ([] : List Value) = cur := by simp [splice]
      rw [this]
      exact setRow_self w g _ t _ hg
    rw [hrow, hmin] at h
    refine wpList_plain hgd fun K hK => ?_
    have hq0 : ∃ i, P.info? elem = some i ∧ i.size = 10 := by
      cases hq : P.info? elem with
      | none => simp [hq] at hsz
      | some i => exact ⟨i, rfl, by simpa [hq] using hsz⟩
    obtain ⟨i, hq, hi⟩ := hq0
    have hrun : (Builtin.copy_ #[dT, sT] o.type #[.slice dp dLen dCap, .slice sp sLen sCap]).run P w = .ok (goInt (0 : Nat)) w := by
      have hfirst : (Builtin.firstCells 10 0 (.slice sp sLen sCap)).run P w = .ok #[] w := by
        cases sp <;> simp [Builtin.firstCells, loadCells, loadCellsFrom]
      cases dp <;> simp [Builtin.copy_, run_underlying hu, Builtin.lenOf, sizeOf, typeInfo, hq, hi, hmin, hfirst, storeCells]
    unfold Oper.wp
    simp [execOp, ho, resolve, invoke, builtin, hd, hs, hrun, Result.andThen]
    exact hK _ _ h
  · obtain ⟨rfl, b, o', rfl, hsrc⟩ := hpos (by omega)
    refine wpList_plain hgd fun K hK => ?_
    have hrun := run_copy_rowK (P := P) w 10 dT sT o.type elem g off dLen dCap ⟨b, o', none⟩ sLen sCap cur.toArray t cs hu hsz hg hn (fun j v hj => by
      have : (⟨b, o', none⟩ : Addr).add j = ⟨b, o' + j, none⟩ := by unfold Addr.add; split <;> simp_all
      rw [this]; exact hsrc j v hj) (by simpa using hfit) h1
    unfold Oper.wp
    simp [execOp, ho, resolve, invoke, builtin, hd, hs, hrun, Result.andThen]
    have he : (cur.take off ++ (cs ++ cur.drop (off + cs.length))).toArray = (splice cur off cs).toArray := rfl
    simp only [List.append_assoc] at *
    exact hK _ _ h
end

end Go.Proofs.Ytngdolmmaiogiaa

/- The walks of the closure of skip.eye. Condition: what they read reads as plain data. Printed by wip/tools. -/
namespace Go.Proofs.Ytngdolmmaiogiaa
open Go.RowKit

/-- is a glyph not seen? -/
def skF (P : PFt) (l : Lk) (g : Gl) : Bool := skipB P l.fl l.se g.id
/-- the first place from i on that is seen -/
def upL (s : Gl → Bool) : List Gl → Nat → Int
  | [], _ => -1
  | g :: r, i => if s g then upL s r (i + 1) else i
def upB (s : Gl → Bool) (gs : List Gl) (i : Nat) : Int := upL s (gs.drop i) i
/-- the last place below i that is seen -/
def dnB (s : Gl → Bool) (gs : List Gl) : Nat → Int
  | 0 => -1
  | i + 1 => match gs[i]? with
    | some g => if s g then dnB s gs i else i
    | none => -1
section
variable {s : Gl → Bool} {gs : List Gl} {i : Nat} {g : Gl}
theorem upB_end (h : gs.length ≤ i) : upB s gs i = -1 := by
  unfold upB; rw [List.drop_eq_nil_of_le h]; rfl
theorem drop_of_get (h : gs[i]? = some g) : gs.drop i = g :: gs.drop (i + 1) := by
  have hl : i < gs.length := by
    rcases Nat.lt_or_ge i gs.length with h1 | h1
    · exact h1
    · rw [List.getElem?_eq_none h1] at h; cases h
  rw [List.getElem?_eq_getElem hl] at h
  cases h
  exact List.drop_eq_getElem_cons hl
theorem upB_skip (h : gs[i]? = some g) (hs : s g = true) : upB s gs i = upB s gs (i + 1) := by
  unfold upB; rw [drop_of_get h]; simp [upL, hs]
theorem upB_here (h : gs[i]? = some g) (hs : s g = false) : upB s gs i = i := by
  unfold upB; rw [drop_of_get h]; simp [upL, hs]
theorem dnB_skip (h : gs[i]? = some g) (hs : s g = true) : dnB s gs (i + 1) = dnB s gs i := by simp [dnB, h, hs]
theorem dnB_here (h : gs[i]? = some g) (hs : s g = false) : dnB s gs (i + 1) = i := by simp [dnB, h, hs]
end
set_option maxRecDepth 100000 in
set_option maxHeartbeats 4000000 in
theorem eyeUp_any (F : Fnt) (B : Nat) (P : PFt) (l : Lk) (A : Option Addr) (n c : Nat) (gs : List Gl) (b1 b2 b3 b4 k0 : Nat) (w : World) (hby : w.cell? ⟨b1, 0, none⟩ = some (.int .i64 1)) (hl : w.cell? ⟨b2, 0, none⟩ = some (.slice A n c)) (hf : FBox w b3 F) (hk : KBox w b4 l) (hF : FtR w B F P) (hI : GlsR w B A n c gs) (hB : B ≤ w.heap.size) (hk0 : k0 ≤ n) :
    Calls Try.prog 85 #[.int .i64 ((k0 : Int) - 1), .pointer (some ⟨b1, 0, none⟩), .pointer (some ⟨b2, 0, none⟩), .pointer (some ⟨b3, 0, none⟩), .pointer (some ⟨b4, 0, none⟩)] w (fun e w' => e = .returned (.int .i64 (upB (skF P l) gs k0)) ∧ Below w.heap.size w w') := by
  obtain ⟨y0, y1, y2, y3, y4, y5⟩ := hf.cells
  obtain ⟨x0, x1, x2, x3⟩ := hk.cells
  have g0 := up_fact y0
  have g1 := up_fact y1
  have g2 := up_fact y2
  have g3 := up_fact y3
  have g4 := up_fact y4
  have g5 := up_fact y5
  have h0 := up_fact x0
  have h1 := up_fact x1
  have h2 := up_fact x2
  have h3 := up_fact x3
  have c1 := up_fact hby
  have c2 := up_fact hl
  have hA := Below.refl w.heap.size w
  have HF := Lib.hid hF
  have HI := Lib.hid hI
  have hcap := hI.cap
  have hlen := hI.length
  have HB := Lib.hid hB
  clear y0 y1 y2 y3 y4 y5 x0 x1 x2 x3 hby hl hf hk hF hI
  obtain ⟨r, hr⟩ : ∃ r, r = upB (skF P l) gs k0 := ⟨_, rfl⟩
  rw [← hr]
  have HR := Lib.hid hr.symm
  clear hr
  go_enter Try.func85, Try.ntmps85
  go_upto_region 1 with fail
  go_loopw [0] (fun v wr => ∃ k : Nat, v = .int .i64 ((k : Int) - 1) ∧ k ≤ n ∧ upB (skF P l) gs k = r ∧ Below w.heap.size w wr) (fun v _ => n - (intOf v + 1).toNat)
  case atStart => exact ⟨k0, rfl, hk0, HR.out, hA⟩
  case round =>
    clear hA hk0
    obtain ⟨k, rfl, hk, hkr, hA⟩ := hrel
    have HKR := Lib.hid hkr
    have s1 : IntKind.i64.wrap ((k : Int) - 1 + 1) = (k : Int) := by rw [IntKind.wrap_i64]; omega
    have s2 : IntKind.i64.wrap (k : Int) = (k : Int) := by rw [IntKind.wrap_i64]; omega
    have z0 : decide ((k : Int) < 0) = false := by simp
    clear hkr
    by_cases hlt : k < n
    · have z1 : decide (n ≤ k) = false := by simp; omega
      have z2 : decide ((n : Int) ≤ (k : Int)) = false := by simp; omega
      obtain ⟨b, o, g, eA, hbb, hg, d0, -⟩ := HI.out.at_ (k := k) (by omega)
      obtain ⟨t, ht⟩ : ∃ t, t = skF P l g := ⟨_, rfl⟩
      have HSK := Lib.hid (show ∀ W, Below w.heap.size w W → Calls Try.prog 41 #[.agg #[.int .i64 F.em, .slice F.GA F.gn F.gc, .slice F.MA F.mn F.mc, .slice F.LA F.ln F.lc, .slice F.FA F.fn F.fc, .slice F.SA F.sn F.sc], .agg #[.int .i64 l.ki, .int .i64 l.fl, .int .i64 l.se, .slice l.su.A l.su.n l.su.c], .int .i64 g.id] W fun e w' => e = .returned (.bool t) ∧ Below W.heap.size W w' from fun W hW => by rw [ht]; exact skips_any F B P l g.id W (HF.out.below (hW.mono HB.out)) (by have := HB.out; have := hW.size; omega))
      have HT := Lib.hid ht.symm
      have HG := Lib.hid hg
      have e0 := up_fact d0
      have HEA := Lib.hid eA
      clear d0 hg ht eA
      rw [HEA.out] at c2
      go_upto_region 4 with fail
      have HUP := Lib.hid (bup hA)
      have hU0 := bup hA
      refine wp_region_up wr.heap.size (by kernel_rfl) (by kernel_rfl) ?_
      repeat (go_big_quiet_step ((go_at_call 41; exact Calls.up_of (Nat.le_refl _) (HSK.out _ (HUP.out _)))))
      refine wpQuiet_nil (up_all fun w2 hb2 => ?_)
      have hA := bgo hA hb2
      clear hb2 hU0 HUP HSK
      rcases t with _ | _
      · go_wp2_with fail
        go_ret
        rw [← HKR.out, upB_here HG.out HT.out]
        exact ⟨rfl, hA⟩
      · go_wp2_with fail
        go_roundw
        case rel => exact ⟨k + 1, by push_cast; simp, by omega, by rw [← HKR.out]; exact (upB_skip HG.out HT.out).symm, hA⟩
        case measure => simp [intOf] <;> omega
    · have z1 : decide (n ≤ k) = true := by simp; omega
      have z2 : decide ((n : Int) ≤ (k : Int)) = true := by simp; omega
      go_wp2_with fail
      go_ret
      rw [← HKR.out, upB_end (by omega)]
      exact ⟨rfl, hA⟩

set_option maxRecDepth 100000 in
set_option maxHeartbeats 4000000 in
theorem eyeDn_any (F : Fnt) (B : Nat) (P : PFt) (l : Lk) (A : Option Addr) (n c : Nat) (gs : List Gl) (b1 b2 b3 b4 k0 : Nat) (w : World) (hby : w.cell? ⟨b1, 0, none⟩ = some (.int .i64 (-1))) (hl : w.cell? ⟨b2, 0, none⟩ = some (.slice A n c)) (hf : FBox w b3 F) (hk : KBox w b4 l) (hF : FtR w B F P) (hI : GlsR w B A n c gs) (hB : B ≤ w.heap.size) (hk0 : k0 ≤ n) :
    Calls Try.prog 85 #[.int .i64 (k0 : Int), .pointer (some ⟨b1, 0, none⟩), .pointer (some ⟨b2, 0, none⟩), .pointer (some ⟨b3, 0, none⟩), .pointer (some ⟨b4, 0, none⟩)] w (fun e w' => e = .returned (.int .i64 (dnB (skF P l) gs k0)) ∧ Below w.heap.size w w') := by
  obtain ⟨y0, y1, y2, y3, y4, y5⟩ := hf.cells
  obtain ⟨x0, x1, x2, x3⟩ := hk.cells
  have g0 := up_fact y0
  have g1 := up_fact y1
  have g2 := up_fact y2
  have g3 := up_fact y3
  have g4 := up_fact y4
  have g5 := up_fact y5
  have h0 := up_fact x0
  have h1 := up_fact x1
  have h2 := up_fact x2
  have h3 := up_fact x3
  have c1 := up_fact hby
  have c2 := up_fact hl
  have hA := Below.refl w.heap.size w
  have HF := Lib.hid hF
  have HI := Lib.hid hI
  have hcap := hI.cap
  have hlen := hI.length
  have HB := Lib.hid hB
  clear y0 y1 y2 y3 y4 y5 x0 x1 x2 x3 hby hl hf hk hF hI
  obtain ⟨r, hr⟩ : ∃ r, r = dnB (skF P l) gs k0 := ⟨_, rfl⟩
  rw [← hr]
  have HR := Lib.hid hr.symm
  clear hr
  go_enter Try.func85, Try.ntmps85
  go_upto_region 1 with fail
  go_loopw [0] (fun v wr => ∃ k : Nat, v = .int .i64 (k : Int) ∧ k ≤ n ∧ dnB (skF P l) gs k = r ∧ Below w.heap.size w wr) (fun v _ => (intOf v).toNat)
  case atStart => exact ⟨k0, rfl, hk0, HR.out, hA⟩
  case round =>
    clear hA hk0
    obtain ⟨k, rfl, hk, hkr, hA⟩ := hrel
    have HKR := Lib.hid hkr
    clear hkr
    by_cases hk00 : k = 0
    · subst hk00
      have s1 : IntKind.i64.wrap (0 + -1) = -1 := by decide
      have s2 : IntKind.i64.wrap (-1) = -1 := by decide
      go_wp2_with fail
      go_ret
      rw [← HKR.out]
      exact ⟨rfl, hA⟩
    · obtain ⟨j, hj⟩ : ∃ j, k = j + 1 := ⟨k - 1, by omega⟩
      have s1 : IntKind.i64.wrap ((k : Int) + -1) = (j : Int) := by rw [IntKind.wrap_i64]; omega
      have s2 : IntKind.i64.wrap ((k : Int) - 1) = (j : Int) := by rw [IntKind.wrap_i64]; omega
      have z0 : decide ((j : Int) < 0) = false := by simp
      have z1 : decide (n ≤ j) = false := by simp; omega
      have z2 : decide ((n : Int) ≤ (j : Int)) = false := by simp; omega
      have HJ := Lib.hid hj
      have hjn : j < n := by omega
      clear hj
      obtain ⟨b, o, g, eA, hbb, hg, d0, -⟩ := HI.out.at_ (k := j) (by omega)
      obtain ⟨t, ht⟩ : ∃ t, t = skF P l g := ⟨_, rfl⟩
      have HSK := Lib.hid (show ∀ W, Below w.heap.size w W → Calls Try.prog 41 #[.agg #[.int .i64 F.em, .slice F.GA F.gn F.gc, .slice F.MA F.mn F.mc, .slice F.LA F.ln F.lc, .slice F.FA F.fn F.fc, .slice F.SA F.sn F.sc], .agg #[.int .i64 l.ki, .int .i64 l.fl, .int .i64 l.se, .slice l.su.A l.su.n l.su.c], .int .i64 g.id] W fun e w' => e = .returned (.bool t) ∧ Below W.heap.size W w' from fun W hW => by rw [ht]; exact skips_any F B P l g.id W (HF.out.below (hW.mono HB.out)) (by have := HB.out; have := hW.size; omega))
      have HT := Lib.hid ht.symm
      have HG := Lib.hid hg
      have e0 := up_fact d0
      have HEA := Lib.hid eA
      clear d0 hg ht eA
      rw [HEA.out] at c2
      go_upto_region 4 with fail
      have HUP := Lib.hid (bup hA)
      have hU0 := bup hA
      refine wp_region_up wr.heap.size (by kernel_rfl) (by kernel_rfl) ?_
      repeat (go_big_quiet_step ((go_at_call 41; exact Calls.up_of (Nat.le_refl _) (HSK.out _ (HUP.out _)))))
      refine wpQuiet_nil (up_all fun w2 hb2 => ?_)
      have hA := bgo hA hb2
      clear hb2 hU0 HUP HSK
      rcases t with _ | _
      · go_wp2_with fail
        go_ret
        rw [← HKR.out, HJ.out, dnB_here HG.out HT.out]
        exact ⟨rfl, hA⟩
      · go_wp2_with fail
        go_roundw
        case rel => exact ⟨j, rfl, by omega, by rw [← HKR.out, HJ.out]; exact (dnB_skip HG.out HT.out).symm, hA⟩
        case measure => have := HJ.out; simp [intOf] <;> omega

end Go.Proofs.Ytngdolmmaiogiaa
