/- Words for memory: a stack of entries of three cells each, as a row of the call's own; and blocks of one element type, kept. Over any program. No condition. -/
import Derived.Test.YtojcphfonbdlpaaPairs
import Derived.Test.YtojcphfonbdlpaaLevPlain
namespace Go.Proofs.Ytojcphfonbdlpaa
open Go.RowKit

def entCells (l : List Lv.Ent) : List Value := l.flatMap fun e => [.int .i64 e.lv, .int .i64 e.ov, .bool e.is]
theorem entCells_length : ∀ (l : List Lv.Ent), (entCells l).length = l.length * 3
  | [] => rfl
  | e :: r => by have := entCells_length r; simp [entCells] at this ⊢; omega
theorem entCells_append (l m : List Lv.Ent) : entCells (l ++ m) = entCells l ++ entCells m := by simp [entCells]

/-- The stack (its top first) lies in the row from the bottom up. -/
def Stk (w : World) (base : Nat) (e : TypeId) (A : Option Addr) (n c : Nat) (l : List Lv.Ent) : Prop :=
  l.length = n ∧ w.ownsRow base e 3 (.slice A n c) n (entCells l.reverse)

section
variable {w w' : World} {B base base' : Nat} {e : TypeId} {A : Option Addr} {n c : Nat} {l : List Lv.Ent}
theorem Stk.cap (h : Stk w base e A n c l) : n ≤ c ∧ c ≤ 9223372036854775807 := by
  rcases h.2.2 with ⟨h, rfl⟩ | ⟨g, cap, cur, h, _, _, h1, h2, _⟩
  · simp only [Value.slice.injEq] at h; omega
  · simp only [Value.slice.injEq] at h; unfold maxLen at h2; omega
theorem Stk.more (h : Stk w base e A n c l) (hb : base' ≤ base) : Stk w base' e A n c l := by
  refine ⟨h.1, h.2.1, ?_⟩
  rcases h.2.2 with h | ⟨g, cap, cur, h, h1, h2⟩
  · exact .inl h
  · exact .inr ⟨g, cap, cur, h, by omega, h2⟩
theorem Stk.below (h : Stk w base e A n c l) (hb : Below B w w') (hB : w.heap.size ≤ B) : Stk w' base e A n c l := by
  refine ⟨h.1, h.2.1, ?_⟩
  rcases h.2.2 with h | ⟨g, cap, cur, h, h1, h2, h3⟩
  · exact .inl h
  · have hg : g < w.heap.size := (Array.getElem?_eq_some_iff.1 h2).1
    exact .inr ⟨g, cap, cur, h, h1, (hb.block g (by omega)).trans h2, h3⟩
theorem Stk.drew (h : Stk w base e A n c l) : Stk w.drew base e A n c l := h
theorem Stk.drewN (h : Stk w base e A n c l) (k : Nat) : Stk (w.drewN k) base e A n c l := h
theorem Stk.alloc (h : Stk w base e A n c l) (o : Obj) : Stk (w.alloc o) base e A n c l := ⟨h.1, World.ownsRow.alloc h.2 o⟩
/-- where an entry is: 'r' are the entries below it, 'f' those above -/
theorem Stk.at_ {f r : List Lv.Ent} {t : Lv.Ent} (h : Stk w base e A n c (f ++ t :: r)) :
    r.length < n ∧ ∃ g, A = some ⟨g, 0, none⟩ ∧ base ≤ g ∧ g < w.heap.size ∧ w.cell? ⟨g, r.length * 3, none⟩ = some (.int .i64 t.lv) ∧ w.cell? ⟨g, r.length * 3 + 1, none⟩ = some (.int .i64 t.ov) ∧ w.cell? ⟨g, r.length * 3 + 2, none⟩ = some (.bool t.is) := by
  have hn : r.length < n := by have := h.1; simp at this; omega
  refine ⟨hn, ?_⟩
  have hcs : entCells (f ++ t :: r).reverse = entCells r.reverse ++ ([.int .i64 t.lv, .int .i64 t.ov, .bool t.is] ++ entCells f.reverse) := by
    simp [entCells]
  have hl : (entCells r.reverse).length = r.length * 3 := by rw [entCells_length]; simp
  have hform : ∃ g, A = some ⟨g, 0, none⟩ ∧ base ≤ g ∧ g < w.heap.size := by
    rcases h.2.2 with ⟨h', hz⟩ | ⟨g, cap, cur, h', h1, h2, h3⟩
    · omega
    · simp only [Value.slice.injEq] at h'
      exact ⟨g, h'.1, h1, (Array.getElem?_eq_some_iff.1 h2).1⟩
  obtain ⟨g, rfl, h1, h2⟩ := hform
  have hc := fun j (hj : j < n * 3) => World.ownsRow.cellAt h.2 j hj
  refine ⟨g, rfl, h1, h2, ?_, ?_, ?_⟩
  · rw [hc _ (by omega), hcs, List.getElem?_append_right (by omega), hl]; simp
  · rw [hc _ (by omega), hcs, List.getElem?_append_right (by omega), hl]; simp
  · rw [hc _ (by omega), hcs, List.getElem?_append_right (by omega), hl]; simp
/-- a stack cut down to what lies below -/
theorem Stk.cut {f r : List Lv.Ent} {m : Nat} (h : Stk w base e A n c (f ++ r)) (hm : r.length = m) : Stk w base e A m c r := by
  have hn := h.1
  refine ⟨hm, by rw [entCells_length]; simp [hm], ?_⟩
  have hcs : entCells (f ++ r).reverse = entCells r.reverse ++ entCells f.reverse := by simp [entCells]
  have hl : (entCells r.reverse).length = m * 3 := by rw [entCells_length]; simp [hm]
  rcases h.2.2 with ⟨h', hz⟩ | ⟨g, cap, cur, h', h1, h2, h3, h4, h5, h6⟩
  · have : n = 0 := hz
    have hr : r = [] := List.eq_nil_of_length_eq_zero (by simp at hn; omega)
    subst hr
    simp at hm
    subst hm
    refine .inl ⟨?_, rfl⟩
    simp only [Value.slice.injEq] at h' ⊢
    exact ⟨h'.1, trivial, h'.2.2⟩
  · refine .inr ⟨g, cap, cur, ?_, h1, h2, by simp at hn; omega, h4, h5, ?_⟩
    · simp only [Value.slice.injEq] at h' ⊢; exact ⟨h'.1, trivial, h'.2.2⟩
    · have hx : (cur.toList.take (n * 3)).take (m * 3) = (entCells (f ++ r).reverse).take (m * 3) := by rw [h6]
      rw [List.take_take, Nat.min_eq_left (by simp at hn; omega), hcs, ← hl, List.take_left] at hx
      rw [hl] at hx
      exact hx
end

section
variable {P : Program} (w : World)
/-- one entry more, onto a row of the call's own -/
theorem run_append_ent (t ty e : TypeId) (hts : P.underlying t = some (.slice e)) (z : Value) (hi : (P.info? e).map (fun i => (i.zero, i.size, i.bytes)) = some (some z, 3, 24)) (hzs : z.cells.size = 3)
    (base : Nat) (A : Option Addr) (n c : Nat) (l : List Lv.Ent) (hown : Stk w base e A n c l) (ad : Addr) (x : Lv.Ent) (c2 : Nat)
    (h0 : w.cell? (ad.add 0) = some (.int .i64 x.lv)) (h1 : w.cell? (ad.add 1) = some (.int .i64 x.ov)) (h2 : w.cell? (ad.add 2) = some (.bool x.is))
    (hn : n ≤ 1000000) (hbase : base ≤ w.heap.size) :
    ∃ A' c' w', (Builtin.append_ #[t, t] ty #[.slice A n c, .slice (some ad) 1 c2]).run P w = .ok (.slice A' (n + 1) c') w' ∧ Stk w' base e A' (n + 1) c' (x :: l) ∧ w.grownBy w' (Value.slice A n c).ownBlock := by
  obtain ⟨i, hi0, hz, hsz, hby⟩ := info_parts hi
  obtain ⟨v', w', hrun, h3, h4, _, _⟩ := run_append_own_at (P := P) w base t ty e i z 3 24 hts hi0 hz hsz hby hzs (by omega) _ n (entCells l.reverse) hown.2 ad 1 c2 (entCells [x]) rfl
    (by
      intro j u hj
      match j, hj with
      | 0, hj => simp [entCells] at hj; subst hj; exact h0
      | 1, hj => simp [entCells] at hj; subst hj; exact h1
      | 2, hj => simp [entCells] at hj; subst hj; exact h2
      | j + 3, hj => simp [entCells] at hj)
    (by intro u hu; simp [entCells] at hu; rcases hu with rfl | rfl | rfl <;> rfl) (by unfold maxLen; omega) (by omega) hbase
  have hs : ∃ A' c', v' = .slice A' (n + 1) c' := by
    rcases h3.2 with ⟨rfl, h⟩ | ⟨g, cap, cur, rfl, _⟩
    · omega
    · exact ⟨_, _, rfl⟩
  obtain ⟨A', c', rfl⟩ := hs
  exact ⟨A', c', w', hrun, ⟨by simp [hown.1], by rw [List.reverse_cons, entCells_append]; exact h3⟩, h4⟩

theorem wpList_append_ent {ops : Array Oper} {rest : List Oper} {o : Oper} {a : Act} {Q : Exit → Act → World → Prop} (hgd : o.guard = none) (s x : Operand) (t : TypeId)
    (ho : o.op = .call { callee := .builtin .append, args := #[s, x], argTypes := #[t, t] })
    (e : TypeId) (hts : P.underlying t = some (.slice e)) (z : Value) (hi : (P.info? e).map (fun i => (i.zero, i.size, i.bytes)) = some (some z, 3, 24)) (hzs : z.cells.size = 3)
    (base : Nat) (A : Option Addr) (n c : Nat) (l : List Lv.Ent) (hs : a.eval s = .slice A n c) (hown : Stk w base e A n c l) (ad : Addr) (y : Lv.Ent) (c2 : Nat) (hx : a.eval x = .slice (some ad) 1 c2)
    (h0 : w.cell? (ad.add 0) = some (.int .i64 y.lv)) (h1 : w.cell? (ad.add 1) = some (.int .i64 y.ov)) (h2 : w.cell? (ad.add 2) = some (.bool y.is))
    (hn : n ≤ 1000000) (hbase : base ≤ w.heap.size)
    (h : ∀ A' c' w', Stk w' base e A' (n + 1) c' (y :: l) → w.grownBy w' (Value.slice A n c).ownBlock → wpList P ops Q rest (a.put o.dst (.slice A' (n + 1) c')) w') : wpList P ops Q (o :: rest) a w := by
  obtain ⟨A', c', w', hrun, h3, h4⟩ := run_append_ent (P := P) w t o.type e hts z hi hzs base A n c l hown ad y c2 h0 h1 h2 hn hbase
  refine wpList_plain hgd fun K hK => ?_
  unfold Oper.wp execOp
  simp only [ho, resolve, invoke, builtin, Sem.run_bind, Sem.run_pure, Result.andThen_ok, List.map_toArray, List.map_cons, List.map_nil, hs, hx, hrun]
  exact hK _ _ (h A' c' w' h3 h4)
end

/-- the cells of a literal of one entry -/
theorem ent_new (w : World) (t : Lv.Ent) (e : TypeId) {b : Nat} (hb : b = w.heap.size) :
    (w.alloc (.cells #[.int .i64 t.lv, .int .i64 t.ov, .bool t.is] e)).cell? ((⟨b, 0, none⟩ : Addr).add 0) = some (.int .i64 t.lv) ∧
    (w.alloc (.cells #[.int .i64 t.lv, .int .i64 t.ov, .bool t.is] e)).cell? ((⟨b, 0, none⟩ : Addr).add 1) = some (.int .i64 t.ov) ∧
    (w.alloc (.cells #[.int .i64 t.lv, .int .i64 t.ov, .bool t.is] e)).cell? ((⟨b, 0, none⟩ : Addr).add 2) = some (.bool t.is) := by
  subst hb
  have h := heap_alloc_new w (.cells #[.int .i64 t.lv, .int .i64 t.ov, .bool t.is] e)
  refine ⟨?_, ?_, ?_⟩
  · show World.cell? _ ⟨w.heap.size, 0, none⟩ = _
    rw [cell_of_row _ _ 0 _ _ _ h]; rfl
  · show World.cell? _ ⟨w.heap.size, 1, none⟩ = _
    rw [cell_of_row _ _ 1 _ _ _ h]; rfl
  · show World.cell? _ ⟨w.heap.size, 2, none⟩ = _
    rw [cell_of_row _ _ 2 _ _ _ h]; rfl
theorem Stk.nil_ (w : World) (base : Nat) (e : TypeId) : Stk w base e none 0 0 [] := ⟨rfl, World.ownsRow_nil w base e 3⟩
theorem Stk.block {w : World} {base : Nat} {e : TypeId} {A : Option Addr} {n c : Nat} {l : List Lv.Ent} (h : Stk w base e A n c l) : ∀ g, (Value.slice A n c).ownBlock = some g → base ≤ g ∧ g < w.heap.size := World.ownsRow.lt h.2
/-- a stack stays while a cell of a block below its base is written -/
theorem Stk.set_below {w : World} {base : Nat} {e : TypeId} {A : Option Addr} {n c : Nat} {l : List Lv.Ent} (h : Stk w base e A n c l) {p : Addr} (hp : p.block < base) (u : Value) : Stk (w.setCell p u) base e A n c l :=
  ⟨h.1, ownsRow_setCell_below h.2 hp u⟩
theorem Stk.one_at (w : World) (base : Nat) (e : TypeId) (t : Lv.Ent) {g : Nat} (hg : g = w.heap.size) (hb : base ≤ w.heap.size) : Stk (w.alloc (.cells #[.int .i64 t.lv, .int .i64 t.ov, .bool t.is] e)) base e (some ⟨g, 0, none⟩) 1 1 [t] := by
  subst hg
  have h := World.ownsRow_lit (e := e) (size := 3) (base := base) w #[.int .i64 t.lv, .int .i64 t.ov, .bool t.is] 1 hb (by unfold maxLen; omega) rfl
  exact ⟨rfl, h⟩
/-- a literal of one entry -/
theorem Stk.one (w : World) (base : Nat) (e : TypeId) (t : Lv.Ent) (hb : base ≤ w.heap.size) : Stk (w.alloc (.cells #[.int .i64 t.lv, .int .i64 t.ov, .bool t.is] e)) base e (some ⟨w.heap.size, 0, none⟩) 1 1 [t] := by
  have h := World.ownsRow_lit (e := e) (size := 3) (base := base) w #[.int .i64 t.lv, .int .i64 t.ov, .bool t.is] 1 hb (by unfold maxLen; omega) rfl
  exact ⟨rfl, h⟩

/-- Every block of element type t is as it was. -/
def Keeps (t : TypeId) (w w' : World) : Prop := ∀ (g : Nat) (cs : Array Value) (f : Nat × Nat), w.heap[g]? = some (.cells cs t f) → w'.heap[g]? = some (.cells cs t f)
section
variable {w w' w2 : World} {B base : Nat} {e t : TypeId} {A : Option Addr} {n c : Nat} {zs : List Int}
theorem Keeps.refl (t : TypeId) (w : World) : Keeps t w w := fun _ _ _ h => h
theorem Keeps.trans (h : Keeps t w w') (h2 : Keeps t w' w2) : Keeps t w w2 := fun g cs f hg => h2 g cs f (h g cs f hg)
theorem Keeps.below (h : Below w.heap.size w w') (t : TypeId) : Keeps t w w' := fun g _ _ hg => (h.block g (Array.getElem?_eq_some_iff.1 hg).1).trans hg
theorem Keeps.alloc (w : World) (o : Obj) (t : TypeId) : Keeps t w (w.alloc o) := Keeps.below ((Below.refl _ _).alloc (Nat.le_refl _) o) t
theorem Keeps.drewN (h : Keeps t w w') (k : Nat) : Keeps t w (w'.drewN k) := h
theorem Keeps.setCell {p : Addr} {cs : Array Value} {t2 : TypeId} {f : Nat × Nat} (h : w.heap[p.block]? = some (.cells cs t2 f)) (hne : t ≠ t2) (u : Value) : Keeps t w (w.setCell p u) := by
  intro g cs' f' hg
  have : g ≠ p.block := by
    rintro rfl
    rw [h] at hg
    injection hg with hg
    injection hg with _ h2
    exact hne h2.symm
  rw [Below.heap_setCell _ _ _ _ this]
  exact hg
theorem Own.keeps (h : Own w base e A n c zs) (hk : Keeps e w w') : Own w' base e A n c zs := by
  refine ⟨h.1, ?_⟩
  rcases h.2 with h | ⟨g, cap, cur, h, h1, h2, h3⟩
  · exact .inl h
  · exact .inr ⟨g, cap, cur, h, h1, hk _ _ _ h2, h3⟩
theorem Stk.keeps {l : List Lv.Ent} (h : Stk w base e A n c l) (hk : Keeps e w w') : Stk w' base e A n c l := by
  refine ⟨h.1, h.2.1, ?_⟩
  rcases h.2.2 with h | ⟨g, cap, cur, h, h1, h2, h3⟩
  · exact .inl h
  · exact .inr ⟨g, cap, cur, h, h1, hk _ _ _ h2, h3⟩
/-- a row of one type grows: blocks of another type stay -/
theorem Keeps.grown {xs : List Value} {size m : Nat} {v : Value} (ho : w.ownsRow base e size v m xs) (hg : w.grownBy w' v.ownBlock) (hne : t ≠ e) : Keeps t w w' := by
  intro g cs f hgc
  have hlt := (Array.getElem?_eq_some_iff.1 hgc).1
  refine (hg.block g hlt ?_).trans hgc
  rcases ho.2 with ⟨rfl, _⟩ | ⟨g', cap, cur, rfl, _, hh, _⟩
  · simp [Value.ownBlock]
  · simp only [Value.ownBlock, ne_eq, Option.some.injEq]
    rintro rfl
    rw [hh] at hgc
    injection hgc with h1
    injection h1 with _ h2
    exact hne h2.symm
/-- a store into a row of one type -/
theorem Keeps.stored {g k : Nat} (h : Own w base e (some ⟨g, 0, none⟩) n c zs) (hne : t ≠ e) (u : Value) : Keeps t w (w.setCell ⟨g, k, none⟩ u) := by
  rcases h.2 with ⟨h, _⟩ | ⟨g', cap, cur, h, _, hh, _⟩
  · simp at h
  · simp only [Value.slice.injEq, Option.some.injEq, Addr.mk.injEq] at h
    obtain ⟨⟨rfl, _⟩, _⟩ := h
    exact Keeps.setCell (p := ⟨g, k, none⟩) hh hne u
end

end Go.Proofs.Ytojcphfonbdlpaa
