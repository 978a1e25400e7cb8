/- Words for memory: a list of pairs of a number and a sign, of the call's own. Over any program. No condition. Turned from PairA. -/
import Derived.Test.YtbpaogmnaodcaaaDoorPairA
namespace Go.Proofs.YtbpaogmnaodcaaaDoor
open Go.RowKit

section
variable {w w' : World} {B B' base base' : Nat} {e : TypeId} {q : IntKind} {A : Option Addr} {n c : Nat} {zs : List Int} {l : List (Int × Int)}
def cellsD (q : IntKind) (l : List (Int × Int)) : List Value := l.flatMap fun p => [.int q p.1, .int .i32 p.2]
theorem cellsD_length (q : IntKind) : ∀ (l : List (Int × Int)), (cellsD q l).length = l.length * 2
  | [] => rfl
  | e :: r => by have := cellsD_length q r; simp [cellsD] at this ⊢; omega
theorem cellsD_append (q : IntKind) (l m : List (Int × Int)) : cellsD q (l ++ m) = cellsD q l ++ cellsD q m := by simp [cellsD]
theorem cellsD_at {k : Nat} {x : Int × Int} (hk : l[k]? = some x) : (cellsD q l)[k * 2]? = some (.int q x.1) ∧ (cellsD q l)[k * 2 + 1]? = some (.int .i32 x.2) := by
  induction l generalizing k with
  | nil => simp at hk
  | cons e l ih =>
    rcases k with _ | k
    · simp at hk; subst hk
      simp [cellsD]
    · simp at hk
      have := ih hk
      simp only [cellsD, List.flatMap_cons] at this ⊢
      rw [show (k + 1) * 2 = k * 2 + 1 + 1 by omega]
      simpa using this
/-- a list of pairs, of the call's own -/
def Duo (q : IntKind) (w : World) (base : Nat) (e : TypeId) (A : Option Addr) (n c : Nat) (l : List (Int × Int)) : Prop := l.length = n ∧ w.ownsRow base e 2 (.slice A n c) n (cellsD q l)
theorem Duo.nil_ (q : IntKind) (w : World) (base : Nat) (e : TypeId) : Duo q w base e none 0 0 [] := ⟨rfl, World.ownsRow_nil w base e 2⟩
theorem Duo.cap (h : Duo q w base e A n c l) : n ≤ c ∧ c ≤ 9223372036854775807 := by
  rcases h.2.2 with ⟨h, rfl⟩ | ⟨g, cap, cur, h, _, _, h1, h2, _⟩
  · simp only [Value.slice.injEq] at h; omega
  · simp only [Value.slice.injEq] at h; unfold maxLen at h2; omega
theorem Duo.more (h : Duo q w base e A n c l) (hb : base' ≤ base) : Duo q w base' e A n c l := by
  refine ⟨h.1, h.2.1, ?_⟩
  rcases h.2.2 with h | ⟨g, cap, cur, h, h1, h2⟩
  · exact .inl h
  · exact .inr ⟨g, cap, cur, h, by omega, h2⟩
theorem Duo.below (h : Duo q w base e A n c l) (hb : Below B w w') (hB : w.heap.size ≤ B) : Duo q w' base e A n c l := by
  refine ⟨h.1, h.2.1, ?_⟩
  rcases h.2.2 with h | ⟨g, cap, cur, h, h1, h2, h3⟩
  · exact .inl h
  · have hg : g < w.heap.size := (Array.getElem?_eq_some_iff.1 h2).1
    exact .inr ⟨g, cap, cur, h, h1, (hb.block g (by omega)).trans h2, h3⟩
theorem Duo.alloc (h : Duo q w base e A n c l) (o : Obj) : Duo q (w.alloc o) base e A n c l := ⟨h.1, World.ownsRow.alloc h.2 o⟩
theorem Duo.drewN (h : Duo q w base e A n c l) (k : Nat) : Duo q (w.drewN k) base e A n c l := h
theorem Duo.block (h : Duo q w base e A n c l) : ∀ g, (Value.slice A n c).ownBlock = some g → base ≤ g ∧ g < w.heap.size := World.ownsRow.lt h.2
/-- it stays while another row grows -/
theorem Duo.kept (h : Duo q w base e A n c l) {A2 : Option Addr} {n2 c2 : Nat} (hg : w.grownBy w' (Value.slice A2 n2 c2).ownBlock) (hap : Apart A A2) : Duo q w' base e A n c l := by
  refine ⟨h.1, World.ownsRow.kept h.2 hg ?_⟩
  rcases A with _ | a
  · exact .inl rfl
  · refine .inr ?_
    rcases A2 with _ | a2
    · simp [Value.ownBlock]
    · have := hap a a2 rfl rfl
      simpa [Value.ownBlock] using this
/-- apart from a row that has grown -/
theorem Duo.apart {A2 A' : Option Addr} {n2 c2 n' c' : Nat} (h : Duo q w base e A n c l) (hap : Apart A A2)
    (hb : (Value.slice A' n' c').ownBlock = (Value.slice A2 n2 c2).ownBlock ∨ (Value.slice A' n' c').ownBlock = some w.heap.size) : Apart A A' := by
  rintro a a2 rfl rfl
  rcases hb with hb | hb
  · rcases A2 with _ | a3
    · simp [Value.ownBlock] at hb
    · simp [Value.ownBlock] at hb
      rw [hb]; exact hap a a3 rfl rfl
  · simp [Value.ownBlock] at hb
    have := (h.block a.block (by simp [Value.ownBlock])).2
    omega
theorem Duo.form (h : Duo q w base e A n c l) (hn : 0 < n) : ∃ g, A = some ⟨g, 0, none⟩ ∧ base ≤ g ∧ g < w.heap.size := by
  rcases h.2.2 with ⟨h', hz⟩ | ⟨g, cap, cur, h', h1, h2, h3⟩
  · omega
  · simp only [Value.slice.injEq] at h'
    exact ⟨g, h'.1, h1, (Array.getElem?_eq_some_iff.1 h2).1⟩
theorem Duo.at_ {k : Nat} {x : Int × Int} (h : Duo q w base e A n c l) (hk : l[k]? = some x) :
    k < n ∧ ∃ g, A = some ⟨g, 0, none⟩ ∧ base ≤ g ∧ g < w.heap.size ∧ w.cell? ⟨g, k * 2, none⟩ = some (.int q x.1) ∧ w.cell? ⟨g, k * 2 + 1, none⟩ = some (.int .i32 x.2) := by
  have hn := h.1
  have hkl := (List.getElem?_eq_some_iff.1 hk).1
  obtain ⟨g, rfl, h1, h2⟩ := h.form (by omega)
  obtain ⟨c1, c2⟩ := cellsD_at (q := q) hk
  exact ⟨by omega, g, rfl, h1, h2, by rw [World.ownsRow.cellAt h.2 (k * 2) (by omega)]; exact c1, by rw [World.ownsRow.cellAt h.2 (k * 2 + 1) (by omega)]; exact c2⟩
/-- its beginning -/
theorem Duo.take {m : Nat} (h : Duo q w base e A n c l) (hm : m ≤ n) : Duo q w base e A m c (l.take m) := by
  have hn := h.1
  have hl : (l.take m).length = m := by simp; omega
  refine ⟨hl, by rw [cellsD_length, hl], ?_⟩
  have hcs : cellsD q l = cellsD q (l.take m) ++ cellsD q (l.drop m) := by rw [← cellsD_append, List.take_append_drop]
  rcases h.2.2 with ⟨h', hz⟩ | ⟨g, cap, cur, h', h1, h2, h3, h4, h5, h6⟩
  · have : m = 0 := by omega
    subst this
    refine .inl ⟨?_, rfl⟩
    simp only [Value.slice.injEq] at h' ⊢
    exact ⟨h'.1, trivial, h'.2.2⟩
  · refine .inr ⟨g, cap, cur, ?_, h1, h2, by omega, h4, h5, ?_⟩
    · simp only [Value.slice.injEq] at h' ⊢; exact ⟨h'.1, trivial, h'.2.2⟩
    · have hx : (cur.toList.take (n * 2)).take (m * 2) = (cellsD q l).take (m * 2) := by rw [h6]
      rw [List.take_take, Nat.min_eq_left (by omega), hcs, List.take_left' (by rw [cellsD_length, hl])] at hx
      exact hx
end

section
variable {P : Program} (w : World)
/-- append of one pair that lies in a literal -/
theorem wpList_append_D {ops : Array Oper} {rest : List Oper} {o : Oper} {a : Act} {Q : Exit → Act → World → Prop} (hgd : o.guard = none) (s x : Operand) (t : TypeId)
    (ho : o.op = .call { callee := .builtin .append, args := #[s, x], argTypes := #[t, t] })
    (base : Nat) (e : TypeId) (q : IntKind) (z : Value) (hts : P.underlying t = some (.slice e)) (hi : (P.info? e).map (fun i => (i.zero, i.size, i.bytes)) = some (some z, 2, 16)) (hzs : z.cells.size = 2)
    (A : Option Addr) (n c : Nat) (l : List (Int × Int)) (hs : a.eval s = .slice A n c) (hown : Duo q w base e A n c l)
    (b c2 : Nat) (y1 y2 : Int) (hx : a.eval x = .slice (some ⟨b, 0, none⟩) 1 c2) (h1 : w.cell? ⟨b, 0, none⟩ = some (.int q y1)) (h2 : w.cell? ⟨b, 1, none⟩ = some (.int .i32 y2))
    (hn : n ≤ 1000000) (hbase : base ≤ w.heap.size)
    (h : ∀ A' c' w', Duo q w' base e A' (n + 1) c' (l ++ [(y1, y2)]) → w.grownBy w' (Value.slice A n c).ownBlock → ((Value.slice A' (n + 1) c').ownBlock = (Value.slice A n c).ownBlock ∨ (Value.slice A' (n + 1) c').ownBlock = some w.heap.size) →
      wpList P ops Q rest (a.put o.dst (.slice A' (n + 1) c')) w') : wpList P ops Q (o :: rest) a w := by
  obtain ⟨i, hi0, hz, hsz, hby⟩ := info_parts hi
  obtain ⟨v', w', hrun, r2, r3, _, r5⟩ := run_append_own_at (P := P) w base t o.type e i z 2 16 hts hi0 hz hsz hby hzs (by omega) _ n (cellsD q l) hown.2 ⟨b, 0, none⟩ 1 c2 [.int q y1, .int .i32 y2] rfl
    (by
      intro j y hy
      match j, hy with
      | 0, hy => simp at hy; subst hy; exact h1
      | 1, hy => simp at hy; subst hy; exact h2
      | j + 2, hy => simp at hy)
    (by
      intro y hy
      simp at hy
      rcases hy with rfl | rfl <;> rfl) (by unfold maxLen; omega) (by omega) hbase
  have hform : ∃ A' c', v' = .slice A' (n + 1) c' := by
    rcases r2.2 with ⟨rfl, h⟩ | ⟨g, cap, cur, rfl, _⟩
    · omega
    · exact ⟨_, _, rfl⟩
  obtain ⟨A', c', rfl⟩ := hform
  refine wpList_plain hgd fun K hK => ?_
  unfold Oper.wp execOp
  simp only [ho, resolve, invoke, builtin, Sem.run_bind, Sem.run_pure, Result.andThen_ok, List.map_toArray, List.map_cons, List.map_nil, hs, hx, hrun]
  exact hK _ _ (h A' c' w' ⟨by simp [hown.1], by rw [cellsD_append]; exact r2⟩ r3 r5)
end

end Go.Proofs.YtbpaogmnaodcaaaDoor
