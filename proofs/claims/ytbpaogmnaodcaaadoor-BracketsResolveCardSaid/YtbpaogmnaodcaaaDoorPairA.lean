/- Words for memory: a slice of signs that reads as a list; a list of pairs of two cells each, of the call's own. Over any program. No condition. -/
import Derived.Test.YtbpaogmnaodcaaaDoorPairs
import Derived.Test.YtbpaogmnaodcaaaDoorPropE
namespace Go.Proofs.YtbpaogmnaodcaaaDoor
open Go.RowKit

theorem Tryd.infoInt : (Tryd.prog.info? 3).map (fun i => (i.zero, i.size, i.bytes)) = some (some (.int .i64 0), 1, 8) := by kernel_rfl

/-- The slice value reads as the list of signs, below block B. -/
def Runes (w : World) (B : Nat) (A : Option Addr) (n c : Nat) (zs : List Int) : Prop :=
  zs.length = n ∧ n ≤ c ∧ c ≤ maxLen ∧ ∀ k x, zs[k]? = some x → ∃ b o, A = some ⟨b, o, none⟩ ∧ b < B ∧ w.cell? ⟨b, o + k, none⟩ = some (.int .i32 x)
section
variable {w w' : World} {B B' base base' : Nat} {e : TypeId} {q : IntKind} {A : Option Addr} {n c : Nat} {zs : List Int} {l : List (Int × Int)}
theorem Runes.length (h : Runes w B A n c zs) : zs.length = n := h.1
theorem Runes.cap (h : Runes w B A n c zs) : n ≤ c ∧ c ≤ 9223372036854775807 := by have := h.2.2.1; unfold maxLen at this; exact ⟨h.2.1, this⟩
theorem Runes.get {k : Nat} {x : Int} (h : Runes w B A n c zs) (hx : zs[k]? = some x) : ∃ b o, A = some ⟨b, o, none⟩ ∧ b < B ∧ w.cell? ⟨b, o + k, none⟩ = some (.int .i32 x) := h.2.2.2 k x hx
theorem Runes.below (h : Runes w B A n c zs) (hb : Below B w w') : Runes w' B A n c zs :=
  ⟨h.1, h.2.1, h.2.2.1, fun k x hx => by
    obtain ⟨b, o, hA, hb', hc⟩ := h.2.2.2 k x hx
    exact ⟨b, o, hA, hb', (hb.cell (p := ⟨b, o + k, none⟩) hb').trans hc⟩⟩
theorem Runes.more (h : Runes w B A n c zs) (hB : B ≤ B') : Runes w B' A n c zs :=
  ⟨h.1, h.2.1, h.2.2.1, fun k x hx => by
    obtain ⟨b, o, hA, hb', hc⟩ := h.2.2.2 k x hx
    exact ⟨b, o, hA, by omega, hc⟩⟩
theorem Ints.get {k : Nat} {x : Int} (h : Ints w B A n c zs) (hx : zs[k]? = some x) : ∃ b o, A = some ⟨b, o, none⟩ ∧ b < B ∧ w.cell? ⟨b, o + k, none⟩ = some (.int .i64 x) := h.2.2.2.2 k x hx

def cells2 (q : IntKind) (l : List (Int × Int)) : List Value := l.flatMap fun p => [.int q p.1, .int .i64 p.2]
theorem cells2_length (q : IntKind) : ∀ (l : List (Int × Int)), (cells2 q l).length = l.length * 2
  | [] => rfl
  | e :: r => by have := cells2_length q r; simp [cells2] at this ⊢; omega
theorem cells2_append (q : IntKind) (l m : List (Int × Int)) : cells2 q (l ++ m) = cells2 q l ++ cells2 q m := by simp [cells2]
theorem cells2_at {k : Nat} {x : Int × Int} (hk : l[k]? = some x) : (cells2 q l)[k * 2]? = some (.int q x.1) ∧ (cells2 q l)[k * 2 + 1]? = some (.int .i64 x.2) := by
  induction l generalizing k with
  | nil => simp at hk
  | cons e l ih =>
    rcases k with _ | k
    · simp at hk; subst hk
      simp [cells2]
    · simp at hk
      have := ih hk
      simp only [cells2, List.flatMap_cons] at this ⊢
      rw [show (k + 1) * 2 = k * 2 + 1 + 1 by omega]
      simpa using this
/-- a list of pairs, of the call's own -/
def Row2 (q : IntKind) (w : World) (base : Nat) (e : TypeId) (A : Option Addr) (n c : Nat) (l : List (Int × Int)) : Prop := l.length = n ∧ w.ownsRow base e 2 (.slice A n c) n (cells2 q l)
theorem Row2.nil_ (q : IntKind) (w : World) (base : Nat) (e : TypeId) : Row2 q w base e none 0 0 [] := ⟨rfl, World.ownsRow_nil w base e 2⟩
theorem Row2.cap (h : Row2 q w base e A n c l) : n ≤ c ∧ c ≤ 9223372036854775807 := by
  rcases h.2.2 with ⟨h, rfl⟩ | ⟨g, cap, cur, h, _, _, h1, h2, _⟩
  · simp only [Value.slice.injEq] at h; omega
  · simp only [Value.slice.injEq] at h; unfold maxLen at h2; omega
theorem Row2.more (h : Row2 q w base e A n c l) (hb : base' ≤ base) : Row2 q w base' e A n c l := by
  refine ⟨h.1, h.2.1, ?_⟩
  rcases h.2.2 with h | ⟨g, cap, cur, h, h1, h2⟩
  · exact .inl h
  · exact .inr ⟨g, cap, cur, h, by omega, h2⟩
theorem Row2.below (h : Row2 q w base e A n c l) (hb : Below B w w') (hB : w.heap.size ≤ B) : Row2 q w' base e A n c l := by
  refine ⟨h.1, h.2.1, ?_⟩
  rcases h.2.2 with h | ⟨g, cap, cur, h, h1, h2, h3⟩
  · exact .inl h
  · have hg : g < w.heap.size := (Array.getElem?_eq_some_iff.1 h2).1
    exact .inr ⟨g, cap, cur, h, h1, (hb.block g (by omega)).trans h2, h3⟩
theorem Row2.alloc (h : Row2 q w base e A n c l) (o : Obj) : Row2 q (w.alloc o) base e A n c l := ⟨h.1, World.ownsRow.alloc h.2 o⟩
theorem Row2.drewN (h : Row2 q w base e A n c l) (k : Nat) : Row2 q (w.drewN k) base e A n c l := h
theorem Row2.block (h : Row2 q w base e A n c l) : ∀ g, (Value.slice A n c).ownBlock = some g → base ≤ g ∧ g < w.heap.size := World.ownsRow.lt h.2
/-- it stays while another row grows -/
theorem Row2.kept (h : Row2 q w base e A n c l) {A2 : Option Addr} {n2 c2 : Nat} (hg : w.grownBy w' (Value.slice A2 n2 c2).ownBlock) (hap : Apart A A2) : Row2 q w' base e A n c l := by
  refine ⟨h.1, World.ownsRow.kept h.2 hg ?_⟩
  rcases A with _ | a
  · exact .inl rfl
  · refine .inr ?_
    rcases A2 with _ | a2
    · simp [Value.ownBlock]
    · have := hap a a2 rfl rfl
      simpa [Value.ownBlock] using this
/-- apart from a row that has grown -/
theorem Row2.apart {A2 A' : Option Addr} {n2 c2 n' c' : Nat} (h : Row2 q w base e A n c l) (hap : Apart A A2)
    (hb : (Value.slice A' n' c').ownBlock = (Value.slice A2 n2 c2).ownBlock ∨ (Value.slice A' n' c').ownBlock = some w.heap.size) : Apart A A' := by
  rintro a a2 rfl rfl
  rcases hb with hb | hb
  · rcases A2 with _ | a3
    · simp [Value.ownBlock] at hb
    · simp [Value.ownBlock] at hb
      rw [hb]; exact hap a a3 rfl rfl
  · simp [Value.ownBlock] at hb
    have := (h.block a.block (by simp [Value.ownBlock])).2
    omega
theorem Row2.form (h : Row2 q w base e A n c l) (hn : 0 < n) : ∃ g, A = some ⟨g, 0, none⟩ ∧ base ≤ g ∧ g < w.heap.size := by
  rcases h.2.2 with ⟨h', hz⟩ | ⟨g, cap, cur, h', h1, h2, h3⟩
  · omega
  · simp only [Value.slice.injEq] at h'
    exact ⟨g, h'.1, h1, (Array.getElem?_eq_some_iff.1 h2).1⟩
theorem Row2.at_ {k : Nat} {x : Int × Int} (h : Row2 q w base e A n c l) (hk : l[k]? = some x) :
    k < n ∧ ∃ g, A = some ⟨g, 0, none⟩ ∧ base ≤ g ∧ g < w.heap.size ∧ w.cell? ⟨g, k * 2, none⟩ = some (.int q x.1) ∧ w.cell? ⟨g, k * 2 + 1, none⟩ = some (.int .i64 x.2) := by
  have hn := h.1
  have hkl := (List.getElem?_eq_some_iff.1 hk).1
  obtain ⟨g, rfl, h1, h2⟩ := h.form (by omega)
  obtain ⟨c1, c2⟩ := cells2_at (q := q) hk
  exact ⟨by omega, g, rfl, h1, h2, by rw [World.ownsRow.cellAt h.2 (k * 2) (by omega)]; exact c1, by rw [World.ownsRow.cellAt h.2 (k * 2 + 1) (by omega)]; exact c2⟩
/-- its beginning -/
theorem Row2.take {m : Nat} (h : Row2 q w base e A n c l) (hm : m ≤ n) : Row2 q w base e A m c (l.take m) := by
  have hn := h.1
  have hl : (l.take m).length = m := by simp; omega
  refine ⟨hl, by rw [cells2_length, hl], ?_⟩
  have hcs : cells2 q l = cells2 q (l.take m) ++ cells2 q (l.drop m) := by rw [← cells2_append, List.take_append_drop]
  rcases h.2.2 with ⟨h', hz⟩ | ⟨g, cap, cur, h', h1, h2, h3, h4, h5, h6⟩
  · have : m = 0 := by omega
    subst this
    refine .inl ⟨?_, rfl⟩
    simp only [Value.slice.injEq] at h' ⊢
    exact ⟨h'.1, trivial, h'.2.2⟩
  · refine .inr ⟨g, cap, cur, ?_, h1, h2, by omega, h4, h5, ?_⟩
    · simp only [Value.slice.injEq] at h' ⊢; exact ⟨h'.1, trivial, h'.2.2⟩
    · have hx : (cur.toList.take (n * 2)).take (m * 2) = (cells2 q l).take (m * 2) := by rw [h6]
      rw [List.take_take, Nat.min_eq_left (by omega), hcs, List.take_left' (by rw [cells2_length, hl])] at hx
      exact hx
end

section
variable {P : Program} (w : World)
/-- append of one pair that lies in a literal -/
theorem wpList_append_2 {ops : Array Oper} {rest : List Oper} {o : Oper} {a : Act} {Q : Exit → Act → World → Prop} (hgd : o.guard = none) (s x : Operand) (t : TypeId)
    (ho : o.op = .call { callee := .builtin .append, args := #[s, x], argTypes := #[t, t] })
    (base : Nat) (e : TypeId) (q : IntKind) (z : Value) (hts : P.underlying t = some (.slice e)) (hi : (P.info? e).map (fun i => (i.zero, i.size, i.bytes)) = some (some z, 2, 16)) (hzs : z.cells.size = 2)
    (A : Option Addr) (n c : Nat) (l : List (Int × Int)) (hs : a.eval s = .slice A n c) (hown : Row2 q w base e A n c l)
    (b c2 : Nat) (y1 y2 : Int) (hx : a.eval x = .slice (some ⟨b, 0, none⟩) 1 c2) (h1 : w.cell? ⟨b, 0, none⟩ = some (.int q y1)) (h2 : w.cell? ⟨b, 1, none⟩ = some (.int .i64 y2))
    (hn : n ≤ 1000000) (hbase : base ≤ w.heap.size)
    (h : ∀ A' c' w', Row2 q w' base e A' (n + 1) c' (l ++ [(y1, y2)]) → w.grownBy w' (Value.slice A n c).ownBlock → ((Value.slice A' (n + 1) c').ownBlock = (Value.slice A n c).ownBlock ∨ (Value.slice A' (n + 1) c').ownBlock = some w.heap.size) →
      wpList P ops Q rest (a.put o.dst (.slice A' (n + 1) c')) w') : wpList P ops Q (o :: rest) a w := by
  obtain ⟨i, hi0, hz, hsz, hby⟩ := info_parts hi
  obtain ⟨v', w', hrun, r2, r3, _, r5⟩ := run_append_own_at (P := P) w base t o.type e i z 2 16 hts hi0 hz hsz hby hzs (by omega) _ n (cells2 q l) hown.2 ⟨b, 0, none⟩ 1 c2 [.int q y1, .int .i64 y2] rfl
    (by
      intro j y hy
      match j, hy with
      | 0, hy => simp at hy; subst hy; exact h1
      | 1, hy => simp at hy; subst hy; exact h2
      | j + 2, hy => simp at hy)
    (by
      intro y hy
      simp at hy
      rcases hy with rfl | rfl <;> rfl) (by unfold maxLen; omega) (by omega) hbase
  have hform : ∃ A' c', v' = .slice A' (n + 1) c' := by
    rcases r2.2 with ⟨rfl, h⟩ | ⟨g, cap, cur, rfl, _⟩
    · omega
    · exact ⟨_, _, rfl⟩
  obtain ⟨A', c', rfl⟩ := hform
  refine wpList_plain hgd fun K hK => ?_
  unfold Oper.wp execOp
  simp only [ho, resolve, invoke, builtin, Sem.run_bind, Sem.run_pure, Result.andThen_ok, List.map_toArray, List.map_cons, List.map_nil, hs, hx, hrun]
  exact hK _ _ (h A' c' w' ⟨by simp [hown.1], by rw [cells2_append]; exact r2⟩ r3 r5)
end

end Go.Proofs.YtbpaogmnaodcaaaDoor
