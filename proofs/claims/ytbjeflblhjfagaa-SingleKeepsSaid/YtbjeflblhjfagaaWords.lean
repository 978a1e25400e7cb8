/- Words for memory: a slice of integers that reads as a list, and one that the call owns; how each is kept, read and written. Over any program. No condition. -/
import Derived.WalkKit
import Derived.WalkSpells
import Derived.WalkLawsBesides
import Derived.Deep.Draws
import Derived.Laws.AppendOwnNone
import Derived.Maps.AppendAt
import Derived.Lib.Hide
namespace Go.Proofs.Ytbjeflblhjfagaa
open Go.RowKit

/-- the cells of a list of ints -/
def cellsOf (zs : List Int) : List Value := zs.map (Value.int .i64)

/-- The slice value '.slice A n c' reads as the list zs, below block B. -/
def Ints (w : World) (B : Nat) (A : Option Addr) (n c : Nat) (zs : List Int) : Prop :=
  zs.length = n ∧ n ≤ c ∧ c ≤ maxLen ∧ (A = none → n = 0 ∧ c = 0) ∧ ∀ k x, zs[k]? = some x → ∃ b o, A = some ⟨b, o, none⟩ ∧ b < B ∧ w.cell? ⟨b, o + k, none⟩ = some (.int .i64 x)

/-- The slice value is the call's own, from block 'base' on. -/
def Own (w : World) (base : Nat) (e : TypeId) (A : Option Addr) (n c : Nat) (zs : List Int) : Prop :=
  w.ownsRow base e 1 (.slice A n c) n (cellsOf zs)

section
variable {w w' : World} {B B' base base' : Nat} {e : TypeId} {A : Option Addr} {n c : Nat} {zs : List Int}

theorem Ints.length (h : Ints w B A n c zs) : zs.length = n := h.1
theorem Ints.cap (h : Ints w B A n c zs) : n ≤ c ∧ c ≤ 9223372036854775807 := by
  have := h.2.2.1; unfold maxLen at this; exact ⟨h.2.1, this⟩
theorem Ints.nil_ (w : World) (B : Nat) : Ints w B none 0 0 [] := ⟨rfl, Nat.le_refl _, by unfold maxLen; omega, fun _ => ⟨rfl, rfl⟩, fun k x h => by simp at h⟩
theorem Ints.at_ {k : Nat} (h : Ints w B A n c zs) (hk : k < n) : ∃ b o x, A = some ⟨b, o, none⟩ ∧ b < B ∧ zs[k]? = some x ∧ w.cell? ⟨b, o + k, none⟩ = some (.int .i64 x) := by
  have hl : k < zs.length := by rw [h.1]; exact hk
  obtain ⟨b, o, hA, hb, hc⟩ := h.2.2.2.2 k zs[k] (List.getElem?_eq_getElem hl)
  exact ⟨b, o, _, hA, hb, List.getElem?_eq_getElem hl, hc⟩
/-- the element behind a known beginning -/
theorem Ints.mid {pre r : List Int} {x : Int} {k : Nat} (h : Ints w B A n c (pre ++ x :: r)) (hk : pre.length = k) : k < n ∧ ∃ b o, A = some ⟨b, o, none⟩ ∧ b < B ∧ w.cell? ⟨b, o + k, none⟩ = some (.int .i64 x) := by
  subst hk
  obtain ⟨b, o, hA, hb, hc⟩ := h.2.2.2.2 pre.length x (by simp)
  exact ⟨by have := h.1; simp at this; omega, b, o, hA, hb, hc⟩
theorem Ints.keep (h : Ints w B A n c zs) (hk : ∀ p : Addr, p.block < B → w'.cell? p = w.cell? p) : Ints w' B A n c zs :=
  ⟨h.1, h.2.1, h.2.2.1, h.2.2.2.1, fun k x hx => by
    obtain ⟨b, o, hA, hb, hc⟩ := h.2.2.2.2 k x hx
    exact ⟨b, o, hA, hb, (hk ⟨b, o + k, none⟩ hb).trans hc⟩⟩
theorem Ints.more (h : Ints w B A n c zs) (hB : B ≤ B') : Ints w B' A n c zs :=
  ⟨h.1, h.2.1, h.2.2.1, h.2.2.2.1, fun k x hx => by
    obtain ⟨b, o, hA, hb, hc⟩ := h.2.2.2.2 k x hx
    exact ⟨b, o, hA, by omega, hc⟩⟩
theorem Ints.below (h : Ints w B A n c zs) (hb : Below B w w') : Ints w' B A n c zs := h.keep fun _ hp => hb.cell hp
theorem Ints.drew (h : Ints w B A n c zs) : Ints w.drew B A n c zs := h
theorem Ints.drewN (h : Ints w B A n c zs) (k : Nat) : Ints (w.drewN k) B A n c zs := h

theorem Ints.to (h : Ints w B A n c zs) (hB : B ≤ w.heap.size) (hb : Below w.heap.size w w') : Ints w' B A n c zs := h.below (hb.mono hB)
theorem Ints.alloc (h : Ints w B A n c zs) (hB : B ≤ w.heap.size) (o : Obj) : Ints (w.alloc o) B A n c zs := h.below ((Below.refl _ _).alloc hB o)

theorem own_form {v : Value} {m : Nat} {xs : List Value} (h : w.ownsRow base e 1 v m xs) : ∃ A c, v = .slice A m c := by
  rcases h.2 with ⟨rfl, rfl⟩ | ⟨g, cap, cur, rfl, _⟩
  · exact ⟨_, _, rfl⟩
  · exact ⟨_, _, rfl⟩
theorem Own.length (h : Own w base e A n c zs) : zs.length = n := by have := h.1; simpa [cellsOf] using this
theorem Own.nil_ (w : World) (base : Nat) (e : TypeId) : Own w base e none 0 0 [] := World.ownsRow_nil w base e 1
theorem Own.cap (h : Own w base e A n c zs) : n ≤ c ∧ c ≤ 9223372036854775807 := by
  rcases h.2 with ⟨h, rfl⟩ | ⟨g, cap, cur, h, _, _, h1, h2, _⟩
  · simp only [Value.slice.injEq] at h; omega
  · simp only [Value.slice.injEq] at h; unfold maxLen at h2; omega
theorem Own.wrap (h : w.ownsRow base e 1 (.slice A n c) n (zs.map (Value.int .i64))) : Own w base e A n c zs := h
theorem Own.more (h : Own w base e A n c zs) (hb : base' ≤ base) : Own w base' e A n c zs := by
  refine ⟨h.1, ?_⟩
  rcases h.2 with h | ⟨g, cap, cur, h, h1, h2⟩
  · exact .inl h
  · exact .inr ⟨g, cap, cur, h, by omega, h2⟩
theorem Own.below (h : Own w base e A n c zs) (hb : Below B w w') (hB : w.heap.size ≤ B) : Own w' base e A n c zs := by
  refine ⟨h.1, ?_⟩
  rcases h.2 with h | ⟨g, cap, cur, h, h1, h2, h3⟩
  · exact .inl h
  · have hg : g < w.heap.size := (Array.getElem?_eq_some_iff.1 h2).1
    exact .inr ⟨g, cap, cur, h, h1, (hb.block g (by omega)).trans h2, h3⟩
theorem Own.drew (h : Own w base e A n c zs) : Own w.drew base e A n c zs := h
theorem Own.drewN (h : Own w base e A n c zs) (k : Nat) : Own (w.drewN k) base e A n c zs := h
theorem Own.alloc (h : Own w base e A n c zs) (o : Obj) : Own (w.alloc o) base e A n c zs := World.ownsRow.alloc h o
/-- where an element is -/
theorem Own.mid {pre r : List Int} {x : Int} {k : Nat} (h : Own w base e A n c (pre ++ x :: r)) (hk : pre.length = k) :
    k < n ∧ ∃ g, A = some ⟨g, 0, none⟩ ∧ base ≤ g ∧ g < w.heap.size ∧ w.cell? ⟨g, k, none⟩ = some (.int .i64 x) ∧ w.frozen? ⟨g, k, none⟩ = false := by
  subst hk
  have hn : pre.length < n := by have := Own.length h; simp at this; omega
  refine ⟨hn, ?_⟩
  have hform : ∃ g, A = some ⟨g, 0, none⟩ ∧ base ≤ g ∧ g < w.heap.size := by
    rcases h.2 with ⟨h', hz⟩ | ⟨g, cap, cur, h', h1, h2, h3⟩
    · omega
    · simp only [Value.slice.injEq] at h'
      exact ⟨g, h'.1, h1, (Array.getElem?_eq_some_iff.1 h2).1⟩
  obtain ⟨g, rfl, h1, h2⟩ := hform
  exact ⟨g, rfl, h1, h2, by rw [World.ownsRow.cellAt h _ (by omega)]; simp [cellsOf], World.ownsRow.frozenAt h _⟩
/-- a store into an element -/
theorem Own.put {pre r : List Int} {x : Int} {k g : Nat} (h : Own w base e (some ⟨g, 0, none⟩) n c (pre ++ x :: r)) (hk : pre.length = k) (y : Int) :
    Own (w.setCell ⟨g, k, none⟩ (.int .i64 y)) base e (some ⟨g, 0, none⟩) n c (pre ++ y :: r) := by
  subst hk
  have h1 := (World.ownsRow.stored h pre.length (.int .i64 y)).1
  have h2 : (cellsOf (pre ++ x :: r)).set pre.length (.int .i64 y) = cellsOf (pre ++ y :: r) := by simp [cellsOf]
  rw [h2] at h1
  exact h1
theorem Own.ints (h : Own w base e A n c zs) : Ints w w.heap.size A n c zs := by
  have hl := Own.length h
  refine ⟨hl, (Own.cap h).1, by unfold maxLen; exact (Own.cap h).2, ?_, ?_⟩
  · rintro rfl
    rcases h.2 with ⟨h', hz⟩ | ⟨g, cap, cur, h', _⟩
    · simp only [Value.slice.injEq] at h'; omega
    · simp at h'
  · intro k x hx
    have hk : k < zs.length := (List.getElem?_eq_some_iff.1 hx).1
    have hz : zs = zs.take k ++ x :: zs.drop (k + 1) := by
      have he := (List.getElem?_eq_some_iff.1 hx).2
      rw [← he, ← List.drop_eq_getElem_cons hk, List.take_append_drop]
    have h' : Own w base e A n c (zs.take k ++ x :: zs.drop (k + 1)) := by rw [← hz]; exact h
    obtain ⟨_, g, hA, _, hg, hc, _⟩ := Own.mid h' (k := k) (by simp; omega)
    exact ⟨g, 0, hA, hg, by simpa using hc⟩
/-- the row's block turns, and no other: what is known below it stays -/
theorem Own.block (h : Own w base e A n c zs) : ∀ g, (Value.slice A n c).ownBlock = some g → base ≤ g ∧ g < w.heap.size := World.ownsRow.lt h
/-- a row of a literal -/
theorem Own.lit (w : World) (zs : List Int) (cs : Array Value) (e : TypeId) (hb : base ≤ w.heap.size) (hm : n ≤ maxLen) (hn : zs.length = n) (hs : cs.toList = cellsOf zs) :
    Own (w.alloc (.cells cs e)) base e (some ⟨w.heap.size, 0, none⟩) n n zs := by
  have h := World.ownsRow_lit (e := e) (size := 1) w cs n hb hm (by rw [← Array.length_toList, hs]; simp [cellsOf, hn])
  rw [hs] at h
  exact h
end

/-- a literal reads as its list -/
theorem Ints.lit (w : World) (zs : List Int) (cs : Array Value) (e : TypeId) {n : Nat} (hm : n ≤ 1000000) (hn : zs.length = n) (hs : cs.toList = cellsOf zs) :
    Ints (w.alloc (.cells cs e)) (w.heap.size + 1) (some ⟨w.heap.size, 0, none⟩) n n zs := by
  have h := (Own.lit w zs cs e (Nat.le_refl w.heap.size) (by unfold maxLen; omega) hn hs).ints
  simpa using h

theorem Ints.lit_at (w : World) (zs : List Int) (cs : Array Value) (e : TypeId) {n b : Nat} (hm : n ≤ 1000000) (hn : zs.length = n) (hs : cs.toList = cellsOf zs) (hb : b = w.heap.size) :
    Ints (w.alloc (.cells cs e)) (b + 1) (some ⟨b, 0, none⟩) n n zs := by
  subst hb
  exact Ints.lit w zs cs e hm hn hs

/-- What a call leaves that hands back a list of its own and turns nothing that was there. -/
def RetOwn (e3 : TypeId) (w : World) (n : Nat) (ys : List Int) (e : Ending) (w' : World) : Prop :=
  ∃ A c, e = .returned (.slice A n c) ∧ Own w' w.heap.size e3 A n c ys ∧ Below w.heap.size w w'

/-- the nil slice, as it comes back -/
theorem RetOwn.nil_ (e3 : TypeId) (w : World) : RetOwn e3 w 0 [] (.returned (.slice none 0 0)) w := ⟨none, 0, rfl, Own.nil_ _ _ _, Below.refl _ _⟩

section
variable {P : Program} (w : World)
/-- append of a slice that reads as a list, onto a row of the call's own; the source nil or not -/
theorem wpList_append_ints {ops : Array Oper} {rest : List Oper} {o : Oper} {a : Act} {Q : Exit → Act → World → Prop} (hgd : o.guard = none) (s x : Operand) (t : TypeId)
    (ho : o.op = .call { callee := .builtin .append, args := #[s, x], argTypes := #[t, t] })
    (base : Nat) (e : TypeId) (hts : P.underlying t = some (.slice e)) (hi : (P.info? e).map (fun i => (i.zero, i.size, i.bytes)) = some (some (.int .i64 0), 1, 8))
    (A : Option Addr) (n c : Nat) (xs : List Int) (hs : a.eval s = .slice A n c) (hown : Own w base e A n c xs)
    (B : Nat) (A2 : Option Addr) (m c2 : Nat) (ys : List Int) (hx : a.eval x = .slice A2 m c2) (hr : Ints w B A2 m c2 ys)
    (hbytes : (n + m) * 8 ≤ 140737488355328) (hbase : base ≤ w.heap.size)
    (h : ∀ A' c' w', Own w' base e A' (n + m) c' (xs ++ ys) → w.grownBy w' (Value.slice A n c).ownBlock → ((Value.slice A' (n + m) c').ownBlock = (Value.slice A n c).ownBlock ∨ (Value.slice A' (n + m) c').ownBlock = some w.heap.size) →
      wpList P ops Q rest (a.put o.dst (.slice A' (n + m) c')) w') : wpList P ops Q (o :: rest) a w := by
  obtain ⟨i, hi0, hz, hsz, hby⟩ := info_parts hi
  have run : ∃ A' c' w', (Builtin.append_ #[t, t] o.type #[.slice A n c, .slice A2 m c2]).run P w = .ok (.slice A' (n + m) c') w' ∧ Own w' base e A' (n + m) c' (xs ++ ys) ∧ w.grownBy w' (Value.slice A n c).ownBlock ∧
      ((Value.slice A' (n + m) c').ownBlock = (Value.slice A n c).ownBlock ∨ (Value.slice A' (n + m) c').ownBlock = some w.heap.size) := by
    rcases A2 with _ | ad
    · obtain ⟨rfl, rfl⟩ := hr.2.2.2.1 rfl
      have hy : ys = [] := List.eq_nil_of_length_eq_zero hr.1
      subst hy
      exact ⟨A, c, w, run_append_owned_none (P := P) (w := w) base t o.type e i 1 hts hi0 _ _ _ hown, by simpa using hown, World.grownBy.refl w _, .inl rfl⟩
    · have hcells : ∀ j u, (cellsOf ys)[j]? = some u → w.cell? (ad.add j) = some u := by
        intro j u hu
        simp only [cellsOf, List.getElem?_map, Option.map_eq_some_iff] at hu
        obtain ⟨x', hx', rfl⟩ := hu
        obtain ⟨b, o', hA, _, hc⟩ := hr.2.2.2.2 j x' hx'
        cases hA
        have : (⟨b, o', none⟩ : Addr).add j = ⟨b, o' + j, none⟩ := by unfold Addr.add; split <;> simp_all
        rw [this]; exact hc
      obtain ⟨v', w', hrun, h2, h3, _, h5⟩ := run_append_own_at (P := P) w base t o.type e i (.int .i64 0) 1 8 hts hi0 hz hsz hby rfl (by omega) _ n (cellsOf xs) hown ad m c2 (cellsOf ys) (by simp [cellsOf, hr.1]) hcells
        (by intro u hu; simp only [cellsOf, List.mem_map] at hu; obtain ⟨_, _, rfl⟩ := hu; rfl) (by unfold maxLen; omega) hbytes hbase
      obtain ⟨A', c', rfl⟩ := own_form h2
      exact ⟨A', c', w', hrun, by rw [Own, cellsOf, List.map_append]; exact h2, h3, h5⟩
  obtain ⟨A', c', w', hrun, h2, h3, h4⟩ := run
  refine wpList_plain hgd fun K hK => ?_
  unfold Oper.wp execOp
  simp only [ho, resolve, invoke, builtin, Sem.run_bind, Sem.run_pure, Result.andThen_ok, List.map_toArray, List.map_cons, List.map_nil, hs, hx, hrun]
  exact hK _ _ (h A' c' w' h2 h3 h4)
end

end Go.Proofs.Ytbjeflblhjfagaa
