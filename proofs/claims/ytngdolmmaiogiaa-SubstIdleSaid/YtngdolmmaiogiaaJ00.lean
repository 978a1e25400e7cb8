/- Joined: Words Shape. -/
import Derived.WalkKit
import Derived.WalkSpells
import Derived.WalkLawsBesides
import Derived.Deep.Draws
import Derived.Laws.AppendOwnNone
import Derived.Maps.AppendAt
import Derived.Lib.Hide
import Derived.OpenShut
import Derived.ChangeArms
import Derived.WideShapes
import Derived.SizedLaws

/- Words for memory: a slice of integers that reads as a list, and one that the call owns; how each is kept, read and written. Over any program. No condition. -/
namespace Go.Proofs.Ytngdolmmaiogiaa
open Go.RowKit

/-- the cells of a list of ints -/
def cellsOf (zs : List Int) : List Value := zs.map (Value.int .i64)

/-- The slice value '.slice A n c' reads as the list zs, below block B. -/
def Ints (w : World) (B : Nat) (A : Option Addr) (n c : Nat) (zs : List Int) : Prop :=
  zs.length = n ∧ n ≤ c ∧ c ≤ maxLen ∧ (A = none → n = 0 ∧ c = 0) ∧ ∀ k x, zs[k]? = some x → ∃ b o, A = some ⟨b, o, none⟩ ∧ b < B ∧ w.cell? ⟨b, o + k, none⟩ = some (.int .i64 x)

/-- The slice value is the call's own, from block 'base' on. -/
def Own (w : World) (base : Nat) (e : TypeId) (A : Option Addr) (n c : Nat) (zs : List Int) : Prop :=
  w.ownsRow base e 1 (.slice A n c) n (cellsOf zs)

section
variable {w w' : World} {B B' base base' : Nat} {e : TypeId} {A : Option Addr} {n c : Nat} {zs : List Int}

theorem Ints.length (h : Ints w B A n c zs) : zs.length = n := h.1
theorem Ints.cap (h : Ints w B A n c zs) : n ≤ c ∧ c ≤ 9223372036854775807 := by
  have := h.2.2.1; unfold maxLen at this; exact ⟨h.2.1, this⟩
theorem Ints.nil_ (w : World) (B : Nat) : Ints w B none 0 0 [] := ⟨rfl, Nat.le_refl _, by unfold maxLen; omega, fun _ => ⟨rfl, rfl⟩, fun k x h => by simp at h⟩
theorem Ints.at_ {k : Nat} (h : Ints w B A n c zs) (hk : k < n) : ∃ b o x, A = some ⟨b, o, none⟩ ∧ b < B ∧ zs[k]? = some x ∧ w.cell? ⟨b, o + k, none⟩ = some (.int .i64 x) := by
  have hl : k < zs.length := by rw [h.1]; exact hk
  obtain ⟨b, o, hA, hb, hc⟩ := h.2.2.2.2 k zs[k] (List.getElem?_eq_getElem hl)
  exact ⟨b, o, _, hA, hb, List.getElem?_eq_getElem hl, hc⟩
/-- the element behind a known beginning -/
theorem Ints.mid {pre r : List Int} {x : Int} {k : Nat} (h : Ints w B A n c (pre ++ x :: r)) (hk : pre.length = k) : k < n ∧ ∃ b o, A = some ⟨b, o, none⟩ ∧ b < B ∧ w.cell? ⟨b, o + k, none⟩ = some (.int .i64 x) := by
  subst hk
  obtain ⟨b, o, hA, hb, hc⟩ := h.2.2.2.2 pre.length x (by simp)
  exact ⟨by have := h.1; simp at this; omega, b, o, hA, hb, hc⟩
theorem Ints.keep (h : Ints w B A n c zs) (hk : ∀ p : Addr, p.block < B → w'.cell? p = w.cell? p) : Ints w' B A n c zs :=
  ⟨h.1, h.2.1, h.2.2.1, h.2.2.2.1, fun k x hx => by
    obtain ⟨b, o, hA, hb, hc⟩ := h.2.2.2.2 k x hx
    exact ⟨b, o, hA, hb, (hk ⟨b, o + k, none⟩ hb).trans hc⟩⟩
theorem Ints.more (h : Ints w B A n c zs) (hB : B ≤ B') : Ints w B' A n c zs :=
  ⟨h.1, h.2.1, h.2.2.1, h.2.2.2.1, fun k x hx => by
    obtain ⟨b, o, hA, hb, hc⟩ := h.2.2.2.2 k x hx
    exact ⟨b, o, hA, by omega, hc⟩⟩
theorem Ints.below (h : Ints w B A n c zs) (hb : Below B w w') : Ints w' B A n c zs := h.keep fun _ hp => hb.cell hp
theorem Ints.drew (h : Ints w B A n c zs) : Ints w.drew B A n c zs := h
theorem Ints.drewN (h : Ints w B A n c zs) (k : Nat) : Ints (w.drewN k) B A n c zs := h

theorem Ints.to (h : Ints w B A n c zs) (hB : B ≤ w.heap.size) (hb : Below w.heap.size w w') : Ints w' B A n c zs := h.below (hb.mono hB)
theorem Ints.alloc (h : Ints w B A n c zs) (hB : B ≤ w.heap.size) (o : Obj) : Ints (w.alloc o) B A n c zs := h.below ((Below.refl _ _).alloc hB o)

theorem own_form {v : Value} {m : Nat} {xs : List Value} (h : w.ownsRow base e 1 v m xs) : ∃ A c, v = .slice A m c := by
  rcases h.2 with ⟨rfl, rfl⟩ | ⟨g, cap, cur, rfl, _⟩
  · exact ⟨_, _, rfl⟩
  · exact ⟨_, _, rfl⟩
theorem Own.length (h : Own w base e A n c zs) : zs.length = n := by have := h.1; simpa [cellsOf] using this
theorem Own.nil_ (w : World) (base : Nat) (e : TypeId) : Own w base e none 0 0 [] := World.ownsRow_nil w base e 1
theorem Own.cap (h : Own w base e A n c zs) : n ≤ c ∧ c ≤ 9223372036854775807 := by
  rcases h.2 with ⟨h, rfl⟩ | ⟨g, cap, cur, h, _, _, h1, h2, _⟩
  · simp only [Value.slice.injEq] at h; omega
  · simp only [Value.slice.injEq] at h; unfold maxLen at h2; omega
theorem Own.wrap (h : w.ownsRow base e 1 (.slice A n c) n (zs.map (Value.int .i64))) : Own w base e A n c zs := h
theorem Own.more (h : Own w base e A n c zs) (hb : base' ≤ base) : Own w base' e A n c zs := by
  refine ⟨h.1, ?_⟩
  rcases h.2 with h | ⟨g, cap, cur, h, h1, h2⟩
  · exact .inl h
  · exact .inr ⟨g, cap, cur, h, by omega, h2⟩
theorem Own.below (h : Own w base e A n c zs) (hb : Below B w w') (hB : w.heap.size ≤ B) : Own w' base e A n c zs := by
  refine ⟨h.1, ?_⟩
  rcases h.2 with h | ⟨g, cap, cur, h, h1, h2, h3⟩
  · exact .inl h
  · have hg : g < w.heap.size := (Array.getElem?_eq_some_iff.1 h2).1
    exact .inr ⟨g, cap, cur, h, h1, (hb.block g (by omega)).trans h2, h3⟩
theorem Own.drew (h : Own w base e A n c zs) : Own w.drew base e A n c zs := h
theorem Own.drewN (h : Own w base e A n c zs) (k : Nat) : Own (w.drewN k) base e A n c zs := h
theorem Own.alloc (h : Own w base e A n c zs) (o : Obj) : Own (w.alloc o) base e A n c zs := World.ownsRow.alloc h o
/-- where an element is -/
theorem Own.mid {pre r : List Int} {x : Int} {k : Nat} (h : Own w base e A n c (pre ++ x :: r)) (hk : pre.length = k) :
    k < n ∧ ∃ g, A = some ⟨g, 0, none⟩ ∧ base ≤ g ∧ g < w.heap.size ∧ w.cell? ⟨g, k, none⟩ = some (.int .i64 x) ∧ w.frozen? ⟨g, k, none⟩ = false := by
  subst hk
  have hn : pre.length < n := by have := Own.length h; simp at this; omega
  refine ⟨hn, ?_⟩
  have hform : ∃ g, A = some ⟨g, 0, none⟩ ∧ base ≤ g ∧ g < w.heap.size := by
    rcases h.2 with ⟨h', hz⟩ | ⟨g, cap, cur, h', h1, h2, h3⟩
    · omega
    · simp only [Value.slice.injEq] at h'
      exact ⟨g, h'.1, h1, (Array.getElem?_eq_some_iff.1 h2).1⟩
  obtain ⟨g, rfl, h1, h2⟩ := hform
  exact ⟨g, rfl, h1, h2, by rw [World.ownsRow.cellAt h _ (by omega)]; simp [cellsOf], World.ownsRow.frozenAt h _⟩
/-- a store into an element -/
theorem Own.put {pre r : List Int} {x : Int} {k g : Nat} (h : Own w base e (some ⟨g, 0, none⟩) n c (pre ++ x :: r)) (hk : pre.length = k) (y : Int) :
    Own (w.setCell ⟨g, k, none⟩ (.int .i64 y)) base e (some ⟨g, 0, none⟩) n c (pre ++ y :: r) := by
  subst hk
  have h1 := (World.ownsRow.stored h pre.length (.int .i64 y)).1
  have h2 : (cellsOf (pre ++ x :: r)).set pre.length (.int .i64 y) = cellsOf (pre ++ y :: r) := by simp [cellsOf]
  rw [h2] at h1
  exact h1
theorem Own.ints (h : Own w base e A n c zs) : Ints w w.heap.size A n c zs := by
  have hl := Own.length h
  refine ⟨hl, (Own.cap h).1, by unfold maxLen; exact (Own.cap h).2, ?_, ?_⟩
  · rintro rfl
    rcases h.2 with ⟨h', hz⟩ | ⟨g, cap, cur, h', _⟩
    · simp only [Value.slice.injEq] at h'; omega
    · simp at h'
  · intro k x hx
    have hk : k < zs.length := (List.getElem?_eq_some_iff.1 hx).1
    have hz : zs = zs.take k ++ x :: zs.drop (k + 1) := by
      have he := (List.getElem?_eq_some_iff.1 hx).2
      rw [← he, ← List.drop_eq_getElem_cons hk, List.take_append_drop]
    have h' : Own w base e A n c (zs.take k ++ x :: zs.drop (k + 1)) := by rw [← hz]; exact h
    obtain ⟨_, g, hA, _, hg, hc, _⟩ := Own.mid h' (k := k) (by simp; omega)
    exact ⟨g, 0, hA, hg, by simpa using hc⟩
/-- the row's block turns, and no other: what is known below it stays -/
theorem Own.block (h : Own w base e A n c zs) : ∀ g, (Value.slice A n c).ownBlock = some g → base ≤ g ∧ g < w.heap.size := World.ownsRow.lt h
/-- a row of a literal -/
theorem Own.lit (w : World) (zs : List Int) (cs : Array Value) (e : TypeId) (hb : base ≤ w.heap.size) (hm : n ≤ maxLen) (hn : zs.length = n) (hs : cs.toList = cellsOf zs) :
    Own (w.alloc (.cells cs e)) base e (some ⟨w.heap.size, 0, none⟩) n n zs := by
  have h := World.ownsRow_lit (e := e) (size := 1) w cs n hb hm (by rw [← Array.length_toList, hs]; simp [cellsOf, hn])
  rw [hs] at h
  exact h
end

/-- a literal reads as its list -/
theorem Ints.lit (w : World) (zs : List Int) (cs : Array Value) (e : TypeId) {n : Nat} (hm : n ≤ 1000000) (hn : zs.length = n) (hs : cs.toList = cellsOf zs) :
    Ints (w.alloc (.cells cs e)) (w.heap.size + 1) (some ⟨w.heap.size, 0, none⟩) n n zs := by
  have h := (Own.lit w zs cs e (Nat.le_refl w.heap.size) (by unfold maxLen; omega) hn hs).ints
  simpa using h

theorem Ints.lit_at (w : World) (zs : List Int) (cs : Array Value) (e : TypeId) {n b : Nat} (hm : n ≤ 1000000) (hn : zs.length = n) (hs : cs.toList = cellsOf zs) (hb : b = w.heap.size) :
    Ints (w.alloc (.cells cs e)) (b + 1) (some ⟨b, 0, none⟩) n n zs := by
  subst hb
  exact Ints.lit w zs cs e hm hn hs

/-- What a call leaves that hands back a list of its own and turns nothing that was there. -/
def RetOwn (e3 : TypeId) (w : World) (n : Nat) (ys : List Int) (e : Ending) (w' : World) : Prop :=
  ∃ A c, e = .returned (.slice A n c) ∧ Own w' w.heap.size e3 A n c ys ∧ Below w.heap.size w w'

/-- the nil slice, as it comes back -/
theorem RetOwn.nil_ (e3 : TypeId) (w : World) : RetOwn e3 w 0 [] (.returned (.slice none 0 0)) w := ⟨none, 0, rfl, Own.nil_ _ _ _, Below.refl _ _⟩

section
variable {P : Program} (w : World)
/-- append of a slice that reads as a list, onto a row of the call's own; the source nil or not -/
theorem wpList_append_ints {ops : Array Oper} {rest : List Oper} {o : Oper} {a : Act} {Q : Exit → Act → World → Prop} (hgd : o.guard = none) (s x : Operand) (t : TypeId)
    (ho : o.op = .call { callee := .builtin .append, args := #[s, x], argTypes := #[t, t] })
    (base : Nat) (e : TypeId) (hts : P.underlying t = some (.slice e)) (hi : (P.info? e).map (fun i => (i.zero, i.size, i.bytes)) = some (some (.int .i64 0), 1, 8))
    (A : Option Addr) (n c : Nat) (xs : List Int) (hs : a.eval s = .slice A n c) (hown : Own w base e A n c xs)
    (B : Nat) (A2 : Option Addr) (m c2 : Nat) (ys : List Int) (hx : a.eval x = .slice A2 m c2) (hr : Ints w B A2 m c2 ys)
    (hbytes : (n + m) * 8 ≤ 140737488355328) (hbase : base ≤ w.heap.size)
    (h : ∀ A' c' w', Own w' base e A' (n + m) c' (xs ++ ys) → w.grownBy w' (Value.slice A n c).ownBlock → ((Value.slice A' (n + m) c').ownBlock = (Value.slice A n c).ownBlock ∨ (Value.slice A' (n + m) c').ownBlock = some w.heap.size) →
      wpList P ops Q rest (a.put o.dst (.slice A' (n + m) c')) w') : wpList P ops Q (o :: rest) a w := by
  obtain ⟨i, hi0, hz, hsz, hby⟩ := info_parts hi
  have run : ∃ A' c' w', (Builtin.append_ #[t, t] o.type #[.slice A n c, .slice A2 m c2]).run P w = .ok (.slice A' (n + m) c') w' ∧ Own w' base e A' (n + m) c' (xs ++ ys) ∧ w.grownBy w' (Value.slice A n c).ownBlock ∧
      ((Value.slice A' (n + m) c').ownBlock = (Value.slice A n c).ownBlock ∨ (Value.slice A' (n + m) c').ownBlock = some w.heap.size) := by
    rcases A2 with _ | ad
    · obtain ⟨rfl, rfl⟩ := hr.2.2.2.1 rfl
      have hy : ys = [] := List.eq_nil_of_length_eq_zero hr.1
      subst hy
      exact ⟨A, c, w, run_append_owned_none (P := P) (w := w) base t o.type e i 1 hts hi0 _ _ _ hown, by simpa using hown, World.grownBy.refl w _, .inl rfl⟩
    · have hcells : ∀ j u, (cellsOf ys)[j]? = some u → w.cell? (ad.add j) = some u := by
        intro j u hu
        simp only [cellsOf, List.getElem?_map, Option.map_eq_some_iff] at hu
        obtain ⟨x', hx', rfl⟩ := hu
        obtain ⟨b, o', hA, _, hc⟩ := hr.2.2.2.2 j x' hx'
        cases hA
        have : (⟨b, o', none⟩ : Addr).add j = ⟨b, o' + j, none⟩ := by unfold Addr.add; split <;> simp_all
        rw [this]; exact hc
      obtain ⟨v', w', hrun, h2, h3, _, h5⟩ := run_append_own_at (P := P) w base t o.type e i (.int .i64 0) 1 8 hts hi0 hz hsz hby rfl (by omega) _ n (cellsOf xs) hown ad m c2 (cellsOf ys) (by simp [cellsOf, hr.1]) hcells
        (by intro u hu; simp only [cellsOf, List.mem_map] at hu; obtain ⟨_, _, rfl⟩ := hu; rfl) (by unfold maxLen; omega) hbytes hbase
      obtain ⟨A', c', rfl⟩ := own_form h2
      exact ⟨A', c', w', hrun, by rw [Own, cellsOf, List.map_append]; exact h2, h3, h5⟩
  obtain ⟨A', c', w', hrun, h2, h3, h4⟩ := run
  refine wpList_plain hgd fun K hK => ?_
  unfold Oper.wp execOp
  simp only [ho, resolve, invoke, builtin, Sem.run_bind, Sem.run_pure, Result.andThen_ok, List.map_toArray, List.map_cons, List.map_nil, hs, hx, hrun]
  exact hK _ _ (h A' c' w' h2 h3 h4)
end

end Go.Proofs.Ytngdolmmaiogiaa

/- Memory read by shape: a slice of structs of slices, to any depth; how it is kept, and how a row's argument gives it. Over any program. No condition. -/
namespace Go.Proofs.Ytngdolmmaiogiaa
open Go.RowKit

/-- shapes of data: structs are chains -/
inductive Sh
  | int (k : IntKind)
  | bool
  | str
  | nil
  | cons (a b : Sh)
  | sl (e : Sh)
def Sh.size : Sh → Nat
  | .nil => 0
  | .cons a b => a.size + b.size
  | _ => 1
/-- The cells read as the shape, in blocks below B. -/
def Shd (w : World) (B : Nat) : Sh → List Value → Prop
  | .int k, cs => ∃ n, cs = [.int k n] ∧ (Lit.int k n).wf = true
  | .bool, cs => ∃ b, cs = [.bool b]
  | .str, cs => ∃ s, cs = [.string s] ∧ s.size ≤ maxLen
  | .nil, cs => cs = []
  | .cons a b, cs => ∃ c1 c2, cs = c1 ++ c2 ∧ Shd w B a c1 ∧ Shd w B b c2
  | .sl e, cs => ∃ A n c, cs = [.slice A n c] ∧ (n ≤ c ∧ n ≤ 140737488355328) ∧ c ≤ maxLen ∧ (A = none → n = 0 ∧ c = 0) ∧
      ∀ k, k < n → ∃ b o cs', A = some ⟨b, o, none⟩ ∧ b < B ∧ cs'.length = e.size ∧ (∀ (j : Nat) v, cs'[j]? = some v → w.cell? ⟨b, o + k * e.size + j, none⟩ = some v) ∧ Shd w B e cs'
theorem Shd.length {w : World} {B : Nat} : ∀ {s : Sh} {cs : List Value}, Shd w B s cs → cs.length = s.size
  | .int _, _, h => by obtain ⟨n, rfl, _⟩ := h; rfl
  | .bool, _, h => by obtain ⟨n, rfl⟩ := h; rfl
  | .str, _, h => by obtain ⟨n, rfl, _⟩ := h; rfl
  | .nil, _, h => by rw [show _ = [] from h]; rfl
  | .cons a b, _, h => by obtain ⟨c1, c2, rfl, h1, h2⟩ := h; rw [List.length_append, h1.length, h2.length]; rfl
  | .sl e, _, h => by obtain ⟨A, n, c, rfl, _⟩ := h; rfl
theorem Shd.keep {w w' : World} {B : Nat} (hk : ∀ p : Addr, p.block < B → w'.cell? p = w.cell? p) : ∀ {s : Sh} {cs : List Value}, Shd w B s cs → Shd w' B s cs
  | .int _, _, h => h
  | .bool, _, h => h
  | .str, _, h => h
  | .nil, _, h => h
  | .cons a b, _, h => by obtain ⟨c1, c2, e, h1, h2⟩ := h; exact ⟨c1, c2, e, Shd.keep hk h1, Shd.keep hk h2⟩
  | .sl e, _, h => by
    obtain ⟨A, n, c, e1, h1, h2, h3, h4⟩ := h
    refine ⟨A, n, c, e1, h1, h2, h3, fun k hkn => ?_⟩
    obtain ⟨b, o, cs', e2, h5, h6, h7, h8⟩ := h4 k hkn
    exact ⟨b, o, cs', e2, h5, h6, fun j v hj => (hk ⟨b, o + k * e.size + j, none⟩ h5).trans (h7 j v hj), Shd.keep hk h8⟩
theorem Shd.below {w w' : World} {B : Nat} {s : Sh} {cs : List Value} (h : Shd w B s cs) (hb : Below B w w') : Shd w' B s cs := h.keep fun _ hp => hb.cell hp
/-- a slice, opened: its length, and an element of it -/
def ShSl (w : World) (B : Nat) (e : Sh) (A : Option Addr) (n c : Nat) : Prop := Shd w B (.sl e) [.slice A n c]
section
variable {w w' : World} {B : Nat} {e : Sh} {A : Option Addr} {n c : Nat}
theorem ShSl.below (h : ShSl w B e A n c) (hb : Below B w w') : ShSl w' B e A n c := Shd.below h hb
theorem ShSl.open_ (h : ShSl w B e A n c) : n ≤ c ∧ c ≤ maxLen ∧ (A = none → n = 0 ∧ c = 0) ∧
      ∀ k, k < n → ∃ b o cs', A = some ⟨b, o, none⟩ ∧ b < B ∧ cs'.length = e.size ∧ (∀ (j : Nat) v, cs'[j]? = some v → w.cell? ⟨b, o + k * e.size + j, none⟩ = some v) ∧ Shd w B e cs' := by
  obtain ⟨A', n', c', e1, h⟩ := h
  simp only [List.cons.injEq, Value.slice.injEq, and_true] at e1
  obtain ⟨rfl, rfl, rfl⟩ := e1
  exact ⟨h.1.1, h.2⟩
theorem ShSl.len (h : ShSl w B e A n c) : n ≤ 140737488355328 := by
  obtain ⟨A', n', c', e1, h⟩ := h
  simp only [List.cons.injEq, Value.slice.injEq, and_true] at e1
  obtain ⟨rfl, rfl, rfl⟩ := e1
  exact h.1.2
theorem ShSl.cap (h : ShSl w B e A n c) : n ≤ c ∧ c ≤ 9223372036854775807 := by
  obtain ⟨h1, h2, _⟩ := h.open_
  unfold maxLen at h2
  exact ⟨h1, h2⟩
theorem ShSl.at_ (h : ShSl w B e A n c) {k : Nat} (hk : k < n) : ∃ b o cs', A = some ⟨b, o, none⟩ ∧ b < B ∧ cs'.length = e.size ∧ (∀ (j : Nat) v, cs'[j]? = some v → w.cell? ⟨b, o + k * e.size + j, none⟩ = some v) ∧ Shd w B e cs' := h.open_.2.2.2 k hk
theorem Shd.slice {cs : List Value} (h : Shd w B (.sl e) cs) : ∃ A n c, cs = [.slice A n c] ∧ ShSl w B e A n c := by
  obtain ⟨A, n, c, rfl, h⟩ := h
  exact ⟨A, n, c, rfl, A, n, c, rfl, h⟩
/-- a slice of numbers reads as a list -/
theorem ShSl.ints (h : ShSl w B (.int .i64) A n c) : ∃ zs, Ints w B A n c zs := by
  obtain ⟨h1, h2, h3, h4⟩ := h.open_
  have h5 : ∀ k, k < n → ∃ x : Int, ∃ b o, A = some ⟨b, o, none⟩ ∧ b < B ∧ w.cell? ⟨b, o + k, none⟩ = some (.int .i64 x) := fun k hk => by
    obtain ⟨b, o, cs', e1, hb, _, hc, x, rfl, _⟩ := h4 k hk
    exact ⟨x, b, o, e1, hb, by have := hc 0 _ rfl; simpa [Sh.size] using this⟩
  obtain ⟨f, hf⟩ : ∃ f : Nat → Int, ∀ k, k < n → ∃ b o, A = some ⟨b, o, none⟩ ∧ b < B ∧ w.cell? ⟨b, o + k, none⟩ = some (.int .i64 (f k)) := by
    refine ⟨fun k => if hk : k < n then (h5 k hk).choose else 0, fun k hk => ?_⟩
    simp only [hk, dite_true]
    exact (h5 k hk).choose_spec
  refine ⟨(List.range n).map f, by simp, h1, h2, h3, fun k x hx => ?_⟩
  rw [List.getElem?_map] at hx
  by_cases hk : k < n
  · rw [List.getElem?_range hk] at hx
    simp only [Option.map_some, Option.some.injEq] at hx
    subst hx
    exact hf k hk
  · rw [List.getElem?_eq_none (by simp; omega)] at hx
    cases hx
end

/-- does a shape fit a type? -/
def shFields (ok : TypeId → Sh → Bool) (P : Program) : Sh → List Field → Nat → Bool
  | .nil, [], _ => true
  | .cons a b, f :: fs, off => ok f.type a && f.offset == off && P.cellsOf f.type == a.size && shFields ok P b fs (off + a.size)
  | _, _, _ => false
def shOk (P : Program) : Nat → TypeId → Sh → Bool
  | 0, _, _ => false
  | d + 1, t, s =>
    match P.underlying t, s with
    | some (.int k), .int k' => k == k'
    | some .bool, .bool => true
    | some .string, .str => true
    | some (.slice e), .sl s' => shOk P d e s' && P.cellsOf e == s'.size && decide (0 < s'.size) && decide (0 < P.bytesOf e)
    | some (.struct fs), s => shFields (shOk P d) P s fs.toList 0 && P.cellsOf t == s.size
    | _, _ => false

section
variable {H : Type} {enc : TypeId × Value → H} {P : Program} {w : World} {base : Nat} {spare : Nat → Bool} {held : Bool}
theorem shFields_of {fuel : Nat} (ok : TypeId → Sh → Bool) (ih : ∀ (t : TypeId) (s : Sh) (cs : List Value) (x : DataW H × List MemPlace), ok t s = true → (∀ m ∈ x.1.weights P t, m ≤ 140737488355328) → DataW.trod enc P w base spare held fuel t cs = some x → Shd w w.heap.size s cs) (cs : List Value) :
    ∀ (s : Sh) (fs : List Field) (off : Nat), shFields ok P s fs off = true → (∀ (i : Nat) (f : Field), fs[i]? = some f → ∃ x, (∀ m ∈ x.1.weights P f.type, m ≤ 140737488355328) ∧ DataW.trod enc P w base spare held fuel f.type ((cs.drop f.offset).take (P.cellsOf f.type)) = some x) →
      cs.length = off + s.size → Shd w w.heap.size s (cs.drop off)
  | .nil, [], off, _, _, hl => by
    show cs.drop off = []
    exact List.drop_eq_nil_of_le (by simp [Sh.size] at hl; omega)
  | .cons a b, f :: fs, off, h, ht, hl => by
    simp only [shFields, Bool.and_eq_true, beq_iff_eq] at h
    obtain ⟨⟨⟨h1, h2⟩, h3⟩, h4⟩ := h
    simp only [Sh.size] at hl
    obtain ⟨x, hwx, hx⟩ := ht 0 f rfl
    rw [h2, h3] at hx
    have hr := shFields_of ok ih cs b fs (off + a.size) h4 (fun i g hg => ht (i + 1) g (by simpa using hg)) (by omega)
    refine ⟨(cs.drop off).take a.size, cs.drop (off + a.size), ?_, ih _ _ _ _ h1 hwx hx, hr⟩
    rw [← List.drop_drop, List.take_append_drop]
  | .nil, _ :: _, _, h, _, _ => by simp [shFields] at h
  | .cons _ _, [], _, h, _, _ => by simp [shFields] at h
  | .int _, _, _, h, _, _ => by simp [shFields] at h
  | .bool, _, _, h, _, _ => by simp [shFields] at h
  | .str, _, _, h, _, _ => by simp [shFields] at h
  | .sl _, _, _, h, _, _ => by simp [shFields] at h
theorem weightsAll_mem {e : TypeId} {l : List (DataW H)} {d : DataW H} {m : Nat} (h : d ∈ l) (hm : m ∈ d.weights P e) : m ∈ DataW.weightsAll P e l := by
  induction l with
  | nil => cases h
  | cons x r ih =>
    simp only [DataW.weightsAll, List.mem_append]
    rcases List.mem_cons.1 h with rfl | h
    · exact .inl hm
    · exact .inr (ih h)
/-- A reading gives the shape. -/
theorem shd_of_trod : ∀ (d fuel : Nat) (t : TypeId) (s : Sh) (cs : List Value) (x : DataW H × List MemPlace), shOk P d t s = true → (∀ m ∈ x.1.weights P t, m ≤ 140737488355328) → DataW.trod enc P w base spare held fuel t cs = some x → Shd w w.heap.size s cs
  | 0, _, _, _, _, _, h, _, _ => by simp [shOk] at h
  | d + 1, fuel, t, s, cs, x, h, hwt, hx => by
    unfold shOk at h
    split at h
    · rename_i k k' hu
      obtain ⟨n, e1, _, hw⟩ := DataW.trod_int hu hx
      obtain rfl : k = k' := by simpa using h
      exact ⟨n, e1, hw⟩
    · rename_i hu
      obtain ⟨b, e1, _⟩ := DataW.trod_bool hu hx
      exact ⟨b, e1⟩
    · rename_i hu
      obtain ⟨s', e1, _, h2⟩ := DataW.trod_string hu hx
      exact ⟨s', e1, h2⟩
    · rename_i e s' hu
      simp only [Bool.and_eq_true, beq_iff_eq, decide_eq_true_eq] at h
      obtain ⟨⟨⟨h0, hce⟩, hpos⟩, hby⟩ := h
      rcases DataW.trod_slice hu hx with ⟨rfl, _⟩ | ⟨a, len, cap, elems, rest, n, rfl, rfl, rfl, hb, hl, hm, hlen, hel, _⟩
      · exact ⟨none, 0, 0, rfl, ⟨Nat.le_refl _, by omega⟩, by unfold maxLen; omega, fun _ => ⟨rfl, rfl⟩, fun k hk => by omega⟩
      · have hlw : len ≤ 140737488355328 := by
          have h1 := hwt _ (by show _ ∈ DataW.weights P t (DataW.slice (elems.map (·.1)) (rest.map (·.1))); simp only [DataW.weights, hu]; exact List.mem_cons_self)
          rw [List.length_map, List.length_map, hlen] at h1
          exact Nat.le_trans (Nat.le_trans (Nat.le_add_right _ _) (Nat.le_mul_of_pos_right _ hby)) h1
        refine ⟨some a, len, cap, rfl, ⟨hl, hlw⟩, hm, (by simp), fun k hk => ?_⟩
        have hget : ∀ j, j < len → ∃ cs', (∀ i, i < s'.size → w.cell? ((a.add (j * s'.size)).add i) = cs'[i]?) ∧ cs'.length = s'.size ∧ Shd w w.heap.size s' cs' := fun j hj => by
          have hk2 := hel j hj
          rw [List.getElem?_eq_getElem (by omega)] at hk2
          obtain ⟨cs', h1, h2⟩ := Option.bind_eq_some_iff.1 hk2
          have hsh := shd_of_trod d n e s' cs' _ h0 (fun m hm => hwt m (by
            show _ ∈ DataW.weights P t (DataW.slice (elems.map (·.1)) (rest.map (·.1)))
            simp only [DataW.weights, hu]
            refine List.mem_cons_of_mem _ (List.mem_append_left _ (weightsAll_mem (List.mem_map.2 ⟨_, List.getElem_mem _, rfl⟩) hm)))) h2
          obtain ⟨_, hcl, hcc⟩ := World.cells?_some h1
          rw [hce] at hcl hcc
          exact ⟨cs', hcc, hcl, hsh⟩
        have hplain : ∃ b o, a = ⟨b, o, none⟩ ∧ b < w.heap.size := by
          obtain ⟨cs', h1, h2, _⟩ := hget 0 (by omega)
          have h3 := h1 0 hpos
          rw [List.getElem?_eq_getElem (by omega)] at h3
          obtain ⟨b, o, spot⟩ := a
          have hspot : spot = none := by simpa [Addr.add] using World.cell?_spot h3
          subst hspot
          exact ⟨b, o, rfl, by simpa [Addr.add] using World.block_lt_of_cell? w _ h3⟩
        obtain ⟨b, o, rfl, hbl⟩ := hplain
        obtain ⟨cs', h1, h2, h3⟩ := hget k hk
        refine ⟨b, o, cs', rfl, hbl, h2, fun j v hj => ?_, h3⟩
        have hjl : j < s'.size := by rw [← h2]; exact (List.getElem?_eq_some_iff.1 hj).1
        have := h1 j hjl
        rw [hj, Go.WideShapes.add_plain, Go.WideShapes.add_plain] at this
        exact this
    · rename_i _ _ fs hu
      simp only [Bool.and_eq_true, beq_iff_eq] at h
      obtain ⟨xs, n, rfl, rfl, hl, hlx, hf⟩ := DataW.trod_struct hu hx
      have := shFields_of (fuel := n) (shOk P d) (fun _ _ _ _ h1 hw h2 => shd_of_trod d n _ _ _ _ h1 hw h2) cs _ fs.toList 0 h.1 (fun i f hi => by
        have h3 := hf i f (by simpa using hi)
        have h4 : i < fs.size := (Array.getElem?_eq_some_iff.1 (by simpa using hi)).1
        have h5 : xs[i]? = some xs[i] := List.getElem?_eq_getElem (by omega)
        rw [h5] at h3
        refine ⟨_, fun m hm => hwt m ?_, h3⟩
        show _ ∈ DataW.weights P t (DataW.agg (xs.map (·.1)))
        simp only [DataW.weights, hu]
        exact DataW.weights_mem_each (j := i) (t := f.type) (d := (xs[i]).1) (by rw [List.getElem?_map, hi]; rfl) (by rw [List.getElem?_map, h5]; rfl) m hm) (by omega)
      simpa using this
    · simp at h
end

end Go.Proofs.Ytngdolmmaiogiaa
