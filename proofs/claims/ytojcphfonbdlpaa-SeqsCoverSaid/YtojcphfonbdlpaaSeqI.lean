/- Words for the sequences: a list of them of the call's own, a sequence under way in its block, and the map from places to runs. No condition. -/
import Derived.Test.YtojcphfonbdlpaaSeqG
import Derived.Maps.OwnOps
import Derived.Maps.Views
namespace Go.Proofs.Ytojcphfonbdlpaa.Sq
open Lv (removed)

theorem run_apart {cs ls : List Int} (hl : cs.length = ls.length) {i j : Nat} {r r' : List Int} {p : Int} (hi : (runs cs ls)[i]? = some r) (hj : (runs cs ls)[j]? = some r') (hp : p ∈ r) (hp' : p ∈ r') : i = j := by
  have h := runs_rise hl
  rw [List.pairwise_flatten] at h
  rcases Nat.lt_trichotomy i j with hlt | he | hlt
  · have h2 := List.pairwise_iff_getElem.1 h.2 i j (List.getElem?_eq_some_iff.1 hi).1 (List.getElem?_eq_some_iff.1 hj).1 hlt
    rw [(List.getElem?_eq_some_iff.1 hi).2, (List.getElem?_eq_some_iff.1 hj).2] at h2
    have := h2 p hp p hp'
    omega
  · exact he
  · have h2 := List.pairwise_iff_getElem.1 h.2 j i (List.getElem?_eq_some_iff.1 hj).1 (List.getElem?_eq_some_iff.1 hi).1 hlt
    rw [(List.getElem?_eq_some_iff.1 hi).2, (List.getElem?_eq_some_iff.1 hj).2] at h2
    have := h2 p hp' p hp
    omega
theorem run_idx {cs ls : List Int} (hl : cs.length = ls.length) {i j : Nat} {r : List Int} (hi : (runs cs ls)[i]? = some r) (hj : (runs cs ls)[j]? = some r) : i = j := by
  have hne := runs_ne cs ls r (List.mem_of_getElem? hi)
  exact run_apart hl hi hj (last_mem hne) (last_mem hne)
theorem find_of_mem {cs ls : List Int} (hl : cs.length = ls.length) {j : Nat} {r : List Int} {p : Int} (hj : (runs cs ls)[j]? = some r) (hp : p ∈ r) : find (runs cs ls) p = r := by
  obtain ⟨i, hi, hm⟩ := find_at (rs := runs cs ls) (List.mem_flatten.2 ⟨r, List.mem_of_getElem? hj, hp⟩)
  have := run_apart hl hi hj hm hp
  subst this
  rw [hi] at hj
  exact Option.some.inj hj
theorem ofRuns_cons (cs ls mt : List Int) (rs : List (List Int)) (base : Int) (r : List Int) (l : List (List Int)) :
    ofRuns cs ls mt rs base (r :: l) = if led cs mt r = true then ofRuns cs ls mt rs base l else one cs ls mt rs base r :: ofRuns cs ls mt rs base l := by
  unfold ofRuns
  by_cases h : led cs mt r = true
  · rw [if_pos h, List.filterMap_cons_none (by simp [h])]
  · rw [if_neg h, List.filterMap_cons_some (b := one cs ls mt rs base r) (by simp [h])]

end Go.Proofs.Ytojcphfonbdlpaa.Sq
namespace Go.Proofs.Ytojcphfonbdlpaa
open Go.RowKit Go.Maps

/-! the map from places to runs -/
theorem lawInt : Keyed Try.prog 3 := int_keyed Try.underlying3
theorem zeroInt (w : World) : (zeroValue 3).run Try.prog w = .ok (.int .i64 0) w := by kernel_rfl
def MapIs (w : World) (b n : Nat) (D : DataW Unit) : Prop := w.ownsMap Try.prog 3 (plainElem Try.prog 3) b n D
theorem MapIs.below {w w' : World} {B b n : Nat} {D : DataW Unit} (h : MapIs w b n D) (hb : Below B w w') (hB : b < B) : MapIs w' b n D := by
  obtain ⟨es, clock, h1, h2⟩ := h
  exact ⟨es, clock, (hb.block b hB).trans h1, h2⟩
/-- of these places the map tells the run -/
def Knows (D : DataW Unit) (rs : List (List Int)) (S : List Int) : Prop := IsMap D ∧ ∀ p ∈ S, ∃ j : Nat, D.atKey (.int .i64 p) (.lit (.int .i64 0)) = .lit (.int .i64 (j : Int)) ∧ rs[j]? = some (Sq.find rs p)
theorem Knows.nil_ (rs : List (List Int)) : Knows (.map []) rs [] := ⟨isMap_empty, by simp⟩
theorem Knows.put {D : DataW Unit} {rs : List (List Int)} {S : List Int} {p : Int} {j : Nat} (h : Knows D rs S) (hj : rs[j]? = some (Sq.find rs p)) : Knows (D.put (.int .i64 p) (.lit (.int .i64 (j : Int)))) rs (S ++ [p]) := by
  refine ⟨h.1.put _ _, fun p' hp' => ?_⟩
  by_cases he : p' = p
  · subst he
    exact ⟨j, atKey_put_same h.1 (by trivial) _ _, hj⟩
  · simp [he] at hp'
    obtain ⟨j', h1, h2⟩ := h.2 p' hp'
    exact ⟨j', by rw [atKey_put_other (by simpa using he)]; exact h1, h2⟩
theorem Knows.at_ {D : DataW Unit} {rs : List (List Int)} {S : List Int} {p c : Int} (h : Knows D rs S) (hp : p ∈ S) (hc : D.atKey (.int .i64 p) (.lit (.int .i64 0)) = .lit (.int .i64 c)) : ∃ j : Nat, c = (j : Int) ∧ rs[j]? = some (Sq.find rs p) := by
  obtain ⟨j, h1, h2⟩ := h.2 p hp
  rw [h1] at hc
  simp at hc
  exact ⟨j, hc.symm, h2⟩

/-! a sequence under way -/
def SCell (w : World) (b : Nat) (v : Value) (lv so eo : Int) : Prop := w.heap[b]? = some (.cells #[v, .int .i64 lv, .int .i64 so, .int .i64 eo] 30)
section
variable {w w' : World} {B b : Nat} {v : Value} {lv so eo : Int}
theorem SCell.new (w : World) (v : Value) (lv so eo : Int) : SCell (w.alloc (.cells #[v, .int .i64 lv, .int .i64 so, .int .i64 eo] 30)) w.heap.size v lv so eo := heap_alloc_new w _
theorem SCell.cells (h : SCell w b v lv so eo) : w.cell? ⟨b, 0, none⟩ = some v ∧ w.cell? ⟨b, 1, none⟩ = some (.int .i64 lv) ∧ w.cell? ⟨b, 2, none⟩ = some (.int .i64 so) ∧ w.cell? ⟨b, 3, none⟩ = some (.int .i64 eo) :=
  ⟨by rw [cell_of_row _ _ 0 _ _ _ h]; rfl, by rw [cell_of_row _ _ 1 _ _ _ h]; rfl, by rw [cell_of_row _ _ 2 _ _ _ h]; rfl, by rw [cell_of_row _ _ 3 _ _ _ h]; rfl⟩
theorem SCell.frozen (h : SCell w b v lv so eo) (k : Nat) : w.frozen? ⟨b, k, none⟩ = false := frozen_of_row _ _ _ _ _ h
theorem SCell.lt (h : SCell w b v lv so eo) : b < w.heap.size := (Array.getElem?_eq_some_iff.1 h).1
theorem SCell.set0 (h : SCell w b v lv so eo) (u : Value) : SCell (w.setCell ⟨b, 0, none⟩ u) b u lv so eo := heap_setCell_same w b 0 _ _ u h
theorem SCell.set2 (h : SCell w b v lv so eo) (y : Int) : SCell (w.setCell ⟨b, 2, none⟩ (.int .i64 y)) b v lv y eo := heap_setCell_same w b 2 _ _ _ h
theorem SCell.set3 (h : SCell w b v lv so eo) (y : Int) : SCell (w.setCell ⟨b, 3, none⟩ (.int .i64 y)) b v lv so y := heap_setCell_same w b 3 _ _ _ h
theorem SCell.grown {row : Option Nat} (h : SCell w b v lv so eo) (hg : w.grownBy w' row) (hne : some b ≠ row) : SCell w' b v lv so eo := (hg.block b h.lt hne).trans h
theorem SCell.below (h : SCell w b v lv so eo) (hb : Below B w w') (hB : b < B) : SCell w' b v lv so eo := (hb.block b hB).trans h
theorem SCell.drewN (h : SCell w b v lv so eo) (k : Nat) : SCell (w.drewN k) b v lv so eo := h
theorem SCell.drew (h : SCell w b v lv so eo) : SCell w.drew b v lv so eo := h
theorem SCell.alloc (h : SCell w b v lv so eo) (o : Obj) : SCell (w.alloc o) b v lv so eo := (Go.heap_alloc_old w o h.lt).trans h
end

/-! a list of sequences, of the call's own -/
theorem infoSeq : (Try.prog.info? 30).map (fun i => (i.zero, i.size, i.bytes)) = some (some (.agg #[.slice none 0 0, .int .i64 0, .int .i64 0, .int .i64 0]), 4, 48) := by kernel_rfl
structure SRw where
  g : Nat
  c : Nat
  s : Sq.Seq
def SRw.cells (r : SRw) : List Value := [.slice (some ⟨r.g, 0, none⟩) r.s.ps.length r.c, .int .i64 r.s.lv, .int .i64 r.s.sos, .int .i64 r.s.eos]
def seqCells (rs : List SRw) : List Value := rs.flatMap SRw.cells
theorem seqCells_length : ∀ (l : List SRw), (seqCells l).length = l.length * 4
  | [] => rfl
  | e :: r => by have := seqCells_length r; simp [seqCells, SRw.cells] at this ⊢; omega
/-- The list of sequences is the call's own, and their rows are too. -/
def Seqs (w : World) (base : Nat) (A : Option Addr) (n c : Nat) (rs : List SRw) : Prop :=
  rs.length = n ∧ w.ownsRow base 30 4 (.slice A n c) n (seqCells rs) ∧ (∀ r ∈ rs, Own w base 3 (some ⟨r.g, 0, none⟩) r.s.ps.length r.c r.s.ps) ∧ ∀ a, A = some a → ∀ r ∈ rs, r.g ≠ a.block

section
variable {w w' : World} {B base base' n c : Nat} {A : Option Addr} {rs : List SRw}
theorem Seqs.nil_ (w : World) (base : Nat) : Seqs w base none 0 0 [] := ⟨rfl, World.ownsRow_nil w base _ 4, by simp, by simp⟩
theorem Seqs.length (h : Seqs w base A n c rs) : rs.length = n := h.1
theorem Seqs.cap (h : Seqs w base A n c rs) : n ≤ c ∧ c ≤ 9223372036854775807 := by
  rcases h.2.1.2 with ⟨h, rfl⟩ | ⟨g, cap, cur, h, _, _, h1, h2, _⟩
  · simp only [Value.slice.injEq] at h; omega
  · simp only [Value.slice.injEq] at h; unfold maxLen at h2; omega
theorem Seqs.more (h : Seqs w base A n c rs) (hb : base' ≤ base) : Seqs w base' A n c rs := ⟨h.1, row_more h.2.1 hb, fun r hr => (h.2.2.1 r hr).more hb, h.2.2.2⟩
theorem Seqs.below (h : Seqs w base A n c rs) (hb : Below B w w') (hB : w.heap.size ≤ B) : Seqs w' base A n c rs := ⟨h.1, row_below h.2.1 hb hB, fun r hr => (h.2.2.1 r hr).below hb hB, h.2.2.2⟩
theorem Seqs.alloc (h : Seqs w base A n c rs) (o : Obj) : Seqs (w.alloc o) base A n c rs := ⟨h.1, World.ownsRow.alloc h.2.1 o, fun r hr => (h.2.2.1 r hr).alloc o, h.2.2.2⟩
theorem Seqs.drewN (h : Seqs w base A n c rs) (k : Nat) : Seqs (w.drewN k) base A n c rs := h
theorem Seqs.drew (h : Seqs w base A n c rs) : Seqs w.drew base A n c rs := h
theorem Seqs.block (h : Seqs w base A n c rs) : ∀ g, (Value.slice A n c).ownBlock = some g → base ≤ g ∧ g < w.heap.size := World.ownsRow.lt h.2.1
theorem Seqs.row_lt (h : Seqs w base A n c rs) {r : SRw} (hr : r ∈ rs) : base ≤ r.g ∧ r.g < w.heap.size := Own.block (h.2.2.1 r hr) r.g (by simp [Value.ownBlock])
theorem seqCells_at {k i : Nat} {r : SRw} (hk : rs[k]? = some r) (hi : i < 4) : (seqCells rs)[k * 4 + i]? = r.cells[i]? := by
  induction rs generalizing k with
  | nil => simp at hk
  | cons e l ih =>
    rw [seqCells, List.flatMap_cons]
    rcases k with _ | k
    · simp at hk; subst hk
      rw [List.getElem?_append_left (by simp [SRw.cells]; omega)]; simp
    · simp at hk
      rw [List.getElem?_append_right (by simp [SRw.cells]; omega)]
      rw [← ih hk, show (k + 1) * 4 + i - e.cells.length = k * 4 + i by simp [SRw.cells]; omega]
      rfl
/-- where a sequence lies -/
theorem Seqs.at_ {k : Nat} {r : SRw} (h : Seqs w base A n c rs) (hk : rs[k]? = some r) :
    k < n ∧ ∃ g, A = some ⟨g, 0, none⟩ ∧ base ≤ g ∧ g < w.heap.size ∧ w.cell? ⟨g, k * 4, none⟩ = some (.slice (some ⟨r.g, 0, none⟩) r.s.ps.length r.c) ∧ w.cell? ⟨g, k * 4 + 1, none⟩ = some (.int .i64 r.s.lv) ∧ w.cell? ⟨g, k * 4 + 2, none⟩ = some (.int .i64 r.s.sos) ∧ w.cell? ⟨g, k * 4 + 3, none⟩ = some (.int .i64 r.s.eos) ∧
      Own w base 3 (some ⟨r.g, 0, none⟩) r.s.ps.length r.c r.s.ps := by
  have hn := h.length
  have hkl := (List.getElem?_eq_some_iff.1 hk).1
  refine ⟨by omega, ?_⟩
  have hform : ∃ g, A = some ⟨g, 0, none⟩ ∧ base ≤ g ∧ g < w.heap.size := by
    rcases h.2.1.2 with ⟨h', hz⟩ | ⟨g, cap, cur, h', h1, h2, h3⟩
    · omega
    · simp only [Value.slice.injEq] at h'
      exact ⟨g, h'.1, h1, (Array.getElem?_eq_some_iff.1 h2).1⟩
  obtain ⟨g, rfl, h1, h2⟩ := hform
  have hc : ∀ i, i < 4 → w.cell? ⟨g, k * 4 + i, none⟩ = r.cells[i]? := fun i hi => by
    rw [World.ownsRow.cellAt h.2.1 (k * 4 + i) (by omega), seqCells_at hk hi]
  exact ⟨g, rfl, h1, h2, hc 0 (by omega), hc 1 (by omega), hc 2 (by omega), hc 3 (by omega), h.2.2.1 r (List.mem_of_getElem? hk)⟩
/-- one sequence more -/
theorem Seqs.push {A' : Option Addr} {c' : Nat} {r : SRw} (h : Seqs w base A n c rs) (hr : Own w base 3 (some ⟨r.g, 0, none⟩) r.s.ps.length r.c r.s.ps) (hA : ∀ a, A = some a → a.block ≠ r.g)
    (ho : w'.ownsRow base 30 4 (.slice A' (n + 1) c') (n + 1) (seqCells rs ++ r.cells)) (hg : w.grownBy w' (Value.slice A n c).ownBlock)
    (hb : (Value.slice A' (n + 1) c').ownBlock = (Value.slice A n c).ownBlock ∨ (Value.slice A' (n + 1) c').ownBlock = some w.heap.size) : Seqs w' base A' (n + 1) c' (rs ++ [r]) := by
  have hrA : ∀ q ∈ rs ++ [r], ∀ a, A = some a → q.g ≠ a.block := by
    intro q hq a ha
    simp at hq
    rcases hq with hq | rfl
    · exact h.2.2.2 a ha q hq
    · exact fun e => hA a ha e.symm
  have hlt : ∀ q ∈ rs ++ [r], q.g < w.heap.size := by
    intro q hq
    simp at hq
    rcases hq with hq | rfl
    · exact (h.row_lt hq).2
    · exact (Own.block hr q.g (by simp [Value.ownBlock])).2
  refine ⟨by simp [h.1], by simpa [seqCells] using ho, fun q hq => ?_, ?_⟩
  · have hq0 : Own w base 3 (some ⟨q.g, 0, none⟩) q.s.ps.length q.c q.s.ps := by
      have hq' := hq
      simp at hq'
      rcases hq' with hq' | rfl
      · exact h.2.2.1 q hq'
      · exact hr
    refine hq0.kept hg ?_
    intro a a2 ha ha2
    cases ha
    exact hrA q hq a2 ha2
  · rintro a rfl q hq
    rcases hb with hb | hb
    · rcases A with _ | a0
      · simp [Value.ownBlock] at hb
      · simp [Value.ownBlock] at hb
        rw [hb]; exact hrA q hq a0 rfl
    · simp [Value.ownBlock] at hb
      have := hlt q hq
      omega
end

section
variable {P : Program} (w : World)
/-- append of one sequence that lies in a literal -/
theorem wpList_append_seq {ops : Array Oper} {rest : List Oper} {o : Oper} {a : Act} {Q : Exit → Act → World → Prop} (hgd : o.guard = none) (s x : Operand) (t : TypeId)
    (ho : o.op = .call { callee := .builtin .append, args := #[s, x], argTypes := #[t, t] })
    (base : Nat) (e : TypeId) (hts : P.underlying t = some (.slice e)) (hi : (P.info? e).map (fun i => (i.zero, i.size, i.bytes)) = some (some (.agg #[.slice none 0 0, .int .i64 0, .int .i64 0, .int .i64 0]), 4, 48))
    (A : Option Addr) (n c : Nat) (xs : List Value) (hs : a.eval s = .slice A n c) (hown : w.ownsRow base e 4 (.slice A n c) n xs)
    (b c2 : Nat) (u : Value) (y1 y2 y3 : Int) (hx : a.eval x = .slice (some ⟨b, 0, none⟩) 1 c2) (hu0 : w.cell? ⟨b, 0, none⟩ = some u) (hu1 : u.oneCell' = true)
    (h1 : w.cell? ⟨b, 1, none⟩ = some (.int .i64 y1)) (h2 : w.cell? ⟨b, 2, none⟩ = some (.int .i64 y2)) (h3 : w.cell? ⟨b, 3, none⟩ = some (.int .i64 y3))
    (hn : n ≤ 1000000) (hbase : base ≤ w.heap.size)
    (h : ∀ A' c' w', w'.ownsRow base e 4 (.slice A' (n + 1) c') (n + 1) (xs ++ [u, .int .i64 y1, .int .i64 y2, .int .i64 y3]) → w.grownBy w' (Value.slice A n c).ownBlock → ((Value.slice A' (n + 1) c').ownBlock = (Value.slice A n c).ownBlock ∨ (Value.slice A' (n + 1) c').ownBlock = some w.heap.size) →
      wpList P ops Q rest (a.put o.dst (.slice A' (n + 1) c')) w') : wpList P ops Q (o :: rest) a w := by
  obtain ⟨i, hi0, hz, hsz, hby⟩ := info_parts hi
  obtain ⟨v', w', hrun, r2, r3, _, r5⟩ := run_append_own_at (P := P) w base t o.type e i _ 4 48 hts hi0 hz hsz hby rfl (by omega) _ n xs hown ⟨b, 0, none⟩ 1 c2 [u, .int .i64 y1, .int .i64 y2, .int .i64 y3] rfl
    (by
      intro j y hy
      match j, hy with
      | 0, hy => simp at hy; subst hy; exact hu0
      | 1, hy => simp at hy; subst hy; exact h1
      | 2, hy => simp at hy; subst hy; exact h2
      | 3, hy => simp at hy; subst hy; exact h3
      | j + 4, hy => simp at hy)
    (by
      intro y hy
      simp at hy
      rcases hy with rfl | rfl | rfl | rfl
      · exact hu1
      · rfl
      · rfl
      · rfl) (by unfold maxLen; omega) (by omega) hbase
  have hform : ∃ A' c', v' = .slice A' (n + 1) c' := by
    rcases r2.2 with ⟨rfl, h⟩ | ⟨g, cap, cur, rfl, _⟩
    · omega
    · exact ⟨_, _, rfl⟩
  obtain ⟨A', c', rfl⟩ := hform
  refine wpList_plain hgd fun K hK => ?_
  unfold Oper.wp execOp
  simp only [ho, resolve, invoke, builtin, Sem.run_bind, Sem.run_pure, Result.andThen_ok, List.map_toArray, List.map_cons, List.map_nil, hs, hx, hrun]
  exact hK _ _ (h A' c' w' r2 r3 r5)
end

/-- What a call leaves that hands back a list of sequences of its own. -/
def RetSeqs (w : World) (l : List Sq.Seq) (e : Ending) (w' : World) : Prop :=
  ∃ A c rs, e = .returned (.slice A l.length c) ∧ rs.map SRw.s = l ∧ Seqs w' w.heap.size A l.length c rs ∧ Below w.heap.size w w'

end Go.Proofs.Ytojcphfonbdlpaa
