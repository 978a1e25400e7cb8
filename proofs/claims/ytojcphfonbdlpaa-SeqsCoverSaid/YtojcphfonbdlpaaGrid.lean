/- Words for memory: a list of rows of integers, all of the call's own, of which the last one grows. Over any program. No condition. -/
import Derived.Test.YtojcphfonbdlpaaPairs
namespace Go.Proofs.Ytojcphfonbdlpaa
open Go.RowKit

/-- a row: its block, its room, what it holds -/
structure Rw where
  g : Nat
  c : Nat
  zs : List Int
def Rw.v (r : Rw) : Value := .slice (some ⟨r.g, 0, none⟩) r.zs.length r.c

/-- The slice of slices is the call's own, and its rows are too; no two of them share a block. -/
def Grid (w : World) (base : Nat) (eo ei : TypeId) (A : Option Addr) (n c : Nat) (rs : List Rw) : Prop :=
  w.ownsRow base eo 1 (.slice A n c) n (rs.map Rw.v) ∧ (∀ r ∈ rs, Own w base ei (some ⟨r.g, 0, none⟩) r.zs.length r.c r.zs) ∧ (rs.map Rw.g).Nodup ∧ ∀ a, A = some a → ∀ r ∈ rs, r.g ≠ a.block

section
variable {w w' : World} {B base base' : Nat} {eo ei : TypeId} {A : Option Addr} {n c : Nat} {rs : List Rw}
theorem Grid.nil_ (w : World) (base : Nat) (eo ei : TypeId) : Grid w base eo ei none 0 0 [] := ⟨World.ownsRow_nil w base eo 1, by simp, by simp, by simp⟩
theorem Grid.length (h : Grid w base eo ei A n c rs) : rs.length = n := by have := h.1.1; simpa using this
theorem Grid.cap (h : Grid w base eo ei A n c rs) : n ≤ c ∧ c ≤ 9223372036854775807 := by
  rcases h.1.2 with ⟨h, rfl⟩ | ⟨g, cap, cur, h, _, _, h1, h2, _⟩
  · simp only [Value.slice.injEq] at h; omega
  · simp only [Value.slice.injEq] at h; unfold maxLen at h2; omega
theorem row_more {e : TypeId} {size : Nat} {v : Value} {m : Nat} {xs : List Value} (h : w.ownsRow base e size v m xs) (hb : base' ≤ base) : w.ownsRow base' e size v m xs := by
  refine ⟨h.1, ?_⟩
  rcases h.2 with h | ⟨g, cap, cur, h, h1, h2⟩
  · exact .inl h
  · exact .inr ⟨g, cap, cur, h, by omega, h2⟩
theorem row_below {e : TypeId} {size : Nat} {v : Value} {m : Nat} {xs : List Value} (h : w.ownsRow base e size v m xs) (hb : Below B w w') (hB : w.heap.size ≤ B) : w'.ownsRow base e size v m xs := by
  refine ⟨h.1, ?_⟩
  rcases h.2 with h | ⟨g, cap, cur, h, h1, h2, h3⟩
  · exact .inl h
  · have hg : g < w.heap.size := (Array.getElem?_eq_some_iff.1 h2).1
    exact .inr ⟨g, cap, cur, h, h1, (hb.block g (by omega)).trans h2, h3⟩
theorem Grid.more (h : Grid w base eo ei A n c rs) (hb : base' ≤ base) : Grid w base' eo ei A n c rs :=
  ⟨row_more h.1 hb, fun r hr => (h.2.1 r hr).more hb, h.2.2.1, h.2.2.2⟩
theorem Grid.below (h : Grid w base eo ei A n c rs) (hb : Below B w w') (hB : w.heap.size ≤ B) : Grid w' base eo ei A n c rs :=
  ⟨row_below h.1 hb hB, fun r hr => (h.2.1 r hr).below hb hB, h.2.2.1, h.2.2.2⟩
theorem Grid.alloc (h : Grid w base eo ei A n c rs) (o : Obj) : Grid (w.alloc o) base eo ei A n c rs :=
  ⟨World.ownsRow.alloc h.1 o, fun r hr => (h.2.1 r hr).alloc o, h.2.2.1, h.2.2.2⟩
theorem Grid.drewN (h : Grid w base eo ei A n c rs) (k : Nat) : Grid (w.drewN k) base eo ei A n c rs := h
theorem Grid.block (h : Grid w base eo ei A n c rs) : ∀ g, (Value.slice A n c).ownBlock = some g → base ≤ g ∧ g < w.heap.size := World.ownsRow.lt h.1
theorem Grid.row_lt (h : Grid w base eo ei A n c rs) {r : Rw} (hr : r ∈ rs) : base ≤ r.g ∧ r.g < w.heap.size := Own.block (h.2.1 r hr) r.g (by simp [Value.ownBlock])
/-- where a row's value lies -/
theorem Grid.at_ {k : Nat} {r : Rw} (h : Grid w base eo ei A n c rs) (hk : rs[k]? = some r) :
    k < n ∧ ∃ g, A = some ⟨g, 0, none⟩ ∧ base ≤ g ∧ g < w.heap.size ∧ w.cell? ⟨g, k, none⟩ = some (.slice (some ⟨r.g, 0, none⟩) r.zs.length r.c) ∧ w.frozen? ⟨g, k, none⟩ = false := by
  have hn := h.length
  have hkl := (List.getElem?_eq_some_iff.1 hk).1
  refine ⟨by omega, ?_⟩
  have hform : ∃ g, A = some ⟨g, 0, none⟩ ∧ base ≤ g ∧ g < w.heap.size := by
    rcases h.1.2 with ⟨h', hz⟩ | ⟨g, cap, cur, h', h1, h2, h3⟩
    · omega
    · simp only [Value.slice.injEq] at h'
      exact ⟨g, h'.1, h1, (Array.getElem?_eq_some_iff.1 h2).1⟩
  obtain ⟨g, rfl, h1, h2⟩ := hform
  exact ⟨g, rfl, h1, h2, by rw [World.ownsRow.cellAt h.1 k (by omega)]; simp [hk, Rw.v], World.ownsRow.frozenAt h.1 _⟩
theorem Grid.own {k : Nat} {r : Rw} (h : Grid w base eo ei A n c rs) (hk : rs[k]? = some r) : Own w base ei (some ⟨r.g, 0, none⟩) r.zs.length r.c r.zs := h.2.1 r (List.mem_of_getElem? hk)
/-- all stays while a row that is none of these grows -/
theorem Grid.kept (h : Grid w base eo ei A n c rs) {A2 : Option Addr} {n2 c2 : Nat} (hg : w.grownBy w' (Value.slice A2 n2 c2).ownBlock) (hap : Apart A A2) (hrs : ∀ r ∈ rs, ∀ a, A2 = some a → r.g ≠ a.block) : Grid w' base eo ei A n c rs := by
  refine ⟨World.ownsRow.kept h.1 hg ?_, fun r hr => (h.2.1 r hr).kept hg ?_, h.2.2.1, h.2.2.2⟩
  · rcases A with _ | a
    · exact .inl rfl
    · refine .inr ?_
      rcases A2 with _ | a2
      · simp [Value.ownBlock]
      · have := hap a a2 rfl rfl
        simpa [Value.ownBlock] using this
  · intro a a2 ha ha2
    cases ha
    exact hrs r hr a2 ha2
/-- one row more: the outer list has grown by a row's value -/
theorem Grid.push {A' : Option Addr} {c' : Nat} {r : Rw} (h : Grid w base eo ei A n c rs) (hr : Own w base ei (some ⟨r.g, 0, none⟩) r.zs.length r.c r.zs) (hnew : ∀ q ∈ rs, q.g < r.g) (hA : ∀ a, A = some a → a.block < r.g)
    (ho : w'.ownsRow base eo 1 (.slice A' (n + 1) c') (n + 1) (rs.map Rw.v ++ [r.v])) (hg : w.grownBy w' (Value.slice A n c).ownBlock)
    (hb : (Value.slice A' (n + 1) c').ownBlock = (Value.slice A n c).ownBlock ∨ (Value.slice A' (n + 1) c').ownBlock = some w.heap.size) : Grid w' base eo ei A' (n + 1) c' (rs ++ [r]) := by
  have hrA : ∀ q ∈ rs ++ [r], ∀ a, A = some a → q.g ≠ a.block := by
    intro q hq a ha
    simp at hq
    rcases hq with hq | rfl
    · exact h.2.2.2 a ha q hq
    · have := hA a ha; omega
  have hlt : ∀ q ∈ rs ++ [r], q.g < w.heap.size := by
    intro q hq
    simp at hq
    rcases hq with hq | rfl
    · exact (h.row_lt hq).2
    · exact (Own.block hr q.g (by simp [Value.ownBlock])).2
  refine ⟨by simpa using ho, fun q hq => ?_, ?_, ?_⟩
  · have hq0 : Own w base ei (some ⟨q.g, 0, none⟩) q.zs.length q.c q.zs := by
      have hq' := hq
      simp at hq'
      rcases hq' with hq' | rfl
      · exact h.2.1 q hq'
      · exact hr
    refine hq0.kept hg ?_
    intro a a2 ha ha2
    cases ha
    exact hrA q hq a2 ha2
  · rw [List.map_append, List.nodup_append]
    refine ⟨h.2.2.1, by simp, ?_⟩
    intro x hx y hy
    simp at hx hy
    obtain ⟨q, hq, rfl⟩ := hx
    subst hy
    have := hnew q hq
    omega
  · rintro a rfl q hq
    rcases hb with hb | hb
    · rcases A with _ | a0
      · simp [Value.ownBlock] at hb
      · simp [Value.ownBlock] at hb
        rw [hb]; exact hrA q hq a0 rfl
    · simp [Value.ownBlock] at hb
      have := hlt q hq
      omega
/-- the last row has grown, and its value is stored -/
theorem Grid.grow {g k g' c' m : Nat} {r : Rw} {x : Int} (h : Grid w base eo ei (some ⟨g, 0, none⟩) n c (rs ++ [r])) (hk : rs.length = k) (ho : Own w' base ei (some ⟨g', 0, none⟩) m c' (r.zs ++ [x])) (hg : w.grownBy w' (some r.g)) (hb : g' = r.g ∨ g' = w.heap.size) :
    Grid (w'.setCell ⟨g, k, none⟩ (.slice (some ⟨g', 0, none⟩) m c')) base eo ei (some ⟨g, 0, none⟩) n c (rs ++ [Rw.mk g' c' (r.zs ++ [x])]) := by
  have hm : m = (r.zs ++ [x]).length := ho.length.symm
  have hgr : ∀ q ∈ rs ++ [r], q.g ≠ g := h.2.2.2 _ rfl
  have hgw : g < w.heap.size := (h.block g (by simp [Value.ownBlock])).2
  have hg'g : g' ≠ g := by
    rcases hb with rfl | rfl
    · exact hgr r (by simp)
    · omega
  have hnd := h.2.2.1
  rw [List.map_append, List.nodup_append] at hnd
  have hq' : ∀ q ∈ rs, q.g ≠ g' := by
    intro q hq
    rcases hb with rfl | rfl
    · exact hnd.2.2 q.g (by simp; exact ⟨q, hq, rfl⟩) r.g (by simp)
    · have := (h.row_lt (r := q) (by simp [hq])).2; omega
  have h1 : w'.ownsRow base eo 1 (.slice (some ⟨g, 0, none⟩) n c) n ((rs ++ [r]).map Rw.v) := World.ownsRow.kept h.1 hg (.inr (by have := hgr r (by simp); simp [Value.ownBlock]; omega))
  have h2 := (World.ownsRow.stored h1 k (.slice (some ⟨g', 0, none⟩) m c')).1
  refine ⟨?_, ?_, ?_, ?_⟩
  · have : ((rs ++ [r]).map Rw.v).set k (.slice (some ⟨g', 0, none⟩) m c') = (rs ++ [Rw.mk g' c' (r.zs ++ [x])]).map Rw.v := by
      subst hk
      simp [Rw.v, hm]
    rw [this] at h2
    exact h2
  · intro q hq
    simp at hq
    rcases hq with hq | rfl
    · have hq0 : Own w' base ei (some ⟨q.g, 0, none⟩) q.zs.length q.c q.zs := by
        refine World.ownsRow.kept (h.2.1 q (by simp [hq])) hg (.inr ?_)
        have := hnd.2.2 q.g (by simp; exact ⟨q, hq, rfl⟩) r.g (by simp)
        simp [Value.ownBlock]; exact this
      exact hq0.far (by intro a ha; cases ha; exact hgr q (by simp [hq])) _
    · show Own _ base ei (some ⟨g', 0, none⟩) (r.zs ++ [x]).length c' (r.zs ++ [x])
      rw [← hm]
      exact ho.far (by intro a ha; cases ha; exact hg'g) _
  · rw [List.map_append, List.nodup_append]
    refine ⟨hnd.1, by simp, ?_⟩
    intro y hy z hz
    simp at hy hz
    obtain ⟨q, hq, rfl⟩ := hy
    subst hz
    exact hq' q hq
  · intro a ha q hq
    cases ha
    simp at hq
    rcases hq with hq | rfl
    · exact hgr q (by simp [hq])
    · exact hg'g
end

section
variable {P : Program} (w : World)
/-- append of one value that lies in a literal, onto a row of the call's own -/
theorem wpList_append_val {ops : Array Oper} {rest : List Oper} {o : Oper} {a : Act} {Q : Exit → Act → World → Prop} (hgd : o.guard = none) (s x : Operand) (t : TypeId)
    (ho : o.op = .call { callee := .builtin .append, args := #[s, x], argTypes := #[t, t] })
    (base : Nat) (e : TypeId) (hts : P.underlying t = some (.slice e)) (hi : (P.info? e).map (fun i => (i.zero, i.size, i.bytes)) = some (some (.slice none 0 0), 1, 24))
    (A : Option Addr) (n c : Nat) (xs : List Value) (hs : a.eval s = .slice A n c) (hown : w.ownsRow base e 1 (.slice A n c) n xs)
    (b c2 : Nat) (u : Value) (hx : a.eval x = .slice (some ⟨b, 0, none⟩) 1 c2) (hu : w.cell? ⟨b, 0, none⟩ = some u) (hu1 : u.oneCell' = true)
    (hn : n ≤ 1000000) (hbase : base ≤ w.heap.size)
    (h : ∀ A' c' w', w'.ownsRow base e 1 (.slice A' (n + 1) c') (n + 1) (xs ++ [u]) → w.grownBy w' (Value.slice A n c).ownBlock → ((Value.slice A' (n + 1) c').ownBlock = (Value.slice A n c).ownBlock ∨ (Value.slice A' (n + 1) c').ownBlock = some w.heap.size) →
      wpList P ops Q rest (a.put o.dst (.slice A' (n + 1) c')) w') : wpList P ops Q (o :: rest) a w := by
  obtain ⟨i, hi0, hz, hsz, hby⟩ := info_parts hi
  obtain ⟨v', w', hrun, h2, h3, _, h5⟩ := run_append_own_at (P := P) w base t o.type e i (.slice none 0 0) 1 24 hts hi0 hz hsz hby rfl (by omega) _ n xs hown ⟨b, 0, none⟩ 1 c2 [u] rfl
    (by
      intro j y hy
      match j, hy with
      | 0, hy => simp at hy; subst hy; exact hu
      | j + 1, hy => simp at hy)
    (by intro y hy; simp at hy; subst hy; exact hu1) (by unfold maxLen; omega) (by omega) hbase
  obtain ⟨A', c', rfl⟩ := own_form h2
  refine wpList_plain hgd fun K hK => ?_
  unfold Oper.wp execOp
  simp only [ho, resolve, invoke, builtin, Sem.run_bind, Sem.run_pure, Result.andThen_ok, List.map_toArray, List.map_cons, List.map_nil, hs, hx, hrun]
  exact hK _ _ (h A' c' w' h2 h3 h5)
end

end Go.Proofs.Ytojcphfonbdlpaa
