/- Words for the reference's sequences: as the program's, over the reference's own type. No condition. -/
import Derived.Test.YtojcphfonbdlpaaSeqI
namespace Go.Proofs.Ytojcphfonbdlpaa.Rf
open Go.RowKit Go.Maps

/-! a sequence under way -/
def SCell (w : World) (b : Nat) (v : Value) (lv so eo : Int) : Prop := w.heap[b]? = some (.cells #[v, .int .i64 lv, .int .i64 so, .int .i64 eo] 39)
section
variable {w w' : World} {B b : Nat} {v : Value} {lv so eo : Int}
theorem SCell.new (w : World) (v : Value) (lv so eo : Int) : SCell (w.alloc (.cells #[v, .int .i64 lv, .int .i64 so, .int .i64 eo] 39)) w.heap.size v lv so eo := heap_alloc_new w _
theorem SCell.cells (h : SCell w b v lv so eo) : w.cell? ⟨b, 0, none⟩ = some v ∧ w.cell? ⟨b, 1, none⟩ = some (.int .i64 lv) ∧ w.cell? ⟨b, 2, none⟩ = some (.int .i64 so) ∧ w.cell? ⟨b, 3, none⟩ = some (.int .i64 eo) :=
  ⟨by rw [cell_of_row _ _ 0 _ _ _ h]; rfl, by rw [cell_of_row _ _ 1 _ _ _ h]; rfl, by rw [cell_of_row _ _ 2 _ _ _ h]; rfl, by rw [cell_of_row _ _ 3 _ _ _ h]; rfl⟩
theorem SCell.frozen (h : SCell w b v lv so eo) (k : Nat) : w.frozen? ⟨b, k, none⟩ = false := frozen_of_row _ _ _ _ _ h
theorem SCell.lt (h : SCell w b v lv so eo) : b < w.heap.size := (Array.getElem?_eq_some_iff.1 h).1
theorem SCell.set0 (h : SCell w b v lv so eo) (u : Value) : SCell (w.setCell ⟨b, 0, none⟩ u) b u lv so eo := heap_setCell_same w b 0 _ _ u h
theorem SCell.set2 (h : SCell w b v lv so eo) (y : Int) : SCell (w.setCell ⟨b, 2, none⟩ (.int .i64 y)) b v lv y eo := heap_setCell_same w b 2 _ _ _ h
theorem SCell.set3 (h : SCell w b v lv so eo) (y : Int) : SCell (w.setCell ⟨b, 3, none⟩ (.int .i64 y)) b v lv so y := heap_setCell_same w b 3 _ _ _ h
theorem SCell.grown {row : Option Nat} (h : SCell w b v lv so eo) (hg : w.grownBy w' row) (hne : some b ≠ row) : SCell w' b v lv so eo := (hg.block b h.lt hne).trans h
theorem SCell.below (h : SCell w b v lv so eo) (hb : Below B w w') (hB : b < B) : SCell w' b v lv so eo := (hb.block b hB).trans h
theorem SCell.drewN (h : SCell w b v lv so eo) (k : Nat) : SCell (w.drewN k) b v lv so eo := h
theorem SCell.drew (h : SCell w b v lv so eo) : SCell w.drew b v lv so eo := h
theorem SCell.alloc (h : SCell w b v lv so eo) (o : Obj) : SCell (w.alloc o) b v lv so eo := (Go.heap_alloc_old w o h.lt).trans h
end

/-! a list of sequences, of the call's own -/
theorem infoSeq : (Try.prog.info? 39).map (fun i => (i.zero, i.size, i.bytes)) = some (some (.agg #[.slice none 0 0, .int .i64 0, .int .i64 0, .int .i64 0]), 4, 48) := by kernel_rfl
/-- The list of sequences is the call's own, and their rows are too. -/
def Seqs (w : World) (base : Nat) (A : Option Addr) (n c : Nat) (rs : List SRw) : Prop :=
  rs.length = n ∧ w.ownsRow base 39 4 (.slice A n c) n (seqCells rs) ∧ (∀ r ∈ rs, Own w base 3 (some ⟨r.g, 0, none⟩) r.s.ps.length r.c r.s.ps) ∧ ∀ a, A = some a → ∀ r ∈ rs, r.g ≠ a.block

section
variable {w w' : World} {B base base' n c : Nat} {A : Option Addr} {rs : List SRw}
theorem Seqs.nil_ (w : World) (base : Nat) : Seqs w base none 0 0 [] := ⟨rfl, World.ownsRow_nil w base _ 4, by simp, by simp⟩
theorem Seqs.length (h : Seqs w base A n c rs) : rs.length = n := h.1
theorem Seqs.cap (h : Seqs w base A n c rs) : n ≤ c ∧ c ≤ 9223372036854775807 := by
  rcases h.2.1.2 with ⟨h, rfl⟩ | ⟨g, cap, cur, h, _, _, h1, h2, _⟩
  · simp only [Value.slice.injEq] at h; omega
  · simp only [Value.slice.injEq] at h; unfold maxLen at h2; omega
theorem Seqs.more (h : Seqs w base A n c rs) (hb : base' ≤ base) : Seqs w base' A n c rs := ⟨h.1, row_more h.2.1 hb, fun r hr => (h.2.2.1 r hr).more hb, h.2.2.2⟩
theorem Seqs.below (h : Seqs w base A n c rs) (hb : Below B w w') (hB : w.heap.size ≤ B) : Seqs w' base A n c rs := ⟨h.1, row_below h.2.1 hb hB, fun r hr => (h.2.2.1 r hr).below hb hB, h.2.2.2⟩
theorem Seqs.alloc (h : Seqs w base A n c rs) (o : Obj) : Seqs (w.alloc o) base A n c rs := ⟨h.1, World.ownsRow.alloc h.2.1 o, fun r hr => (h.2.2.1 r hr).alloc o, h.2.2.2⟩
theorem Seqs.drewN (h : Seqs w base A n c rs) (k : Nat) : Seqs (w.drewN k) base A n c rs := h
theorem Seqs.drew (h : Seqs w base A n c rs) : Seqs w.drew base A n c rs := h
theorem Seqs.block (h : Seqs w base A n c rs) : ∀ g, (Value.slice A n c).ownBlock = some g → base ≤ g ∧ g < w.heap.size := World.ownsRow.lt h.2.1
theorem Seqs.row_lt (h : Seqs w base A n c rs) {r : SRw} (hr : r ∈ rs) : base ≤ r.g ∧ r.g < w.heap.size := Own.block (h.2.2.1 r hr) r.g (by simp [Value.ownBlock])
/-- where a sequence lies -/
theorem Seqs.at_ {k : Nat} {r : SRw} (h : Seqs w base A n c rs) (hk : rs[k]? = some r) :
    k < n ∧ ∃ g, A = some ⟨g, 0, none⟩ ∧ base ≤ g ∧ g < w.heap.size ∧ w.cell? ⟨g, k * 4, none⟩ = some (.slice (some ⟨r.g, 0, none⟩) r.s.ps.length r.c) ∧ w.cell? ⟨g, k * 4 + 1, none⟩ = some (.int .i64 r.s.lv) ∧ w.cell? ⟨g, k * 4 + 2, none⟩ = some (.int .i64 r.s.sos) ∧ w.cell? ⟨g, k * 4 + 3, none⟩ = some (.int .i64 r.s.eos) ∧
      Own w base 3 (some ⟨r.g, 0, none⟩) r.s.ps.length r.c r.s.ps := by
  have hn := h.length
  have hkl := (List.getElem?_eq_some_iff.1 hk).1
  refine ⟨by omega, ?_⟩
  have hform : ∃ g, A = some ⟨g, 0, none⟩ ∧ base ≤ g ∧ g < w.heap.size := by
    rcases h.2.1.2 with ⟨h', hz⟩ | ⟨g, cap, cur, h', h1, h2, h3⟩
    · omega
    · simp only [Value.slice.injEq] at h'
      exact ⟨g, h'.1, h1, (Array.getElem?_eq_some_iff.1 h2).1⟩
  obtain ⟨g, rfl, h1, h2⟩ := hform
  have hc : ∀ i, i < 4 → w.cell? ⟨g, k * 4 + i, none⟩ = r.cells[i]? := fun i hi => by
    rw [World.ownsRow.cellAt h.2.1 (k * 4 + i) (by omega), seqCells_at hk hi]
  exact ⟨g, rfl, h1, h2, hc 0 (by omega), hc 1 (by omega), hc 2 (by omega), hc 3 (by omega), h.2.2.1 r (List.mem_of_getElem? hk)⟩
/-- one sequence more -/
theorem Seqs.push {A' : Option Addr} {c' : Nat} {r : SRw} (h : Seqs w base A n c rs) (hr : Own w base 3 (some ⟨r.g, 0, none⟩) r.s.ps.length r.c r.s.ps) (hA : ∀ a, A = some a → a.block ≠ r.g)
    (ho : w'.ownsRow base 39 4 (.slice A' (n + 1) c') (n + 1) (seqCells rs ++ r.cells)) (hg : w.grownBy w' (Value.slice A n c).ownBlock)
    (hb : (Value.slice A' (n + 1) c').ownBlock = (Value.slice A n c).ownBlock ∨ (Value.slice A' (n + 1) c').ownBlock = some w.heap.size) : Seqs w' base A' (n + 1) c' (rs ++ [r]) := by
  have hrA : ∀ q ∈ rs ++ [r], ∀ a, A = some a → q.g ≠ a.block := by
    intro q hq a ha
    simp at hq
    rcases hq with hq | rfl
    · exact h.2.2.2 a ha q hq
    · exact fun e => hA a ha e.symm
  have hlt : ∀ q ∈ rs ++ [r], q.g < w.heap.size := by
    intro q hq
    simp at hq
    rcases hq with hq | rfl
    · exact (h.row_lt hq).2
    · exact (Own.block hr q.g (by simp [Value.ownBlock])).2
  refine ⟨by simp [h.1], by simpa [seqCells] using ho, fun q hq => ?_, ?_⟩
  · have hq0 : Own w base 3 (some ⟨q.g, 0, none⟩) q.s.ps.length q.c q.s.ps := by
      have hq' := hq
      simp at hq'
      rcases hq' with hq' | rfl
      · exact h.2.2.1 q hq'
      · exact hr
    refine hq0.kept hg ?_
    intro a a2 ha ha2
    cases ha
    exact hrA q hq a2 ha2
  · rintro a rfl q hq
    rcases hb with hb | hb
    · rcases A with _ | a0
      · simp [Value.ownBlock] at hb
      · simp [Value.ownBlock] at hb
        rw [hb]; exact hrA q hq a0 rfl
    · simp [Value.ownBlock] at hb
      have := hlt q hq
      omega
end

/-- What a call leaves that hands back a list of sequences of its own. -/
def RetSeqs (w : World) (l : List Sq.Seq) (e : Ending) (w' : World) : Prop :=
  ∃ A c rs, e = .returned (.slice A l.length c) ∧ rs.map SRw.s = l ∧ Seqs w' w.heap.size A l.length c rs ∧ Below w.heap.size w w'

end Go.Proofs.Ytojcphfonbdlpaa.Rf
