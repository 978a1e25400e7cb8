/- The example's lookup as it is laid in memory. No condition. -/
import Derived.Test.YtbjeflblhjfagaaAppl
import Derived.Test.YtbjeflblhjfagaaBufC
namespace Go.Proofs.Ytbjeflblhjfagaa
open Go.RowKit

/-- The example's subtables, as a list. -/
def exPS : List PS := [([3], [[4, 5]])]
/-- The example's lookup; s is the size of the heap ahead of it. -/
def exLk (s : Nat) : Lk := ⟨2, 0, 0, ⟨some ⟨s + 1 + 1 + 1, 0, none⟩, 1, 1⟩⟩
/-- The world behind it. -/
def exW (w : World) : World :=
  ((((w.alloc (.cells #[.int .i64 3] 3)).alloc (.cells #[.int .i64 4, .int .i64 5] 3)).alloc (.cells #[.slice (some ⟨w.heap.size + 1, 0, none⟩) 2 2] 36)).alloc
    (.cells #[.slice (some ⟨w.heap.size, 0, none⟩) 1 1, .slice (some ⟨w.heap.size + 1 + 1, 0, none⟩) 1 1, .slice none 0 0, .slice none 0 0, .slice none 0 0, .slice none 0 0, .slice none 0 0, .slice none 0 0, .slice none 0 0, .slice none 0 0, .slice none 0 0, .slice none 0 0] 62)).alloc
    (.cells #[.int .i64 2, .int .i64 0, .int .i64 0, .slice (some ⟨w.heap.size + 1 + 1 + 1, 0, none⟩) 1 1] 31)
theorem Shd.more {w : World} {B B' : Nat} (hB : B ≤ B') : ∀ {s : Sh} {cs : List Value}, Shd w B s cs → Shd w B' s cs
  | .int _, _, h => h
  | .bool, _, h => h
  | .str, _, h => h
  | .nil, _, h => h
  | .cons a b, _, h => by obtain ⟨c1, c2, e, h1, h2⟩ := h; exact ⟨c1, c2, e, Shd.more hB h1, Shd.more hB h2⟩
  | .sl e, _, h => by
    obtain ⟨A, n, c, e1, h1, h2, h3, h4⟩ := h
    refine ⟨A, n, c, e1, h1, h2, h3, fun k hkn => ?_⟩
    obtain ⟨b, o, cs', e2, h5, h6, h7, h8⟩ := h4 k hkn
    exact ⟨b, o, cs', e2, by omega, h6, h7, Shd.more hB h8⟩
theorem ShSl.more {w : World} {B B' : Nat} {e : Sh} {A : Option Addr} {n c : Nat} (h : ShSl w B e A n c) (hB : B ≤ B') : ShSl w B' e A n c := Shd.more hB h
theorem Grd.more {w : World} {B B' : Nat} {A : Option Addr} {n c : Nat} {zss : List (List Int)} (h : Grd w B A n c zss) (hB : B ≤ B') : Grd w B' A n c zss :=
  ⟨h.1, h.2.1, h.2.2.1, fun k hk => by
    obtain ⟨b, o, A', n', c', e, h1, h2, h3⟩ := h.2.2.2 k hk
    exact ⟨b, o, A', n', c', e, by omega, h2, h3.more hB⟩⟩
theorem SubsR.more {w : World} {B B' : Nat} {A : Option Addr} {n c : Nat} {ps : List PS} (h : SubsR w B A n c ps) (hB : B ≤ B') : SubsR w B' A n c ps :=
  ⟨h.1, h.2.1, h.2.2.1, fun k hk => by
    obtain ⟨b, o, s, e, h1, hc, h2, h3, h4⟩ := h.2.2.2 k hk
    exact ⟨b, o, s, e, by omega, hc, ⟨h2.co.more hB, h2.tt.more hB, h2.li.more hB, h2.ba.more hB, h2.inn.more hB, h2.ah.more hB, h2.ne.more hB, h2.va.more hB, h2.pr.more hB, h2.cu.more hB, h2.ma.more hB, h2.ho.more hB⟩, h3.more hB, h4.more hB⟩⟩
theorem ShSl.nil_ (w : World) (B : Nat) (e : Sh) : ShSl w B e none 0 0 := ⟨none, 0, 0, rfl, Nat.le_refl _, by unfold maxLen; omega, fun _ => ⟨rfl, rfl⟩, fun k hk => by omega⟩
theorem Ints.shape {w : World} {B : Nat} {A : Option Addr} {n c : Nat} {zs : List Int} (h : Ints w B A n c zs) (hw : ∀ x ∈ zs, (Lit.int .i64 x).wf = true) : ShSl w B (.int .i64) A n c :=
  ⟨A, n, c, rfl, h.2.1, h.2.2.1, h.2.2.2.1, fun k hk => by
    obtain ⟨b, o, x, e, hb, hx, hc⟩ := h.at_ hk
    refine ⟨b, o, [.int .i64 x], e, hb, rfl, fun j v hj => ?_, x, rfl, hw x (List.mem_of_getElem? hx)⟩
    rcases j with _ | j
    · simp at hj; subst hj
      show w.cell? ⟨b, o + k * 1 + 0, none⟩ = _
      rw [Nat.mul_one, Nat.add_zero]; exact hc
    · simp at hj⟩
theorem exW_ok (w : World) : Below w.heap.size w (exW w) ∧ (exW w).heap.size = w.heap.size + 5 ∧ SubsR (exW w) (w.heap.size + 5) (some ⟨w.heap.size + 1 + 1 + 1, 0, none⟩) 1 1 exPS ∧ KBox (exW w) (w.heap.size + 1 + 1 + 1 + 1) (exLk w.heap.size) := by
  obtain ⟨w1, hw1⟩ : ∃ z, z = w.alloc (.cells #[.int .i64 3] 3) := ⟨_, rfl⟩
  have s1 : w1.heap.size = w.heap.size + 1 := by rw [hw1]; simp
  obtain ⟨w2, hw2⟩ : ∃ z, z = w1.alloc (.cells #[.int .i64 4, .int .i64 5] 3) := ⟨_, rfl⟩
  have s2 : w2.heap.size = w.heap.size + 1 + 1 := by rw [hw2]; simp; omega
  obtain ⟨w3, hw3⟩ : ∃ z, z = w2.alloc (.cells #[.slice (some ⟨w.heap.size + 1, 0, none⟩) 2 2] 36) := ⟨_, rfl⟩
  have s3 : w3.heap.size = w.heap.size + 1 + 1 + 1 := by rw [hw3]; simp; omega
  obtain ⟨w4, hw4⟩ : ∃ z, z = w3.alloc (.cells #[.slice (some ⟨w.heap.size, 0, none⟩) 1 1, .slice (some ⟨w.heap.size + 1 + 1, 0, none⟩) 1 1, .slice none 0 0, .slice none 0 0, .slice none 0 0, .slice none 0 0, .slice none 0 0, .slice none 0 0, .slice none 0 0, .slice none 0 0, .slice none 0 0, .slice none 0 0] 62) := ⟨_, rfl⟩
  have s4 : w4.heap.size = w.heap.size + 1 + 1 + 1 + 1 := by rw [hw4]; simp; omega
  obtain ⟨w5, hw5⟩ : ∃ z, z = w4.alloc (.cells #[.int .i64 2, .int .i64 0, .int .i64 0, .slice (some ⟨w.heap.size + 1 + 1 + 1, 0, none⟩) 1 1] 31) := ⟨_, rfl⟩
  have s5 : w5.heap.size = w.heap.size + 5 := by rw [hw5]; simp; omega
  have e5 : exW w = w5 := by rw [hw5, hw4, hw3, hw2, hw1]; rfl
  have b1 : Below w.heap.size w w1 := by rw [hw1]; exact (Below.refl _ _).alloc (Nat.le_refl _) _
  have b2 : Below w1.heap.size w1 w2 := by rw [hw2]; exact (Below.refl _ _).alloc (Nat.le_refl _) _
  have b3 : Below w2.heap.size w2 w3 := by rw [hw3]; exact (Below.refl _ _).alloc (Nat.le_refl _) _
  have b4 : Below w3.heap.size w3 w4 := by rw [hw4]; exact (Below.refl _ _).alloc (Nat.le_refl _) _
  have b5 : Below w4.heap.size w4 w5 := by rw [hw5]; exact (Below.refl _ _).alloc (Nat.le_refl _) _
  have b35 : Below w3.heap.size w3 w5 := b4.trans (b5.mono (by omega))
  have b25 : Below w2.heap.size w2 w5 := b3.trans (b35.mono (by omega))
  have b15 : Below w1.heap.size w1 w5 := b2.trans (b25.mono (by omega))
  have b05 : Below w.heap.size w w5 := b1.trans (b15.mono (by omega))
  have i3 : Ints w1 (w.heap.size + 1) (some ⟨w.heap.size, 0, none⟩) 1 1 [3] := by rw [hw1]; exact Ints.lit_at w [3] _ _ (by omega) rfl rfl rfl
  have i45 : Ints w2 (w.heap.size + 1 + 1) (some ⟨w.heap.size + 1, 0, none⟩) 2 2 [4, 5] := by rw [hw2]; exact Ints.lit_at w1 [4, 5] _ _ (by omega) rfl rfl s1.symm
  have j3 : Ints w5 (w.heap.size + 5) (some ⟨w.heap.size, 0, none⟩) 1 1 [3] := (i3.below (b15.mono (by omega))).more (by omega)
  have j45 : Ints w5 (w.heap.size + 5) (some ⟨w.heap.size + 1, 0, none⟩) 2 2 [4, 5] := (i45.below (b25.mono (by omega))).more (by omega)
  have h3 : w3.heap[w.heap.size + 1 + 1]? = some (.cells #[.slice (some ⟨w.heap.size + 1, 0, none⟩) 2 2] 36 (0, 0)) := by rw [hw3, ← s2]; exact heap_alloc_new _ _
  have c3 : w5.cell? ⟨w.heap.size + 1 + 1, 0, none⟩ = some (.slice (some ⟨w.heap.size + 1, 0, none⟩) 2 2) :=
    (b35.cell (p := ⟨w.heap.size + 1 + 1, 0, none⟩) (by show w.heap.size + 1 + 1 < _; omega)).trans (by rw [cell_of_row _ _ 0 _ _ _ h3]; rfl)
  have hg : Grd w5 (w.heap.size + 5) (some ⟨w.heap.size + 1 + 1, 0, none⟩) 1 1 [[4, 5]] := by
    refine ⟨rfl, Nat.le_refl _, by unfold maxLen; omega, fun k hk => ?_⟩
    obtain rfl : k = 0 := by omega
    exact ⟨w.heap.size + 1 + 1, 0, _, 2, 2, rfl, by omega, c3, j45⟩
  have hgs : ShSl w5 (w.heap.size + 5) shInts (some ⟨w.heap.size + 1 + 1, 0, none⟩) 1 1 := by
    refine ⟨_, 1, 1, rfl, Nat.le_refl _, by unfold maxLen; omega, (fun h => by cases h), fun k hk => ?_⟩
    obtain rfl : k = 0 := by omega
    refine ⟨w.heap.size + 1 + 1, 0, [.slice (some ⟨w.heap.size + 1, 0, none⟩) 2 2], rfl, by omega, rfl, fun j v hj => ?_, j45.shape (by decide)⟩
    rcases j with _ | j
    · simp at hj; subst hj
      exact c3
    · simp at hj
  have h4 : SBox w4 (w.heap.size + 1 + 1 + 1) ⟨⟨some ⟨w.heap.size, 0, none⟩, 1, 1⟩, ⟨some ⟨w.heap.size + 1 + 1, 0, none⟩, 1, 1⟩, ⟨none, 0, 0⟩, ⟨none, 0, 0⟩, ⟨none, 0, 0⟩, ⟨none, 0, 0⟩, ⟨none, 0, 0⟩, ⟨none, 0, 0⟩, ⟨none, 0, 0⟩, ⟨none, 0, 0⟩, ⟨none, 0, 0⟩, ⟨none, 0, 0⟩⟩ := by
    unfold SBox; rw [hw4, ← s3]; exact heap_alloc_new _ _
  have h45 : SBox w5 (w.heap.size + 1 + 1 + 1) ⟨⟨some ⟨w.heap.size, 0, none⟩, 1, 1⟩, ⟨some ⟨w.heap.size + 1 + 1, 0, none⟩, 1, 1⟩, ⟨none, 0, 0⟩, ⟨none, 0, 0⟩, ⟨none, 0, 0⟩, ⟨none, 0, 0⟩, ⟨none, 0, 0⟩, ⟨none, 0, 0⟩, ⟨none, 0, 0⟩, ⟨none, 0, 0⟩, ⟨none, 0, 0⟩, ⟨none, 0, 0⟩⟩ := by
    unfold SBox; rw [b5.block _ (by omega)]; exact h4
  rw [e5]
  refine ⟨b05, s5, ⟨rfl, Nat.le_refl _, by unfold maxLen; omega, fun k hk => ?_⟩, ?_⟩
  · obtain rfl : k = 0 := by omega
    refine ⟨w.heap.size + 1 + 1 + 1, 0, ⟨⟨some ⟨w.heap.size, 0, none⟩, 1, 1⟩, ⟨some ⟨w.heap.size + 1 + 1, 0, none⟩, 1, 1⟩, ⟨none, 0, 0⟩, ⟨none, 0, 0⟩, ⟨none, 0, 0⟩, ⟨none, 0, 0⟩, ⟨none, 0, 0⟩, ⟨none, 0, 0⟩, ⟨none, 0, 0⟩, ⟨none, 0, 0⟩, ⟨none, 0, 0⟩, ⟨none, 0, 0⟩⟩, rfl, by omega, ?_, ⟨j3.shape (by decide), hgs, ShSl.nil_ _ _ _, ShSl.nil_ _ _ _, ShSl.nil_ _ _ _, ShSl.nil_ _ _ _, ShSl.nil_ _ _ _, ShSl.nil_ _ _ _, ShSl.nil_ _ _ _, ShSl.nil_ _ _ _, ShSl.nil_ _ _ _, ShSl.nil_ _ _ _⟩, j3, hg⟩
    have := h45.cells
    simpa using this
  · unfold KBox; rw [hw5, ← s4]; exact heap_alloc_new _ _
theorem exOne (s : Nat) : LkOne ((exLk s).ki, exPS) := by
  show LkOne (2, exPS)
  refine ⟨by decide, fun j hj => ?_⟩
  obtain rfl : j = 0 := by simp [exPS] at hj; exact hj
  exact fun _ => ⟨(fun h => by cases h), (fun _ => ⟨rfl, by decide, fun i hi => by
    obtain rfl : i = 0 := by simp [exPS] at hi; exact hi
    decide⟩)⟩
/-- A font of nothing. -/
def exF : Fnt := ⟨0, none, 0, 0, none, 0, 0, none, 0, 0, none, 0, 0, none, 0, 0⟩
def exGs : List Gl := rowAt 0 [1, 3, 2]

end Go.Proofs.Ytbjeflblhjfagaa
