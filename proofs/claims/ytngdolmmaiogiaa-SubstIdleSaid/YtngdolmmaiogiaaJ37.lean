/- Joined: ExM. -/
import Derived.Test.YtngdolmmaiogiaaJ36

/- The example's font as it lies in memory. No condition. Printed. -/
namespace Go.Proofs.Ytngdolmmaiogiaa
open Go.RowKit

theorem alloc_chain : ∀ (bs : List Obj) (w : World), Below w.heap.size w (bs.foldl World.alloc w) ∧ (bs.foldl World.alloc w).heap.size = w.heap.size + bs.length ∧ ∀ i o, bs[i]? = some o → (bs.foldl World.alloc w).heap[w.heap.size + i]? = some o
  | [], w => ⟨Below.refl _ _, rfl, fun i o h => by simp at h⟩
  | b :: bs, w => by
    obtain ⟨h1, h2, h3⟩ := alloc_chain bs (w.alloc b)
    have hs : (w.alloc b).heap.size = w.heap.size + 1 := by simp
    have h0 : Below w.heap.size w (w.alloc b) := (Below.refl _ _).alloc (Nat.le_refl _) _
    refine ⟨h0.trans (h1.mono (by omega)), ?_, fun i o hi => ?_⟩
    · rw [List.foldl_cons, h2, hs, List.length_cons]; omega
    · rw [List.foldl_cons]
      rcases i with _ | i
      · cases (show some b = some o from hi)
        rw [h1.block _ (by omega)]
        exact heap_alloc_new w b
      · have := h3 i o (by simpa using hi)
        rw [hs] at this
        rw [show w.heap.size + (i + 1) = w.heap.size + 1 + i by omega]
        exact this
section
variable {w : World} {B b : Nat} {t : TypeId} {fr : Nat × Nat}
theorem Ints.row1 {x : Int} (h : w.heap[b]? = some (.cells #[.int .i64 x] t fr)) (hb : b < B) : Ints w B (some ⟨b, 0, none⟩) 1 1 [x] :=
  ⟨rfl, Nat.le_refl _, by unfold maxLen; omega, (fun h => by cases h), fun k y hk => ⟨b, 0, rfl, hb, by
    rcases k with _ | k
    · cases (show some x = some y from hk)
      rw [cell_of_row _ _ _ _ _ _ h]; rfl
    · simp at hk⟩⟩
theorem Ints.row0 : Ints w B none 0 0 [] := ⟨rfl, Nat.le_refl _, by unfold maxLen; omega, (fun _ => ⟨rfl, rfl⟩), fun k y hk => by simp at hk⟩
theorem Grd.row1 {A' : Option Addr} {n' c' : Nat} {zs : List Int} (h : w.heap[b]? = some (.cells #[.slice A' n' c'] t fr)) (hb : b < B) (hi : Ints w B A' n' c' zs) : Grd w B (some ⟨b, 0, none⟩) 1 1 [zs] :=
  ⟨rfl, Nat.le_refl _, by unfold maxLen; omega, fun k hk => ⟨b, 0, A', n', c', rfl, hb, by
    obtain rfl : k = 0 := by omega
    exact ⟨by rw [cell_of_row _ _ _ _ _ _ h]; rfl, hi⟩⟩⟩
theorem Grd.row0 : Grd w B none 0 0 [] := ⟨rfl, Nat.le_refl _, by unfold maxLen; omega, fun k hk => by omega⟩
theorem SlR.row0 {α : Type} {sz : Nat} {R : α → List Value → Prop} : SlR w B sz R none 0 0 [] := ⟨rfl, Nat.le_refl _, by unfold maxLen; omega, (fun _ => ⟨rfl, rfl⟩), fun k y hk => by simp at hk⟩
theorem SlR.rown {α : Type} {sz n : Nat} {R : α → List Value → Prop} {arr : Array Value} {ps : List α} (h : w.heap[b]? = some (.cells arr t fr)) (hb : b < B) (hl : ps.length = n) (hn : n ≤ 1000) (he : ∀ k p, ps[k]? = some p → ∃ cs : List Value, (∀ (j : Nat) v, cs[j]? = some v → arr[k * sz + j]? = some v) ∧ R p cs) : SlR w B sz R (some ⟨b, 0, none⟩) n n ps :=
  ⟨hl, Nat.le_refl _, by unfold maxLen; omega, (fun h => by cases h), fun k p hk => by
    obtain ⟨cs, h1, h2⟩ := he k p hk
    exact ⟨b, 0, cs, rfl, hb, fun j v hj => by rw [cell_of_row _ _ _ _ _ _ h, Nat.zero_add]; exact h1 j v hj, h2⟩⟩
theorem ShSl.row0 {e : Sh} : ShSl w B e none 0 0 := ⟨none, 0, 0, rfl, ⟨Nat.le_refl _, by omega⟩, by unfold maxLen; omega, (fun _ => ⟨rfl, rfl⟩), fun k hk => by omega⟩
theorem ShSl.rown {e : Sh} {n : Nat} {arr : Array Value} (h : w.heap[b]? = some (.cells arr t fr)) (hb : b < B) (hn : n ≤ 1000) (he : ∀ k, k < n → ∃ cs : List Value, cs.length = e.size ∧ (∀ (j : Nat) v, cs[j]? = some v → arr[k * e.size + j]? = some v) ∧ Shd w B e cs) : ShSl w B e (some ⟨b, 0, none⟩) n n :=
  ⟨_, n, n, rfl, ⟨Nat.le_refl _, by omega⟩, by unfold maxLen; omega, (fun h => by cases h), fun k hk => by
    obtain ⟨cs, h0, h1, h2⟩ := he k hk
    exact ⟨b, 0, cs, rfl, hb, h0, fun j v hj => by rw [cell_of_row _ _ _ _ _ _ h, Nat.zero_add]; exact h1 j v hj, h2⟩⟩
theorem all_at {cs : List Value} {arr : Array Value} {m : Nat} (h : ∀ j, j < cs.length → arr[m + j]? = cs[j]?) : ∀ (j : Nat) v, cs[j]? = some v → arr[m + j]? = some v := fun j v hj => by
  have : j < cs.length := by
    rcases Nat.lt_or_ge j cs.length with h1 | h1
    · exact h1
    · rw [List.getElem?_eq_none h1] at hj; cases hj
  rw [h j this]; exact hj
theorem Shd.i {x : Int} (h : (Lit.int .i64 x).wf = true) : Shd w B (.int .i64) [.int .i64 x] := ⟨x, rfl, h⟩
theorem Shd.two {a b : Sh} {c1 c2 : List Value} (h1 : Shd w B a c1) (h2 : Shd w B b c2) : Shd w B (.cons a b) (c1 ++ c2) := ⟨c1, c2, rfl, h1, h2⟩
theorem Shd.no : Shd w B .nil [] := rfl
theorem ShSl.ints1 {x : Int} (h : w.heap[b]? = some (.cells #[.int .i64 x] t fr)) (hb : b < B) (hx : (Lit.int .i64 x).wf = true) : ShSl w B (.int .i64) (some ⟨b, 0, none⟩) 1 1 :=
  ShSl.rown h hb (by omega) fun k hk => by
    obtain rfl : k = 0 := by omega
    exact ⟨[.int .i64 x], rfl, all_at fun j hj => by
      obtain rfl : j = 0 := by simpa using hj
      rfl, Shd.i hx⟩
theorem ShSl.sls1 {e : Sh} {A' : Option Addr} {n' c' : Nat} (h : w.heap[b]? = some (.cells #[.slice A' n' c'] t fr)) (hb : b < B) (hi : ShSl w B e A' n' c') : ShSl w B (.sl e) (some ⟨b, 0, none⟩) 1 1 :=
  ShSl.rown h hb (by omega) fun k hk => by
    obtain rfl : k = 0 := by omega
    exact ⟨[.slice A' n' c'], rfl, all_at fun j hj => by
      obtain rfl : j = 0 := by simpa using hj
      rfl, hi⟩
end

def exB0 (_ : Nat) : Obj := .cells #[.int .i64 0, .int .i64 0, .int .i64 0, .slice none 0 0, .int .i64 0, .int .i64 0, .int .i64 0, .slice none 0 0, .int .i64 0, .int .i64 0, .int .i64 0, .slice none 0 0, .int .i64 0, .int .i64 0, .int .i64 0, .slice none 0 0, .int .i64 0, .int .i64 0, .int .i64 0, .slice none 0 0] 77
def exB1 (_ : Nat) : Obj := .cells #[.int .i64 1] 3
def exB2 (_ : Nat) : Obj := .cells #[.int .i64 2] 3
def exB3 (s : Nat) : Obj := .cells #[.slice (some ⟨s + 1 + 1, 0, none⟩) 1 1] 51
def exB4 (s : Nat) : Obj := .cells #[.slice (some ⟨s + 1, 0, none⟩) 1 1, .slice (some ⟨s + 1 + 1 + 1, 0, none⟩) 1 1, .slice none 0 0, .slice none 0 0, .slice none 0 0, .slice none 0 0, .slice none 0 0, .slice none 0 0, .slice none 0 0, .slice none 0 0, .slice none 0 0, .slice none 0 0] 60
def exB5 (_ : Nat) : Obj := .cells #[.int .i64 1] 3
def exB6 (_ : Nat) : Obj := .cells #[.slice none 0 0] 51
def exB7 (s : Nat) : Obj := .cells #[.slice (some ⟨s + 1 + 1 + 1 + 1 + 1, 0, none⟩) 1 1, .slice (some ⟨s + 1 + 1 + 1 + 1 + 1 + 1, 0, none⟩) 1 1, .slice none 0 0, .slice none 0 0, .slice none 0 0, .slice none 0 0, .slice none 0 0, .slice none 0 0, .slice none 0 0, .slice none 0 0, .slice none 0 0, .slice none 0 0] 60
def exB8 (_ : Nat) : Obj := .cells #[.int .i64 3] 3
def exB9 (s : Nat) : Obj := .cells #[.slice (some ⟨s + 1 + 1 + 1 + 1 + 1 + 1 + 1 + 1, 0, none⟩) 1 1] 51
def exB10 (_ : Nat) : Obj := .cells #[.int .i64 0, .int .i64 2] 62
def exB11 (s : Nat) : Obj := .cells #[.slice none 0 0, .slice none 0 0, .slice none 0 0, .slice none 0 0, .slice (some ⟨s + 1 + 1 + 1 + 1 + 1 + 1 + 1 + 1 + 1, 0, none⟩) 1 1, .slice none 0 0, .slice (some ⟨s + 1 + 1 + 1 + 1 + 1 + 1 + 1 + 1 + 1 + 1, 0, none⟩) 1 1, .slice none 0 0, .slice none 0 0, .slice none 0 0, .slice none 0 0, .slice none 0 0] 60
def exB12 (s : Nat) : Obj := .cells #[.int .i64 1, .int .i64 0, .int .i64 0, .slice (some ⟨s + 1 + 1 + 1 + 1, 0, none⟩) 1 1, .int .i64 2, .int .i64 0, .int .i64 0, .slice (some ⟨s + 1 + 1 + 1 + 1 + 1 + 1 + 1, 0, none⟩) 1 1, .int .i64 4, .int .i64 0, .int .i64 0, .slice (some ⟨s + 1 + 1 + 1 + 1 + 1 + 1 + 1 + 1 + 1 + 1 + 1, 0, none⟩) 1 1] 36
def exB13 (s : Nat) : Obj := .cells #[.int .i64 10, .slice (some ⟨s, 0, none⟩) 5 5, .slice none 0 0, .slice (some ⟨s + 1 + 1 + 1 + 1 + 1 + 1 + 1 + 1 + 1 + 1 + 1 + 1, 0, none⟩) 3 3, .slice none 0 0, .slice none 0 0] 28
def exBs (s : Nat) : List Obj := [exB0 s, exB1 s, exB2 s, exB3 s, exB4 s, exB5 s, exB6 s, exB7 s, exB8 s, exB9 s, exB10 s, exB11 s, exB12 s, exB13 s]
def exSb0 (s : Nat) : Sb := ⟨⟨some ⟨s + 1, 0, none⟩, 1, 1⟩, ⟨some ⟨s + 1 + 1 + 1, 0, none⟩, 1, 1⟩, ⟨none, 0, 0⟩, ⟨none, 0, 0⟩, ⟨none, 0, 0⟩, ⟨none, 0, 0⟩, ⟨none, 0, 0⟩, ⟨none, 0, 0⟩, ⟨none, 0, 0⟩, ⟨none, 0, 0⟩, ⟨none, 0, 0⟩, ⟨none, 0, 0⟩⟩
def exSb1 (s : Nat) : Sb := ⟨⟨some ⟨s + 1 + 1 + 1 + 1 + 1, 0, none⟩, 1, 1⟩, ⟨some ⟨s + 1 + 1 + 1 + 1 + 1 + 1, 0, none⟩, 1, 1⟩, ⟨none, 0, 0⟩, ⟨none, 0, 0⟩, ⟨none, 0, 0⟩, ⟨none, 0, 0⟩, ⟨none, 0, 0⟩, ⟨none, 0, 0⟩, ⟨none, 0, 0⟩, ⟨none, 0, 0⟩, ⟨none, 0, 0⟩, ⟨none, 0, 0⟩⟩
def exSb2 (s : Nat) : Sb := ⟨⟨none, 0, 0⟩, ⟨none, 0, 0⟩, ⟨none, 0, 0⟩, ⟨none, 0, 0⟩, ⟨some ⟨s + 1 + 1 + 1 + 1 + 1 + 1 + 1 + 1 + 1, 0, none⟩, 1, 1⟩, ⟨none, 0, 0⟩, ⟨some ⟨s + 1 + 1 + 1 + 1 + 1 + 1 + 1 + 1 + 1 + 1, 0, none⟩, 1, 1⟩, ⟨none, 0, 0⟩, ⟨none, 0, 0⟩, ⟨none, 0, 0⟩, ⟨none, 0, 0⟩, ⟨none, 0, 0⟩⟩
def exFt (s : Nat) : Fnt := ⟨10, some ⟨s, 0, none⟩, 5, 5, none, 0, 0, some ⟨s + 1 + 1 + 1 + 1 + 1 + 1 + 1 + 1 + 1 + 1 + 1 + 1, 0, none⟩, 3, 3, none, 0, 0, none, 0, 0⟩
/-- the fourteen blocks lie there -/
structure ExAt (w : World) (s : Nat) : Prop where
  b0 : w.heap[s]? = some (exB0 s)
  b1 : w.heap[s + 1]? = some (exB1 s)
  b2 : w.heap[s + 1 + 1]? = some (exB2 s)
  b3 : w.heap[s + 1 + 1 + 1]? = some (exB3 s)
  b4 : w.heap[s + 1 + 1 + 1 + 1]? = some (exB4 s)
  b5 : w.heap[s + 1 + 1 + 1 + 1 + 1]? = some (exB5 s)
  b6 : w.heap[s + 1 + 1 + 1 + 1 + 1 + 1]? = some (exB6 s)
  b7 : w.heap[s + 1 + 1 + 1 + 1 + 1 + 1 + 1]? = some (exB7 s)
  b8 : w.heap[s + 1 + 1 + 1 + 1 + 1 + 1 + 1 + 1]? = some (exB8 s)
  b9 : w.heap[s + 1 + 1 + 1 + 1 + 1 + 1 + 1 + 1 + 1]? = some (exB9 s)
  b10 : w.heap[s + 1 + 1 + 1 + 1 + 1 + 1 + 1 + 1 + 1 + 1]? = some (exB10 s)
  b11 : w.heap[s + 1 + 1 + 1 + 1 + 1 + 1 + 1 + 1 + 1 + 1 + 1]? = some (exB11 s)
  b12 : w.heap[s + 1 + 1 + 1 + 1 + 1 + 1 + 1 + 1 + 1 + 1 + 1 + 1]? = some (exB12 s)
  b13 : w.heap[s + 1 + 1 + 1 + 1 + 1 + 1 + 1 + 1 + 1 + 1 + 1 + 1 + 1]? = some (exB13 s)
section
variable {w : World} {s B : Nat}
theorem exSb0_ok (h : ExAt w s) (hB : s + 14 ≤ B) : SubOk w B (exSb0 s) exSu0 := by
  unfold exSb0 exSu0
  refine ⟨⟨ShSl.ints1 h.b1 (by omega) (by decide), ShSl.sls1 h.b3 (by omega) (ShSl.ints1 h.b2 (by omega) (by decide)), ShSl.row0, ShSl.row0, ShSl.row0, ShSl.row0, ShSl.row0, ShSl.row0, ShSl.row0, ShSl.row0, ShSl.row0, ShSl.row0⟩, Ints.row1 h.b1 (by omega), Grd.row1 h.b3 (by omega) (Ints.row1 h.b2 (by omega)), SlR.row0, Grd.row0, Grd.row0, Grd.row0, SlR.row0⟩
theorem exSb1_ok (h : ExAt w s) (hB : s + 14 ≤ B) : SubOk w B (exSb1 s) exSu1 := by
  unfold exSb1 exSu1
  refine ⟨⟨ShSl.ints1 h.b5 (by omega) (by decide), ShSl.sls1 h.b6 (by omega) ShSl.row0, ShSl.row0, ShSl.row0, ShSl.row0, ShSl.row0, ShSl.row0, ShSl.row0, ShSl.row0, ShSl.row0, ShSl.row0, ShSl.row0⟩, Ints.row1 h.b5 (by omega), Grd.row1 h.b6 (by omega) Ints.row0, SlR.row0, Grd.row0, Grd.row0, Grd.row0, SlR.row0⟩
theorem exNe (h : ExAt w s) (hB : s + 14 ≤ B) : ShSl w B shNest (some ⟨s + 1 + 1 + 1 + 1 + 1 + 1 + 1 + 1 + 1 + 1, 0, none⟩) 1 1 :=
  ShSl.rown h.b10 (by omega) (by omega) fun k hk => (by
    obtain rfl : k = 0 := by omega
    exact ⟨[.int .i64 0, .int .i64 2], rfl, all_at fun j hj => by
      rcases j with _ | _ | j
      · rfl
      · rfl
      · (have : j + 1 + 1 < 2 := hj); omega, Shd.two (Shd.i (by decide)) (Shd.two (Shd.i (by decide)) Shd.no)⟩)
theorem exNe2 (h : ExAt w s) (hB : s + 14 ≤ B) : SlR w B 2 NestR (some ⟨s + 1 + 1 + 1 + 1 + 1 + 1 + 1 + 1 + 1 + 1, 0, none⟩) 1 1 [(0, 2)] :=
  SlR.rown h.b10 (by omega) rfl (by omega) fun k p hk => (by
    rcases k with _ | k
    · cases (show some ((0 : Int), (2 : Int)) = some p from hk)
      exact ⟨[.int .i64 0, .int .i64 2], all_at fun j hj => by
        rcases j with _ | _ | j
        · rfl
        · rfl
        · (have : j + 1 + 1 < 2 := hj); omega, rfl⟩
    · simp at hk)
theorem exSb2_ok (h : ExAt w s) (hB : s + 14 ≤ B) : SubOk w B (exSb2 s) exSu2 := by
  unfold exSb2 exSu2
  refine ⟨⟨ShSl.row0, ShSl.row0, ShSl.row0, ShSl.row0, ShSl.sls1 h.b9 (by omega) (ShSl.ints1 h.b8 (by omega) (by decide)), ShSl.row0, exNe h hB, ShSl.row0, ShSl.row0, ShSl.row0, ShSl.row0, ShSl.row0⟩, Ints.row0, Grd.row0, SlR.row0, Grd.row0, Grd.row1 h.b9 (by omega) (Ints.row1 h.b8 (by omega)), Grd.row0, exNe2 h hB⟩
theorem exKs0 (h : ExAt w s) (hB : s + 14 ≤ B) : KsR w B (some ⟨s + 1 + 1 + 1 + 1, 0, none⟩) 1 1 [exSu0] :=
  SlR.rown h.b4 (by omega) rfl (by omega) fun k p hk => by
    rcases k with _ | k
    · cases (show some exSu0 = some p from hk)
      refine ⟨sbCells (exSb0 s), all_at fun j hj => ?_, exSb0 s, rfl, exSb0_ok h hB⟩
      have hj' : j < 12 := hj
      rcases j with _ | _ | _ | _ | _ | _ | _ | _ | _ | _ | _ | _ | j
      all_goals first | rfl | omega
    · simp at hk
theorem exSh0 (h : ExAt w s) (hB : s + 14 ≤ B) : ShSl w B shSub (some ⟨s + 1 + 1 + 1 + 1, 0, none⟩) 1 1 :=
  ShSl.rown h.b4 (by omega) (by omega) fun k hk => by
    obtain rfl : k = 0 := by omega
    obtain ⟨a0, a1, a2, a3, a4, a5, a6, a7, a8, a9, a10, a11⟩ := (exSb0_ok h hB).ok
    refine ⟨sbCells (exSb0 s), rfl, all_at fun j hj => ?_, a0.two (a1.two (a2.two (a3.two (a4.two (a5.two (a6.two (a7.two (a8.two (a9.two (a10.two (a11.two Shd.no)))))))))))⟩
    have hj' : j < 12 := hj
    rcases j with _ | _ | _ | _ | _ | _ | _ | _ | _ | _ | _ | _ | j
    all_goals first | rfl | omega
theorem exKs1 (h : ExAt w s) (hB : s + 14 ≤ B) : KsR w B (some ⟨s + 1 + 1 + 1 + 1 + 1 + 1 + 1, 0, none⟩) 1 1 [exSu1] :=
  SlR.rown h.b7 (by omega) rfl (by omega) fun k p hk => by
    rcases k with _ | k
    · cases (show some exSu1 = some p from hk)
      refine ⟨sbCells (exSb1 s), all_at fun j hj => ?_, exSb1 s, rfl, exSb1_ok h hB⟩
      have hj' : j < 12 := hj
      rcases j with _ | _ | _ | _ | _ | _ | _ | _ | _ | _ | _ | _ | j
      all_goals first | rfl | omega
    · simp at hk
theorem exSh1 (h : ExAt w s) (hB : s + 14 ≤ B) : ShSl w B shSub (some ⟨s + 1 + 1 + 1 + 1 + 1 + 1 + 1, 0, none⟩) 1 1 :=
  ShSl.rown h.b7 (by omega) (by omega) fun k hk => by
    obtain rfl : k = 0 := by omega
    obtain ⟨a0, a1, a2, a3, a4, a5, a6, a7, a8, a9, a10, a11⟩ := (exSb1_ok h hB).ok
    refine ⟨sbCells (exSb1 s), rfl, all_at fun j hj => ?_, a0.two (a1.two (a2.two (a3.two (a4.two (a5.two (a6.two (a7.two (a8.two (a9.two (a10.two (a11.two Shd.no)))))))))))⟩
    have hj' : j < 12 := hj
    rcases j with _ | _ | _ | _ | _ | _ | _ | _ | _ | _ | _ | _ | j
    all_goals first | rfl | omega
theorem exKs2 (h : ExAt w s) (hB : s + 14 ≤ B) : KsR w B (some ⟨s + 1 + 1 + 1 + 1 + 1 + 1 + 1 + 1 + 1 + 1 + 1, 0, none⟩) 1 1 [exSu2] :=
  SlR.rown h.b11 (by omega) rfl (by omega) fun k p hk => by
    rcases k with _ | k
    · cases (show some exSu2 = some p from hk)
      refine ⟨sbCells (exSb2 s), all_at fun j hj => ?_, exSb2 s, rfl, exSb2_ok h hB⟩
      have hj' : j < 12 := hj
      rcases j with _ | _ | _ | _ | _ | _ | _ | _ | _ | _ | _ | _ | j
      all_goals first | rfl | omega
    · simp at hk
theorem exSh2 (h : ExAt w s) (hB : s + 14 ≤ B) : ShSl w B shSub (some ⟨s + 1 + 1 + 1 + 1 + 1 + 1 + 1 + 1 + 1 + 1 + 1, 0, none⟩) 1 1 :=
  ShSl.rown h.b11 (by omega) (by omega) fun k hk => by
    obtain rfl : k = 0 := by omega
    obtain ⟨a0, a1, a2, a3, a4, a5, a6, a7, a8, a9, a10, a11⟩ := (exSb2_ok h hB).ok
    refine ⟨sbCells (exSb2 s), rfl, all_at fun j hj => ?_, a0.two (a1.two (a2.two (a3.two (a4.two (a5.two (a6.two (a7.two (a8.two (a9.two (a10.two (a11.two Shd.no)))))))))))⟩
    have hj' : j < 12 := hj
    rcases j with _ | _ | _ | _ | _ | _ | _ | _ | _ | _ | _ | _ | j
    all_goals first | rfl | omega
theorem exLkl (h : ExAt w s) (hB : s + 14 ≤ B) : SlR w B 4 (LkR w B) (some ⟨s + 1 + 1 + 1 + 1 + 1 + 1 + 1 + 1 + 1 + 1 + 1 + 1, 0, none⟩) 3 3 (exLk) :=
  SlR.rown h.b12 (by omega) rfl (by omega) fun k p hk => by
    have hk' : k < 3 := lt_of_some' hk
    rcases k with _ | _ | _ | k
    · cases (show some (⟨1, 0, 0, [exSu0]⟩ : PK) = some p from hk)
      refine ⟨[.int .i64 1, .int .i64 0, .int .i64 0, .slice (some ⟨s + 1 + 1 + 1 + 1, 0, none⟩) 1 1], all_at fun j hj => ?_, _, _, _, rfl, exKs0 h hB⟩
      have hj' : j < 4 := hj
      rcases j with _ | _ | _ | _ | j
      all_goals first | rfl | omega
    · cases (show some (⟨2, 0, 0, [exSu1]⟩ : PK) = some p from hk)
      refine ⟨[.int .i64 2, .int .i64 0, .int .i64 0, .slice (some ⟨s + 1 + 1 + 1 + 1 + 1 + 1 + 1, 0, none⟩) 1 1], all_at fun j hj => ?_, _, _, _, rfl, exKs1 h hB⟩
      have hj' : j < 4 := hj
      rcases j with _ | _ | _ | _ | j
      all_goals first | rfl | omega
    · cases (show some (⟨4, 0, 0, [exSu2]⟩ : PK) = some p from hk)
      refine ⟨[.int .i64 4, .int .i64 0, .int .i64 0, .slice (some ⟨s + 1 + 1 + 1 + 1 + 1 + 1 + 1 + 1 + 1 + 1 + 1, 0, none⟩) 1 1], all_at fun j hj => ?_, _, _, _, rfl, exKs2 h hB⟩
      have hj' : j < 4 := hj
      rcases j with _ | _ | _ | _ | j
      all_goals first | rfl | omega
    · omega
theorem exLkm (h : ExAt w s) (hB : s + 14 ≤ B) : SlR w B 4 (LkR2 w B) (some ⟨s + 1 + 1 + 1 + 1 + 1 + 1 + 1 + 1 + 1 + 1 + 1 + 1, 0, none⟩) 3 3 (exLs s) :=
  SlR.rown h.b12 (by omega) rfl (by omega) fun k p hk => by
    have hk' : k < 3 := lt_of_some' hk
    rcases k with _ | _ | _ | k
    · cases (show some (exL0 s, [exSu0]) = some p from hk)
      refine ⟨[.int .i64 1, .int .i64 0, .int .i64 0, .slice (some ⟨s + 1 + 1 + 1 + 1, 0, none⟩) 1 1], all_at fun j hj => ?_, rfl, exKs0 h hB⟩
      have hj' : j < 4 := hj
      rcases j with _ | _ | _ | _ | j
      all_goals first | rfl | omega
    · cases (show some (exL1 s, [exSu1]) = some p from hk)
      refine ⟨[.int .i64 2, .int .i64 0, .int .i64 0, .slice (some ⟨s + 1 + 1 + 1 + 1 + 1 + 1 + 1, 0, none⟩) 1 1], all_at fun j hj => ?_, rfl, exKs1 h hB⟩
      have hj' : j < 4 := hj
      rcases j with _ | _ | _ | _ | j
      all_goals first | rfl | omega
    · cases (show some (exL2 s, [exSu2]) = some p from hk)
      refine ⟨[.int .i64 4, .int .i64 0, .int .i64 0, .slice (some ⟨s + 1 + 1 + 1 + 1 + 1 + 1 + 1 + 1 + 1 + 1 + 1, 0, none⟩) 1 1], all_at fun j hj => ?_, rfl, exKs2 h hB⟩
      have hj' : j < 4 := hj
      rcases j with _ | _ | _ | _ | j
      all_goals first | rfl | omega
    · omega
theorem exShL (h : ExAt w s) (hB : s + 14 ≤ B) : ShSl w B shLookup (some ⟨s + 1 + 1 + 1 + 1 + 1 + 1 + 1 + 1 + 1 + 1 + 1 + 1, 0, none⟩) 3 3 :=
  ShSl.rown h.b12 (by omega) (by omega) fun k hk => by
    rcases k with _ | _ | _ | k
    · refine ⟨[.int .i64 1, .int .i64 0, .int .i64 0, .slice (some ⟨s + 1 + 1 + 1 + 1, 0, none⟩) 1 1], rfl, all_at fun j hj => ?_, (Shd.i (by decide)).two ((Shd.i (by decide)).two ((Shd.i (by decide)).two (Shd.two (exSh0 h hB) Shd.no)))⟩
      have hj' : j < 4 := hj
      rcases j with _ | _ | _ | _ | j
      all_goals first | rfl | omega
    · refine ⟨[.int .i64 2, .int .i64 0, .int .i64 0, .slice (some ⟨s + 1 + 1 + 1 + 1 + 1 + 1 + 1, 0, none⟩) 1 1], rfl, all_at fun j hj => ?_, (Shd.i (by decide)).two ((Shd.i (by decide)).two ((Shd.i (by decide)).two (Shd.two (exSh1 h hB) Shd.no)))⟩
      have hj' : j < 4 := hj
      rcases j with _ | _ | _ | _ | j
      all_goals first | rfl | omega
    · refine ⟨[.int .i64 4, .int .i64 0, .int .i64 0, .slice (some ⟨s + 1 + 1 + 1 + 1 + 1 + 1 + 1 + 1 + 1 + 1 + 1, 0, none⟩) 1 1], rfl, all_at fun j hj => ?_, (Shd.i (by decide)).two ((Shd.i (by decide)).two ((Shd.i (by decide)).two (Shd.two (exSh2 h hB) Shd.no)))⟩
      have hj' : j < 4 := hj
      rcases j with _ | _ | _ | _ | j
      all_goals first | rfl | omega
    · omega
theorem exGlAt {k j : Nat} (hk : k < 5) (hj : j < 4) : #[.int .i64 0, .int .i64 0, .int .i64 0, .slice none 0 0, .int .i64 0, .int .i64 0, .int .i64 0, .slice none 0 0, .int .i64 0, .int .i64 0, .int .i64 0, .slice none 0 0, .int .i64 0, .int .i64 0, .int .i64 0, .slice none 0 0, .int .i64 0, .int .i64 0, .int .i64 0, .slice none 0 0][k * 4 + j]? = ([.int .i64 0, .int .i64 0, .int .i64 0, .slice none 0 0] : List Value)[j]? := by
  rcases k with _ | _ | _ | _ | _ | k
  all_goals first
    | omega
    | (rcases j with _ | _ | _ | _ | j
       all_goals first | rfl | omega)
theorem exFnt (h : ExAt w s) (hB : s + 14 ≤ B) : FntOk w B (exFt s) :=
  ⟨ShSl.rown (n := 5) h.b0 (by omega) (by omega) fun k hk => ⟨[.int .i64 0, .int .i64 0, .int .i64 0, .slice none 0 0], rfl, all_at fun j hj => exGlAt hk hj, (Shd.i (by decide)).two ((Shd.i (by decide)).two ((Shd.i (by decide)).two (Shd.two ShSl.row0 Shd.no)))⟩, ShSl.row0, exShL h hB, ShSl.row0, ShSl.row0⟩
theorem exFtR (h : ExAt w s) (hB : s + 14 ≤ B) : FtR w B (exFt s) exPf :=
  ⟨exFnt h hB, SlR.rown (n := 5) h.b0 (by omega) rfl (by omega) fun k p hk => by
    have hk' : k < 5 := by simpa [exPf] using lt_of_some' hk
    have hp : p = (0, 0) := by
      have := List.mem_of_getElem? hk
      simpa [exPf] using this
    subst hp
    exact ⟨[.int .i64 0, .int .i64 0, .int .i64 0, .slice none 0 0], all_at fun j hj => exGlAt hk' hj, 0, none, 0, 0, rfl, ShSl.row0⟩, Grd.row0, exLkl h hB⟩
theorem exGz (h : ExAt w s) : GlZero w (exFt s) := fun k hk => by
  have hk' : k < 5 := hk
  refine ⟨s, 0, rfl, ?_, ?_, ?_, ?_⟩
  · rw [cell_of_row _ _ _ _ _ _ h.b0, Nat.zero_add]; exact exGlAt (j := 0) hk' (by omega)
  · rw [cell_of_row _ _ _ _ _ _ h.b0, Nat.zero_add]; exact exGlAt (j := 1) hk' (by omega)
  · rw [cell_of_row _ _ _ _ _ _ h.b0, Nat.zero_add]; exact exGlAt (j := 2) hk' (by omega)
  · rw [cell_of_row _ _ _ _ _ _ h.b0, Nat.zero_add]; exact exGlAt (j := 3) hk' (by omega)
theorem exFontOk (h : ExAt w s) : ExFont w (exFt s) exLk (exLs s) :=
  ⟨(by decide : fkW 10 1 16384 = true), (by decide : fkW ((5 : Nat) : Int) 1 4096 = true), exGz h, rfl, rfl, rfl, (by decide : 3 ≤ 64), fun x hx => by
    have hx' : x = (exL0 s, [exSu0]) ∨ x = (exL1 s, [exSu1]) ∨ x = (exL2 s, [exSu2]) := by simpa [exLs] using hx
    rcases hx' with rfl | rfl | rfl
    · refine ⟨rfl, rfl, .inl rfl, (by decide : 1 ≤ 64), fun k p hk => ?_⟩
      rcases k with _ | k
      · cases (show some exSu0 = some p from hk)
        refine ⟨s + 1 + 1 + 1 + 1, 0, exSb0 s, rfl, fun j v hj => ?_, .inl ⟨.inl rfl, rfl, rfl, rfl, rfl, rfl, rfl, rfl, rfl, rfl, rfl⟩, exP0⟩
        rw [cell_of_row _ _ _ _ _ _ h.b4]
        refine all_at (m := 0 + 0 * 12) (cs := sbCells (exSb0 s)) (fun j hj => ?_) j v hj
        have hj' : j < 12 := hj
        rcases j with _ | _ | _ | _ | _ | _ | _ | _ | _ | _ | _ | _ | j
        all_goals first | rfl | omega
      · simp at hk
    · refine ⟨rfl, rfl, .inr (.inl rfl), (by decide : 1 ≤ 64), fun k p hk => ?_⟩
      rcases k with _ | k
      · cases (show some exSu1 = some p from hk)
        refine ⟨s + 1 + 1 + 1 + 1 + 1 + 1 + 1, 0, exSb1 s, rfl, fun j v hj => ?_, .inl ⟨.inr rfl, rfl, rfl, rfl, rfl, rfl, rfl, rfl, rfl, rfl, rfl⟩, exP1⟩
        rw [cell_of_row _ _ _ _ _ _ h.b7]
        refine all_at (m := 0 + 0 * 12) (cs := sbCells (exSb1 s)) (fun j hj => ?_) j v hj
        have hj' : j < 12 := hj
        rcases j with _ | _ | _ | _ | _ | _ | _ | _ | _ | _ | _ | _ | j
        all_goals first | rfl | omega
      · simp at hk
    · refine ⟨rfl, rfl, .inr (.inr rfl), (by decide : 1 ≤ 64), fun k p hk => ?_⟩
      rcases k with _ | k
      · cases (show some exSu2 = some p from hk)
        refine ⟨s + 1 + 1 + 1 + 1 + 1 + 1 + 1 + 1 + 1 + 1 + 1, 0, exSb2 s, rfl, fun j v hj => ?_, .inr ⟨rfl, rfl, rfl, rfl, rfl, rfl, rfl, rfl, rfl⟩, exP2⟩
        rw [cell_of_row _ _ _ _ _ _ h.b11]
        refine all_at (m := 0 + 0 * 12) (cs := sbCells (exSb2 s)) (fun j hj => ?_) j v hj
        have hj' : j < 12 := hj
        rcases j with _ | _ | _ | _ | _ | _ | _ | _ | _ | _ | _ | _ | j
        all_goals first | rfl | omega
      · simp at hk⟩
end
/-- the world behind the example's font -/
def exW (w : World) : World := (((((((((((((((((((((((((((w.alloc (exB0 w.heap.size))).alloc (exB1 w.heap.size))).alloc (exB2 w.heap.size))).alloc (exB3 w.heap.size))).alloc (exB4 w.heap.size))).alloc (exB5 w.heap.size))).alloc (exB6 w.heap.size))).alloc (exB7 w.heap.size))).alloc (exB8 w.heap.size))).alloc (exB9 w.heap.size))).alloc (exB10 w.heap.size))).alloc (exB11 w.heap.size))).alloc (exB12 w.heap.size))).alloc (exB13 w.heap.size))
theorem exW_ok (w : World) : Below w.heap.size w (exW w) ∧ (exW w).heap.size = w.heap.size + 14 ∧ ExAt (exW w) w.heap.size := by
  obtain ⟨h1, h2, h3⟩ := alloc_chain (exBs w.heap.size) w
  have e : exW w = (exBs w.heap.size).foldl World.alloc w := rfl
  rw [e]
  exact ⟨h1, h2, h3 0 _ rfl, h3 1 _ rfl, h3 2 _ rfl, h3 3 _ rfl, h3 4 _ rfl, h3 5 _ rfl, h3 6 _ rfl, h3 7 _ rfl, h3 8 _ rfl, h3 9 _ rfl, h3 10 _ rfl, h3 11 _ rfl, h3 12 _ rfl, h3 13 _ rfl⟩

end Go.Proofs.Ytngdolmmaiogiaa
