/- Memory read by shape: a slice of structs of slices, to any depth; how it is kept, and how a row's argument gives it. Over any program. No condition. -/
import Derived.Test.YtbjeflblhjfagaaWords
import Derived.OpenShut
import Derived.ChangeArms
import Derived.WideShapes
namespace Go.Proofs.Ytbjeflblhjfagaa
open Go.RowKit

/-- shapes of data: structs are chains -/
inductive Sh
  | int (k : IntKind)
  | bool
  | str
  | nil
  | cons (a b : Sh)
  | sl (e : Sh)
def Sh.size : Sh → Nat
  | .nil => 0
  | .cons a b => a.size + b.size
  | _ => 1
/-- The cells read as the shape, in blocks below B. -/
def Shd (w : World) (B : Nat) : Sh → List Value → Prop
  | .int k, cs => ∃ n, cs = [.int k n] ∧ (Lit.int k n).wf = true
  | .bool, cs => ∃ b, cs = [.bool b]
  | .str, cs => ∃ s, cs = [.string s] ∧ s.size ≤ maxLen
  | .nil, cs => cs = []
  | .cons a b, cs => ∃ c1 c2, cs = c1 ++ c2 ∧ Shd w B a c1 ∧ Shd w B b c2
  | .sl e, cs => ∃ A n c, cs = [.slice A n c] ∧ n ≤ c ∧ c ≤ maxLen ∧ (A = none → n = 0 ∧ c = 0) ∧
      ∀ k, k < n → ∃ b o cs', A = some ⟨b, o, none⟩ ∧ b < B ∧ cs'.length = e.size ∧ (∀ (j : Nat) v, cs'[j]? = some v → w.cell? ⟨b, o + k * e.size + j, none⟩ = some v) ∧ Shd w B e cs'
theorem Shd.length {w : World} {B : Nat} : ∀ {s : Sh} {cs : List Value}, Shd w B s cs → cs.length = s.size
  | .int _, _, h => by obtain ⟨n, rfl, _⟩ := h; rfl
  | .bool, _, h => by obtain ⟨n, rfl⟩ := h; rfl
  | .str, _, h => by obtain ⟨n, rfl, _⟩ := h; rfl
  | .nil, _, h => by rw [show _ = [] from h]; rfl
  | .cons a b, _, h => by obtain ⟨c1, c2, rfl, h1, h2⟩ := h; rw [List.length_append, h1.length, h2.length]; rfl
  | .sl e, _, h => by obtain ⟨A, n, c, rfl, _⟩ := h; rfl
theorem Shd.keep {w w' : World} {B : Nat} (hk : ∀ p : Addr, p.block < B → w'.cell? p = w.cell? p) : ∀ {s : Sh} {cs : List Value}, Shd w B s cs → Shd w' B s cs
  | .int _, _, h => h
  | .bool, _, h => h
  | .str, _, h => h
  | .nil, _, h => h
  | .cons a b, _, h => by obtain ⟨c1, c2, e, h1, h2⟩ := h; exact ⟨c1, c2, e, Shd.keep hk h1, Shd.keep hk h2⟩
  | .sl e, _, h => by
    obtain ⟨A, n, c, e1, h1, h2, h3, h4⟩ := h
    refine ⟨A, n, c, e1, h1, h2, h3, fun k hkn => ?_⟩
    obtain ⟨b, o, cs', e2, h5, h6, h7, h8⟩ := h4 k hkn
    exact ⟨b, o, cs', e2, h5, h6, fun j v hj => (hk ⟨b, o + k * e.size + j, none⟩ h5).trans (h7 j v hj), Shd.keep hk h8⟩
theorem Shd.below {w w' : World} {B : Nat} {s : Sh} {cs : List Value} (h : Shd w B s cs) (hb : Below B w w') : Shd w' B s cs := h.keep fun _ hp => hb.cell hp
/-- a slice, opened: its length, and an element of it -/
def ShSl (w : World) (B : Nat) (e : Sh) (A : Option Addr) (n c : Nat) : Prop := Shd w B (.sl e) [.slice A n c]
section
variable {w w' : World} {B : Nat} {e : Sh} {A : Option Addr} {n c : Nat}
theorem ShSl.below (h : ShSl w B e A n c) (hb : Below B w w') : ShSl w' B e A n c := Shd.below h hb
theorem ShSl.open_ (h : ShSl w B e A n c) : n ≤ c ∧ c ≤ maxLen ∧ (A = none → n = 0 ∧ c = 0) ∧
      ∀ k, k < n → ∃ b o cs', A = some ⟨b, o, none⟩ ∧ b < B ∧ cs'.length = e.size ∧ (∀ (j : Nat) v, cs'[j]? = some v → w.cell? ⟨b, o + k * e.size + j, none⟩ = some v) ∧ Shd w B e cs' := by
  obtain ⟨A', n', c', e1, h⟩ := h
  simp only [List.cons.injEq, Value.slice.injEq, and_true] at e1
  obtain ⟨rfl, rfl, rfl⟩ := e1
  exact h
theorem ShSl.cap (h : ShSl w B e A n c) : n ≤ c ∧ c ≤ 9223372036854775807 := by
  obtain ⟨h1, h2, _⟩ := h.open_
  unfold maxLen at h2
  exact ⟨h1, h2⟩
theorem ShSl.at_ (h : ShSl w B e A n c) {k : Nat} (hk : k < n) : ∃ b o cs', A = some ⟨b, o, none⟩ ∧ b < B ∧ cs'.length = e.size ∧ (∀ (j : Nat) v, cs'[j]? = some v → w.cell? ⟨b, o + k * e.size + j, none⟩ = some v) ∧ Shd w B e cs' := h.open_.2.2.2 k hk
theorem Shd.slice {cs : List Value} (h : Shd w B (.sl e) cs) : ∃ A n c, cs = [.slice A n c] ∧ ShSl w B e A n c := by
  obtain ⟨A, n, c, rfl, h⟩ := h
  exact ⟨A, n, c, rfl, A, n, c, rfl, h⟩
/-- a slice of numbers reads as a list -/
theorem ShSl.ints (h : ShSl w B (.int .i64) A n c) : ∃ zs, Ints w B A n c zs := by
  obtain ⟨h1, h2, h3, h4⟩ := h.open_
  have h5 : ∀ k, k < n → ∃ x : Int, ∃ b o, A = some ⟨b, o, none⟩ ∧ b < B ∧ w.cell? ⟨b, o + k, none⟩ = some (.int .i64 x) := fun k hk => by
    obtain ⟨b, o, cs', e1, hb, _, hc, x, rfl, _⟩ := h4 k hk
    exact ⟨x, b, o, e1, hb, by have := hc 0 _ rfl; simpa [Sh.size] using this⟩
  obtain ⟨f, hf⟩ : ∃ f : Nat → Int, ∀ k, k < n → ∃ b o, A = some ⟨b, o, none⟩ ∧ b < B ∧ w.cell? ⟨b, o + k, none⟩ = some (.int .i64 (f k)) := by
    refine ⟨fun k => if hk : k < n then (h5 k hk).choose else 0, fun k hk => ?_⟩
    simp only [hk, dite_true]
    exact (h5 k hk).choose_spec
  refine ⟨(List.range n).map f, by simp, h1, h2, h3, fun k x hx => ?_⟩
  rw [List.getElem?_map] at hx
  by_cases hk : k < n
  · rw [List.getElem?_range hk] at hx
    simp only [Option.map_some, Option.some.injEq] at hx
    subst hx
    exact hf k hk
  · rw [List.getElem?_eq_none (by simp; omega)] at hx
    cases hx
end

/-- does a shape fit a type? -/
def shFields (ok : TypeId → Sh → Bool) (P : Program) : Sh → List Field → Nat → Bool
  | .nil, [], _ => true
  | .cons a b, f :: fs, off => ok f.type a && f.offset == off && P.cellsOf f.type == a.size && shFields ok P b fs (off + a.size)
  | _, _, _ => false
def shOk (P : Program) : Nat → TypeId → Sh → Bool
  | 0, _, _ => false
  | d + 1, t, s =>
    match P.underlying t, s with
    | some (.int k), .int k' => k == k'
    | some .bool, .bool => true
    | some .string, .str => true
    | some (.slice e), .sl s' => shOk P d e s' && P.cellsOf e == s'.size && decide (0 < s'.size)
    | some (.struct fs), s => shFields (shOk P d) P s fs.toList 0 && P.cellsOf t == s.size
    | _, _ => false

section
variable {H : Type} {enc : TypeId × Value → H} {P : Program} {w : World} {base : Nat} {spare : Nat → Bool} {held : Bool}
theorem shFields_of {fuel : Nat} (ok : TypeId → Sh → Bool) (ih : ∀ (t : TypeId) (s : Sh) (cs : List Value) x, ok t s = true → DataW.trod enc P w base spare held fuel t cs = some x → Shd w w.heap.size s cs) (cs : List Value) :
    ∀ (s : Sh) (fs : List Field) (off : Nat), shFields ok P s fs off = true → (∀ (i : Nat) (f : Field), fs[i]? = some f → ∃ x, DataW.trod enc P w base spare held fuel f.type ((cs.drop f.offset).take (P.cellsOf f.type)) = some x) →
      cs.length = off + s.size → Shd w w.heap.size s (cs.drop off)
  | .nil, [], off, _, _, hl => by
    show cs.drop off = []
    exact List.drop_eq_nil_of_le (by simp [Sh.size] at hl; omega)
  | .cons a b, f :: fs, off, h, ht, hl => by
    simp only [shFields, Bool.and_eq_true, beq_iff_eq] at h
    obtain ⟨⟨⟨h1, h2⟩, h3⟩, h4⟩ := h
    simp only [Sh.size] at hl
    obtain ⟨x, hx⟩ := ht 0 f rfl
    rw [h2, h3] at hx
    have hr := shFields_of ok ih cs b fs (off + a.size) h4 (fun i g hg => ht (i + 1) g (by simpa using hg)) (by omega)
    refine ⟨(cs.drop off).take a.size, cs.drop (off + a.size), ?_, ih _ _ _ _ h1 hx, hr⟩
    rw [← List.drop_drop, List.take_append_drop]
  | .nil, _ :: _, _, h, _, _ => by simp [shFields] at h
  | .cons _ _, [], _, h, _, _ => by simp [shFields] at h
  | .int _, _, _, h, _, _ => by simp [shFields] at h
  | .bool, _, _, h, _, _ => by simp [shFields] at h
  | .str, _, _, h, _, _ => by simp [shFields] at h
  | .sl _, _, _, h, _, _ => by simp [shFields] at h
/-- A reading gives the shape. -/
theorem shd_of_trod : ∀ (d fuel : Nat) (t : TypeId) (s : Sh) (cs : List Value) (x : DataW H × List MemPlace), shOk P d t s = true → DataW.trod enc P w base spare held fuel t cs = some x → Shd w w.heap.size s cs
  | 0, _, _, _, _, _, h, _ => by simp [shOk] at h
  | d + 1, fuel, t, s, cs, x, h, hx => by
    unfold shOk at h
    split at h
    · rename_i k k' hu
      obtain ⟨n, e1, _, hw⟩ := DataW.trod_int hu hx
      obtain rfl : k = k' := by simpa using h
      exact ⟨n, e1, hw⟩
    · rename_i hu
      obtain ⟨b, e1, _⟩ := DataW.trod_bool hu hx
      exact ⟨b, e1⟩
    · rename_i hu
      obtain ⟨s', e1, _, h2⟩ := DataW.trod_string hu hx
      exact ⟨s', e1, h2⟩
    · rename_i e s' hu
      simp only [Bool.and_eq_true, beq_iff_eq, decide_eq_true_eq] at h
      obtain ⟨⟨h0, hce⟩, hpos⟩ := h
      rcases DataW.trod_slice hu hx with ⟨rfl, _⟩ | ⟨a, len, cap, elems, rest, n, rfl, rfl, _, hb, hl, hm, hlen, hel, _⟩
      · exact ⟨none, 0, 0, rfl, Nat.le_refl _, by unfold maxLen; omega, fun _ => ⟨rfl, rfl⟩, fun k hk => by omega⟩
      · refine ⟨some a, len, cap, rfl, hl, hm, (by simp), fun k hk => ?_⟩
        have hget : ∀ j, j < len → ∃ cs', (∀ i, i < s'.size → w.cell? ((a.add (j * s'.size)).add i) = cs'[i]?) ∧ cs'.length = s'.size ∧ Shd w w.heap.size s' cs' := fun j hj => by
          have hk2 := hel j hj
          rw [List.getElem?_eq_getElem (by omega)] at hk2
          obtain ⟨cs', h1, h2⟩ := Option.bind_eq_some_iff.1 hk2
          have hsh := shd_of_trod d n e s' cs' _ h0 h2
          obtain ⟨_, hcl, hcc⟩ := World.cells?_some h1
          rw [hce] at hcl hcc
          exact ⟨cs', hcc, hcl, hsh⟩
        have hplain : ∃ b o, a = ⟨b, o, none⟩ ∧ b < w.heap.size := by
          obtain ⟨cs', h1, h2, _⟩ := hget 0 (by omega)
          have h3 := h1 0 hpos
          rw [List.getElem?_eq_getElem (by omega)] at h3
          obtain ⟨b, o, spot⟩ := a
          have hspot : spot = none := by simpa [Addr.add] using World.cell?_spot h3
          subst hspot
          exact ⟨b, o, rfl, by simpa [Addr.add] using World.block_lt_of_cell? w _ h3⟩
        obtain ⟨b, o, rfl, hbl⟩ := hplain
        obtain ⟨cs', h1, h2, h3⟩ := hget k hk
        refine ⟨b, o, cs', rfl, hbl, h2, fun j v hj => ?_, h3⟩
        have hjl : j < s'.size := by rw [← h2]; exact (List.getElem?_eq_some_iff.1 hj).1
        have := h1 j hjl
        rw [hj, Go.WideShapes.add_plain, Go.WideShapes.add_plain] at this
        exact this
    · rename_i _ _ fs hu
      simp only [Bool.and_eq_true, beq_iff_eq] at h
      obtain ⟨xs, n, rfl, _, hl, hlx, hf⟩ := DataW.trod_struct hu hx
      have := shFields_of (fuel := n) (shOk P d) (fun _ _ _ _ h1 h2 => shd_of_trod d n _ _ _ _ h1 h2) cs _ fs.toList 0 h.1 (fun i f hi => by
        have h3 := hf i f (by simpa using hi)
        have h4 : i < fs.size := (Array.getElem?_eq_some_iff.1 (by simpa using hi)).1
        rw [List.getElem?_eq_getElem (by omega)] at h3
        exact ⟨_, h3⟩) (by omega)
      simpa using this
    · simp at h
end

end Go.Proofs.Ytbjeflblhjfagaa
