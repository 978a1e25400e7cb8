/- Joined: FkM. -/
import Derived.Test.YtngdolmmaiogiaaJ26
import Derived.Test.YtngdolmmaiogiaaJ30

/- The walk of alone of the check. Condition: the subtable lies as one, the kind is one. Printed by wip/tools/g32l.py. Printed by wip/tools. -/
namespace Go.Proofs.Ytngdolmmaiogiaa
open Go.RowKit

theorem ixOwn1 (W : World) (a0 a1 a2 a3 a4 a5 a6 a7 a8 a9 a10 a11 a12 : Value) : (Instr.index 92 (.agg #[a0, a1, a2, a3, a4, a5, a6, a7, a8, a9, a10, a11, a12]) (.int .i64 1)).run Try.prog W = .ok a1 W := by kernel_rfl
theorem ixOwn2 (W : World) (a0 a1 a2 a3 a4 a5 a6 a7 a8 a9 a10 a11 a12 : Value) : (Instr.index 92 (.agg #[a0, a1, a2, a3, a4, a5, a6, a7, a8, a9, a10, a11, a12]) (.int .i64 2)).run Try.prog W = .ok a2 W := by kernel_rfl
theorem ixOwn3 (W : World) (a0 a1 a2 a3 a4 a5 a6 a7 a8 a9 a10 a11 a12 : Value) : (Instr.index 92 (.agg #[a0, a1, a2, a3, a4, a5, a6, a7, a8, a9, a10, a11, a12]) (.int .i64 3)).run Try.prog W = .ok a3 W := by kernel_rfl
theorem ixOwn4 (W : World) (a0 a1 a2 a3 a4 a5 a6 a7 a8 a9 a10 a11 a12 : Value) : (Instr.index 92 (.agg #[a0, a1, a2, a3, a4, a5, a6, a7, a8, a9, a10, a11, a12]) (.int .i64 4)).run Try.prog W = .ok a4 W := by kernel_rfl
theorem ixOwn5 (W : World) (a0 a1 a2 a3 a4 a5 a6 a7 a8 a9 a10 a11 a12 : Value) : (Instr.index 92 (.agg #[a0, a1, a2, a3, a4, a5, a6, a7, a8, a9, a10, a11, a12]) (.int .i64 5)).run Try.prog W = .ok a5 W := by kernel_rfl
theorem ixOwn6 (W : World) (a0 a1 a2 a3 a4 a5 a6 a7 a8 a9 a10 a11 a12 : Value) : (Instr.index 92 (.agg #[a0, a1, a2, a3, a4, a5, a6, a7, a8, a9, a10, a11, a12]) (.int .i64 6)).run Try.prog W = .ok a6 W := by kernel_rfl
theorem ixOwn7 (W : World) (a0 a1 a2 a3 a4 a5 a6 a7 a8 a9 a10 a11 a12 : Value) : (Instr.index 92 (.agg #[a0, a1, a2, a3, a4, a5, a6, a7, a8, a9, a10, a11, a12]) (.int .i64 7)).run Try.prog W = .ok a7 W := by kernel_rfl
theorem ixOwn8 (W : World) (a0 a1 a2 a3 a4 a5 a6 a7 a8 a9 a10 a11 a12 : Value) : (Instr.index 92 (.agg #[a0, a1, a2, a3, a4, a5, a6, a7, a8, a9, a10, a11, a12]) (.int .i64 8)).run Try.prog W = .ok a8 W := by kernel_rfl
theorem ixOwn9 (W : World) (a0 a1 a2 a3 a4 a5 a6 a7 a8 a9 a10 a11 a12 : Value) : (Instr.index 92 (.agg #[a0, a1, a2, a3, a4, a5, a6, a7, a8, a9, a10, a11, a12]) (.int .i64 9)).run Try.prog W = .ok a9 W := by kernel_rfl
theorem ixOwn10 (W : World) (a0 a1 a2 a3 a4 a5 a6 a7 a8 a9 a10 a11 a12 : Value) : (Instr.index 92 (.agg #[a0, a1, a2, a3, a4, a5, a6, a7, a8, a9, a10, a11, a12]) (.int .i64 10)).run Try.prog W = .ok a10 W := by kernel_rfl
theorem ixOwn11 (W : World) (a0 a1 a2 a3 a4 a5 a6 a7 a8 a9 a10 a11 a12 : Value) : (Instr.index 92 (.agg #[a0, a1, a2, a3, a4, a5, a6, a7, a8, a9, a10, a11, a12]) (.int .i64 11)).run Try.prog W = .ok a11 W := by kernel_rfl
theorem ixOwn12 (W : World) (a0 a1 a2 a3 a4 a5 a6 a7 a8 a9 a10 a11 a12 : Value) : (Instr.index 92 (.agg #[a0, a1, a2, a3, a4, a5, a6, a7, a8, a9, a10, a11, a12]) (.int .i64 12)).run Try.prog W = .ok a12 W := by kernel_rfl
def pickV (k : Int) (a1 a2 a3 a4 a5 a6 a7 a8 a9 a10 a11 a12 : Value) : Value := if k = 1 then a1 else if k = 2 then a2 else if k = 3 then a3 else if k = 4 then a4 else if k = 5 then a5 else if k = 6 then a6 else if k = 7 then a7 else if k = 8 then a8 else if k = 9 then a9 else if k = 10 then a10 else if k = 11 then a11 else a12
theorem ixAny {k : Int} (h1 : 1 ≤ k) (h2 : k ≤ 12) (W : World) (a0 a1 a2 a3 a4 a5 a6 a7 a8 a9 a10 a11 a12 : Value) : (Instr.index 92 (.agg #[a0, a1, a2, a3, a4, a5, a6, a7, a8, a9, a10, a11, a12]) (.int .i64 k)).run Try.prog W = .ok (pickV k a1 a2 a3 a4 a5 a6 a7 a8 a9 a10 a11 a12) W := by
  obtain rfl | rfl | rfl | rfl | rfl | rfl | rfl | rfl | rfl | rfl | rfl | rfl : k = 1 ∨ k = 2 ∨ k = 3 ∨ k = 4 ∨ k = 5 ∨ k = 6 ∨ k = 7 ∨ k = 8 ∨ k = 9 ∨ k = 10 ∨ k = 11 ∨ k = 12 := by omega
  · exact ixOwn1 W a0 a1 a2 a3 a4 a5 a6 a7 a8 a9 a10 a11 a12
  · exact ixOwn2 W a0 a1 a2 a3 a4 a5 a6 a7 a8 a9 a10 a11 a12
  · exact ixOwn3 W a0 a1 a2 a3 a4 a5 a6 a7 a8 a9 a10 a11 a12
  · exact ixOwn4 W a0 a1 a2 a3 a4 a5 a6 a7 a8 a9 a10 a11 a12
  · exact ixOwn5 W a0 a1 a2 a3 a4 a5 a6 a7 a8 a9 a10 a11 a12
  · exact ixOwn6 W a0 a1 a2 a3 a4 a5 a6 a7 a8 a9 a10 a11 a12
  · exact ixOwn7 W a0 a1 a2 a3 a4 a5 a6 a7 a8 a9 a10 a11 a12
  · exact ixOwn8 W a0 a1 a2 a3 a4 a5 a6 a7 a8 a9 a10 a11 a12
  · exact ixOwn9 W a0 a1 a2 a3 a4 a5 a6 a7 a8 a9 a10 a11 a12
  · exact ixOwn10 W a0 a1 a2 a3 a4 a5 a6 a7 a8 a9 a10 a11 a12
  · exact ixOwn11 W a0 a1 a2 a3 a4 a5 a6 a7 a8 a9 a10 a11 a12
  · exact ixOwn12 W a0 a1 a2 a3 a4 a5 a6 a7 a8 a9 a10 a11 a12
theorem lawStr : Maps.Keyed Try.prog 9 := Maps.string_keyed Try.underlying9
/-- a row of strings that lies outside block b -/
def StrRow (w : World) (b : Nat) (A : Option Addr) (n : Nat) (ks : List ByteArray) : Prop :=
  ks.length = n ∧ n ≤ 3 ∧ ∀ k p, ks[k]? = some p → p.size ≤ 100 ∧ ∃ bb o, A = some ⟨bb, o, none⟩ ∧ bb ≠ b ∧ bb < w.heap.size ∧ w.cell? ⟨bb, o + k, none⟩ = some (.string p)
theorem StrRow.kept {w w' : World} {b n : Nat} {A : Option Addr} {ks : List ByteArray} (h : StrRow w b A n ks) (hg : w.grownBy w' (some b)) : StrRow w' b A n ks :=
  ⟨h.1, h.2.1, fun k p hk => by
    obtain ⟨h1, bb, o, e, hne, hlt, hc⟩ := h.2.2 k p hk
    exact ⟨h1, bb, o, e, hne, Nat.lt_of_lt_of_le hlt hg.size, (World.cell?_of_block (a := ⟨bb, o + k, none⟩) (hg.block bb hlt (fun e => hne (Option.some.inj e)))).trans hc⟩⟩
theorem StrRow.alloc {w : World} {b n : Nat} {A : Option Addr} {ks : List ByteArray} (h : StrRow w b A n ks) (o : Obj) : StrRow (w.alloc o) b A n ks := h.kept ((World.grownBy_alloc w o none).but _)
theorem StrRow.lit (w : World) {b : Nat} (hb : b < w.heap.size) (ks : List ByteArray) (cs : Array Value) (t : TypeId) (n : Nat) (hn : ks.length = n) (h3 : n ≤ 3) (hs : ∀ p ∈ ks, p.size ≤ 100) (hc : ∀ (k : Nat) (p : ByteArray), ks[k]? = some p → cs[k]? = some (.string p)) :
    StrRow (w.alloc (.cells cs t)) b (some ⟨w.heap.size, 0, none⟩) n ks :=
  ⟨hn, h3, fun k p hk => ⟨hs p (List.mem_of_getElem? hk), w.heap.size, 0, rfl, by omega, by simp, by rw [Nat.zero_add, cell_of_row _ _ _ _ _ _ (heap_alloc_new w (.cells cs t))]; exact hc k p hk⟩⟩
theorem lt_alloc {w : World} {b : Nat} (h : b < w.heap.size) (o : Obj) : b < (w.alloc o).heap.size := by simp; omega
theorem size_alloc (w : World) (o : Obj) : (w.alloc o).heap.size = w.heap.size + 1 := by simp
theorem bup_alloc {w w' : World} (h : Below w.heap.size w w') (o : Obj) : Below w.heap.size w (w'.alloc o) := h.alloc h.size _
theorem StrRow.lit1 {w : World} {b bk : Nat} {t : TypeId} {p : ByteArray} (hb : b < w.heap.size) (hk : bk = w.heap.size) (h1 : p.size ≤ 100) : StrRow (w.alloc (.cells #[.string p] t)) b (some ⟨bk, 0, none⟩) 1 [p] := by
  subst hk
  refine StrRow.lit w hb [p] _ t 1 rfl (by omega) (fun q hq => ?_) (fun k q hq => ?_)
  · rw [List.mem_singleton] at hq; rw [hq]; exact h1
  · rcases k with _ | k
    · cases hq; rfl
    · simp at hq
theorem StrRow.lit2 {w : World} {b bk : Nat} {t : TypeId} {p p2 : ByteArray} (hb : b < w.heap.size) (hk : bk = w.heap.size) (h1 : p.size ≤ 100) (h2 : p2.size ≤ 100) : StrRow (w.alloc (.cells #[.string p, .string p2] t)) b (some ⟨bk, 0, none⟩) 2 [p, p2] := by
  subst hk
  refine StrRow.lit w hb [p, p2] _ t 2 rfl (by omega) (fun q hq => ?_) (fun k q hq => ?_)
  · simp only [List.mem_cons, List.not_mem_nil, or_false] at hq
    rcases hq with rfl | rfl
    · exact h1
    · exact h2
  · rcases k with _ | _ | k
    · cases hq; rfl
    · cases hq; rfl
    · simp at hq
theorem StrRow.lit3 {w : World} {b bk : Nat} {t : TypeId} {p p2 p3 : ByteArray} (hb : b < w.heap.size) (hk : bk = w.heap.size) (h1 : p.size ≤ 100) (h2 : p2.size ≤ 100) (h3 : p3.size ≤ 100) : StrRow (w.alloc (.cells #[.string p, .string p2, .string p3] t)) b (some ⟨bk, 0, none⟩) 3 [p, p2, p3] := by
  subst hk
  refine StrRow.lit w hb [p, p2, p3] _ t 3 rfl (by omega) (fun q hq => ?_) (fun k q hq => ?_)
  · simp only [List.mem_cons, List.not_mem_nil, or_false] at hq
    rcases hq with rfl | rfl | rfl
    · exact h1
    · exact h2
    · exact h3
  · rcases k with _ | _ | _ | k
    · cases hq; rfl
    · cases hq; rfl
    · cases hq; rfl
    · simp at hq
def AlCond (kind : Int) (s : Sb) : Prop :=
  ((kind = 1 ∨ kind = 2) ∧ s.li.n = 0 ∧ s.ba.n = 0 ∧ s.inn.n = 0 ∧ s.ah.n = 0 ∧ s.ne.n = 0 ∧ s.va.n = 0 ∧ s.pr.n = 0 ∧ s.cu.n = 0 ∧ s.ma.n = 0 ∧ s.ho.n = 0) ∨
  (kind = 4 ∧ s.co.n = 0 ∧ s.tt.n = 0 ∧ s.li.n = 0 ∧ s.va.n = 0 ∧ s.pr.n = 0 ∧ s.cu.n = 0 ∧ s.ma.n = 0 ∧ s.ho.n = 0)
def ownOf (kind : Int) : List ByteArray := if kind = 4 then [⟨#[97, 114, 111, 117, 110, 100]⟩, ⟨#[105, 110]⟩, ⟨#[110, 101, 115, 116, 115]⟩] else [⟨#[99, 111, 118, 101, 114]⟩, ⟨#[116, 111]⟩]
def litOf (p : ByteArray) : Lit := .string p.data.toList
/-- which keys may be true behind the literal -/
def S11 (c0 c1 c2 c3 c4 c5 c6 c7 c8 c9 c10 : Bool) : Lit → Prop := updS (updS (updS (updS (updS (updS (updS (updS (updS (updS (updS (fun _ => False) (Lit.string [99, 111, 118, 101, 114]) c0) (Lit.string [116, 111]) c1) (Lit.string [108, 105, 103, 115]) c2) (Lit.string [97, 114, 111, 117, 110, 100]) c3) (Lit.string [105, 110]) c4) (Lit.string [110, 101, 115, 116, 115]) c5) (Lit.string [118, 97, 108, 117, 101, 115]) c6) (Lit.string [112, 97, 105, 114, 115]) c7) (Lit.string [99, 117, 114, 115]) c8) (Lit.string [109, 97, 114, 107, 115]) c9) (Lit.string [104, 111, 115, 116, 115]) c10
theorem S11.inv {c0 c1 c2 c3 c4 c5 c6 c7 c8 c9 c10 : Bool} {x : Lit} (h : S11 c0 c1 c2 c3 c4 c5 c6 c7 c8 c9 c10 x) : (x = litOf ⟨#[99, 111, 118, 101, 114]⟩ ∧ c0 = true) ∨ (x = litOf ⟨#[116, 111]⟩ ∧ c1 = true) ∨ (x = litOf ⟨#[108, 105, 103, 115]⟩ ∧ c2 = true) ∨ (x = litOf ⟨#[97, 114, 111, 117, 110, 100]⟩ ∧ c3 = true) ∨ (x = litOf ⟨#[105, 110]⟩ ∧ c4 = true) ∨ (x = litOf ⟨#[110, 101, 115, 116, 115]⟩ ∧ c5 = true) ∨ (x = litOf ⟨#[118, 97, 108, 117, 101, 115]⟩ ∧ c6 = true) ∨ (x = litOf ⟨#[112, 97, 105, 114, 115]⟩ ∧ c7 = true) ∨ (x = litOf ⟨#[99, 117, 114, 115]⟩ ∧ c8 = true) ∨ (x = litOf ⟨#[109, 97, 114, 107, 115]⟩ ∧ c9 = true) ∨ (x = litOf ⟨#[104, 111, 115, 116, 115]⟩ ∧ c10 = true) := by
  unfold S11 updS at h
  rcases h with h | ⟨_, h⟩
  · exact .inr (.inr (.inr (.inr (.inr (.inr (.inr (.inr (.inr (.inr (h))))))))))
  rcases h with h | ⟨_, h⟩
  · exact .inr (.inr (.inr (.inr (.inr (.inr (.inr (.inr (.inr (.inl h)))))))))
  rcases h with h | ⟨_, h⟩
  · exact .inr (.inr (.inr (.inr (.inr (.inr (.inr (.inr (.inl h))))))))
  rcases h with h | ⟨_, h⟩
  · exact .inr (.inr (.inr (.inr (.inr (.inr (.inr (.inl h)))))))
  rcases h with h | ⟨_, h⟩
  · exact .inr (.inr (.inr (.inr (.inr (.inr (.inl h))))))
  rcases h with h | ⟨_, h⟩
  · exact .inr (.inr (.inr (.inr (.inr (.inl h)))))
  rcases h with h | ⟨_, h⟩
  · exact .inr (.inr (.inr (.inr (.inl h))))
  rcases h with h | ⟨_, h⟩
  · exact .inr (.inr (.inr (.inl h)))
  rcases h with h | ⟨_, h⟩
  · exact .inr (.inr (.inl h))
  rcases h with h | ⟨_, h⟩
  · exact .inr (.inl h)
  rcases h with h | ⟨_, h⟩
  · exact .inl h
  exact h.elim
def SJ (S : Lit → Prop) (ks : List ByteArray) (j : Nat) : Lit → Prop := fun x => S x ∧ ∀ p ∈ ks.take j, x ≠ litOf p
theorem SJ.next {S : Lit → Prop} {ks : List ByteArray} {j : Nat} {p : ByteArray} (h : ks[j]? = some p) {x : Lit} (hx : updS (SJ S ks j) (litOf p) false x) : SJ S ks (j + 1) x := by
  rcases hx with ⟨_, h1⟩ | ⟨h1, h2, h3⟩
  · cases h1
  · refine ⟨h2, fun q hq => ?_⟩
    rw [List.take_add_one, h, Option.toList_some, List.mem_append, List.mem_singleton] at hq
    rcases hq with hq | rfl
    · exact h3 q hq
    · exact h1
theorem alone_none {kind : Int} {s : Sb} {c0 c1 c2 c3 c4 c5 c6 c7 c8 c9 c10 : Bool} {j : Nat} (ha : AlCond kind s) (hj : (ownOf kind).length ≤ j) (hz : (s.co.n = 0 → c0 = false) ∧ (s.tt.n = 0 → c1 = false) ∧ (s.li.n = 0 → c2 = false) ∧ (s.ba.n = 0 → s.ah.n = 0 → c3 = false) ∧ (s.inn.n = 0 → c4 = false) ∧ (s.ne.n = 0 → c5 = false) ∧ (s.va.n = 0 → c6 = false) ∧ (s.pr.n = 0 → c7 = false) ∧ (s.cu.n = 0 → c8 = false) ∧ (s.ma.n = 0 → c9 = false) ∧ (s.ho.n = 0 → c10 = false)) : ∀ x, ¬ SJ (S11 c0 c1 c2 c3 c4 c5 c6 c7 c8 c9 c10) (ownOf kind) j x := by
  rintro x ⟨hx, hn⟩
  rw [List.take_of_length_le hj] at hn
  obtain ⟨z0, z1, z2, z3, z4, z5, z6, z7, z8, z9, z10⟩ := hz
  have h2 := S11.inv hx
  rcases ha with ⟨hk, e2, e3, e4, e5, e6, e7, e8, e9, e10, e11⟩ | ⟨hk, e0, e1, e2, e7, e8, e9, e10, e11⟩
  · unfold ownOf at hn
    rw [if_neg (by omega)] at hn
    rcases h2 with ⟨h, hc⟩ | ⟨h, hc⟩ | ⟨h, hc⟩ | ⟨h, hc⟩ | ⟨h, hc⟩ | ⟨h, hc⟩ | ⟨h, hc⟩ | ⟨h, hc⟩ | ⟨h, hc⟩ | ⟨h, hc⟩ | ⟨h, hc⟩
    · exact hn _ (by simp) h
    · exact hn _ (by simp) h
    · exact Bool.false_ne_true ((z2 e2).symm.trans hc)
    · exact Bool.false_ne_true ((z3 e3 e5).symm.trans hc)
    · exact Bool.false_ne_true ((z4 e4).symm.trans hc)
    · exact Bool.false_ne_true ((z5 e6).symm.trans hc)
    · exact Bool.false_ne_true ((z6 e7).symm.trans hc)
    · exact Bool.false_ne_true ((z7 e8).symm.trans hc)
    · exact Bool.false_ne_true ((z8 e9).symm.trans hc)
    · exact Bool.false_ne_true ((z9 e10).symm.trans hc)
    · exact Bool.false_ne_true ((z10 e11).symm.trans hc)
  · unfold ownOf at hn
    rw [if_pos hk] at hn
    rcases h2 with ⟨h, hc⟩ | ⟨h, hc⟩ | ⟨h, hc⟩ | ⟨h, hc⟩ | ⟨h, hc⟩ | ⟨h, hc⟩ | ⟨h, hc⟩ | ⟨h, hc⟩ | ⟨h, hc⟩ | ⟨h, hc⟩ | ⟨h, hc⟩
    · exact Bool.false_ne_true ((z0 e0).symm.trans hc)
    · exact Bool.false_ne_true ((z1 e1).symm.trans hc)
    · exact Bool.false_ne_true ((z2 e2).symm.trans hc)
    · exact hn _ (by simp) h
    · exact hn _ (by simp) h
    · exact hn _ (by simp) h
    · exact Bool.false_ne_true ((z6 e7).symm.trans hc)
    · exact Bool.false_ne_true ((z7 e8).symm.trans hc)
    · exact Bool.false_ne_true ((z8 e9).symm.trans hc)
    · exact Bool.false_ne_true ((z9 e10).symm.trans hc)
    · exact Bool.false_ne_true ((z10 e11).symm.trans hc)
set_option maxRecDepth 100000 in
set_option maxHeartbeats 4000000 in
theorem kalone_any (kind : Int) (B : Nat) (s : Sb) (w : World) (h : SbOk w B s) (hk1 : 1 ≤ kind) (hk2 : kind ≤ 12) :
    Calls Try.prog 28 #[.int .i64 kind, .agg #[.slice s.co.A s.co.n s.co.c, .slice s.tt.A s.tt.n s.tt.c, .slice s.li.A s.li.n s.li.c, .slice s.ba.A s.ba.n s.ba.c, .slice s.inn.A s.inn.n s.inn.c, .slice s.ah.A s.ah.n s.ah.c, .slice s.ne.A s.ne.n s.ne.c, .slice s.va.A s.va.n s.va.c, .slice s.pr.A s.pr.n s.pr.c, .slice s.cu.A s.cu.n s.cu.c, .slice s.ma.A s.ma.n s.ma.c, .slice s.ho.A s.ho.n s.ho.c]] w (RetB w (fun b => AlCond kind s → b = true)) := by
  have hba := h.ba.len
  have hah := h.ah.len
  have hq0 := h.co.cap
  have hq1 := h.tt.cap
  have hq2 := h.li.cap
  have hq3 := h.inn.cap
  have hq4 := h.ne.cap
  have hq5 := h.va.cap
  have hq6 := h.pr.cap
  have hq7 := h.cu.cap
  have hq8 := h.ma.cap
  have hq9 := h.ho.cap
  have hq20 := h.ba.cap
  have hq21 := h.ah.cap
  clear h
  obtain ⟨w1, hw_w1⟩ : ∃ z, z = w.alloc (.cells #[.slice s.co.A s.co.n s.co.c, .slice s.tt.A s.tt.n s.tt.c, .slice s.li.A s.li.n s.li.c, .slice s.ba.A s.ba.n s.ba.c, .slice s.inn.A s.inn.n s.inn.c, .slice s.ah.A s.ah.n s.ah.c, .slice s.ne.A s.ne.n s.ne.c, .slice s.va.A s.va.n s.va.c, .slice s.pr.A s.pr.n s.pr.c, .slice s.cu.A s.cu.n s.cu.c, .slice s.ma.A s.ma.n s.ma.c, .slice s.ho.A s.ho.n s.ho.c] 60) := ⟨_, rfl⟩
  have hs_w1 : w1.heap.size = w.heap.size + 1 := by rw [hw_w1]; simp
  have hb_w1 : Below w.heap.size w w1 := by rw [hw_w1]; exact (Below.refl _ _).alloc (Nat.le_refl _) _
  have hx_0 : w1.heap[w.heap.size]? = some (.cells #[.slice s.co.A s.co.n s.co.c, .slice s.tt.A s.tt.n s.tt.c, .slice s.li.A s.li.n s.li.c, .slice s.ba.A s.ba.n s.ba.c, .slice s.inn.A s.inn.n s.inn.c, .slice s.ah.A s.ah.n s.ah.c, .slice s.ne.A s.ne.n s.ne.c, .slice s.va.A s.va.n s.va.c, .slice s.pr.A s.pr.n s.pr.c, .slice s.cu.A s.cu.n s.cu.c, .slice s.ma.A s.ma.n s.ma.c, .slice s.ho.A s.ho.n s.ho.c] 60 (0, 0)) := by rw [hw_w1]; exact heap_alloc_new _ _
  have s0 := up_fact (show w1.cell? ⟨w.heap.size, 0, none⟩ = some (.slice s.co.A s.co.n s.co.c) by rw [cell_of_row _ _ 0 _ _ _ hx_0]; rfl)
  have s1 := up_fact (show w1.cell? ⟨w.heap.size, 1, none⟩ = some (.slice s.tt.A s.tt.n s.tt.c) by rw [cell_of_row _ _ 1 _ _ _ hx_0]; rfl)
  have s2 := up_fact (show w1.cell? ⟨w.heap.size, 2, none⟩ = some (.slice s.li.A s.li.n s.li.c) by rw [cell_of_row _ _ 2 _ _ _ hx_0]; rfl)
  have s3 := up_fact (show w1.cell? ⟨w.heap.size, 3, none⟩ = some (.slice s.ba.A s.ba.n s.ba.c) by rw [cell_of_row _ _ 3 _ _ _ hx_0]; rfl)
  have s4 := up_fact (show w1.cell? ⟨w.heap.size, 4, none⟩ = some (.slice s.inn.A s.inn.n s.inn.c) by rw [cell_of_row _ _ 4 _ _ _ hx_0]; rfl)
  have s5 := up_fact (show w1.cell? ⟨w.heap.size, 5, none⟩ = some (.slice s.ah.A s.ah.n s.ah.c) by rw [cell_of_row _ _ 5 _ _ _ hx_0]; rfl)
  have s6 := up_fact (show w1.cell? ⟨w.heap.size, 6, none⟩ = some (.slice s.ne.A s.ne.n s.ne.c) by rw [cell_of_row _ _ 6 _ _ _ hx_0]; rfl)
  have s7 := up_fact (show w1.cell? ⟨w.heap.size, 7, none⟩ = some (.slice s.va.A s.va.n s.va.c) by rw [cell_of_row _ _ 7 _ _ _ hx_0]; rfl)
  have s8 := up_fact (show w1.cell? ⟨w.heap.size, 8, none⟩ = some (.slice s.pr.A s.pr.n s.pr.c) by rw [cell_of_row _ _ 8 _ _ _ hx_0]; rfl)
  have s9 := up_fact (show w1.cell? ⟨w.heap.size, 9, none⟩ = some (.slice s.cu.A s.cu.n s.cu.c) by rw [cell_of_row _ _ 9 _ _ _ hx_0]; rfl)
  have s10 := up_fact (show w1.cell? ⟨w.heap.size, 10, none⟩ = some (.slice s.ma.A s.ma.n s.ma.c) by rw [cell_of_row _ _ 10 _ _ _ hx_0]; rfl)
  have s11 := up_fact (show w1.cell? ⟨w.heap.size, 11, none⟩ = some (.slice s.ho.A s.ho.n s.ho.c) by rw [cell_of_row _ _ 11 _ _ _ hx_0]; rfl)
  have hA0 := Below.refl w1.heap.size w1
  have HS1 := Lib.hid hs_w1
  have hs1 : w.heap.size + 0 < w1.heap.size := by omega
  have HB1 := Lib.hid hb_w1
  have HW_w1 := Lib.hid hw_w1
  clear hw_w1 hs_w1 hb_w1
  clear hx_0
  obtain ⟨c0, hc0⟩ : ∃ q, decide ((0 : Int) < (s.co.n : Int)) = q := ⟨_, rfl⟩
  have hd0 : decide (0 < s.co.n) = c0 := by rw [← hc0]; simp
  have Z0 := Lib.hid (show s.co.n = 0 → c0 = false from fun h => by rw [← hd0, h]; rfl)
  obtain ⟨c1, hc1⟩ : ∃ q, decide ((0 : Int) < (s.tt.n : Int)) = q := ⟨_, rfl⟩
  have hd1 : decide (0 < s.tt.n) = c1 := by rw [← hc1]; simp
  have Z1 := Lib.hid (show s.tt.n = 0 → c1 = false from fun h => by rw [← hd1, h]; rfl)
  obtain ⟨c2, hc2⟩ : ∃ q, decide ((0 : Int) < (s.li.n : Int)) = q := ⟨_, rfl⟩
  have hd2 : decide (0 < s.li.n) = c2 := by rw [← hc2]; simp
  have Z2 := Lib.hid (show s.li.n = 0 → c2 = false from fun h => by rw [← hd2, h]; rfl)
  have wr3 : IntKind.i64.wrap ((s.ba.n : Int) + (s.ah.n : Int)) = ((s.ba.n + s.ah.n : Nat) : Int) := by rw [IntKind.wrap_i64]; omega
  obtain ⟨c3, hc3⟩ : ∃ q, decide ((0 : Int) < ((s.ba.n + s.ah.n : Nat) : Int)) = q := ⟨_, rfl⟩
  have hd3 : decide (0 < s.ba.n + s.ah.n) = c3 := by rw [← hc3]; exact decide_eq_decide.2 (by omega)
  have he3 : decide ((0 : Int) < (s.ba.n : Int) + (s.ah.n : Int)) = c3 := by rw [← hc3]; exact decide_eq_decide.2 (by omega)
  have Z3 := Lib.hid (show s.ba.n = 0 → s.ah.n = 0 → c3 = false from fun h1 h2 => by rw [← hd3, h1, h2]; rfl)
  obtain ⟨c4, hc4⟩ : ∃ q, decide ((0 : Int) < (s.inn.n : Int)) = q := ⟨_, rfl⟩
  have hd4 : decide (0 < s.inn.n) = c4 := by rw [← hc4]; simp
  have Z4 := Lib.hid (show s.inn.n = 0 → c4 = false from fun h => by rw [← hd4, h]; rfl)
  obtain ⟨c5, hc5⟩ : ∃ q, decide ((0 : Int) < (s.ne.n : Int)) = q := ⟨_, rfl⟩
  have hd5 : decide (0 < s.ne.n) = c5 := by rw [← hc5]; simp
  have Z5 := Lib.hid (show s.ne.n = 0 → c5 = false from fun h => by rw [← hd5, h]; rfl)
  obtain ⟨c6, hc6⟩ : ∃ q, decide ((0 : Int) < (s.va.n : Int)) = q := ⟨_, rfl⟩
  have hd6 : decide (0 < s.va.n) = c6 := by rw [← hc6]; simp
  have Z6 := Lib.hid (show s.va.n = 0 → c6 = false from fun h => by rw [← hd6, h]; rfl)
  obtain ⟨c7, hc7⟩ : ∃ q, decide ((0 : Int) < (s.pr.n : Int)) = q := ⟨_, rfl⟩
  have hd7 : decide (0 < s.pr.n) = c7 := by rw [← hc7]; simp
  have Z7 := Lib.hid (show s.pr.n = 0 → c7 = false from fun h => by rw [← hd7, h]; rfl)
  obtain ⟨c8, hc8⟩ : ∃ q, decide ((0 : Int) < (s.cu.n : Int)) = q := ⟨_, rfl⟩
  have hd8 : decide (0 < s.cu.n) = c8 := by rw [← hc8]; simp
  have Z8 := Lib.hid (show s.cu.n = 0 → c8 = false from fun h => by rw [← hd8, h]; rfl)
  obtain ⟨c9, hc9⟩ : ∃ q, decide ((0 : Int) < (s.ma.n : Int)) = q := ⟨_, rfl⟩
  have hd9 : decide (0 < s.ma.n) = c9 := by rw [← hc9]; simp
  have Z9 := Lib.hid (show s.ma.n = 0 → c9 = false from fun h => by rw [← hd9, h]; rfl)
  obtain ⟨c10, hc10⟩ : ∃ q, decide ((0 : Int) < (s.ho.n : Int)) = q := ⟨_, rfl⟩
  have hd10 : decide (0 < s.ho.n) = c10 := by rw [← hc10]; simp
  have Z10 := Lib.hid (show s.ho.n = 0 → c10 = false from fun h => by rw [← hd10, h]; rfl)
  have HMK := Lib.hid (@run_makeMap Try.prog)
  have hmm := HMK.out
  have hA := hA0.alloc hA0.size (.map #[] 0)
  have hMB := MB.made w1 Try.prog 9 4
  go_enter Try.func28, Try.ntmps28
  go_upto_region 1 with fail
  rw [← HW_w1.out]
  go_cut [5] (fun v W => v = .map (some w1.heap.size) ∧ Below w1.heap.size w1 W ∧ Hid (MB W Try.prog 9 4 w1.heap.size 11 (S11 c0 c1 c2 c3 c4 c5 c6 c7 c8 c9 c10)))
  case first =>
    go_wp2_with (first | (refine wpList_put_mb rfl _ _ _ 90 (.inr rfl) 9 4 lawStr Try.underlying90 Try.underlying4 w1.heap.size rfl hMB (by unfold maxLen; omega) _ _ _ rfl rfl (WideMaps.keyOf_string_mk Try.underlying9 (by exact Nat.le_of_ble_eq_true rfl)) ?_; intro w2 hMB2 hg2; have hA := below_put hA hg2 (Nat.le_refl _) hA.size; have hMB := hMB2; clear hMB2 hg2))
    go_meet
    exact ⟨rfl, hA, Lib.hid hMB⟩
  obtain ⟨rfl, hA1, HMB⟩ := hcut
  clear hMB hA hmm hc0 hd0 hc1 hd1 hc2 hd2 hc3 hd3 hc4 hd4 hc5 hd5 hc6 hd6 hc7 hd7 hc8 hd8 hc9 hd9 hc10 hd10 he3 wr3 s0 s1 s2 s3 s4 s5 s6 s7 s8 s9 s10 s11
  go_upto_region 2 with fail
  obtain ⟨wo, hwo⟩ : ∃ wo : World, wo = wc := ⟨_, rfl⟩
  subst hwo
  go_cut [6] (fun v W => ∃ A n ks, v = .slice A n n ∧ Below w1.heap.size w1 W ∧ Hid (MB W Try.prog 9 4 w1.heap.size 11 (S11 c0 c1 c2 c3 c4 c5 c6 c7 c8 c9 c10)) ∧ Hid (StrRow W w1.heap.size A n ks) ∧ Hid (AlCond kind s → ks = ownOf kind))
  case first =>
    have hbl := HMB.out.lt
    have hix := @ixAny kind hk1 hk2
    go_wp2_with fail
    go_meet
    clear hix
    obtain rfl | rfl | rfl | rfl | rfl | rfl | rfl | rfl | rfl | rfl | rfl | rfl : kind = 1 ∨ kind = 2 ∨ kind = 3 ∨ kind = 4 ∨ kind = 5 ∨ kind = 6 ∨ kind = 7 ∨ kind = 8 ∨ kind = 9 ∨ kind = 10 ∨ kind = 11 ∨ kind = 12 := by omega
    · have HOWN := Lib.hid (show AlCond 1 s → [⟨#[99, 111, 118, 101, 114]⟩, ⟨#[116, 111]⟩] = ownOf 1 from (fun _ => rfl))
      refine ⟨_, _, [⟨#[99, 111, 118, 101, 114]⟩, ⟨#[116, 111]⟩], rfl, ?_, Lib.hid ?_, Lib.hid ?_, HOWN⟩
      · repeat (first | exact hA1 | refine bup_alloc ?_ _)
      · repeat (first | exact HMB.out | refine MB.alloc ?_ _)
      · refine (StrRow.alloc (StrRow.alloc (StrRow.alloc (StrRow.alloc (StrRow.alloc (StrRow.alloc (StrRow.alloc (StrRow.alloc (StrRow.alloc (StrRow.alloc (StrRow.alloc ?_ _) _) _) _) _) _) _) _) _) _) _)
        exact StrRow.lit2 (by repeat (first | exact hbl | refine lt_alloc ?_ _)) (by first | rfl | simp only [size_alloc]) (by decide) (by decide)
    · have HOWN := Lib.hid (show AlCond 2 s → [⟨#[99, 111, 118, 101, 114]⟩, ⟨#[116, 111]⟩] = ownOf 2 from (fun _ => rfl))
      refine ⟨_, _, [⟨#[99, 111, 118, 101, 114]⟩, ⟨#[116, 111]⟩], rfl, ?_, Lib.hid ?_, Lib.hid ?_, HOWN⟩
      · repeat (first | exact hA1 | refine bup_alloc ?_ _)
      · repeat (first | exact HMB.out | refine MB.alloc ?_ _)
      · refine (StrRow.alloc (StrRow.alloc (StrRow.alloc (StrRow.alloc (StrRow.alloc (StrRow.alloc (StrRow.alloc (StrRow.alloc (StrRow.alloc (StrRow.alloc ?_ _) _) _) _) _) _) _) _) _) _)
        exact StrRow.lit2 (by repeat (first | exact hbl | refine lt_alloc ?_ _)) (by first | rfl | simp only [size_alloc]) (by decide) (by decide)
    · have HOWN := Lib.hid (show AlCond 3 s → [⟨#[99, 111, 118, 101, 114]⟩, ⟨#[108, 105, 103, 115]⟩] = ownOf 3 from (fun h => by rcases h with ⟨h, _⟩ | ⟨h, _⟩ <;> omega))
      refine ⟨_, _, [⟨#[99, 111, 118, 101, 114]⟩, ⟨#[108, 105, 103, 115]⟩], rfl, ?_, Lib.hid ?_, Lib.hid ?_, HOWN⟩
      · repeat (first | exact hA1 | refine bup_alloc ?_ _)
      · repeat (first | exact HMB.out | refine MB.alloc ?_ _)
      · refine (StrRow.alloc (StrRow.alloc (StrRow.alloc (StrRow.alloc (StrRow.alloc (StrRow.alloc (StrRow.alloc (StrRow.alloc (StrRow.alloc ?_ _) _) _) _) _) _) _) _) _)
        exact StrRow.lit2 (by repeat (first | exact hbl | refine lt_alloc ?_ _)) (by first | rfl | simp only [size_alloc]) (by decide) (by decide)
    · have HOWN := Lib.hid (show AlCond 4 s → [⟨#[97, 114, 111, 117, 110, 100]⟩, ⟨#[105, 110]⟩, ⟨#[110, 101, 115, 116, 115]⟩] = ownOf 4 from (fun _ => rfl))
      refine ⟨_, _, [⟨#[97, 114, 111, 117, 110, 100]⟩, ⟨#[105, 110]⟩, ⟨#[110, 101, 115, 116, 115]⟩], rfl, ?_, Lib.hid ?_, Lib.hid ?_, HOWN⟩
      · repeat (first | exact hA1 | refine bup_alloc ?_ _)
      · repeat (first | exact HMB.out | refine MB.alloc ?_ _)
      · refine (StrRow.alloc (StrRow.alloc (StrRow.alloc (StrRow.alloc (StrRow.alloc (StrRow.alloc (StrRow.alloc (StrRow.alloc ?_ _) _) _) _) _) _) _) _)
        exact StrRow.lit3 (by repeat (first | exact hbl | refine lt_alloc ?_ _)) (by first | rfl | simp only [size_alloc]) (by decide) (by decide) (by decide)
    · have HOWN := Lib.hid (show AlCond 5 s → [⟨#[99, 111, 118, 101, 114]⟩, ⟨#[116, 111]⟩, ⟨#[97, 114, 111, 117, 110, 100]⟩] = ownOf 5 from (fun h => by rcases h with ⟨h, _⟩ | ⟨h, _⟩ <;> omega))
      refine ⟨_, _, [⟨#[99, 111, 118, 101, 114]⟩, ⟨#[116, 111]⟩, ⟨#[97, 114, 111, 117, 110, 100]⟩], rfl, ?_, Lib.hid ?_, Lib.hid ?_, HOWN⟩
      · repeat (first | exact hA1 | refine bup_alloc ?_ _)
      · repeat (first | exact HMB.out | refine MB.alloc ?_ _)
      · refine (StrRow.alloc (StrRow.alloc (StrRow.alloc (StrRow.alloc (StrRow.alloc (StrRow.alloc (StrRow.alloc ?_ _) _) _) _) _) _) _)
        exact StrRow.lit3 (by repeat (first | exact hbl | refine lt_alloc ?_ _)) (by first | rfl | simp only [size_alloc]) (by decide) (by decide) (by decide)
    · have HOWN := Lib.hid (show AlCond 6 s → [⟨#[99, 111, 118, 101, 114]⟩, ⟨#[118, 97, 108, 117, 101, 115]⟩] = ownOf 6 from (fun h => by rcases h with ⟨h, _⟩ | ⟨h, _⟩ <;> omega))
      refine ⟨_, _, [⟨#[99, 111, 118, 101, 114]⟩, ⟨#[118, 97, 108, 117, 101, 115]⟩], rfl, ?_, Lib.hid ?_, Lib.hid ?_, HOWN⟩
      · repeat (first | exact hA1 | refine bup_alloc ?_ _)
      · repeat (first | exact HMB.out | refine MB.alloc ?_ _)
      · refine (StrRow.alloc (StrRow.alloc (StrRow.alloc (StrRow.alloc (StrRow.alloc (StrRow.alloc ?_ _) _) _) _) _) _)
        exact StrRow.lit2 (by repeat (first | exact hbl | refine lt_alloc ?_ _)) (by first | rfl | simp only [size_alloc]) (by decide) (by decide)
    · have HOWN := Lib.hid (show AlCond 7 s → [⟨#[112, 97, 105, 114, 115]⟩] = ownOf 7 from (fun h => by rcases h with ⟨h, _⟩ | ⟨h, _⟩ <;> omega))
      refine ⟨_, _, [⟨#[112, 97, 105, 114, 115]⟩], rfl, ?_, Lib.hid ?_, Lib.hid ?_, HOWN⟩
      · repeat (first | exact hA1 | refine bup_alloc ?_ _)
      · repeat (first | exact HMB.out | refine MB.alloc ?_ _)
      · refine (StrRow.alloc (StrRow.alloc (StrRow.alloc (StrRow.alloc (StrRow.alloc ?_ _) _) _) _) _)
        exact StrRow.lit1 (by repeat (first | exact hbl | refine lt_alloc ?_ _)) (by first | rfl | simp only [size_alloc]) (by decide)
    · have HOWN := Lib.hid (show AlCond 8 s → [⟨#[99, 117, 114, 115]⟩] = ownOf 8 from (fun h => by rcases h with ⟨h, _⟩ | ⟨h, _⟩ <;> omega))
      refine ⟨_, _, [⟨#[99, 117, 114, 115]⟩], rfl, ?_, Lib.hid ?_, Lib.hid ?_, HOWN⟩
      · repeat (first | exact hA1 | refine bup_alloc ?_ _)
      · repeat (first | exact HMB.out | refine MB.alloc ?_ _)
      · refine (StrRow.alloc (StrRow.alloc (StrRow.alloc (StrRow.alloc ?_ _) _) _) _)
        exact StrRow.lit1 (by repeat (first | exact hbl | refine lt_alloc ?_ _)) (by first | rfl | simp only [size_alloc]) (by decide)
    · have HOWN := Lib.hid (show AlCond 9 s → [⟨#[109, 97, 114, 107, 115]⟩, ⟨#[104, 111, 115, 116, 115]⟩] = ownOf 9 from (fun h => by rcases h with ⟨h, _⟩ | ⟨h, _⟩ <;> omega))
      refine ⟨_, _, [⟨#[109, 97, 114, 107, 115]⟩, ⟨#[104, 111, 115, 116, 115]⟩], rfl, ?_, Lib.hid ?_, Lib.hid ?_, HOWN⟩
      · repeat (first | exact hA1 | refine bup_alloc ?_ _)
      · repeat (first | exact HMB.out | refine MB.alloc ?_ _)
      · refine (StrRow.alloc (StrRow.alloc (StrRow.alloc ?_ _) _) _)
        exact StrRow.lit2 (by repeat (first | exact hbl | refine lt_alloc ?_ _)) (by first | rfl | simp only [size_alloc]) (by decide) (by decide)
    · have HOWN := Lib.hid (show AlCond 10 s → [⟨#[109, 97, 114, 107, 115]⟩, ⟨#[104, 111, 115, 116, 115]⟩] = ownOf 10 from (fun h => by rcases h with ⟨h, _⟩ | ⟨h, _⟩ <;> omega))
      refine ⟨_, _, [⟨#[109, 97, 114, 107, 115]⟩, ⟨#[104, 111, 115, 116, 115]⟩], rfl, ?_, Lib.hid ?_, Lib.hid ?_, HOWN⟩
      · repeat (first | exact hA1 | refine bup_alloc ?_ _)
      · repeat (first | exact HMB.out | refine MB.alloc ?_ _)
      · refine (StrRow.alloc (StrRow.alloc ?_ _) _)
        exact StrRow.lit2 (by repeat (first | exact hbl | refine lt_alloc ?_ _)) (by first | rfl | simp only [size_alloc]) (by decide) (by decide)
    · have HOWN := Lib.hid (show AlCond 11 s → [⟨#[109, 97, 114, 107, 115]⟩, ⟨#[104, 111, 115, 116, 115]⟩] = ownOf 11 from (fun h => by rcases h with ⟨h, _⟩ | ⟨h, _⟩ <;> omega))
      refine ⟨_, _, [⟨#[109, 97, 114, 107, 115]⟩, ⟨#[104, 111, 115, 116, 115]⟩], rfl, ?_, Lib.hid ?_, Lib.hid ?_, HOWN⟩
      · repeat (first | exact hA1 | refine bup_alloc ?_ _)
      · repeat (first | exact HMB.out | refine MB.alloc ?_ _)
      · refine (StrRow.alloc ?_ _)
        exact StrRow.lit2 (by repeat (first | exact hbl | refine lt_alloc ?_ _)) (by first | rfl | simp only [size_alloc]) (by decide) (by decide)
    · have HOWN := Lib.hid (show AlCond 12 s → [⟨#[97, 114, 111, 117, 110, 100]⟩, ⟨#[105, 110]⟩, ⟨#[110, 101, 115, 116, 115]⟩] = ownOf 12 from (fun h => by rcases h with ⟨h, _⟩ | ⟨h, _⟩ <;> omega))
      refine ⟨_, _, [⟨#[97, 114, 111, 117, 110, 100]⟩, ⟨#[105, 110]⟩, ⟨#[110, 101, 115, 116, 115]⟩], rfl, ?_, Lib.hid ?_, Lib.hid ?_, HOWN⟩
      · repeat (first | exact hA1 | refine bup_alloc ?_ _)
      · repeat (first | exact HMB.out | refine MB.alloc ?_ _)
      · exact StrRow.lit3 (by repeat (first | exact hbl | refine lt_alloc ?_ _)) (by first | rfl | simp only [size_alloc]) (by decide) (by decide) (by decide)
  obtain ⟨A, n, ks, rfl, hA2, HMB, HROW, HOWN⟩ := hcut
  clear hA1
  have hn3 := HROW.out.2.1
  have hkl := HROW.out.1
  go_upto_region 4 with fail
  obtain ⟨wo, hwo⟩ : ∃ wo : World, wo = wc := ⟨_, rfl⟩
  subst hwo
  go_loopw [78] (fun v wr => ∃ j : Nat, v = .int .i64 (j : Int) ∧ j ≤ n ∧ Below w1.heap.size w1 wr ∧ Hid (MB wr Try.prog 9 4 w1.heap.size (11 + j) (SJ (S11 c0 c1 c2 c3 c4 c5 c6 c7 c8 c9 c10) ks j)) ∧ Hid (StrRow wr w1.heap.size A n ks)) (fun v _ => n - (intOf v).toNat)
  case atStart => exact ⟨0, rfl, Nat.zero_le _, hA2, Lib.hid (HMB.out.weaker fun x hx => ⟨hx, fun p hp => by simp at hp⟩), HROW⟩
  case round =>
    obtain ⟨j, rfl, hj, hA, HMJ, HRJ⟩ := hrel
    by_cases hin : j < n
    · have r1 : decide ((j : Int) < (n : Int)) = true := by simp; omega
      have r2 : decide (j < n) = true := by simp; omega
      have sj : IntKind.i64.wrap ((j : Int) + 1) = (j : Int) + 1 := by rw [IntKind.wrap_i64]; omega
      obtain ⟨p, hp⟩ : ∃ p, ks[j]? = some p := ⟨_, List.getElem?_eq_getElem (by omega)⟩
      obtain ⟨hps, bb, o, eA, hne, hlt, hc⟩ := HRJ.out.2.2 j p hp
      have HEA := Lib.hid eA
      have HPJ := Lib.hid hp
      have HPS := Lib.hid hps
      clear eA hp hps
      rw [HEA.out]
      go_wp2_with (first | (refine wpList_put_mb rfl _ _ _ 90 (.inl rfl) 9 4 lawStr Try.underlying90 Try.underlying4 w1.heap.size rfl HMJ.out (by unfold maxLen; omega) _ _ _ rfl rfl (WideMaps.keyOf_string_mk Try.underlying9 (Nat.le_trans HPS.out (by unfold maxLen; omega))) ?_; intro w2 hMB2 hg2; have hA3 := below_put hA hg2 (Nat.le_refl _) hA.size; have HM3 := Lib.hid hMB2; have HR3 := Lib.hid (HRJ.out.kept hg2); clear hMB2 hg2))
      rw [← HEA.out]
      go_roundw
      case rel => exact ⟨j + 1, by go_num, by omega, hA3, Lib.hid (HM3.out.weaker fun x hx => SJ.next HPJ.out hx), HR3⟩
      case measure => simp [intOf] <;> omega
    · have r1 : decide ((j : Int) < (n : Int)) = false := by simp; omega
      have r2 : decide (j < n) = false := by simp; omega
      have HNO := Lib.hid (show AlCond kind s → ∀ x, ¬ SJ (S11 c0 c1 c2 c3 c4 c5 c6 c7 c8 c9 c10) ks j x from fun ha => by
        have e := HOWN.out ha
        subst e
        exact alone_none ha (by omega) ⟨Z0.out, Z1.out, Z2.out, Z3.out, Z4.out, Z5.out, Z6.out, Z7.out, Z8.out, Z9.out, Z10.out⟩)
      clear hin
      have hbr := HMJ.out.lt
      go_wp2_with (first | (at_range; refine wpList_range_mb rfl _ 90 rfl 9 4 lawStr Try.underlying90 w1.heap.size rfl HMJ.out ?_; intro w2 cnt0 hrg hg2 hs2; have hA3 := below_put hA (hg2.but (some w1.heap.size)) (Nat.le_refl _) hA.size; have HRG := Lib.hid hrg; clear hrg hg2))
      go_frame
      obtain ⟨r, hr⟩ : ∃ z, z = wr.heap.size := ⟨_, rfl⟩
      rw [← hr] at HRG ⊢
      have hrB : w1.heap.size ≤ r := by rw [hr]; exact hA.size
      clear hr hs2
      go_loopw [87] (fun _ wr => ∃ cnt, Hid (RG wr Try.prog 9 4 w1.heap.size r (11 + j) (SJ (S11 c0 c1 c2 c3 c4 c5 c6 c7 c8 c9 c10) ks j) cnt) ∧ Below w1.heap.size w1 wr) (fun _ wr => wr.rangeLeft w1.heap.size r)
      case atStart => exact ⟨cnt0, HRG, hA3⟩
      case round =>
        obtain ⟨cnt, HRG, hA⟩ := hrel
        go_wp2_with (first | (at_next; refine wpList_next_mb rfl _ rfl 9 4 lawStr Try.underlying4 w1.heap.size r cnt rfl HRG.out ?_ ?_))
        · go_wp2_with fail
          go_ret
          exact ⟨true, rfl, (fun _ => rfl), HB1.out.trans (hA.mono (by omega))⟩
        · intro x v w4 cnt' hbi hrg4 hlt4 hg4 hs4 hen
          obtain ⟨c, rfl, hct⟩ := hbi
          have hA4 := below_put hA hg4 hrB hA.size
          have HR4 := Lib.hid hrg4
          have HCT := Lib.hid hct
          clear hct hrg4 hg4
          cases c with
          | true =>
            go_wp2_with fail
            go_ret
            exact ⟨false, rfl, (fun ha => by obtain ⟨kl, hk⟩ := HCT.out (by trivial); exact absurd hk (HNO.out ha kl)), HB1.out.trans (hA4.mono (by omega))⟩
          | false =>
            go_wp2_with fail
            go_roundw
            case rel => exact ⟨cnt', HR4, hA4⟩
            case measure => rw [HR4.out.left_eq, HRG.out.left_eq]; exact hlt4

end Go.Proofs.Ytngdolmmaiogiaa
