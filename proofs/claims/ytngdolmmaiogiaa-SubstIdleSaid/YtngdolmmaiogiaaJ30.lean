/- Joined: MapB FkN. -/
import Derived.Maps.RangeWalk
import Derived.Maps.OwnSet
import Derived.Test.YtngdolmmaiogiaaJ27
import Derived.Test.YtngdolmmaiogiaaJ26
import Derived.Maps.OwnOps
import Derived.DeepKeys4

/- A map of the call's own whose elements are bools: which keys may hold a true one. Over any program. No condition. -/
namespace Go.Proofs.Ytngdolmmaiogiaa
open Go.RowKit Go.Maps

/-- block b is a map of at most n entries; a key of which S does not hold reads false -/
def MB (w : World) (P : Program) (k e : TypeId) (b n : Nat) (S : Lit → Prop) : Prop :=
  ∃ D : DataW Unit, w.ownsMap P k (plainElem P e) b n D ∧ ∀ kl, ¬ S kl → D.atKey kl (.lit (.bool false)) = .lit (.bool false)
section
variable {P : Program} {w w' : World} {k e t : TypeId} {b n : Nat} {S S' : Lit → Prop}
theorem MB.made (w : World) (P : Program) (k e : TypeId) : MB (w.alloc (.map #[] 0)) P k e w.heap.size 0 (fun _ => False) :=
  ⟨.map [], World.ownsMap_made w P k (plainElem P e), fun _ _ => rfl⟩
theorem MB.kept {row : Option Nat} (h : MB w P k e b n S) (hg : w.grownBy w' row) (hne : some b ≠ row) : MB w' P k e b n S := by
  obtain ⟨D, h1, h2⟩ := h; exact ⟨D, h1.kept hg hne, h2⟩
theorem MB.alloc (h : MB w P k e b n S) (o : Obj) : MB (w.alloc o) P k e b n S := h.kept (World.grownBy_alloc w o none) (by simp)
theorem MB.lt (h : MB w P k e b n S) : b < w.heap.size := by obtain ⟨D, h1, _⟩ := h; exact h1.lt
theorem MB.below {B : Nat} (h : MB w P k e b n S) (hb : Below B w w') (hB : b < B) : MB w' P k e b n S := by
  obtain ⟨D, ⟨es, clock, h0, h3⟩, h2⟩ := h
  exact ⟨D, ⟨es, clock, (hb.block b hB).trans h0, h3⟩, h2⟩
theorem MB.weaker (h : MB w P k e b n S) (hS : ∀ x, S x → S' x) : MB w P k e b n S' := by
  obtain ⟨D, h1, h2⟩ := h; exact ⟨D, h1, fun kl hk => h2 kl fun hs => hk (hS kl hs)⟩
theorem MB.more {n' : Nat} (h : MB w P k e b n S) (hn : n ≤ n') : MB w P k e b n' S := by
  obtain ⟨D, h1, h2⟩ := h; exact ⟨D, h1.mono hn, h2⟩
/-- what may hold a true one behind a store -/
def updS (S : Lit → Prop) (kl : Lit) (c : Bool) : Lit → Prop := fun x => (x = kl ∧ c = true) ∨ (x ≠ kl ∧ S x)
theorem MB.update (h : MB w P k e b n S) (K : Keyed P k) (ht : P.underlying t = some (.map k e)) (he : P.underlying e = some .bool) (hn : n < maxLen) {key : Value} {kl : Lit} {c : Bool} (hkey : keyOf P k key = some kl) :
    ∃ w', (Instr.mapUpdate t (.map (some b)) key (.bool c)).run P w = .ok () w' ∧ MB w' P k e b (n + 1) (updS S kl c) ∧ w.grownBy w' (some b) := by
  obtain ⟨D, h1, h2⟩ := h
  obtain ⟨w', hrun, h3, h4⟩ := h1.update K ht hn hkey (plainElem_bool he c)
  refine ⟨w', hrun, ⟨_, h3, fun x hx => ?_⟩, h4⟩
  by_cases hxk : x = kl
  · subst hxk
    rw [atKey_put_same h1.isMap (K.key hkey)]
    cases c with
    | false => rfl
    | true => exact absurd (.inl ⟨rfl, rfl⟩) hx
  · rw [atKey_put_other hxk]
    exact h2 x fun hs => hx (.inr ⟨hxk, hs⟩)
theorem plainElem_bool_inv (he : P.underlying e = some .bool) {v : Value} {y : DataW Unit × List MemPlace} (h : plainElem P e v = some y) : ∃ c, v = .bool c ∧ y = (.lit (.bool c), []) := by
  unfold plainElem at h
  rw [he] at h
  split at h
  · rename_i x h1; cases h; exact ⟨x, rfl, rfl⟩
  · rename_i h1; cases h1
  · rename_i h1; cases h1
  · cases h
theorem MB.lookup (h : MB w P k e b n S) (K : Keyed P k) (ht : P.underlying t = some (.map k e)) (he : P.underlying e = some .bool) (hz : (zeroValue e).run P w = .ok (.bool false) w) {key : Value} {kl : Lit} (hkey : keyOf P k key = some kl) :
    ∃ c, (Instr.lookup t (.map (some b)) key false).run P w = .ok (.bool c) w := by
  obtain ⟨D, h1, _⟩ := h
  obtain ⟨v, ps, hrun, hv⟩ := h1.lookup K ht hz (plainElem_bool he false) hkey
  obtain ⟨c, rfl, _⟩ := plainElem_bool_inv he hv
  exact ⟨c, hrun⟩
theorem below_put {B : Nat} (h : Below B w w') {w'' : World} (hg : w'.grownBy w'' (some b)) (hB : B ≤ b) (hs : B ≤ w'.heap.size) : Below B w w'' :=
  ⟨hg.os.trans h.os, hg.tape.trans h.tape, hg.output.trans h.output, Nat.le_trans h.size hg.size, fun j hj => (hg.block j (by omega) (fun e => by cases e; omega)).trans (h.block j hj)⟩
end
section
variable {P : Program} {w : World} {ops : Array Oper} {rest : List Oper} {o : Oper} {a : Act} {Q : Exit → Act → World → Prop} {k e t : TypeId} {b n : Nat} {S : Lit → Prop}
/-- 'm[k] = c', and an entry of a literal -/
theorem wpList_put_mb (hg : o.guard = none) (m x v : Operand) (t : TypeId) (hop : o.op = Op.mapUpdate t m x v ∨ o.op = Op.insert t m x v) (k e : TypeId) (K : Keyed P k) (ht : P.underlying t = some (.map k e)) (he : P.underlying e = some .bool)
    (b : Nat) (hm : a.eval m = .map (some b)) (h : MB w P k e b n S) (hn : n < maxLen) (key : Value) (kl : Lit) (c : Bool) (hx : a.eval x = key) (hv : a.eval v = .bool c) (hkey : keyOf P k key = some kl)
    (hK : ∀ w', MB w' P k e b (n + 1) (updS S kl c) → w.grownBy w' (some b) → wpList P ops Q rest (a.put o.dst undef) w') : wpList P ops Q (o :: rest) a w := by
  refine wpList_plain hg fun K' hK' => ?_
  obtain ⟨w', hrun, r1, r2⟩ := h.update K ht he hn (c := c) hkey
  unfold Oper.wp
  rcases hop with hop | hop
  · simp [execOp, hop, hm, hx, hv, hrun, Result.andThen]
    exact hK' _ _ (hK w' r1 r2)
  · simp [execOp, hop, hm, hx, hv, hrun, Result.andThen]
    exact hK' _ _ (hK w' r1 r2)
/-- a map's range under way: b's entries that S does not hold of are false -/
def RG (w : World) (P : Program) (k e : TypeId) (b r n : Nat) (S : Lit → Prop) (cnt : Nat) : Prop :=
  ∃ (D : DataW Unit) (left : Lit → Bool), w.ranges P k (plainElem P e) b r n D left cnt ∧ ∀ kl, ¬ S kl → D.atKey kl (.lit (.bool false)) = .lit (.bool false)
theorem RG.left_eq {r cnt : Nat} (h : RG w P k e b r n S cnt) : w.rangeLeft b r = cnt := by obtain ⟨D, left, h, _⟩ := h; exact h.left_eq
theorem wpList_range_mb (hg : o.guard = none) (m : Operand) (t : TypeId) (hop : o.op = Op.range t m) (k e : TypeId) (K : Keyed P k) (ht : P.underlying t = some (.map k e)) (b : Nat) (hm : a.eval m = .map (some b)) (h : MB w P k e b n S)
    (hK : ∀ w' cnt, RG w' P k e b w.heap.size n S cnt → w.grownBy w' none → w'.heap.size = w.heap.size + 1 → wpList P ops Q rest (a.put o.dst (.pointer (some ⟨w.heap.size, 0, none⟩))) w') : wpList P ops Q (o :: rest) a w := by
  obtain ⟨D, h1, h2⟩ := h
  exact wpList_range_own w hg m t hop k e K ht (plainElem P e) b n D hm h1 fun w' h3 h4 h5 => hK w' _ ⟨D, _, h3, h2⟩ h4 h5
/-- a bool, true only if S holds of some key -/
def BoolIn (S : Lit → Prop) (v : Value) : Prop := ∃ c : Bool, v = .bool c ∧ (c = true → ∃ kl, S kl)
theorem wpList_next_mb (hg : o.guard = none) (it : Operand) (hop : o.op = Op.next it false) (k e : TypeId) (K : Keyed P k) (he : P.underlying e = some .bool) (b r cnt : Nat)
    (hit : a.eval it = .pointer (some ⟨r, 0, none⟩)) (h : RG w P k e b r n S cnt)
    (hDone : wpList P ops Q rest (a.put o.dst (.tuple #[.bool false])) w)
    (hMore : ∀ (x v : Value) (w' : World) (cnt' : Nat), BoolIn S v → RG w' P k e b r n S cnt' → cnt' < cnt → w.grownBy w' (some r) → w'.heap.size = w.heap.size → (Instr.entry (.pointer (some ⟨r, 0, none⟩))).run P w' = .ok (.tuple #[x, v]) w' →
      wpList P ops Q rest (a.put o.dst (.tuple #[.bool true, x, v])) w') : wpList P ops Q (o :: rest) a w := by
  obtain ⟨D, left, h1, h2⟩ := h
  refine wpList_next_ranges w hg it hop k K (plainElem P e) (fun x => x) Value.bool (fun key _ _ => ⟨key, rfl⟩) (fun v y hv => by obtain ⟨c, e1, _⟩ := plainElem_bool_inv he hv; exact ⟨c, e1⟩) b r n D left cnt hit h1 (fun _ _ => hDone) fun x c kl y w' cnt' hkey hlk hv hat hrg hlt hgr hsz hen => ?_
  refine hMore x (.bool c) w' cnt' ⟨c, rfl, fun hc => ?_⟩ ⟨D, _, hrg, h2⟩ hlt hgr hsz hen
  obtain ⟨c', e1, rfl⟩ := plainElem_bool_inv he hv
  cases e1
  subst hc
  refine ⟨kl, Classical.byContradiction fun hns => ?_⟩
  have h3 := h2 kl hns
  rw [hat] at h3
  simp at h3
end

end Go.Proofs.Ytngdolmmaiogiaa

/- The walk of feats of the check. Condition: the font lies as one. Printed by wip/tools/g32m.py. Printed by wip/tools. -/
namespace Go.Proofs.Ytngdolmmaiogiaa
open Go.RowKit

theorem lawName : Maps.Keyed Try.prog 87 := Maps.Keyed.of_law (deep_law_laid (by kernel_rfl) (m := 5) (by omega) (Nat.le_of_ble_eq_true (by kernel_rfl)) (by kernel_rfl) (by kernel_rfl))
theorem zeroBool (w : World) : (zeroValue 4).run Try.prog w = .ok (.bool false) w := by kernel_rfl
theorem keyStr (m : Nat) {s : ByteArray} (hs : s.size ≤ maxLen) : Try.prog.keyLits (m + 1) 9 [.string s] = some [.string s.data.toList] := by
  unfold Program.keyLits
  rw [Try.underlying9]
  simp [hs]
theorem keyInt (m : Nat) {c : Int} (hw : (Lit.int .i64 c).wf = true) : Try.prog.keyLits (m + 1) 3 [.int .i64 c] = some [.int .i64 c] := by
  unfold Program.keyLits
  rw [Try.underlying3]
  simp [hw]
theorem nameLits (m : Nat) {s : ByteArray} {c : Int} (hs : s.size ≤ maxLen) (hw : (Lit.int .i64 c).wf = true) : Try.prog.keyLits (m + 1 + 1) 87 [.string s, .int .i64 c] = some [.string s.data.toList, .int .i64 c] := by
  unfold Program.keyLits
  rw [Try.underlying87]
  simp only
  have e1 : Try.prog.cellsOf 9 = 1 := by kernel_rfl
  have e2 : Try.prog.cellsOf 3 = 1 := by kernel_rfl
  rw [if_pos ⟨by kernel_rfl, by kernel_rfl⟩]
  simp [e1, e2, keyStr m hs, keyInt m hw]
theorem nameKey {s : ByteArray} {c : Int} (hs : s.size ≤ maxLen) (hw : (Lit.int .i64 c).wf = true) : ∃ kl, keyOf Try.prog 87 (.agg #[.string s, .int .i64 c]) = some kl := by
  have h1 : Try.prog.keyType 87 = true := by kernel_rfl
  have h2 : (Value.agg #[.string s, .int .i64 c]).formed Try.prog 87 = true := by kernel_rfl
  have h3 : Try.prog.types.size + 1 = (Try.prog.types.size - 1) + 1 + 1 := by kernel_rfl
  refine ⟨.string (keyBytes [.string s.data.toList, .int .i64 c]), ?_⟩
  unfold keyOf
  rw [Try.underlying87]
  simp only
  rw [if_pos (by rw [h1, h2]; rfl), h3]
  rw [show (Value.agg #[.string s, .int .i64 c]).cells.toList = [.string s, .int .i64 c] from rfl, nameLits _ hs hw]
  rfl
theorem wpList_lookup_mb {P : Program} {w : World} {ops : Array Oper} {rest : List Oper} {o : Oper} {a : Act} {Q : Exit → Act → World → Prop} {S : Lit → Prop} (hg : o.guard = none) (m x : Operand) (t : TypeId) (hop : o.op = Op.lookup t m x false) (k e : TypeId) (K : Maps.Keyed P k) (ht : P.underlying t = some (.map k e)) (he : P.underlying e = some .bool)
    (hz : (zeroValue e).run P w = .ok (.bool false) w) (b n : Nat) (hm : a.eval m = .map (some b)) (h : MB w P k e b n S) (key : Value) (hx : a.eval x = key) (hkey : ∃ kl, keyOf P k key = some kl)
    (hK : ∀ v, (∃ c : Bool, v = .bool c) → wpList P ops Q rest (a.put o.dst v) w) : wpList P ops Q (o :: rest) a w := by
  refine wpList_plain hg fun K' hK' => ?_
  obtain ⟨kl, hkl⟩ := hkey
  obtain ⟨c, hrun⟩ := h.lookup K ht he hz hkl
  unfold Oper.wp
  simp [execOp, hop, hm, hx, hrun, Result.andThen]
  exact hK' _ _ (hK _ ⟨c, rfl⟩)
set_option maxRecDepth 100000 in
set_option maxHeartbeats 4000000 in
theorem kfeats_any (F : Fnt) (B : Nat) (w : World) (h : FntOk w B F) (hB : B ≤ w.heap.size) :
    Calls Try.prog 20 #[.agg #[.int .i64 F.em, .slice F.GA F.gn F.gc, .slice F.MA F.mn F.mc, .slice F.LA F.ln F.lc, .slice F.FA F.fn F.fc, .slice F.SA F.sn F.sc]] w (RetB w (fun b => F.fn = 0 → b = true)) := by
  have hcap := h.hF.cap
  have hcl := h.hL.cap
  have HF0 := Lib.hid h.hF
  clear h
  obtain ⟨w1, hw_w1⟩ : ∃ z, z = w.alloc (.cells #[.int .i64 F.em, .slice F.GA F.gn F.gc, .slice F.MA F.mn F.mc, .slice F.LA F.ln F.lc, .slice F.FA F.fn F.fc, .slice F.SA F.sn F.sc] 71) := ⟨_, rfl⟩
  have hs_w1 : w1.heap.size = w.heap.size + 1 := by rw [hw_w1]; simp
  have hb_w1 : Below w.heap.size w w1 := by rw [hw_w1]; exact (Below.refl _ _).alloc (Nat.le_refl _) _
  have hx_0 : w1.heap[w.heap.size]? = some (.cells #[.int .i64 F.em, .slice F.GA F.gn F.gc, .slice F.MA F.mn F.mc, .slice F.LA F.ln F.lc, .slice F.FA F.fn F.fc, .slice F.SA F.sn F.sc] 71 (0, 0)) := by rw [hw_w1]; exact heap_alloc_new _ _
  have g0 := up_fact (show w1.cell? ⟨w.heap.size, 0, none⟩ = some (.int .i64 F.em) by rw [cell_of_row _ _ 0 _ _ _ hx_0]; rfl)
  have g1 := up_fact (show w1.cell? ⟨w.heap.size, 1, none⟩ = some (.slice F.GA F.gn F.gc) by rw [cell_of_row _ _ 1 _ _ _ hx_0]; rfl)
  have g2 := up_fact (show w1.cell? ⟨w.heap.size, 2, none⟩ = some (.slice F.MA F.mn F.mc) by rw [cell_of_row _ _ 2 _ _ _ hx_0]; rfl)
  have g3 := up_fact (show w1.cell? ⟨w.heap.size, 3, none⟩ = some (.slice F.LA F.ln F.lc) by rw [cell_of_row _ _ 3 _ _ _ hx_0]; rfl)
  have g4 := up_fact (show w1.cell? ⟨w.heap.size, 4, none⟩ = some (.slice F.FA F.fn F.fc) by rw [cell_of_row _ _ 4 _ _ _ hx_0]; rfl)
  have g5 := up_fact (show w1.cell? ⟨w.heap.size, 5, none⟩ = some (.slice F.SA F.sn F.sc) by rw [cell_of_row _ _ 5 _ _ _ hx_0]; rfl)
  have hA0 := Below.refl w1.heap.size w1
  have HS1 := Lib.hid hs_w1
  have hs1 : w.heap.size + 0 < w1.heap.size := by omega
  have HB1 := Lib.hid hb_w1
  have HW_w1 := Lib.hid hw_w1
  clear hw_w1 hs_w1 hb_w1
  clear hx_0
  have HF := Lib.hid (HF0.out.below (HB1.out.mono hB))
  have sl : IntKind.i64.wrap ((F.ln : Int) - 1) = (F.ln : Int) - 1 := by rw [IntKind.wrap_i64]; omega
  by_cases h64 : F.fn ≤ 64
  rotate_left
  · have q1 : decide ((64 : Int) < (F.fn : Int)) = true := by simp; omega
    have q2 : decide (64 < F.fn) = true := by simp; omega
    go_enter Try.func20, Try.ntmps20
    go_upto_region 1 with fail
    rw [← HW_w1.out]
    go_wp2_with fail
    go_ret
    exact ⟨false, rfl, (fun h => by omega), HB1.out⟩
  have q1 : decide ((64 : Int) < (F.fn : Int)) = false := by simp; omega
  have q2 : decide (64 < F.fn) = false := by simp; omega
  have HMK := Lib.hid (@run_makeMap Try.prog)
  have hmm := HMK.out
  have HMB0 := Lib.hid (MB.made w1 Try.prog 87 4)
  have hA1 := hA0.alloc hA0.size (.map #[] 0)
  go_enter Try.func20, Try.ntmps20
  go_upto_region 1 with fail
  rw [← HW_w1.out]
  go_upto_region 5 with fail
  clear hmm
  go_loopw [20] (fun v wr => ∃ k : Nat, v = .int .i64 (k : Int) ∧ k ≤ F.fn ∧ Below w1.heap.size w1 wr ∧ Hid (MB wr Try.prog 87 4 w1.heap.size k (fun _ => True))) (fun v _ => F.fn - (intOf v).toNat)
  case atStart => exact ⟨0, rfl, Nat.zero_le _, hA1, Lib.hid (HMB0.out.weaker fun _ _ => trivial)⟩
  case round =>
    obtain ⟨k, rfl, hk, hA, HMB⟩ := hrel
    by_cases hin : k < F.fn
    rotate_left
    · have r1 : decide ((k : Int) < (F.fn : Int)) = false := by simp; omega
      have r2 : decide (k < F.fn) = false := by simp; omega
      clear hin
      go_wp2_with fail
      go_ret
      exact ⟨true, rfl, (fun _ => rfl), HB1.out.trans (hA.mono (by omega))⟩
    have r1 : decide ((k : Int) < (F.fn : Int)) = true := by simp; omega
    have r2 : decide (k < F.fn) = true := by simp; omega
    have sk : IntKind.i64.wrap ((k : Int) + 1) = (k : Int) + 1 := by rw [IntKind.wrap_i64]; omega
    have hfn : F.fn ≠ 0 := by omega
    obtain ⟨b, o, ta, sc, Alo, nlo, clo, eA, hbb, ⟨c0, c1, c2⟩, hta, hsc, hlo⟩ := HF.out.atFeat hin
    obtain ⟨zs, hzs⟩ := hlo.ints
    have hzl := hzs.length
    have hzc := hzs.cap
    have hMlt := HMB.out.lt
    have y0 := (hA.cell (p := ⟨b, o + k * 3, none⟩) (by show b < _; omega)).trans c0
    have y1 := (hA.cell (p := ⟨b, o + k * 3 + 1, none⟩) (by show b < _; omega)).trans c1
    have y2 := (hA.cell (p := ⟨b, o + k * 3 + 2, none⟩) (by show b < _; omega)).trans c2
    have HKEY := Lib.hid (nameKey (s := ta) (c := sc) hta hsc)
    have HZ := Lib.hid hzs
    have HEA := Lib.hid eA
    have HRI := Lib.hid (fun W (hW : Below w1.heap.size w1 W) => krising_any B Alo nlo clo zs W (HZ.out.below (hW.mono (by omega))) (by have := hW.size; omega))
    clear c0 c1 c2 hlo hzs eA hta hsc
    rw [HEA.out]
    go_upto_region 7 with fail
    obtain ⟨w3, hw3⟩ : ∃ z, z = wr.alloc (.cells #[.string ta, .int .i64 sc, .slice Alo nlo clo] 85) := ⟨_, rfl⟩
    obtain ⟨bx, hbx⟩ : ∃ z, z = wr.heap.size := ⟨_, rfl⟩
    rw [← hw3, ← hbx]
    have hA3 := (show Below w1.heap.size w1 w3 by rw [hw3]; exact hA.alloc hA.size _)
    have hX : w3.heap[bx]? = some (.cells #[.string ta, .int .i64 sc, .slice Alo nlo clo] 85 (0, 0)) := by rw [hw3, hbx]; exact heap_alloc_new _ _
    have x0 := up_fact (show w3.cell? ⟨bx, 0, none⟩ = some (.string ta) by rw [cell_of_row _ _ 0 _ _ _ hX]; rfl)
    have x1 := up_fact (show w3.cell? ⟨bx, 1, none⟩ = some (.int .i64 sc) by rw [cell_of_row _ _ 1 _ _ _ hX]; rfl)
    have x2 := up_fact (show w3.cell? ⟨bx, 2, none⟩ = some (.slice Alo nlo clo) by rw [cell_of_row _ _ 2 _ _ _ hX]; rfl)
    have hC := Below.refl w3.heap.size w3
    have HAL := Lib.hid (show Below wr.heap.size wr w3 by rw [hw3]; exact (Below.refl _ _).alloc (Nat.le_refl _) _)
    clear hX hw3 hbx
    have HML := Lib.hid (show w1.heap.size < w3.heap.size from Nat.lt_of_lt_of_le hMlt HAL.out.size)
    have HM3 := Lib.hid (show MB w3 Try.prog 87 4 w1.heap.size k (fun _ => True) from HMB.out.below HAL.out hMlt)
    clear HAL
    go_cut [45] (fun v W => ∃ t : Bool, v = .bool t ∧ Below w1.heap.size w1 W ∧ Below w3.heap.size w3 W ∧ (t = false → ta.size = 4))
    case first =>
      by_cases hs4 : ta.size = 4
      · have r0 : ((ta.size : Int) != 4) = false := by simp [hs4]
        have HN := Lib.hid hs4
        clear hs4
        go_wp2_with (first | (go_at_call 23; refine (kwithin_any _ _ _ _).mono ?_; rintro e w9 ⟨rfl, rfl⟩) | (go_at_call 25; refine (HRI.out _ hA3).mono ?_; rintro e w8 ⟨b8, rfl, _, hb8⟩; have hA8 := bgo hA3 hb8; have hC8 := bgo hC hb8; clear hb8; rcases b8 with _ | _))
        all_goals
          go_meet
          first
            | exact ⟨_, rfl, hA8, hC8, fun _ => HN.out⟩
            | exact ⟨_, rfl, hA3, hC, fun _ => HN.out⟩
      · have r0 : ((ta.size : Int) != 4) = true := by simp [bne]; omega
        clear hs4
        go_wp2_with fail
        go_meet
        exact ⟨_, rfl, hA3, hC, fun h => by cases h⟩
    obtain ⟨t, rfl, hA6, hC6, hE⟩ := hcut
    have HE := Lib.hid hE
    clear hE hA3 hC
    rcases t with _ | _
    rotate_left
    · go_wp2_with fail
      go_ret
      exact ⟨false, rfl, (by first | trivial | exact fun h => absurd h hfn), HB1.out.trans (hA6.mono (by omega))⟩
    have hs4 := HE.out (by first | rfl | trivial)
    go_upto_region 10 with fail
    obtain ⟨wq, hwq⟩ : ∃ wq : World, wq = wc := ⟨_, rfl⟩
    subst hwq
    go_loopw [49] (fun v wr => ∃ j : Nat, v = .int .i64 (j : Int) ∧ j ≤ 4 ∧ Below w1.heap.size w1 wr ∧ Below w3.heap.size w3 wr) (fun v _ => 4 - (intOf v).toNat)
    case atStart => exact ⟨0, rfl, Nat.zero_le _, hA6, hC6⟩
    case round =>
      obtain ⟨j, rfl, hj, hA6, hC6⟩ := hrel
      by_cases hlj : j < 4
      · have hjs : j < ta.size := by omega
        have hz1 : decide ((j : Int) < (ta.size : Int)) = true := by simp; omega
        have hz2 : decide (j < ta.size) = true := by simp; omega
        have sj : IntKind.i64.wrap ((j : Int) + 1) = (j : Int) + 1 := by rw [IntKind.wrap_i64]; omega
        go_wp2_with fail
        all_goals first
          | (go_ret; exact ⟨false, rfl, (by first | trivial | exact fun h => absurd h hfn), HB1.out.trans (hA6.mono (by omega))⟩)
          | (go_roundw; (case rel => exact ⟨j + 1, by go_num, by omega, hA6, hC6⟩); (case measure => simp [intOf]; omega))
      have hz1 : decide ((j : Int) < (ta.size : Int)) = false := by simp; omega
      have hz2 : decide (j < ta.size) = false := by simp; omega
      go_upto_region 16 with fail
      obtain ⟨wp, hwp⟩ : ∃ wp : World, wp = wr := ⟨_, rfl⟩
      subst hwp
      go_loopw [68] (fun v wr => ∃ p : Nat, v = .int .i64 (p : Int) ∧ p ≤ nlo ∧ Below w1.heap.size w1 wr ∧ Below w3.heap.size w3 wr) (fun v _ => nlo - (intOf v).toNat)
      case atStart => exact ⟨0, rfl, Nat.zero_le _, hA6, hC6⟩
      case round =>
        obtain ⟨p, rfl, hp, hA6, hC6⟩ := hrel
        by_cases hlp : p < nlo
        · have p1 : decide ((p : Int) < (nlo : Int)) = true := by simp; omega
          have p2 : decide (p < nlo) = true := by simp; omega
          have sp : IntKind.i64.wrap ((p : Int) + 1) = (p : Int) + 1 := by rw [IntKind.wrap_i64]; omega
          obtain ⟨b5, o5, z, eZ, hb5, _, hz5⟩ := HZ.out.at_ hlp
          have hz5 := (hA6.cell (p := ⟨b5, o5 + p, none⟩) (by show b5 < _; omega)).trans hz5
          rw [eZ]
          cases hw : fkW z 0 ((F.ln : Int) - 1) with
          | true =>
            go_wp2_with (first | (go_at_call 23; refine (kwithin_any _ _ _ _).mono ?_; rintro e w9 ⟨rfl, rfl⟩))
            go_roundw
            case rel => exact ⟨p + 1, by go_num, by omega, hA6, hC6⟩
            case measure => simp [intOf] <;> omega
          | false =>
            go_wp2_with (first | (go_at_call 23; refine (kwithin_any _ _ _ _).mono ?_; rintro e w9 ⟨rfl, rfl⟩))
            go_ret
            exact ⟨false, rfl, (by first | trivial | exact fun h => absurd h hfn), HB1.out.trans (hA6.mono (by omega))⟩
        have p1 : decide ((p : Int) < (nlo : Int)) = false := by simp; omega
        have p2 : decide (p < nlo) = false := by simp; omega
        have HMW := Lib.hid (show MB wr Try.prog 87 4 w1.heap.size k (fun _ => True) from HM3.out.below hC6 (by have := hA6.size; exact HML.out))
        go_upto_region 22 with fail
        have HM7 := Lib.hid (HMW.out.alloc (.cells #[.string ta, .int .i64 sc] 87))
        obtain ⟨w7, hw3⟩ : ∃ z, z = wr.alloc (.cells #[.string ta, .int .i64 sc] 87) := ⟨_, rfl⟩
        obtain ⟨bn, hbx⟩ : ∃ z, z = wr.heap.size := ⟨_, rfl⟩
        rw [← hw3, ← hbx]
        have hA7 := (show Below w1.heap.size w1 w7 by rw [hw3]; exact hA6.alloc hA6.size _)
        have hX : w7.heap[bn]? = some (.cells #[.string ta, .int .i64 sc] 87 (0, 0)) := by rw [hw3, hbx]; exact heap_alloc_new _ _
        have v0 := up_fact (show w7.cell? ⟨bn, 0, none⟩ = some (.string ta) by rw [cell_of_row _ _ 0 _ _ _ hX]; rfl)
        have v1 := up_fact (show w7.cell? ⟨bn, 1, none⟩ = some (.int .i64 sc) by rw [cell_of_row _ _ 1 _ _ _ hX]; rfl)
        have hC7 := Below.refl w7.heap.size w7
        rw [← hw3] at HM7
        clear hX hw3 hbx
        go_wp2_with (first | (at_lookup; refine wpList_lookup_mb rfl _ _ 83 rfl 87 4 lawName Try.underlying83 Try.underlying4 (zeroBool _) w1.heap.size k rfl HM7.out _ rfl HKEY.out ?_; intro v hv))
        obtain ⟨c, rfl⟩ := hv
        cases c with
        | true =>
          go_wp2_with fail
          go_ret
          exact ⟨false, rfl, (by first | trivial | exact fun h => absurd h hfn), HB1.out.trans (hA7.mono (by omega))⟩
        | false =>
          obtain ⟨kl, hkl⟩ := HKEY.out
          go_wp2_with (first | (refine wpList_put_mb rfl _ _ _ 83 (.inl rfl) 87 4 lawName Try.underlying83 Try.underlying4 w1.heap.size rfl HM7.out (by unfold maxLen; omega) _ kl true rfl rfl hkl ?_; intro w9 hMB9 hg9; have hA9 := below_put hA7 hg9 (Nat.le_refl _) hA7.size; have HM9 := Lib.hid hMB9; clear hMB9 hg9))
          go_roundw
          case rel => exact ⟨k + 1, by go_num, by omega, hA9, Lib.hid (HM9.out.weaker fun _ _ => trivial)⟩
          case measure => simp [intOf] <;> omega

end Go.Proofs.Ytngdolmmaiogiaa
