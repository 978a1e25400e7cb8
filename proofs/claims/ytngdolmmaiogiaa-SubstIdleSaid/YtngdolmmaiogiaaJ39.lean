/- Joined: StR StepD LawA. -/
import Derived.Test.YtngdolmmaiogiaaJ38
import Derived.Deep.RegionHeldLaw
import Derived.Test.YtngdolmmaiogiaaJ36

/- Rows of steps of the call's own; an append to one. No condition. -/
namespace Go.Proofs.Ytngdolmmaiogiaa
open Go.RowKit

abbrev ST := Int × Int
def stCells (ps : List ST) : List Value := ps.flatMap fun a => [.int .i64 a.1, .int .i64 a.2]
theorem stCells_length : ∀ (l : List ST), (stCells l).length = l.length * 2
  | [] => rfl
  | e :: r => by have := stCells_length r; simp [stCells] at this ⊢; omega
theorem stCells_append (l m : List ST) : stCells (l ++ m) = stCells l ++ stCells m := by simp [stCells]
theorem stCells_one {l : List ST} : ∀ v ∈ stCells l, v.oneCell' = true := by
  intro v hv
  simp only [stCells, List.mem_flatMap] at hv
  obtain ⟨g, _, hg⟩ := hv
  simp only [List.mem_cons, List.not_mem_nil, or_false] at hg
  rcases hg with rfl | rfl <;> rfl
theorem stCells_at {l : List ST} {k : Nat} {a : ST} (hk : l[k]? = some a) : (stCells l)[k * 2]? = some (.int .i64 a.1) ∧ (stCells l)[k * 2 + 1]? = some (.int .i64 a.2) := by
  induction l generalizing k with
  | nil => simp at hk
  | cons e l ih =>
    rcases k with _ | k
    · simp only [List.getElem?_cons_zero, Option.some.injEq] at hk
      subst hk
      exact ⟨rfl, rfl⟩
    · simp only [List.getElem?_cons_succ] at hk
      have h1 := ih hk
      refine ⟨?_, ?_⟩
      · show ([Value.int .i64 e.1, .int .i64 e.2] ++ stCells l)[(k + 1) * 2]? = _
        rw [List.getElem?_append_right (by simp; omega), show (k + 1) * 2 - [Value.int .i64 e.1, Value.int .i64 e.2].length = k * 2 by simp; omega]
        exact h1.1
      · show ([Value.int .i64 e.1, .int .i64 e.2] ++ stCells l)[(k + 1) * 2 + 1]? = _
        rw [List.getElem?_append_right (by simp; omega), show (k + 1) * 2 + 1 - [Value.int .i64 e.1, Value.int .i64 e.2].length = k * 2 + 1 by simp; omega]
        exact h1.2
/-- a row of steps of the call's own -/
def StRow (w : World) (base : Nat) (A : Option Addr) (n c : Nat) (ps : List ST) : Prop := ps.length = n ∧ w.ownsRow base 45 2 (.slice A n c) n (stCells ps)
section
variable {w w' : World} {B base : Nat} {A : Option Addr} {n c : Nat} {ps : List ST}
theorem StRow.nil_ (w : World) (base : Nat) : StRow w base none 0 0 [] := ⟨rfl, World.ownsRow_nil w base _ 2⟩
theorem StRow.cap (h : StRow w base A n c ps) : n ≤ c ∧ c ≤ 9223372036854775807 := by
  rcases h.2.2 with ⟨h, rfl⟩ | ⟨g, cap, cur, h, _, _, h1, h2, _⟩
  · simp only [Value.slice.injEq] at h; omega
  · simp only [Value.slice.injEq] at h; unfold maxLen at h2; omega
theorem StRow.below (h : StRow w base A n c ps) (hb : Below B w w') (hB : w.heap.size ≤ B) : StRow w' base A n c ps := by
  refine ⟨h.1, h.2.1, ?_⟩
  rcases h.2.2 with h | ⟨g, cap, cur, h, h1, h2, h3⟩
  · exact .inl h
  · have hg : g < w.heap.size := (Array.getElem?_eq_some_iff.1 h2).1
    exact .inr ⟨g, cap, cur, h, h1, (hb.block g (by omega)).trans h2, h3⟩
theorem StRow.alloc (h : StRow w base A n c ps) (o : Obj) : StRow (w.alloc o) base A n c ps := ⟨h.1, World.ownsRow.alloc h.2 o⟩
theorem StRow.block (h : StRow w base A n c ps) : ∀ g, (Value.slice A n c).ownBlock = some g → base ≤ g ∧ g < w.heap.size := World.ownsRow.lt h.2
theorem st_below {w0 : World} (h : Below B w0 w) (hB : B ≤ w.heap.size) (hg : w.grownBy w' (Value.slice A n c).ownBlock) (ho : StRow w base A n c ps) (hb : B ≤ base) : Below B w0 w' :=
  h.grown hg hB (fun k hk => Nat.le_trans hb (ho.block k hk).1)
/-- a row of the call's own reads as steps -/
theorem StRow.slr (h : StRow w base A n c ps) : SlR w w.heap.size 2 NestR A n c ps := by
  have hc := h.cap
  refine ⟨h.1, hc.1, by unfold maxLen; exact hc.2, ?_, fun k p hk => ?_⟩
  · rintro rfl
    rcases h.2.2 with ⟨h', hz⟩ | ⟨g, cap, cur, h', _⟩
    · simp only [Value.slice.injEq] at h'; omega
    · simp at h'
  · have hkl := lt_of_some' hk
    have hcl := stCells_at hk
    rcases h.2.2 with ⟨h', hz⟩ | ⟨g, cap, cur, h', h1, h2, h3, h4, h5, h6⟩
    · have := h.1; omega
    · simp only [Value.slice.injEq] at h'
      obtain ⟨rfl, -, rfl⟩ := h'
      have hcell : ∀ j v, (stCells ps)[j]? = some v → w.cell? ⟨g, j, none⟩ = some v := fun j v hj => by
        have hj2 : cur[j]? = some v := by
          rw [← Array.getElem?_toList]
          rw [← h6] at hj
          rw [List.getElem?_take] at hj
          split at hj
          · exact hj
          · cases hj
        simp [World.cell?, h2, hj2]
      refine ⟨g, 0, [.int .i64 p.1, .int .i64 p.2], rfl, (Array.getElem?_eq_some_iff.1 h2).1, fun j v hj => ?_, rfl⟩
      rcases j with _ | _ | j
      · cases hj; rw [Nat.zero_add]; exact hcell _ _ hcl.1
      · cases hj; rw [Nat.zero_add]; exact hcell _ _ hcl.2
      · simp at hj
/-- steps that read lie cell by cell -/
theorem st_cells {b o : Nat} (h : SlR w B 2 NestR (some ⟨b, o, none⟩) n c ps) : ∀ j u, (stCells ps)[j]? = some u → w.cell? ⟨b, o + j, none⟩ = some u := fun j u hj => by
  have hjl : j < (stCells ps).length := lt_of_some' hj
  rw [stCells_length] at hjl
  have hk : ps[j / 2]? = some ps[j / 2] := List.getElem?_eq_getElem (by omega)
  obtain ⟨b', o', cs, e, _, hc, hcs⟩ := h.2.2.2.2 (j / 2) _ hk
  cases e
  have h1 := stCells_at hk
  rcases Nat.mod_two_eq_zero_or_one j with hm | hm
  · have e : j / 2 * 2 = j := by omega
    rw [e] at h1
    rw [h1.1] at hj
    cases hj
    have := hc 0 _ (by rw [hcs]; rfl)
    rwa [e, Nat.add_zero] at this
  · have e : j / 2 * 2 + 1 = j := by omega
    rw [e] at h1
    rw [h1.2] at hj
    cases hj
    have := hc 1 _ (by rw [hcs]; rfl)
    rwa [show o + j / 2 * 2 + 1 = o + j by omega] at this
end
theorem infoSt : (Try.prog.info? 45).map (fun i => (i.zero, i.size, i.bytes)) = some (some (.agg #[.int .i64 0, .int .i64 0]), 2, 16) := by kernel_rfl
section
variable {P : Program} (w : World)
/-- append: steps that read, at the end of a row of the call's own -/
theorem wpList_append_st {ops : Array Oper} {rest : List Oper} {o : Oper} {a : Act} {Q : Exit → Act → World → Prop} (hgd : o.guard = none) (s x : Operand) (t : TypeId)
    (ho : o.op = .call { callee := .builtin .append, args := #[s, x], argTypes := #[t, t] })
    (base : Nat) (z : Value) (hts : P.underlying t = some (.slice 45)) (hi : (P.info? 45).map (fun i => (i.zero, i.size, i.bytes)) = some (some z, 2, 16)) (hzs : z.cells.size = 2)
    (A : Option Addr) (n c : Nat) (gs : List ST) (hs : a.eval s = .slice A n c) (hown : StRow w base A n c gs)
    (B : Nat) (A2 : Option Addr) (m c2 : Nat) (ys : List ST) (hx : a.eval x = .slice A2 m c2) (hr : SlR w B 2 NestR A2 m c2 ys)
    (hbytes : n + m ≤ 1000000) (hbase : base ≤ w.heap.size)
    (h : ∀ A' c' w', StRow w' base A' (n + m) c' (gs ++ ys) → w.grownBy w' (Value.slice A n c).ownBlock → ((Value.slice A' (n + m) c').ownBlock = (Value.slice A n c).ownBlock ∨ (Value.slice A' (n + m) c').ownBlock = some w.heap.size) →
      wpList P ops Q rest (a.put o.dst (.slice A' (n + m) c')) w') : wpList P ops Q (o :: rest) a w := by
  obtain ⟨i, hi0, hz, hsz, hby⟩ := info_parts hi
  have run : ∃ A' c' w', (Builtin.append_ #[t, t] o.type #[.slice A n c, .slice A2 m c2]).run P w = .ok (.slice A' (n + m) c') w' ∧ StRow w' base A' (n + m) c' (gs ++ ys) ∧ w.grownBy w' (Value.slice A n c).ownBlock ∧
      ((Value.slice A' (n + m) c').ownBlock = (Value.slice A n c).ownBlock ∨ (Value.slice A' (n + m) c').ownBlock = some w.heap.size) := by
    by_cases hm : m = 0
    · subst hm
      have hy : ys = [] := List.eq_nil_of_length_eq_zero hr.1
      subst hy
      have hr0 : (Builtin.append_ #[t, t] o.type #[.slice A n c, .slice A2 0 c2]).run P w = .ok (.slice A n c) w := by
        have hnc := hown.cap
        have hfirst : (Builtin.firstCells i.size 0 (.slice A2 0 c2)).run P w = .ok #[] w := by
          cases A2 <;> simp [Builtin.firstCells, loadCells, loadCellsFrom]
        cases A <;> simp [Builtin.append_, run_underlying hts, sizeOf, typeInfo, hi0, Builtin.lenOf, hfirst, hnc.1, storeCells]
      exact ⟨A, c, w, hr0, by rw [List.append_nil]; exact hown, World.grownBy.refl w _, .inl rfl⟩
    · obtain ⟨p0, b, o', cs, _, rfl, _⟩ := SlR.at_ hr (k := 0) (by omega)
      have hcells := st_cells hr
      obtain ⟨v', w', hrun, h2, h3, _, h5⟩ := run_append_own_at (P := P) w base t o.type 45 i z 2 16 hts hi0 hz hsz hby hzs (by omega) _ n (stCells gs) hown.2 ⟨b, o', none⟩ m c2 (stCells ys) (by rw [stCells_length, hr.1]) (fun j u hu => by
        have : (⟨b, o', none⟩ : Addr).add j = ⟨b, o' + j, none⟩ := by unfold Addr.add; split <;> simp_all
        rw [this]; exact hcells j u hu) stCells_one (by unfold maxLen; omega) (by omega) hbase
      have hform : ∃ A' c', v' = .slice A' (n + m) c' := by
        rcases h2.2 with ⟨rfl, h⟩ | ⟨g, cap, cur, rfl, _⟩
        · omega
        · exact ⟨_, _, rfl⟩
      obtain ⟨A', c', rfl⟩ := hform
      exact ⟨A', c', w', hrun, ⟨by rw [List.length_append, hown.1, hr.1], by rw [stCells_append]; exact h2⟩, h3, h5⟩
  obtain ⟨A', c', w', hrun, h2, h3, h4⟩ := run
  refine wpList_plain hgd fun K hK => ?_
  unfold Oper.wp execOp
  simp only [ho, resolve, invoke, builtin, Sem.run_bind, Sem.run_pure, Result.andThen_ok, List.map_toArray, List.map_cons, List.map_nil, hs, hx, hrun]
  exact hK _ _ (h A' c' w' h2 h3 h4)
end

end Go.Proofs.Ytngdolmmaiogiaa

/- The walk of Lookup. Condition: what it reads reads as plain data. Printed by wip/tools. -/
namespace Go.Proofs.Ytngdolmmaiogiaa
open Go.RowKit

theorem stepLit (w : World) (x : Int × Int) (t : TypeId) : SlR (w.alloc (.cells #[.int .i64 x.1, .int .i64 x.2] t)) (w.alloc (.cells #[.int .i64 x.1, .int .i64 x.2] t)).heap.size 2 NestR (some ⟨w.heap.size, 0, none⟩) 1 1 [x] :=
  ⟨rfl, Nat.le_refl _, by unfold maxLen; omega, (fun h => by cases h), fun k p hk => by
    rcases k with _ | k
    · cases hk
      refine ⟨w.heap.size, 0, [.int .i64 x.1, .int .i64 x.2], rfl, by simp, fun j v hj => ?_, rfl⟩
      simp only [Nat.zero_mul, Nat.zero_add]
      rw [cell_of_row _ _ j _ _ _ (heap_alloc_new w (.cells #[.int .i64 x.1, .int .i64 x.2] t))]
      rw [← hj]
      simp
    · simp at hk⟩
theorem le_bm1 {a b c : Nat} (h : b ≤ c) (h2 : a ≤ b) : a ≤ c := Nat.le_trans h2 h
theorem lt_bm {w : World} {x : Int × Int} {t : TypeId} {bm : Nat} (h : (w.alloc (.cells #[.int .i64 x.1, .int .i64 x.2] t)).heap.size ≤ bm) : w.heap.size < bm := by
  simp at h
  omega
theorem ne_size {a b : Nat} (h : a < b) : b ≠ a := by omega
set_option maxRecDepth 100000 in
set_option maxHeartbeats 4000000 in
theorem lookupt_any (P : PFt) (Ls : List LkS) (F : Fnt) (B : Nat) (x : Int × Int) (A : Option Addr) (n c : Nat) (gs : List Gl) (w : World) (hF : FtR w B F P) (hLs : SlR w B 4 (LkR2 w B) F.LA F.ln F.lc Ls) (hG : ∀ x ∈ Ls, LkGood x.1 x.2) (hI : GlsR w w.heap.size A n c gs) (hB : B ≤ w.heap.size) (hn : n ≤ 16384) :
    Calls Try.prog 14 #[.agg #[.int .i64 F.em, .slice F.GA F.gn F.gc, .slice F.MA F.mn F.mc, .slice F.LA F.ln F.lc, .slice F.FA F.fn F.fc, .slice F.SA F.sn F.sc], .agg #[.int .i64 x.1, .int .i64 x.2], .slice A n c] w (RetAll w (lookB P Ls gs 65536 x).1) := by
  have HBG := Lib.hid (fun W => begin_any F W)
  obtain ⟨res, hres⟩ : ∃ z, z = lookB P Ls gs 65536 x := ⟨_, rfl⟩
  rw [← hres]
  obtain ⟨wb1, hw_wb1⟩ : ∃ z, z = w.alloc (.cells #[.int .i64 F.em, .slice F.GA F.gn F.gc, .slice F.MA F.mn F.mc, .slice F.LA F.ln F.lc, .slice F.FA F.fn F.fc, .slice F.SA F.sn F.sc] 28) := ⟨_, rfl⟩
  have hs_wb1 : wb1.heap.size = w.heap.size + 1 := by rw [hw_wb1]; simp
  have hb_wb1 : Below w.heap.size w wb1 := by rw [hw_wb1]; exact (Below.refl _ _).alloc (Nat.le_refl _) _
  have hx_0 : wb1.heap[w.heap.size]? = some (.cells #[.int .i64 F.em, .slice F.GA F.gn F.gc, .slice F.MA F.mn F.mc, .slice F.LA F.ln F.lc, .slice F.FA F.fn F.fc, .slice F.SA F.sn F.sc] 28 (0, 0)) := by rw [hw_wb1]; exact heap_alloc_new _ _
  obtain ⟨w1, hw_w1⟩ : ∃ z, z = wb1.alloc (.cells #[.int .i64 x.1, .int .i64 x.2] 45) := ⟨_, rfl⟩
  have hs_w1 : w1.heap.size = w.heap.size + 2 := by rw [hw_w1]; simp <;> omega
  have hb_w1 : Below w.heap.size w w1 := by rw [hw_w1]; exact hb_wb1.alloc (by omega) _
  have hx_1 : w1.heap[w.heap.size + 1]? = some (.cells #[.int .i64 x.1, .int .i64 x.2] 45 (0, 0)) := by rw [hw_w1]; exact (hs_wb1 ▸ heap_alloc_new wb1 _)
  have hx_0 : w1.heap[w.heap.size]? = some (.cells #[.int .i64 F.em, .slice F.GA F.gn F.gc, .slice F.MA F.mn F.mc, .slice F.LA F.ln F.lc, .slice F.FA F.fn F.fc, .slice F.SA F.sn F.sc] 28 (0, 0)) := by rw [hw_w1]; exact (heap_alloc_old _ _ (by omega)).trans hx_0
  have g0 := up_fact (show w1.cell? ⟨w.heap.size, 0, none⟩ = some (.int .i64 F.em) by rw [cell_of_row _ _ 0 _ _ _ hx_0]; rfl)
  have g1 := up_fact (show w1.cell? ⟨w.heap.size, 1, none⟩ = some (.slice F.GA F.gn F.gc) by rw [cell_of_row _ _ 1 _ _ _ hx_0]; rfl)
  have g2 := up_fact (show w1.cell? ⟨w.heap.size, 2, none⟩ = some (.slice F.MA F.mn F.mc) by rw [cell_of_row _ _ 2 _ _ _ hx_0]; rfl)
  have g3 := up_fact (show w1.cell? ⟨w.heap.size, 3, none⟩ = some (.slice F.LA F.ln F.lc) by rw [cell_of_row _ _ 3 _ _ _ hx_0]; rfl)
  have g4 := up_fact (show w1.cell? ⟨w.heap.size, 4, none⟩ = some (.slice F.FA F.fn F.fc) by rw [cell_of_row _ _ 4 _ _ _ hx_0]; rfl)
  have g5 := up_fact (show w1.cell? ⟨w.heap.size, 5, none⟩ = some (.slice F.SA F.sn F.sc) by rw [cell_of_row _ _ 5 _ _ _ hx_0]; rfl)
  have x0 := up_fact (show w1.cell? ⟨w.heap.size + 1, 0, none⟩ = some (.int .i64 x.1) by rw [cell_of_row _ _ 0 _ _ _ hx_1]; rfl)
  have x1 := up_fact (show w1.cell? ⟨w.heap.size + 1, 1, none⟩ = some (.int .i64 x.2) by rw [cell_of_row _ _ 1 _ _ _ hx_1]; rfl)
  have hA0 := Below.refl w1.heap.size w1
  have HS1 := Lib.hid hs_w1
  have hs1 : w.heap.size + 1 < w1.heap.size := by omega
  have HB1 := Lib.hid hb_w1
  have HW_wb1 := Lib.hid hw_wb1
  have HW_w1 := Lib.hid hw_w1
  clear hw_wb1 hs_wb1 hb_wb1 hw_w1 hs_w1 hb_w1
  clear hx_0 hx_1
  have HALL := Lib.hid (fun W bm SA (hW : Below w1.heap.size w1 W) (hbm : w1.heap.size ≤ bm) (hm : MBox W bm F 65536) (hS : SlR W W.heap.size 2 NestR SA 1 1 [x]) (hSb : ∀ y, SA = some y → y.block ≠ bm) => show Calls Try.prog 16 #[.pointer (some ⟨bm, 0, none⟩), .slice SA 1 1, .slice A n c] W (RetM W bm F res) from by
    have hw := HB1.out.trans (hW.mono (by omega))
    have h0 := all_any P Ls F B bm 65536 [x] SA 1 1 A n c gs W (hF.below (hw.mono hB)) (SlR.below hLs (hw.mono hB) fun _ _ h => h.below (hw.mono hB)) hG hS hSb ((hI.below hw).more hw.size) hm (Nat.le_trans hB hw.size) (by omega) hn (Nat.le_refl _)
    rw [hres]
    exact h0)
  clear hF hLs hG hI hB hres
  go_enter Try.func14, Try.ntmps14
  go_upto_region 1 with fail
  rw [← HW_wb1.out]
  rw [← HW_w1.out]
  go_region_held_law (fun W => W.cell? ⟨w.heap.size, 0, none⟩ = some (.int .i64 F.em) ∧ W.cell? ⟨w.heap.size, 1, none⟩ = some (.slice F.GA F.gn F.gc) ∧ W.cell? ⟨w.heap.size, 2, none⟩ = some (.slice F.MA F.mn F.mc) ∧ W.cell? ⟨w.heap.size, 3, none⟩ = some (.slice F.LA F.ln F.lc) ∧ W.cell? ⟨w.heap.size, 4, none⟩ = some (.slice F.FA F.fn F.fc) ∧ W.cell? ⟨w.heap.size, 5, none⟩ = some (.slice F.SA F.sn F.sc) ∧ W.cell? ⟨w.heap.size + 1, 0, none⟩ = some (.int .i64 x.1) ∧ W.cell? ⟨w.heap.size + 1, 1, none⟩ = some (.int .i64 x.2)) (first | exact ⟨g0 w1 hA0, g1 w1 hA0, g2 w1 hA0, g3 w1 hA0, g4 w1 hA0, g5 w1 hA0, x0 w1 hA0, x1 w1 hA0⟩ | exact ⟨g0 w2 hA2, g1 w2 hA2, g2 w2 hA2, g3 w2 hA2, g4 w2 hA2, g5 w2 hA2, x0 w2 hA2, x1 w2 hA2⟩ | exact ⟨g0 _ (hA2.alloc hA2.size _), g1 _ (hA2.alloc hA2.size _), g2 _ (hA2.alloc hA2.size _), g3 _ (hA2.alloc hA2.size _), g4 _ (hA2.alloc hA2.size _), g5 _ (hA2.alloc hA2.size _), x0 _ (hA2.alloc hA2.size _), x1 _ (hA2.alloc hA2.size _)⟩ | exact ⟨g0 _ (((Below.refl w1.heap.size w1).drew).alloc (Nat.le_refl _) _), g1 _ (((Below.refl w1.heap.size w1).drew).alloc (Nat.le_refl _) _), g2 _ (((Below.refl w1.heap.size w1).drew).alloc (Nat.le_refl _) _), g3 _ (((Below.refl w1.heap.size w1).drew).alloc (Nat.le_refl _) _), g4 _ (((Below.refl w1.heap.size w1).drew).alloc (Nat.le_refl _) _), g5 _ (((Below.refl w1.heap.size w1).drew).alloc (Nat.le_refl _) _), x0 _ (((Below.refl w1.heap.size w1).drew).alloc (Nat.le_refl _) _), x1 _ (((Below.refl w1.heap.size w1).drew).alloc (Nat.le_refl _) _)⟩ | exact ⟨g0 w3 hA3, g1 w3 hA3, g2 w3 hA3, g3 w3 hA3, g4 w3 hA3, g5 w3 hA3, x0 w3 hA3, x1 w3 hA3⟩)
    (first
      | (go_at_call 15; refine (HBG.out _).mono ?_; rintro e w2 ⟨bm, rfl, hbm, hm2, hb2⟩; have hA2 := ((Below.refl w1.heap.size w1).drew).trans hb2; have hA2s := Nat.le_refl w1.heap.size)
      | (go_at_call 15; refine (HBG.out _).mono ?_; rintro e w2 ⟨bm, rfl, hbm, hm2, hb2⟩; have hA2 := (((Below.refl w1.heap.size w1).drew).alloc (Nat.le_refl _) (.cells #[.int .i64 x.1, .int .i64 x.2] 45)).trans (hb2.mono (by simp)); have hbm3 := lt_bm (w := w1.drew) hbm; have hS2 := (SlR.below (stepLit w1.drew x _) hb2 fun _ _ h => h).more hb2.size fun _ _ h => h)
      | (go_at_call 16; refine (HALL.out _ _ _ (hA2.alloc hA2.size _) (le_bm1 hbm hA2s) (hm2.below ((Below.refl w2.heap.size w2).alloc (Nat.le_refl _) _) hm2.lt) (stepLit w2 x _) (fun _ h => by cases h; exact ne_size hm2.lt)).mono ?_; rintro e w3 ⟨A3, c3, rfl, hi3, hm3, hb3⟩; have hA3 := (hA2.alloc hA2.size _).trans (hb3.below (le_bm1 hbm hA2s) (by have := hA2.size; simp; omega)))
      | (go_at_call 16; refine (HALL.out _ _ _ hA2 (Nat.le_of_lt hbm3) hm2 hS2 (fun _ h => by cases h; exact Nat.ne_of_lt hbm3)).mono ?_; rintro e w3 ⟨A3, c3, rfl, hi3, hm3, hb3⟩; have hA3 := hA2.trans (hb3.below (Nat.le_of_lt hbm3) hA2.size)))
  all_goals
    go_wp2_with fail
    go_ret
    exact ⟨A3, c3, rfl, hi3, HB1.out.trans (hA3.mono (by omega))⟩

end Go.Proofs.Ytngdolmmaiogiaa

/- The walks of Fresh, Same, ours. Condition: what they read reads as plain data. Printed by wip/tools/g32p.py. Printed by wip/tools. -/
namespace Go.Proofs.Ytngdolmmaiogiaa
open Go.RowKit

/-- What a call leaves that hands back steps. -/
def RetSt (w : World) (xs : List (Int × Int)) (e : Ending) (w' : World) : Prop := ∃ A c, e = .returned (.slice A xs.length c) ∧ SlR w' w'.heap.size 2 NestR A xs.length c xs ∧ (∀ x, A = some x → x.block < w'.heap.size) ∧ Below w.heap.size w w'
theorem bup0 {w wr : World} (h : Below w.heap.size w wr) : ∀ d : Up w.heap.size wr, Below w.heap.size w d.W := fun d => h.trans d.h
set_option maxRecDepth 100000 in
set_option maxHeartbeats 4000000 in
theorem rsame_any (B1 B2 : Nat) (A1 A2 : Option Addr) (n c1 c2 : Nat) (gs : List Gl) (w : World) (h1 : GlsR w B1 A1 n c1 gs) (h2 : GlsR w B2 A2 n c2 gs) :
    Calls Try.prog 10 #[.slice A1 n c1, .slice A2 n c2] w (RetV w true) := by
  have hc1 := h1.cap
  have hc2 := h2.cap
  have H1 := Lib.hid h1
  have H2 := Lib.hid h2
  clear h1 h2
  go_enter Try.func10, Try.ntmps10
  go_upto_region 4 with fail
  go_loopw [5] (fun v wr => ∃ k : Nat, v = .int .i64 (k : Int) ∧ k ≤ n ∧ Below w.heap.size w wr) (fun v _ => n - (intOf v).toNat)
  case atStart => exact ⟨0, rfl, Nat.zero_le _, Below.refl _ _⟩
  case round =>
    obtain ⟨k, rfl, hk, hA⟩ := hrel
    by_cases hin : k < n
    rotate_left
    · have q1 : decide ((k : Int) < (n : Int)) = false := by simp; omega
      have q2 : decide (k < n) = false := by simp; omega
      clear hin
      go_wp2_with fail
      go_ret
      exact ⟨rfl, hA⟩
    · have q1 : decide ((k : Int) < (n : Int)) = true := by simp; omega
      have q2 : decide (k < n) = true := by simp; omega
      have sk : IntKind.i64.wrap ((k : Int) + 1) = (k : Int) + 1 := by rw [IntKind.wrap_i64]; omega
      obtain ⟨b, o, g, eA, hbb, hg, c0, c1, c2, c3, c4, c5, c6, c7, c8, c9⟩ := H1.out.at_ hin
      obtain ⟨b', o', g', eA', hbb', hg', d0, d1, d2, d3, d4, d5, d6, d7, d8, d9⟩ := H2.out.at_ hin
      obtain rfl : g = g' := by rw [hg] at hg'; cases hg'; rfl
      have y0 := up_fact c0
      have z0 := up_fact d0
      have y1 := up_fact c1
      have z1 := up_fact d1
      have y2 := up_fact c2
      have z2 := up_fact d2
      have y3 := up_fact c3
      have z3 := up_fact d3
      have y4 := up_fact c4
      have z4 := up_fact d4
      have y5 := up_fact c5
      have z5 := up_fact d5
      have y6 := up_fact c6
      have z6 := up_fact d6
      have y7 := up_fact c7
      have z7 := up_fact d7
      have y8 := up_fact c8
      have z8 := up_fact d8
      have y9 := up_fact c9
      have z9 := up_fact d9
      clear c0 d0 c1 d1 c2 d2 c3 d3 c4 d4 c5 d5 c6 d6 c7 d7 c8 d8 c9 d9
      have HEA := Lib.hid eA
      have HEA' := Lib.hid eA'
      clear eA eA' hg hg'
      rw [HEA.out, HEA'.out]
      go_upto_region 6 with fail
      have hU0 := bup0 hA
      refine wp_region_up w.heap.size (by kernel_rfl) (by kernel_rfl) ?_
      repeat (go_big_quiet_step (fail))
      refine wpQuiet_nil (up_all fun w2 hb2 => ?_)
      have hA2 := hA.trans hb2
      clear hb2 hU0
      go_wp2_with fail
      go_roundw
      case rel => exact ⟨k + 1, by go_num, by omega, hA2⟩
      case measure => simp [intOf] <;> omega


set_option maxRecDepth 100000 in
set_option maxHeartbeats 4000000 in
theorem ours_any (B : Nat) (A : Option Addr) (n c : Nat) (xs : List (Int × Int)) (w : World) (h : SlR w B 2 NestR A n c xs) (hB : B ≤ w.heap.size) (hn : n ≤ 1000) :
    Calls Try.prog 9 #[.slice A n c] w (RetSt w xs) := by
  have hcap := SlR.cap h
  have hlen := SlR.length h
  have HI := Lib.hid h
  clear h
  go_enter Try.func9, Try.ntmps9
  go_upto_region 3 with fail
  go_loopw [3, 8] (fun v3 v8 wr => ∃ (k : Nat) (Ao : Option Addr) (co : Nat), v3 = .slice Ao k co ∧ v8 = .int .i64 (k : Int) ∧ k ≤ n ∧ Hid (StRow wr w.heap.size Ao k co (xs.take k)) ∧ Below w.heap.size w wr) (fun _ v _ => n - (intOf v).toNat)
  case atStart => exact ⟨0, none, 0, rfl, rfl, Nat.zero_le _, Lib.hid (StRow.nil_ _ _), Below.refl _ _⟩
  case round =>
    obtain ⟨k, Ao, co, rfl, rfl, hk, HROW, hA⟩ := hrel
    by_cases hin : k < n
    rotate_left
    · have q1 : decide ((k : Int) < (n : Int)) = false := by simp; omega
      have q2 : decide (k < n) = false := by simp; omega
      have HX := Lib.hid (show StRow wr w.heap.size Ao k co xs by have h0 := HROW.out; rwa [List.take_of_length_le (by omega)] at h0)
      have hkn : k = n := by omega
      clear hin
      go_wp2_with fail
      go_ret
      exact ⟨Ao, co, by rw [HX.out.1]; rfl, by rw [HX.out.1]; exact HX.out.slr, (fun x hx => (World.ownsRow.lt HX.out.2 x.block (by rw [hx]; rfl)).2), hA⟩
    · have q1 : decide ((k : Int) < (n : Int)) = true := by simp; omega
      have q2 : decide (k < n) = true := by simp; omega
      have sk : IntKind.i64.wrap ((k : Int) + 1) = (k : Int) + 1 := by rw [IntKind.wrap_i64]; omega
      obtain ⟨x, b, o, cs, hx, eA, hbb, hc, hcs⟩ := SlR.at_ HI.out hin
      obtain ⟨xa, xl⟩ := x
      obtain rfl : cs = [.int .i64 xa, .int .i64 xl] := hcs
      have f0 := (hA.cell (p := ⟨b, o + k * 2 + 0, none⟩) (by show b < _; omega)).trans (hc 0 _ rfl)
      have f1 := (hA.cell (p := ⟨b, o + k * 2 + 1, none⟩) (by show b < _; omega)).trans (hc 1 _ rfl)
      rw [Nat.add_zero] at f0
      have HEA := Lib.hid eA
      have HX := Lib.hid hx
      clear hc eA hx
      rw [HEA.out]
      go_upto_region 5 with fail
      obtain ⟨w3, hw3⟩ : ∃ z, z = wr.alloc (.cells #[.int .i64 xa, .int .i64 xl] 44) := ⟨_, rfl⟩
      obtain ⟨bx, hbx⟩ : ∃ z, z = wr.heap.size := ⟨_, rfl⟩
      rw [← hw3, ← hbx]
      have hA3 := (show Below w.heap.size w w3 by rw [hw3]; exact hA.alloc hA.size _)
      have hX : w3.heap[bx]? = some (.cells #[.int .i64 xa, .int .i64 xl] 44 (0, 0)) := by rw [hw3, hbx]; exact heap_alloc_new _ _
      have x0 := up_fact (show w3.cell? ⟨bx, 0, none⟩ = some (.int .i64 xa) by rw [cell_of_row _ _ 0 _ _ _ hX]; rfl)
      have x1 := up_fact (show w3.cell? ⟨bx, 1, none⟩ = some (.int .i64 xl) by rw [cell_of_row _ _ 1 _ _ _ hX]; rfl)
      have hC := Below.refl w3.heap.size w3
      have HAL := Lib.hid (show Below wr.heap.size wr w3 by rw [hw3]; exact (Below.refl _ _).alloc (Nat.le_refl _) _)
      clear hX hw3 hbx
      have HR3 := Lib.hid (show StRow w3 w.heap.size Ao k co (xs.take k) from HROW.out.below HAL.out (Nat.le_refl _))
      have hAx := hA3.alloc hA3.size (.cells #[.int .i64 xa, .int .i64 xl] 45)
      go_wp2_with (first | (at_builtin; refine wpList_append_st _ rfl (.tmp 12) (.tmp 18) 40 rfl w.heap.size _ Try.underlying40 infoSt rfl Ao k co (xs.take k) rfl (HR3.out.alloc _) _ (some ⟨w3.heap.size, 0, none⟩) 1 1 [(xa, xl)] rfl (stepLit w3 (xa, xl) _) (by omega) hAx.size ?_; intro A9 c9 w9 ho9 hg9 _; have hA9 := st_below hAx hAx.size hg9 (HR3.out.alloc _) (Nat.le_refl _)))
      go_roundw
      case rel => exact ⟨k + 1, _, _, rfl, by go_num, by omega, Lib.hid (by rw [List.take_add_one, HX.out]; exact ho9), hA9⟩
      case measure => simp [intOf] <;> omega

end Go.Proofs.Ytngdolmmaiogiaa
