/- One row of a table function of the reference, at whatever frame: the test, and what is handed back. Over the shape that each row has. No condition. -/
import Derived.Test.YtbpaogmnaodcaaaDoorRefO
namespace Go.Proofs.YtbpaogmnaodcaaaDoor
open Go.RowKit

/-- what of a frame a row asks -/
structure Frm (r : Int) (bl N : Nat) (a : Act) : Prop where
  size : a.tmps.size = N
  arg : a.eval (.tmp 0) = .int .i32 r
  res : a.eval (.tmp 2) = .pointer (some ⟨bl, 0, none⟩)
  defers : a.defers = []
theorem put_self {a : Act} {d : Nat} {v : Value} (h : d < a.tmps.size) : (a.put (some d) v).eval (.tmp d) = v := by
  simp [Act.put, Act.eval, h]
theorem put_ne {a : Act} {d t : Nat} {v : Value} (h : d ≠ t) : (a.put (some d) v).eval (.tmp t) = a.eval (.tmp t) := by
  simp [Act.put, Act.eval, h]
theorem put_size {a : Act} {d : Option Nat} {v : Value} : (a.put d v).tmps.size = a.tmps.size := by
  cases d <;> simp [Act.put]
theorem put_defers {a : Act} {d : Option Nat} {v : Value} : (a.put d v).defers = a.defers := by
  cases d <;> rfl
theorem Frm.put {r : Int} {bl N d : Nat} {a : Act} {v : Value} (h : Frm r bl N a) (hd : 3 ≤ d) : Frm r bl N (a.put (some d) v) :=
  ⟨by rw [put_size]; exact h.size, by rw [put_ne (by omega)]; exact h.arg, by rw [put_ne (by omega)]; exact h.res, by rw [put_defers]; exact h.defers⟩

section
variable {P : Program} {ops : Array Oper} {rest : List Oper} {o : Oper} {a : Act} {w : World} {Q : Exit → Act → World → Prop} {v : Value} {d : Nat}
theorem wpList_value (hw : Region.wanted o (yielded ops a.tmps) = true) (hd : o.dst = some d) (hrun : (execOp a.eval o).run P w = .ok (.value v) w) (h : wpList P ops Q rest (a.put (some d) v) w) : wpList P ops Q (o :: rest) a w := by
  refine wpList_step fun K hK => ?_
  rw [if_pos hw]
  unfold Oper.wp
  rw [hrun]
  show K (a.put o.dst v) w
  rw [hd]
  exact hK _ _ h
theorem wpList_leave (hw : Region.wanted o (yielded ops a.tmps) = false) (hd : o.dst = some d) (h : wpList P ops Q rest (a.put (some d) undef) w) : wpList P ops Q (o :: rest) a w := by
  refine wpList_step fun K hK => ?_
  rw [if_neg (by rw [hw]; exact Bool.false_ne_true), hd]
  exact hK _ _ h
end

theorem run_move {P : Program} {a : Act} {w : World} {dst : Option Tmp} {x : Operand} {t : TypeId} {pos : String} {af : Array Edge} {gd : Option (Nat × Bool)} :
    (execOp a.eval ⟨dst, .move x, t, pos, af, gd⟩).run P w = .ok (.value (a.eval x)) w := rfl
theorem run_ge {P : Program} {a : Act} {w : World} {dst : Option Tmp} {x : Operand} {lo r : Int} {t u t2 : TypeId} {pos : String} {af : Array Edge} {gd : Option (Nat × Bool)} (h : a.eval x = .int .i32 r) :
    (execOp a.eval ⟨dst, .binOp .geq u x (.const (.int .i32 lo)) t2, t, pos, af, gd⟩).run P w = .ok (.value (.bool (decide (lo ≤ r)))) w := by
  simp [execOp, h, show a.eval (.const (.int .i32 lo)) = .int .i32 lo from rfl, eqGuard, binOp, Op.intCmp]
theorem run_le {P : Program} {a : Act} {w : World} {dst : Option Tmp} {x : Operand} {hi r : Int} {t u t2 : TypeId} {pos : String} {af : Array Edge} {gd : Option (Nat × Bool)} (h : a.eval x = .int .i32 r) :
    (execOp a.eval ⟨dst, .binOp .leq u x (.const (.int .i32 hi)) t2, t, pos, af, gd⟩).run P w = .ok (.value (.bool (decide (r ≤ hi)))) w := by
  simp [execOp, h, show a.eval (.const (.int .i32 hi)) = .int .i32 hi from rfl, eqGuard, binOp, Op.intCmp]
theorem run_pick {P : Program} {a : Act} {w : World} {dst : Option Tmp} {c x y : Operand} {b : Bool} {t : TypeId} {pos : String} {af : Array Edge} {gd : Option (Nat × Bool)} (h : a.eval c = .bool b) :
    (execOp a.eval ⟨dst, .pick c x y, t, pos, af, gd⟩).run P w = .ok (.value (if b = true then a.eval x else a.eval y)) w := by
  cases b <;> simp [execOp, h, asBool]

set_option maxHeartbeats 1000000 in
theorem row_step {r lo hi b c k s j d m p : Int} {o : Bool} {bl g N i1 i2 : Nat} {rest : Code} {Q : Exit → Act → World → Prop} {a : Act} {w1 : World}
    {t0 t1 t2 t3 t4 t5 t6 t7 t8 u1 u4 v1 v4 : TypeId} {s0 s1 s2 s3 s4 s5 s6 s7 s8 : String} {f0 f1 f2 f3 f4 f5 f6 f7 f8 : Array Edge} {ats : Array TypeId}
    (hf : Frm r bl N a) (h3 : 3 < g) (hN : g + 6 < N) (hz : w1.heap[bl]? = some (.cells (propV 0 0 0 0 0 0 0 0 false) 31 (0, 0)))
    (hyes : (decide (lo ≤ r) && decide (r ≤ hi)) = true → ∀ a' w2, a'.defers = [] → a'.eval (.tmp 2) = .pointer (some ⟨bl, 0, none⟩) → a'.eval (.tmp 3) = .bool true → Below w1.heap.size w1 w2 →
      w2.heap[bl]? = some (.cells (propV 0 0 0 0 0 0 0 0 false) 31 (0, 0)) → Q .ret a' (w2.setRow bl (propV b c k s j d m p o)))
    (hno : (decide (lo ≤ r) && decide (r ≤ hi)) = false → ∀ a', Frm r bl N a' → Code.wp Tryd.prog rest Q a' w1) :
    Code.wp Tryd.prog (((Code.region i1 #[⟨some g, .move (.tmp 0), t0, s0, f0, none⟩, ⟨some (g + 1), .binOp .geq u1 (.tmp g) (.const (.int .i32 lo)) v1, t1, s1, f1, none⟩,
      ⟨some (g + 2), .move (.tmp (g + 1)), t2, s2, f2, none⟩, ⟨some (g + 3), .move (.tmp 0), t3, s3, f3, some (2, true)⟩,
      ⟨some (g + 4), .binOp .leq u4 (.tmp (g + 3)) (.const (.int .i32 hi)) v4, t4, s4, f4, some (2, true)⟩,
      ⟨some (g + 5), .pick (.tmp (g + 2)) (.tmp (g + 4)) (.const (.bool false)), t5, s5, f5, none⟩] false).seq
      (Code.cond (.tmp (g + 5)) ((Code.region i2 #[⟨some (g + 6), .call { callee := .value (.func 66), args := #[.const (.int .i64 b), .const (.int .i64 c), .const (.int .i64 k), .const (.int .i64 s), .const (.int .i64 j), .const (.int .i64 d), .const (.int .i32 m), .const (.int .i32 p), .const (.bool o)], argTypes := ats }, t6, s6, f6, none⟩,
        ⟨none, .store 31 (.tmp 2) (.tmp (g + 6)), t7, s7, f7, none⟩, ⟨some 3, .assign (.const (.bool true)), t8, s8, f8, none⟩] false).seq Code.ret) Code.skip)).seq rest) Q a w1 := by
  have hsz := hf.size
  refine wp_seq (wp_seq (wp_region_list ?_))
  generalize hops : (#[⟨some g, .move (.tmp 0), t0, s0, f0, none⟩, ⟨some (g + 1), .binOp .geq u1 (.tmp g) (.const (.int .i32 lo)) v1, t1, s1, f1, none⟩,
      ⟨some (g + 2), .move (.tmp (g + 1)), t2, s2, f2, none⟩, ⟨some (g + 3), .move (.tmp 0), t3, s3, f3, some (2, true)⟩,
      ⟨some (g + 4), .binOp .leq u4 (.tmp (g + 3)) (.const (.int .i32 hi)) v4, t4, s4, f4, some (2, true)⟩,
      ⟨some (g + 5), .pick (.tmp (g + 2)) (.tmp (g + 4)) (.const (.bool false)), t5, s5, f5, none⟩] : Array Oper) = ops
  have h2 : ops[2]?.bind (·.dst) = some (g + 2) := by rw [← hops]; rfl
  have hl : ops.toList = [⟨some g, .move (.tmp 0), t0, s0, f0, none⟩, ⟨some (g + 1), .binOp .geq u1 (.tmp g) (.const (.int .i32 lo)) v1, t1, s1, f1, none⟩,
      ⟨some (g + 2), .move (.tmp (g + 1)), t2, s2, f2, none⟩, ⟨some (g + 3), .move (.tmp 0), t3, s3, f3, some (2, true)⟩,
      ⟨some (g + 4), .binOp .leq u4 (.tmp (g + 3)) (.const (.int .i32 hi)) v4, t4, s4, f4, some (2, true)⟩,
      ⟨some (g + 5), .pick (.tmp (g + 2)) (.tmp (g + 4)) (.const (.bool false)), t5, s5, f5, none⟩] := by rw [← hops]
  clear hops
  rw [hl]
  -- the test's first half
  refine wpList_value (d := g) rfl rfl run_move ?_
  have hf1 := hf.put (d := g) (v := a.eval (.tmp 0)) (by omega)
  have e1 : (a.put (some g) (a.eval (.tmp 0))).eval (.tmp g) = .int .i32 r := by rw [put_self (by omega)]; exact hf.arg
  generalize a.put (some g) (a.eval (.tmp 0)) = a1 at *
  have hz1 := hf1.size
  refine wpList_value (d := g + 1) rfl rfl (run_ge e1) ?_
  have hf2 := hf1.put (d := g + 1) (v := .bool (decide (lo ≤ r))) (by omega)
  have e2 : (a1.put (some (g + 1)) (.bool (decide (lo ≤ r)))).eval (.tmp (g + 1)) = .bool (decide (lo ≤ r)) := put_self (by omega)
  generalize a1.put (some (g + 1)) (.bool (decide (lo ≤ r))) = a2 at *
  have hz2 := hf2.size
  refine wpList_value (d := g + 2) rfl rfl run_move ?_
  rw [e2]
  have hf3 := hf2.put (d := g + 2) (v := .bool (decide (lo ≤ r))) (by omega)
  have e3 : (a2.put (some (g + 2)) (.bool (decide (lo ≤ r)))).eval (.tmp (g + 2)) = .bool (decide (lo ≤ r)) := put_self (by omega)
  generalize a2.put (some (g + 2)) (.bool (decide (lo ≤ r))) = a3 at *
  have hz3 := hf3.size
  have hy : ∀ x : Act, x.tmps.size = N → x.eval (.tmp (g + 2)) = .bool (decide (lo ≤ r)) → yielded ops x.tmps 2 = some (decide (lo ≤ r)) := fun x hx h => by
    unfold yielded
    rw [h2]
    have : x.tmps[g + 2]? = some (.bool (decide (lo ≤ r))) := by
      have hlt : g + 2 < x.tmps.size := by omega
      simp only [Act.eval, Array.getD_eq_getD_getElem?, Array.getElem?_eq_getElem hlt, Option.getD_some] at h
      rw [Array.getElem?_eq_getElem hlt, h]
    simp [this]
  obtain ⟨c1, hc1⟩ : ∃ z, z = decide (lo ≤ r) := ⟨_, rfl⟩
  rw [← hc1] at e3 hy hyes hno
  -- the test is told in the last slot
  have last : ∀ x : Act, Frm r bl N x → x.eval (.tmp (g + 5)) = .bool (c1 && decide (r ≤ hi)) → wpList Tryd.prog ops (Exit.then (fun a w => Code.wp Tryd.prog (Code.cond (.tmp (g + 5)) ((Code.region i2 #[⟨some (g + 6), .call { callee := .value (.func 66), args := #[.const (.int .i64 b), .const (.int .i64 c), .const (.int .i64 k), .const (.int .i64 s), .const (.int .i64 j), .const (.int .i64 d), .const (.int .i32 m), .const (.int .i32 p), .const (.bool o)], argTypes := ats }, t6, s6, f6, none⟩,
        ⟨none, .store 31 (.tmp 2) (.tmp (g + 6)), t7, s7, f7, none⟩, ⟨some 3, .assign (.const (.bool true)), t8, s8, f8, none⟩] false).seq Code.ret) Code.skip) (Exit.then (Code.wp Tryd.prog rest Q) Q) a w) (Exit.then (Code.wp Tryd.prog rest Q) Q)) [] x w1 := by
    intro x hx he
    refine wpList_nil ?_
    refine wp_cond he ?_
    split
    · rename_i ht
      refine wp_seq (wp_region_list ?_)
      refine wpList_plain rfl fun K hK => ?_
      go_simp
      refine (row_any b c k s j d m p o _).mono ?_
      rintro e w2 ⟨rfl, hb⟩
      have hbz := hb.size
      have hbl : bl < w1.heap.size := (Array.getElem?_eq_some_iff.1 hz).1
      have hxz := hx.size
      have hx1 := hx.put (d := g + 6) (v := .agg (propV b c k s j d m p o)) (by omega)
      have ex1 : (x.put (some (g + 6)) (.agg (propV b c k s j d m p o))).eval (.tmp (g + 6)) = .agg (propV b c k s j d m p o) := put_self (by omega)
      show K (x.put (some (g + 6)) (.agg (propV b c k s j d m p o))) w2
      generalize x.put (some (g + 6)) (.agg (propV b c k s j d m p o)) = x1 at *
      refine hK _ _ (wpList_store_row rfl 31 _ _ rfl bl (propV b c k s j d m p o) hx1.res ex1 31 (propV 0 0 0 0 0 0 0 0 false) ((hb.block bl hbl).trans hz) sizeProp rfl (propV_one _ _ _ _ _ _ _ _ _) ?_)
      refine wpList_value (d := 3) rfl rfl rfl ?_
      refine wpList_nil (wp_ret ?_)
      have hxz1 := hx1.size
      exact hyes ht (Act.put (x1.put none undef) (some 3) _) w2 (by rw [put_defers, put_defers]; exact hx1.defers) (by rw [put_ne (by omega)]; exact hx1.res) (put_self (by rw [put_size]; omega)) hb ((hb.block bl hbl).trans hz)
    · rename_i ht
      exact wp_skip (hno (by simpa using ht) x hx)
  rcases c1 with _ | _
  · refine wpList_leave (d := g + 3) (by simp only [Region.wanted, hy a3 hz3 e3]; rfl) rfl ?_
    have hf4 := hf3.put (d := g + 3) (v := undef) (by omega)
    have e4 : (a3.put (some (g + 3)) undef).eval (.tmp (g + 2)) = .bool false := by rw [put_ne (by omega)]; exact e3
    generalize a3.put (some (g + 3)) undef = a4 at *
    refine wpList_leave (d := g + 4) (by simp only [Region.wanted, hy a4 hf4.size e4]; rfl) rfl ?_
    have hf5 := hf4.put (d := g + 4) (v := undef) (by omega)
    have e5 : (a4.put (some (g + 4)) undef).eval (.tmp (g + 2)) = .bool false := by rw [put_ne (by omega)]; exact e4
    generalize a4.put (some (g + 4)) undef = a5 at *
    have hz5 := hf5.size
    refine wpList_value (d := g + 5) rfl rfl (run_pick e5) ?_
    exact last _ (hf5.put (by omega)) (put_self (by omega))
  · refine wpList_value (d := g + 3) (by simp only [Region.wanted, hy a3 hz3 e3]; rfl) rfl run_move ?_
    have hf4 := hf3.put (d := g + 3) (v := a3.eval (.tmp 0)) (by omega)
    have e4 : (a3.put (some (g + 3)) (a3.eval (.tmp 0))).eval (.tmp (g + 2)) = .bool true := by rw [put_ne (by omega)]; exact e3
    have e4b : (a3.put (some (g + 3)) (a3.eval (.tmp 0))).eval (.tmp (g + 3)) = .int .i32 r := by rw [put_self (by omega)]; exact hf3.arg
    generalize a3.put (some (g + 3)) (a3.eval (.tmp 0)) = a4 at *
    have hz4 := hf4.size
    refine wpList_value (d := g + 4) (by simp only [Region.wanted, hy a4 hf4.size e4]; rfl) rfl (run_le e4b) ?_
    have hf5 := hf4.put (d := g + 4) (v := .bool (decide (r ≤ hi))) (by omega)
    have e5 : (a4.put (some (g + 4)) (.bool (decide (r ≤ hi)))).eval (.tmp (g + 2)) = .bool true := by rw [put_ne (by omega)]; exact e4
    have e5b : (a4.put (some (g + 4)) (.bool (decide (r ≤ hi)))).eval (.tmp (g + 4)) = .bool (decide (r ≤ hi)) := put_self (by omega)
    generalize a4.put (some (g + 4)) (.bool (decide (r ≤ hi))) = a5 at *
    have hz5 := hf5.size
    refine wpList_value (d := g + 5) rfl rfl (run_pick e5) ?_
    exact last _ (hf5.put (by omega)) (by rw [put_self (by omega)]; exact e5b)

theorem pick_no {s : Sign} {l : List Sign} {r : Int} (h : (decide (s.fr ≤ r) && decide (r ≤ s.to)) = false) : pick (s :: l) r = pick l r := pick_cons (b := false) h.symm
theorem pick_yes {s : Sign} {l : List Sign} {r : Int} (h : (decide (s.fr ≤ r) && decide (r ≤ s.to)) = true) : pick (s :: l) r = (s, true) := pick_cons (b := true) h.symm

set_option maxHeartbeats 1000000 in
theorem start_step {r : Int} {N i : Nat} {rest : Code} {Q : Exit → Act → World → Prop} {a : Act} {w : World} {t0 t1 : TypeId} {s0 s1 : String} {f0 f1 : Array Edge}
    (hs : a.tmps.size = N) (h0 : a.eval (.tmp 0) = .int .i32 r) (hd : a.defers = []) (hN : 3 < N)
    (h : ∀ a', Frm r w.heap.size N a' → Code.wp Tryd.prog rest Q a' (w.alloc (.cells (propV 0 0 0 0 0 0 0 0 false) 31))) :
    Code.wp Tryd.prog ((Code.region i #[⟨some 2, .alloc 31, t0, s0, f0, none⟩, ⟨some 3, .assign (.const (.bool false)), t1, s1, f1, none⟩] false).seq rest) Q a w := by
  have HD := Lib.hid hd
  clear hd
  refine wp_seq (wp_region_list ?_)
  refine wpList_plain rfl fun K hK => ?_
  go_simp
  have e2 : (a.put (some 2) (.pointer (some ⟨w.heap.size, 0, none⟩))).eval (.tmp 2) = .pointer (some ⟨w.heap.size, 0, none⟩) := put_self (by omega)
  have e0 : (a.put (some 2) (.pointer (some ⟨w.heap.size, 0, none⟩))).eval (.tmp 0) = .int .i32 r := by rw [put_ne (by omega)]; exact h0
  have es : (a.put (some 2) (.pointer (some ⟨w.heap.size, 0, none⟩))).tmps.size = N := by rw [put_size]; exact hs
  have ed : (a.put (some 2) (.pointer (some ⟨w.heap.size, 0, none⟩))).defers = [] := by rw [put_defers]; exact HD.out
  show K (a.put (some 2) (.pointer (some ⟨w.heap.size, 0, none⟩))) _
  generalize a.put (some 2) (.pointer (some ⟨w.heap.size, 0, none⟩)) = a1 at *
  refine hK _ _ ?_
  refine wpList_value (d := 3) rfl rfl rfl ?_
  refine wpList_nil ?_
  exact h _ ⟨by rw [put_size]; exact es, by rw [put_ne (by omega)]; exact e0, by rw [put_ne (by omega)]; exact e2, by rw [put_defers]; exact ed⟩

set_option maxHeartbeats 1000000 in
theorem end_step {r : Int} {bl g N i : Nat} {Q : Exit → Act → World → Prop} {a : Act} {w1 : World} {t0 t1 t2 : TypeId} {s0 s1 s2 : String} {f0 f1 f2 : Array Edge}
    (hf : Frm r bl N a) (h3 : 3 < g) (hN : g < N) (hz : w1.heap[bl]? = some (.cells (propV 0 0 0 0 0 0 0 0 false) 31 (0, 0)))
    (h : ∀ a' w2, a'.defers = [] → a'.eval (.tmp 2) = .pointer (some ⟨bl, 0, none⟩) → a'.eval (.tmp 3) = .bool false → Below w1.heap.size w1 w2 →
      w2.heap[bl]? = some (.cells (propV 0 0 0 0 0 0 0 0 false) 31 (0, 0)) → Q .ret a' (w2.setRow bl (propV 1 0 0 0 0 0 0 0 false))) :
    Code.wp Tryd.prog ((Code.region i #[⟨some g, .call { callee := .value (.func 35), args := #[], argTypes := #[] }, t0, s0, f0, none⟩,
        ⟨none, .store 31 (.tmp 2) (.tmp g), t1, s1, f1, none⟩, ⟨some 3, .assign (.const (.bool false)), t2, s2, f2, none⟩] false).seq Code.ret) Q a w1 := by
  have hxz := hf.size
  refine wp_seq (wp_region_list ?_)
  refine wpList_plain rfl fun K hK => ?_
  go_simp
  refine (refRest_any _).mono ?_
  rintro e w2 ⟨rfl, hb⟩
  have hbl : bl < w1.heap.size := (Array.getElem?_eq_some_iff.1 hz).1
  have hx1 := hf.put (d := g) (v := .agg (propV 1 0 0 0 0 0 0 0 false)) (by omega)
  have ex1 : (a.put (some g) (.agg (propV 1 0 0 0 0 0 0 0 false))).eval (.tmp g) = .agg (propV 1 0 0 0 0 0 0 0 false) := put_self (by omega)
  show K (a.put (some g) (.agg (propV 1 0 0 0 0 0 0 0 false))) w2
  generalize a.put (some g) (.agg (propV 1 0 0 0 0 0 0 0 false)) = x1 at *
  refine hK _ _ (wpList_store_row rfl 31 _ _ rfl bl (propV 1 0 0 0 0 0 0 0 false) hx1.res ex1 31 (propV 0 0 0 0 0 0 0 0 false) ((hb.block bl hbl).trans hz) sizeProp rfl (propV_one _ _ _ _ _ _ _ _ _) ?_)
  refine wpList_value (d := 3) rfl rfl rfl ?_
  refine wpList_nil (wp_ret ?_)
  have hxz1 := hx1.size
  exact h (Act.put (x1.put none undef) (some 3) _) w2 (by rw [put_defers, put_defers]; exact hx1.defers) (by rw [put_ne (by omega)]; exact hx1.res) (put_self (by rw [put_size]; omega)) hb ((hb.block bl hbl).trans hz)

/-- what a row hands back is what was asked -/
theorem tab_ret {fn : Func} (hfn : fn.results = #[.cell 2 31, .tmp 3]) {w w2 : World} {a : Act} {x : Sign × Bool}
    (hd : a.defers = []) (h2 : a.eval (.tmp 2) = .pointer (some ⟨w.heap.size, 0, none⟩)) (h3 : a.eval (.tmp 3) = .bool x.2)
    (hb : Below (w.alloc (.cells (propV 0 0 0 0 0 0 0 0 false) 31)).heap.size (w.alloc (.cells (propV 0 0 0 0 0 0 0 0 false) 31)) w2)
    (hz : w2.heap[w.heap.size]? = some (.cells (propV 0 0 0 0 0 0 0 0 false) 31 (0, 0))) :
    bodyPost Tryd.prog fn (RetPick w x) .ret a (w2.setRow w.heap.size x.1.prop) := by
  refine bodyPost_ret (results_row_tmp hfn _ _ w.heap.size 31 x.1.prop (0, 0) _ h2 (setRow_heap _ _ (propV 0 0 0 0 0 0 0 0 false) _ _ _ hz) Tryd.underlying31 rfl sizeProp) hd ?_
  have h3' : a.tmps.getD 3 undef = .bool x.2 := h3
  exact ⟨by rw [h3'], below_setRow (((Below.refl w.heap.size w).alloc (Nat.le_refl _) _).trans (hb.mono (by simp))) (Nat.le_refl _) _⟩

end Go.Proofs.YtbpaogmnaodcaaaDoor
