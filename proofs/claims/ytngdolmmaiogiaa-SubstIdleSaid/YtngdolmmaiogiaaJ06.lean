/- Joined: SkipC SkipD. -/
import Derived.Test.YtngdolmmaiogiaaJ05
import Derived.Test.YtngdolmmaiogiaaJ02

/- The walks of skip.eye, Next, Prev. Condition: what they read reads as plain data. Printed by wip/tools. -/
namespace Go.Proofs.Ytngdolmmaiogiaa
open Go.RowKit

/-- what eye leaves: the closure, its variables in four new blocks -/
def RetEye (w : World) (F : Fnt) (l : Lk) (A : Option Addr) (n c : Nat) (by_ : Int) (e : Ending) (w' : World) : Prop :=
  e = .returned (.func (.func 85) #[] #[.pointer (some ⟨w.heap.size + 3, 0, none⟩), .pointer (some ⟨w.heap.size + 2, 0, none⟩), .pointer (some ⟨w.heap.size, 0, none⟩), .pointer (some ⟨w.heap.size + 1, 0, none⟩)]) ∧ w'.cell? ⟨w.heap.size + 2, 0, none⟩ = some (.slice A n c) ∧ w'.cell? ⟨w.heap.size + 3, 0, none⟩ = some (.int .i64 by_) ∧ FBox w' w.heap.size F ∧ KBox w' (w.heap.size + 1) l ∧ Below w.heap.size w w' ∧ w.heap.size + 3 < w'.heap.size
set_option maxRecDepth 100000 in
set_option maxHeartbeats 4000000 in
theorem eye_any (F : Fnt) (l : Lk) (A : Option Addr) (n c : Nat) (by_ : Int) (w : World) :
    Calls Try.prog 80 #[.agg #[.int .i64 F.em, .slice F.GA F.gn F.gc, .slice F.MA F.mn F.mc, .slice F.LA F.ln F.lc, .slice F.FA F.fn F.fc, .slice F.SA F.sn F.sc], .agg #[.int .i64 l.ki, .int .i64 l.fl, .int .i64 l.se, .slice l.su.A l.su.n l.su.c], .slice A n c, .int .i64 by_] w (RetEye w F l A n c by_) := by
  obtain ⟨wb1, hw_wb1⟩ : ∃ z, z = w.alloc (.cells #[.int .i64 F.em, .slice F.GA F.gn F.gc, .slice F.MA F.mn F.mc, .slice F.LA F.ln F.lc, .slice F.FA F.fn F.fc, .slice F.SA F.sn F.sc] 28) := ⟨_, rfl⟩
  have hs_wb1 : wb1.heap.size = w.heap.size + 1 := by rw [hw_wb1]; simp
  have hb_wb1 : Below w.heap.size w wb1 := by rw [hw_wb1]; exact (Below.refl _ _).alloc (Nat.le_refl _) _
  have hx_0 : wb1.heap[w.heap.size]? = some (.cells #[.int .i64 F.em, .slice F.GA F.gn F.gc, .slice F.MA F.mn F.mc, .slice F.LA F.ln F.lc, .slice F.FA F.fn F.fc, .slice F.SA F.sn F.sc] 28 (0, 0)) := by rw [hw_wb1]; exact heap_alloc_new _ _
  obtain ⟨wb2, hw_wb2⟩ : ∃ z, z = wb1.alloc (.cells #[.int .i64 l.ki, .int .i64 l.fl, .int .i64 l.se, .slice l.su.A l.su.n l.su.c] 36) := ⟨_, rfl⟩
  have hs_wb2 : wb2.heap.size = w.heap.size + 2 := by rw [hw_wb2]; simp <;> omega
  have hb_wb2 : Below w.heap.size w wb2 := by rw [hw_wb2]; exact hb_wb1.alloc (by omega) _
  have hx_1 : wb2.heap[w.heap.size + 1]? = some (.cells #[.int .i64 l.ki, .int .i64 l.fl, .int .i64 l.se, .slice l.su.A l.su.n l.su.c] 36 (0, 0)) := by rw [hw_wb2]; exact (hs_wb1 ▸ heap_alloc_new wb1 _)
  have hx_0 : wb2.heap[w.heap.size]? = some (.cells #[.int .i64 F.em, .slice F.GA F.gn F.gc, .slice F.MA F.mn F.mc, .slice F.LA F.ln F.lc, .slice F.FA F.fn F.fc, .slice F.SA F.sn F.sc] 28 (0, 0)) := by rw [hw_wb2]; exact (heap_alloc_old _ _ (by omega)).trans hx_0
  obtain ⟨wb3, hw_wb3⟩ : ∃ z, z = wb2.alloc (.cells #[.slice A n c] 30) := ⟨_, rfl⟩
  have hs_wb3 : wb3.heap.size = w.heap.size + 3 := by rw [hw_wb3]; simp <;> omega
  have hb_wb3 : Below w.heap.size w wb3 := by rw [hw_wb3]; exact hb_wb2.alloc (by omega) _
  have hx_2 : wb3.heap[w.heap.size + 2]? = some (.cells #[.slice A n c] 30 (0, 0)) := by rw [hw_wb3]; exact (hs_wb2 ▸ heap_alloc_new wb2 _)
  have hx_0 : wb3.heap[w.heap.size]? = some (.cells #[.int .i64 F.em, .slice F.GA F.gn F.gc, .slice F.MA F.mn F.mc, .slice F.LA F.ln F.lc, .slice F.FA F.fn F.fc, .slice F.SA F.sn F.sc] 28 (0, 0)) := by rw [hw_wb3]; exact (heap_alloc_old _ _ (by omega)).trans hx_0
  have hx_1 : wb3.heap[w.heap.size + 1]? = some (.cells #[.int .i64 l.ki, .int .i64 l.fl, .int .i64 l.se, .slice l.su.A l.su.n l.su.c] 36 (0, 0)) := by rw [hw_wb3]; exact (heap_alloc_old _ _ (by omega)).trans hx_1
  obtain ⟨w1, hw_w1⟩ : ∃ z, z = wb3.alloc (.cells #[.int .i64 by_] 3) := ⟨_, rfl⟩
  have hs_w1 : w1.heap.size = w.heap.size + 4 := by rw [hw_w1]; simp <;> omega
  have hb_w1 : Below w.heap.size w w1 := by rw [hw_w1]; exact hb_wb3.alloc (by omega) _
  have hx_3 : w1.heap[w.heap.size + 3]? = some (.cells #[.int .i64 by_] 3 (0, 0)) := by rw [hw_w1]; exact (hs_wb3 ▸ heap_alloc_new wb3 _)
  have hx_0 : w1.heap[w.heap.size]? = some (.cells #[.int .i64 F.em, .slice F.GA F.gn F.gc, .slice F.MA F.mn F.mc, .slice F.LA F.ln F.lc, .slice F.FA F.fn F.fc, .slice F.SA F.sn F.sc] 28 (0, 0)) := by rw [hw_w1]; exact (heap_alloc_old _ _ (by omega)).trans hx_0
  have hx_1 : w1.heap[w.heap.size + 1]? = some (.cells #[.int .i64 l.ki, .int .i64 l.fl, .int .i64 l.se, .slice l.su.A l.su.n l.su.c] 36 (0, 0)) := by rw [hw_w1]; exact (heap_alloc_old _ _ (by omega)).trans hx_1
  have hx_2 : w1.heap[w.heap.size + 2]? = some (.cells #[.slice A n c] 30 (0, 0)) := by rw [hw_w1]; exact (heap_alloc_old _ _ (by omega)).trans hx_2
  have u0 := up_fact (show w1.cell? ⟨w.heap.size + 2, 0, none⟩ = some (.slice A n c) by rw [cell_of_row _ _ 0 _ _ _ hx_2]; rfl)
  have v0 := up_fact (show w1.cell? ⟨w.heap.size + 3, 0, none⟩ = some (.int .i64 by_) by rw [cell_of_row _ _ 0 _ _ _ hx_3]; rfl)
  have hA0 := Below.refl w1.heap.size w1
  have HS1 := Lib.hid hs_w1
  have hs1 : w.heap.size + 3 < w1.heap.size := by omega
  have HB1 := Lib.hid hb_w1
  have HW_wb1 := Lib.hid hw_wb1
  have HW_wb2 := Lib.hid hw_wb2
  have HW_wb3 := Lib.hid hw_wb3
  have HW_w1 := Lib.hid hw_w1
  clear hw_wb1 hs_wb1 hb_wb1 hw_wb2 hs_wb2 hb_wb2 hw_wb3 hs_wb3 hb_wb3 hw_w1 hs_w1 hb_w1
  have HX0 := Lib.hid hx_0
  have HX1 := Lib.hid hx_1
  clear hx_0 hx_1 hx_2 hx_3
  have hmf : ∀ (fn : Fn) (first cap : Array Value) (w : World), (Instr.makeFunc fn first cap).run Try.prog w = .ok (.func fn first cap) w := fun _ _ _ _ => rfl
  go_enter Try.func80, Try.ntmps80
  go_upto_region 1 with fail
  rw [← HW_wb1.out]
  rw [← HW_wb2.out]
  rw [← HW_wb3.out]
  rw [← HW_w1.out]
  go_wp2_with fail
  go_ret
  exact ⟨rfl, u0 _ hA0, v0 _ hA0, HX0.out, HX1.out, HB1.out, hs1⟩

set_option maxRecDepth 100000 in
set_option maxHeartbeats 4000000 in
theorem next_any (F : Fnt) (B : Nat) (P : PFt) (l : Lk) (A : Option Addr) (n c : Nat) (gs : List Gl) (p : Nat) (w : World) (h : FtR w B F P) (hI : GlsR w B A n c gs) (hB : B ≤ w.heap.size) (hp : p < n) :
    Calls Try.prog 68 #[.agg #[.int .i64 F.em, .slice F.GA F.gn F.gc, .slice F.MA F.mn F.mc, .slice F.LA F.ln F.lc, .slice F.FA F.fn F.fc, .slice F.SA F.sn F.sc], .agg #[.int .i64 l.ki, .int .i64 l.fl, .int .i64 l.se, .slice l.su.A l.su.n l.su.c], .slice A n c, .int .i64 (p : Int)] w (fun e w' => e = .returned (.int .i64 (upB (skF P l) gs (p + 1))) ∧ Below w.heap.size w w') := by
  have HF := Lib.hid h
  have HI := Lib.hid hI
  have hcap := hI.cap
  clear h hI
  obtain ⟨wb1, hw_wb1⟩ : ∃ z, z = w.alloc (.cells #[.int .i64 F.em, .slice F.GA F.gn F.gc, .slice F.MA F.mn F.mc, .slice F.LA F.ln F.lc, .slice F.FA F.fn F.fc, .slice F.SA F.sn F.sc] 28) := ⟨_, rfl⟩
  have hs_wb1 : wb1.heap.size = w.heap.size + 1 := by rw [hw_wb1]; simp
  have hb_wb1 : Below w.heap.size w wb1 := by rw [hw_wb1]; exact (Below.refl _ _).alloc (Nat.le_refl _) _
  have hx_0 : wb1.heap[w.heap.size]? = some (.cells #[.int .i64 F.em, .slice F.GA F.gn F.gc, .slice F.MA F.mn F.mc, .slice F.LA F.ln F.lc, .slice F.FA F.fn F.fc, .slice F.SA F.sn F.sc] 28 (0, 0)) := by rw [hw_wb1]; exact heap_alloc_new _ _
  obtain ⟨w1, hw_w1⟩ : ∃ z, z = wb1.alloc (.cells #[.int .i64 l.ki, .int .i64 l.fl, .int .i64 l.se, .slice l.su.A l.su.n l.su.c] 36) := ⟨_, rfl⟩
  have hs_w1 : w1.heap.size = w.heap.size + 2 := by rw [hw_w1]; simp <;> omega
  have hb_w1 : Below w.heap.size w w1 := by rw [hw_w1]; exact hb_wb1.alloc (by omega) _
  have hx_1 : w1.heap[w.heap.size + 1]? = some (.cells #[.int .i64 l.ki, .int .i64 l.fl, .int .i64 l.se, .slice l.su.A l.su.n l.su.c] 36 (0, 0)) := by rw [hw_w1]; exact (hs_wb1 ▸ heap_alloc_new wb1 _)
  have hx_0 : w1.heap[w.heap.size]? = some (.cells #[.int .i64 F.em, .slice F.GA F.gn F.gc, .slice F.MA F.mn F.mc, .slice F.LA F.ln F.lc, .slice F.FA F.fn F.fc, .slice F.SA F.sn F.sc] 28 (0, 0)) := by rw [hw_w1]; exact (heap_alloc_old _ _ (by omega)).trans hx_0
  have g0 := up_fact (show w1.cell? ⟨w.heap.size, 0, none⟩ = some (.int .i64 F.em) by rw [cell_of_row _ _ 0 _ _ _ hx_0]; rfl)
  have g1 := up_fact (show w1.cell? ⟨w.heap.size, 1, none⟩ = some (.slice F.GA F.gn F.gc) by rw [cell_of_row _ _ 1 _ _ _ hx_0]; rfl)
  have g2 := up_fact (show w1.cell? ⟨w.heap.size, 2, none⟩ = some (.slice F.MA F.mn F.mc) by rw [cell_of_row _ _ 2 _ _ _ hx_0]; rfl)
  have g3 := up_fact (show w1.cell? ⟨w.heap.size, 3, none⟩ = some (.slice F.LA F.ln F.lc) by rw [cell_of_row _ _ 3 _ _ _ hx_0]; rfl)
  have g4 := up_fact (show w1.cell? ⟨w.heap.size, 4, none⟩ = some (.slice F.FA F.fn F.fc) by rw [cell_of_row _ _ 4 _ _ _ hx_0]; rfl)
  have g5 := up_fact (show w1.cell? ⟨w.heap.size, 5, none⟩ = some (.slice F.SA F.sn F.sc) by rw [cell_of_row _ _ 5 _ _ _ hx_0]; rfl)
  have h0 := up_fact (show w1.cell? ⟨w.heap.size + 1, 0, none⟩ = some (.int .i64 l.ki) by rw [cell_of_row _ _ 0 _ _ _ hx_1]; rfl)
  have h1 := up_fact (show w1.cell? ⟨w.heap.size + 1, 1, none⟩ = some (.int .i64 l.fl) by rw [cell_of_row _ _ 1 _ _ _ hx_1]; rfl)
  have h2 := up_fact (show w1.cell? ⟨w.heap.size + 1, 2, none⟩ = some (.int .i64 l.se) by rw [cell_of_row _ _ 2 _ _ _ hx_1]; rfl)
  have h3 := up_fact (show w1.cell? ⟨w.heap.size + 1, 3, none⟩ = some (.slice l.su.A l.su.n l.su.c) by rw [cell_of_row _ _ 3 _ _ _ hx_1]; rfl)
  have hA0 := Below.refl w1.heap.size w1
  have HS1 := Lib.hid hs_w1
  have hs1 : w.heap.size + 1 < w1.heap.size := by omega
  have HB1 := Lib.hid hb_w1
  have HW_wb1 := Lib.hid hw_wb1
  have HW_w1 := Lib.hid hw_w1
  clear hw_wb1 hs_wb1 hb_wb1 hw_w1 hs_w1 hb_w1
  clear hx_0 hx_1
  have HB := Lib.hid hB
  obtain ⟨r, hr⟩ : ∃ r, r = upB (skF P l) gs (p + 1) := ⟨_, rfl⟩
  rw [← hr]
  have HE := Lib.hid (fun W (hW : Below w1.heap.size w1 W) b1 b2 b3 b4 hby hl hf hk => show Calls Try.prog 85 #[.int .i64 (p : Int), .pointer (some ⟨b1, 0, none⟩), .pointer (some ⟨b2, 0, none⟩), .pointer (some ⟨b3, 0, none⟩), .pointer (some ⟨b4, 0, none⟩)] W (fun e w' => e = .returned (.int .i64 r) ∧ Below W.heap.size W w') from by
    have h0 := eyeUp_any F B P l A n c gs b1 b2 b3 b4 (p + 1) W hby hl hf hk (HF.out.below ((HB1.out.mono HB.out).trans (hW.mono (by have := HB.out; omega)))) (HI.out.below ((HB1.out.mono HB.out).trans (hW.mono (by have := HB.out; omega)))) (by have := HB.out; have := hW.size; omega) (by omega)
    rw [← hr] at h0
    exact (show ((p + 1 : Nat) : Int) - 1 = (p : Int) by omega) ▸ h0)
  clear hr
  have n1 : decide ((p : Int) < -1) = false := by simp <;> omega
  have n2 : decide (-1 < (p : Int)) = true := by simp; omega
  have n3 : decide ((p : Int) < 0) = false := by simp
  have n4 : decide ((n : Int) ≤ (p : Int)) = false := by simp; omega
  have n5 : decide (n ≤ p) = false := by simp; omega
  have n6 : decide ((p : Int) < (n : Int)) = true := by simp; omega
  have n7 : decide ((n : Int) < (p : Int)) = false := by simp; omega
  go_enter Try.func68, Try.ntmps68
  go_upto_region 1 with fail
  rw [← HW_wb1.out]
  rw [← HW_w1.out]
  go_wp2_with (first
    | (go_at_call 80; refine (eye_any F l A n c _ _).mono ?_; rintro e w2 ⟨rfl, e1, e2, e3, e4, hb2, hs2⟩; have hA2 := bgo hA0 hb2)
    | (go_at_call 85; refine (HE.out _ hA2 _ _ _ _ e2 e1 e3 e4).mono ?_; rintro e w3 ⟨rfl, hb3⟩; have hA3 := bgo hA2 hb3))
  go_ret
  exact ⟨rfl, HB1.out.trans (hA3.mono (by omega))⟩

set_option maxRecDepth 100000 in
set_option maxHeartbeats 4000000 in
theorem prev_any (F : Fnt) (B : Nat) (P : PFt) (l : Lk) (A : Option Addr) (n c : Nat) (gs : List Gl) (p : Nat) (w : World) (h : FtR w B F P) (hI : GlsR w B A n c gs) (hB : B ≤ w.heap.size) (hp : p < n) :
    Calls Try.prog 70 #[.agg #[.int .i64 F.em, .slice F.GA F.gn F.gc, .slice F.MA F.mn F.mc, .slice F.LA F.ln F.lc, .slice F.FA F.fn F.fc, .slice F.SA F.sn F.sc], .agg #[.int .i64 l.ki, .int .i64 l.fl, .int .i64 l.se, .slice l.su.A l.su.n l.su.c], .slice A n c, .int .i64 (p : Int)] w (fun e w' => e = .returned (.int .i64 (dnB (skF P l) gs p)) ∧ Below w.heap.size w w') := by
  have HF := Lib.hid h
  have HI := Lib.hid hI
  have hcap := hI.cap
  clear h hI
  obtain ⟨wb1, hw_wb1⟩ : ∃ z, z = w.alloc (.cells #[.int .i64 F.em, .slice F.GA F.gn F.gc, .slice F.MA F.mn F.mc, .slice F.LA F.ln F.lc, .slice F.FA F.fn F.fc, .slice F.SA F.sn F.sc] 28) := ⟨_, rfl⟩
  have hs_wb1 : wb1.heap.size = w.heap.size + 1 := by rw [hw_wb1]; simp
  have hb_wb1 : Below w.heap.size w wb1 := by rw [hw_wb1]; exact (Below.refl _ _).alloc (Nat.le_refl _) _
  have hx_0 : wb1.heap[w.heap.size]? = some (.cells #[.int .i64 F.em, .slice F.GA F.gn F.gc, .slice F.MA F.mn F.mc, .slice F.LA F.ln F.lc, .slice F.FA F.fn F.fc, .slice F.SA F.sn F.sc] 28 (0, 0)) := by rw [hw_wb1]; exact heap_alloc_new _ _
  obtain ⟨w1, hw_w1⟩ : ∃ z, z = wb1.alloc (.cells #[.int .i64 l.ki, .int .i64 l.fl, .int .i64 l.se, .slice l.su.A l.su.n l.su.c] 36) := ⟨_, rfl⟩
  have hs_w1 : w1.heap.size = w.heap.size + 2 := by rw [hw_w1]; simp <;> omega
  have hb_w1 : Below w.heap.size w w1 := by rw [hw_w1]; exact hb_wb1.alloc (by omega) _
  have hx_1 : w1.heap[w.heap.size + 1]? = some (.cells #[.int .i64 l.ki, .int .i64 l.fl, .int .i64 l.se, .slice l.su.A l.su.n l.su.c] 36 (0, 0)) := by rw [hw_w1]; exact (hs_wb1 ▸ heap_alloc_new wb1 _)
  have hx_0 : w1.heap[w.heap.size]? = some (.cells #[.int .i64 F.em, .slice F.GA F.gn F.gc, .slice F.MA F.mn F.mc, .slice F.LA F.ln F.lc, .slice F.FA F.fn F.fc, .slice F.SA F.sn F.sc] 28 (0, 0)) := by rw [hw_w1]; exact (heap_alloc_old _ _ (by omega)).trans hx_0
  have g0 := up_fact (show w1.cell? ⟨w.heap.size, 0, none⟩ = some (.int .i64 F.em) by rw [cell_of_row _ _ 0 _ _ _ hx_0]; rfl)
  have g1 := up_fact (show w1.cell? ⟨w.heap.size, 1, none⟩ = some (.slice F.GA F.gn F.gc) by rw [cell_of_row _ _ 1 _ _ _ hx_0]; rfl)
  have g2 := up_fact (show w1.cell? ⟨w.heap.size, 2, none⟩ = some (.slice F.MA F.mn F.mc) by rw [cell_of_row _ _ 2 _ _ _ hx_0]; rfl)
  have g3 := up_fact (show w1.cell? ⟨w.heap.size, 3, none⟩ = some (.slice F.LA F.ln F.lc) by rw [cell_of_row _ _ 3 _ _ _ hx_0]; rfl)
  have g4 := up_fact (show w1.cell? ⟨w.heap.size, 4, none⟩ = some (.slice F.FA F.fn F.fc) by rw [cell_of_row _ _ 4 _ _ _ hx_0]; rfl)
  have g5 := up_fact (show w1.cell? ⟨w.heap.size, 5, none⟩ = some (.slice F.SA F.sn F.sc) by rw [cell_of_row _ _ 5 _ _ _ hx_0]; rfl)
  have h0 := up_fact (show w1.cell? ⟨w.heap.size + 1, 0, none⟩ = some (.int .i64 l.ki) by rw [cell_of_row _ _ 0 _ _ _ hx_1]; rfl)
  have h1 := up_fact (show w1.cell? ⟨w.heap.size + 1, 1, none⟩ = some (.int .i64 l.fl) by rw [cell_of_row _ _ 1 _ _ _ hx_1]; rfl)
  have h2 := up_fact (show w1.cell? ⟨w.heap.size + 1, 2, none⟩ = some (.int .i64 l.se) by rw [cell_of_row _ _ 2 _ _ _ hx_1]; rfl)
  have h3 := up_fact (show w1.cell? ⟨w.heap.size + 1, 3, none⟩ = some (.slice l.su.A l.su.n l.su.c) by rw [cell_of_row _ _ 3 _ _ _ hx_1]; rfl)
  have hA0 := Below.refl w1.heap.size w1
  have HS1 := Lib.hid hs_w1
  have hs1 : w.heap.size + 1 < w1.heap.size := by omega
  have HB1 := Lib.hid hb_w1
  have HW_wb1 := Lib.hid hw_wb1
  have HW_w1 := Lib.hid hw_w1
  clear hw_wb1 hs_wb1 hb_wb1 hw_w1 hs_w1 hb_w1
  clear hx_0 hx_1
  have HB := Lib.hid hB
  obtain ⟨r, hr⟩ : ∃ r, r = dnB (skF P l) gs p := ⟨_, rfl⟩
  rw [← hr]
  have HE := Lib.hid (fun W (hW : Below w1.heap.size w1 W) b1 b2 b3 b4 hby hl hf hk => show Calls Try.prog 85 #[.int .i64 (p : Int), .pointer (some ⟨b1, 0, none⟩), .pointer (some ⟨b2, 0, none⟩), .pointer (some ⟨b3, 0, none⟩), .pointer (some ⟨b4, 0, none⟩)] W (fun e w' => e = .returned (.int .i64 r) ∧ Below W.heap.size W w') from by
    have h0 := eyeDn_any F B P l A n c gs b1 b2 b3 b4 p W hby hl hf hk (HF.out.below ((HB1.out.mono HB.out).trans (hW.mono (by have := HB.out; omega)))) (HI.out.below ((HB1.out.mono HB.out).trans (hW.mono (by have := HB.out; omega)))) (by have := HB.out; have := hW.size; omega) (by omega)
    rw [← hr] at h0
    exact h0)
  clear hr
  have n1 : decide ((p : Int) < -1) = false := by simp <;> omega
  have n2 : decide (-1 < (p : Int)) = true := by simp; omega
  have n3 : decide ((p : Int) < 0) = false := by simp
  have n4 : decide ((n : Int) ≤ (p : Int)) = false := by simp; omega
  have n5 : decide (n ≤ p) = false := by simp; omega
  have n6 : decide ((p : Int) < (n : Int)) = true := by simp; omega
  have n7 : decide ((n : Int) < (p : Int)) = false := by simp; omega
  go_enter Try.func70, Try.ntmps70
  go_upto_region 1 with fail
  rw [← HW_wb1.out]
  rw [← HW_w1.out]
  go_wp2_with (first
    | (go_at_call 80; refine (eye_any F l A n c _ _).mono ?_; rintro e w2 ⟨rfl, e1, e2, e3, e4, hb2, hs2⟩; have hA2 := bgo hA0 hb2)
    | (go_at_call 85; refine (HE.out _ hA2 _ _ _ _ e2 e1 e3 e4).mono ?_; rintro e w3 ⟨rfl, hb3⟩; have hA3 := bgo hA2 hb3))
  go_ret
  exact ⟨rfl, HB1.out.trans (hA3.mono (by omega))⟩

end Go.Proofs.Ytngdolmmaiogiaa

/- The walks of skip.stands and of the closures of Row and Back. Condition: what they read reads as plain data. Printed by wip/tools. -/
namespace Go.Proofs.Ytngdolmmaiogiaa
open Go.RowKit

/-- one glyph held against a set -/
def stepB (nx : Nat → Int) (gs : List Gl) (p : Nat) (s : List Int) : Option Nat :=
  if nx p = -1 then none else match gs[(nx p).toNat]? with
    | some g => if hasB s g.id then some (nx p).toNat else none
    | none => none
/-- glyphs, one by one, against sets -/
def stB (nx : Nat → Int) (gs : List Gl) : Nat → List (List Int) → Option (List Nat)
  | _, [] => some []
  | p, s :: r => match stepB nx gs p s with
    | some q => (stB nx gs q r).map (q :: ·)
    | none => none
def natI (l : List Nat) : List Int := l.map fun p : Nat => (p : Int)
theorem natI_append (a b : List Nat) : natI (a ++ b) = natI a ++ natI b := by unfold natI; simp
theorem natI_length (a : List Nat) : (natI a).length = a.length := by unfold natI; simp
theorem stB_end {nx : Nat → Int} {gs : List Gl} {q : Nat} {ss : List (List Int)} {done : List Nat} {tot : Option (List Nat)} (h : tot = (stB nx gs q (ss.drop ss.length)).map (done ++ ·)) : tot = some done := by
  rw [h, List.drop_length]; simp [stB]
theorem drop_getD {α : Type} {ss : List α} {j : Nat} (d : α) (h : j < ss.length) : ss.drop j = ss.getD j d :: ss.drop (j + 1) := by
  rw [List.drop_eq_getElem_cons h, List.getD_eq_getElem?_getD, List.getElem?_eq_getElem h]; rfl
theorem stB_none {nx : Nat → Int} {gs : List Gl} {q j : Nat} {ss : List (List Int)} {done : List Nat} {tot : Option (List Nat)} (h : tot = (stB nx gs q (ss.drop j)).map (done ++ ·)) (hj : j < ss.length) (hs : stepB nx gs q (ss.getD j []) = none) : tot = none := by
  rw [h, drop_getD [] hj]; unfold stB; rw [hs]; rfl
theorem stB_some {nx : Nat → Int} {gs : List Gl} {q q2 j : Nat} {ss : List (List Int)} {done : List Nat} {tot : Option (List Nat)} (h : tot = (stB nx gs q (ss.drop j)).map (done ++ ·)) (hj : j < ss.length) (hs : stepB nx gs q (ss.getD j []) = some q2) : tot = (stB nx gs q2 (ss.drop (j + 1))).map ((done ++ [q2]) ++ ·) := by
  rw [h, drop_getD [] hj]
  simp only [stB, hs, Option.map_map]
  congr 1
  funext x
  simp
/-- the places that nx comes to are places -/
def NxOk (nx : Nat → Int) (n : Nat) : Prop := ∀ p, p < n → nx p = -1 ∨ ∃ q, q < n ∧ nx p = (q : Int)
theorem upL_range {s : Gl → Bool} : ∀ (l : List Gl) (i : Nat), upL s l i = -1 ∨ ∃ q, i ≤ q ∧ q < i + l.length ∧ upL s l i = (q : Int)
  | [], _ => .inl rfl
  | g :: r, i => by
    unfold upL
    split
    · rcases upL_range r (i + 1) with h | ⟨q, h1, h2, h3⟩
      · exact .inl h
      · exact .inr ⟨q, by omega, by simp; omega, h3⟩
    · exact .inr ⟨i, Nat.le_refl _, by simp, rfl⟩
theorem upB_ok (s : Gl → Bool) (gs : List Gl) : NxOk (fun p => upB s gs (p + 1)) gs.length := fun p hp => by
  unfold upB
  rcases upL_range (s := s) (gs.drop (p + 1)) (p + 1) with h | ⟨q, h1, h2, h3⟩
  · exact .inl h
  · exact .inr ⟨q, by rw [List.length_drop] at h2; omega, h3⟩
theorem dnB_range {s : Gl → Bool} {gs : List Gl} : ∀ (i : Nat), dnB s gs i = -1 ∨ ∃ q, q < i ∧ dnB s gs i = (q : Int)
  | 0 => .inl rfl
  | i + 1 => by
    unfold dnB
    split
    · split
      · rcases dnB_range (s := s) (gs := gs) i with h | ⟨q, h1, h2⟩
        · exact .inl h
        · exact .inr ⟨q, by omega, h2⟩
      · exact .inr ⟨i, by omega, rfl⟩
    · exact .inl rfl
theorem dnB_ok (s : Gl → Bool) (gs : List Gl) : NxOk (dnB s gs) gs.length := fun p hp => by
  rcases dnB_range (s := s) (gs := gs) p with h | ⟨q, h1, h2⟩
  · exact .inl h
  · exact .inr ⟨q, by omega, h2⟩
/-- behind a place, ahead of it -/
def rowB (P : PFt) (l : Lk) (gs : List Gl) (p : Nat) (ss : List (List Int)) : Option (List Nat) := stB (fun p => upB (skF P l) gs (p + 1)) gs p ss
def backB (P : PFt) (l : Lk) (gs : List Gl) (p : Nat) (ss : List (List Int)) : Option (List Nat) := stB (dnB (skF P l) gs) gs p ss
set_option maxRecDepth 100000 in
set_option maxHeartbeats 4000000 in
theorem rowclo_any (F : Fnt) (B : Nat) (P : PFt) (l : Lk) (A : Option Addr) (n c : Nat) (gs : List Gl) (bf bk bl p : Nat) (w : World) (hl : w.cell? ⟨bl, 0, none⟩ = some (.slice A n c)) (hf : FBox w bf F) (hk : KBox w bk l) (hF : FtR w B F P) (hI : GlsR w B A n c gs) (hB : B ≤ w.heap.size) (hp : p < n) :
    Calls Try.prog 67 #[.int .i64 (p : Int), .pointer (some ⟨bf, 0, none⟩), .pointer (some ⟨bk, 0, none⟩), .pointer (some ⟨bl, 0, none⟩)] w (fun e w' => e = .returned (.int .i64 (upB (skF P l) gs (p + 1))) ∧ Below w.heap.size w w') := by
  obtain ⟨y0, y1, y2, y3, y4, y5⟩ := hf.cells
  obtain ⟨x0, x1, x2, x3⟩ := hk.cells
  have g0 := up_fact y0
  have g1 := up_fact y1
  have g2 := up_fact y2
  have g3 := up_fact y3
  have g4 := up_fact y4
  have g5 := up_fact y5
  have h0 := up_fact x0
  have h1 := up_fact x1
  have h2 := up_fact x2
  have h3 := up_fact x3
  have c2 := up_fact hl
  have hA := Below.refl w.heap.size w
  have HN := Lib.hid (next_any F B P l A n c gs p w hF hI hB hp)
  clear y0 y1 y2 y3 y4 y5 x0 x1 x2 x3 hl hf hk hF hI
  go_enter Try.func67, Try.ntmps67
  go_upto_region 1 with fail
  go_wp2_with (go_at_call 68; refine (HN.out).mono ?_; rintro e w9 ⟨rfl, hb⟩; have hA := bgo hA hb)
  go_ret
  exact ⟨rfl, hA⟩

set_option maxRecDepth 100000 in
set_option maxHeartbeats 4000000 in
theorem backclo_any (F : Fnt) (B : Nat) (P : PFt) (l : Lk) (A : Option Addr) (n c : Nat) (gs : List Gl) (bf bk bl p : Nat) (w : World) (hl : w.cell? ⟨bl, 0, none⟩ = some (.slice A n c)) (hf : FBox w bf F) (hk : KBox w bk l) (hF : FtR w B F P) (hI : GlsR w B A n c gs) (hB : B ≤ w.heap.size) (hp : p < n) :
    Calls Try.prog 69 #[.int .i64 (p : Int), .pointer (some ⟨bf, 0, none⟩), .pointer (some ⟨bk, 0, none⟩), .pointer (some ⟨bl, 0, none⟩)] w (fun e w' => e = .returned (.int .i64 (dnB (skF P l) gs p)) ∧ Below w.heap.size w w') := by
  obtain ⟨y0, y1, y2, y3, y4, y5⟩ := hf.cells
  obtain ⟨x0, x1, x2, x3⟩ := hk.cells
  have g0 := up_fact y0
  have g1 := up_fact y1
  have g2 := up_fact y2
  have g3 := up_fact y3
  have g4 := up_fact y4
  have g5 := up_fact y5
  have h0 := up_fact x0
  have h1 := up_fact x1
  have h2 := up_fact x2
  have h3 := up_fact x3
  have c2 := up_fact hl
  have hA := Below.refl w.heap.size w
  have HN := Lib.hid (prev_any F B P l A n c gs p w hF hI hB hp)
  clear y0 y1 y2 y3 y4 y5 x0 x1 x2 x3 hl hf hk hF hI
  go_enter Try.func69, Try.ntmps69
  go_upto_region 1 with fail
  go_wp2_with (go_at_call 70; refine (HN.out).mono ?_; rintro e w9 ⟨rfl, hb⟩; have hA := bgo hA hb)
  go_ret
  exact ⟨rfl, hA⟩

set_option maxRecDepth 100000 in
set_option maxHeartbeats 4000000 in
theorem standsRow_any (nx : Nat → Int) (B BS : Nat) (A : Option Addr) (n c : Nat) (gs : List Gl) (As : Option Addr) (ns cs : Nat) (ss : List (List Int)) (bf bk bl p : Nat) (w : World) (hN : ∀ W, Below w.heap.size w W → ∀ p, p < n → Calls Try.prog 67 #[.int .i64 (p : Int), .pointer (some ⟨bf, 0, none⟩), .pointer (some ⟨bk, 0, none⟩), .pointer (some ⟨bl, 0, none⟩)] W (fun e w' => e = .returned (.int .i64 (nx p)) ∧ Below W.heap.size W w')) (hnx : NxOk nx n) (hI : GlsR w B A n c gs) (hS : Grd w BS As ns cs ss) (hB : B ≤ w.heap.size) (hBS : BS ≤ w.heap.size) (hp : p < n) (hns : ns ≤ 100000) :
    Calls Try.prog 66 #[.func (.func 67) #[] #[.pointer (some ⟨bf, 0, none⟩), .pointer (some ⟨bk, 0, none⟩), .pointer (some ⟨bl, 0, none⟩)], .slice A n c, .int .i64 (p : Int), .slice As ns cs] w (RetTo w ((stB nx gs p ss).map natI)) := by
  have hcap := hI.cap
  have hcaps := hS.cap
  have hlen := hI.length
  have hlens := hS.1
  have HI := Lib.hid hI
  have HS := Lib.hid hS
  have HN := Lib.hid hN
  have HNX := Lib.hid hnx
  have HB := Lib.hid hB
  clear hI hS hN hnx
  obtain ⟨tot, htot⟩ : ∃ z, z = stB nx gs p ss := ⟨_, rfl⟩
  rw [← htot]
  have HTOT := Lib.hid htot
  clear htot
  go_enter Try.func66, Try.ntmps66
  go_wp2_with fail
  go_loopw [2, 10, 15] (fun v2 v10 v15 wr => ∃ (q j : Nat) (done : List Nat) (Ao : Option Addr) (co : Nat), v2 = .int .i64 (q : Int) ∧ v10 = .slice Ao j co ∧ v15 = .int .i64 (j : Int) ∧ q < n ∧ j ≤ ns ∧ tot = (stB nx gs q (ss.drop j)).map (done ++ ·) ∧ Own wr w.heap.size 3 Ao j co (natI done) ∧ Below w.heap.size w wr) (fun _ _ v15 _ => ns - (intOf v15).toNat)
  case atStart => exact ⟨p, 0, [], none, 0, rfl, rfl, rfl, hp, Nat.zero_le _, by rw [HTOT.out]; simp, (show Own w w.heap.size 3 none 0 0 [] from Own.nil_ _ _ _), Below.refl _ _⟩
  case round =>
    clear hp
    obtain ⟨q, j, done, Ao, co, rfl, rfl, rfl, hq, hj, htr, how, hA⟩ := hrel
    have HTR := Lib.hid htr
    have HOW := Lib.hid how
    have hmd : done.length = j := by rw [← natI_length]; exact how.length
    have hcapo := how.cap
    clear htr how
    by_cases hlt : j < ns
    · have z9 : decide ((j : Int) < (ns : Int)) = true := by simp; omega
      obtain ⟨b, o, A', n', c', eA, hbb, c0, hin⟩ := HS.out.2.2.2 j hlt
      have HCAP := Lib.hid hin.cap
      have c1 := up_fact c0
      have HEA := Lib.hid eA
      obtain ⟨sj, hsj⟩ : ∃ z, z = ss.getD j [] := ⟨_, rfl⟩
      rw [← hsj] at hin
      have HIN := Lib.hid hin
      have HSJ := Lib.hid hsj
      clear c0 eA hin hsj
      obtain ⟨x, hx⟩ : ∃ z, z = nx q := ⟨_, rfl⟩
      have hnq := HNX.out q hq
      have HNQ := Lib.hid hx
      rw [← hx] at hnq
      have HN := Lib.hid (show ∀ W, Below w.heap.size w W → ∀ q', q' = q → Calls Try.prog 67 #[.int .i64 (q : Int), .pointer (some ⟨bf, 0, none⟩), .pointer (some ⟨bk, 0, none⟩), .pointer (some ⟨bl, 0, none⟩)] W (fun e w' => e = .returned (.int .i64 x) ∧ Below W.heap.size W w') from fun W hW _ _ => by rw [hx]; exact HN.out W hW q hq)
      clear hx
      rcases hnq with rfl | ⟨q2, hq2, rfl⟩
      · have HNONE := Lib.hid (stB_none HTR.out (by omega) (show stepB nx gs q (ss.getD j []) = none by unfold stepB; rw [if_pos HNQ.out.symm]))
        rw [HEA.out]
        go_wp2_with (first
          | (go_at_call 67; refine (HN.out _ hA q rfl).mono ?_; rintro e w2 ⟨rfl, hb2⟩; have hA2 := bgo hA hb2)
          | fail)
        go_ret2
        exact RetTo.none_ (by rw [HNONE.out]; rfl) hA2
      · obtain ⟨b2, o2, g, eG, hbb2, hg, d0, -⟩ := HI.out.at_ hq2
        have d1 := up_fact d0
        have z1 : ((q2 : Int) == -1) = false := by simp <;> omega
        have HEG := Lib.hid eG
        have HG := Lib.hid hg
        clear d0 eG hg
        obtain ⟨t, ht⟩ : ∃ t, t = hasB sj g.id := ⟨_, rfl⟩
        have HC := Lib.hid (show ∀ W, Below w.heap.size w W → Calls Try.prog 53 #[.slice A' n' c', .int .i64 g.id] W fun e w' => e = .returned (.bool t) ∧ Below W.heap.size W w' from fun W hW => by rw [ht]; exact contains_any BS A' n' c' sj g.id W (HIN.out.below (hW.mono (by have := hBS; omega))) (by have := hBS; have := hW.size; omega))
        have HT := Lib.hid ht
        clear ht
        rcases t with _ | _
        · have HNONE := Lib.hid (stB_none HTR.out (by omega) (show stepB nx gs q (ss.getD j []) = none by unfold stepB; rw [← HNQ.out, if_neg (by omega), Int.toNat_natCast, HG.out, ← HSJ.out]; simp [← HT.out]))
          rw [HEA.out, HEG.out]
          go_wp2_with (first
            | (go_at_call 67; refine (HN.out _ hA q rfl).mono ?_; rintro e w2 ⟨rfl, hb2⟩; have hA2 := bgo hA hb2)
            | (go_at_call 53; refine (HC.out _ hA2).mono ?_; rintro e w3 ⟨rfl, hb3⟩; have hA3 := bgo hA2 hb3))
          go_ret2
          exact RetTo.none_ (by rw [HNONE.out]; rfl) hA3
        · have HSOME := Lib.hid (stB_some HTR.out (by omega) (show stepB nx gs q (ss.getD j []) = some q2 by unfold stepB; rw [← HNQ.out, if_neg (by omega), Int.toNat_natCast, HG.out, ← HSJ.out]; simp [← HT.out]))
          rw [HEA.out, HEG.out]
          go_wp2_with (first
            | (go_at_call 67; refine (HN.out _ hA q rfl).mono ?_; rintro e w2 ⟨rfl, hb2⟩; have hA2 := bgo hA hb2)
            | (go_at_call 53; refine (HC.out _ hA2).mono ?_; rintro e w3 ⟨rfl, hb3⟩; have hA3 := bgo hA2 hb3)
            | (at_builtin; refine wpList_append_ints _ rfl (.tmp 34) (.tmp 36) 51 rfl w.heap.size 3 Try.underlying51 infoInt Ao j co (natI done) rfl ((HOW.out.below (hb2.trans (hb3.mono hb2.size)) (Nat.le_refl _)).alloc _) (w3.heap.size + 1) (some ⟨w3.heap.size, 0, none⟩) 1 1 [(q2 : Int)] rfl (Ints.lit_at _ [(q2 : Int)] _ _ (by omega) rfl rfl (by simp)) (by omega) (by have := hA3.size; simp; omega) ?_; intro A4 c4 w4 ho4 hg4 hb4; have hA4 := below_append (hA3.alloc hA3.size (.cells #[.int .i64 (q2 : Int)] 3)) (by have := hA3.size; simp; omega) hg4 ((HOW.out.below (hb2.trans (hb3.mono hb2.size)) (Nat.le_refl _)).alloc _) (Nat.le_refl _)))
          go_roundw
          case rel => exact ⟨q2, j + 1, done ++ [q2], A4, c4, rfl, rfl, by go_num, hq2, by omega, HSOME.out, by rw [natI_append]; exact ho4, hA4⟩
          case measure => simp [intOf] <;> omega
    · have z9 : decide ((j : Int) < (ns : Int)) = false := by simp; omega
      have HEND := Lib.hid (show tot = some done from stB_end (by have := HTR.out; rw [show j = ss.length by omega] at this; exact this))
      go_wp2_with fail
      go_ret2
      exact RetTo.some_ (by rw [HEND.out]; rfl) (by rw [natI_length]; exact hmd) HOW.out.ints hA

set_option maxRecDepth 100000 in
set_option maxHeartbeats 4000000 in
theorem standsBack_any (nx : Nat → Int) (B BS : Nat) (A : Option Addr) (n c : Nat) (gs : List Gl) (As : Option Addr) (ns cs : Nat) (ss : List (List Int)) (bf bk bl p : Nat) (w : World) (hN : ∀ W, Below w.heap.size w W → ∀ p, p < n → Calls Try.prog 69 #[.int .i64 (p : Int), .pointer (some ⟨bf, 0, none⟩), .pointer (some ⟨bk, 0, none⟩), .pointer (some ⟨bl, 0, none⟩)] W (fun e w' => e = .returned (.int .i64 (nx p)) ∧ Below W.heap.size W w')) (hnx : NxOk nx n) (hI : GlsR w B A n c gs) (hS : Grd w BS As ns cs ss) (hB : B ≤ w.heap.size) (hBS : BS ≤ w.heap.size) (hp : p < n) (hns : ns ≤ 100000) :
    Calls Try.prog 66 #[.func (.func 69) #[] #[.pointer (some ⟨bf, 0, none⟩), .pointer (some ⟨bk, 0, none⟩), .pointer (some ⟨bl, 0, none⟩)], .slice A n c, .int .i64 (p : Int), .slice As ns cs] w (RetTo w ((stB nx gs p ss).map natI)) := by
  have hcap := hI.cap
  have hcaps := hS.cap
  have hlen := hI.length
  have hlens := hS.1
  have HI := Lib.hid hI
  have HS := Lib.hid hS
  have HN := Lib.hid hN
  have HNX := Lib.hid hnx
  have HB := Lib.hid hB
  clear hI hS hN hnx
  obtain ⟨tot, htot⟩ : ∃ z, z = stB nx gs p ss := ⟨_, rfl⟩
  rw [← htot]
  have HTOT := Lib.hid htot
  clear htot
  go_enter Try.func66, Try.ntmps66
  go_wp2_with fail
  go_loopw [2, 10, 15] (fun v2 v10 v15 wr => ∃ (q j : Nat) (done : List Nat) (Ao : Option Addr) (co : Nat), v2 = .int .i64 (q : Int) ∧ v10 = .slice Ao j co ∧ v15 = .int .i64 (j : Int) ∧ q < n ∧ j ≤ ns ∧ tot = (stB nx gs q (ss.drop j)).map (done ++ ·) ∧ Own wr w.heap.size 3 Ao j co (natI done) ∧ Below w.heap.size w wr) (fun _ _ v15 _ => ns - (intOf v15).toNat)
  case atStart => exact ⟨p, 0, [], none, 0, rfl, rfl, rfl, hp, Nat.zero_le _, by rw [HTOT.out]; simp, (show Own w w.heap.size 3 none 0 0 [] from Own.nil_ _ _ _), Below.refl _ _⟩
  case round =>
    clear hp
    obtain ⟨q, j, done, Ao, co, rfl, rfl, rfl, hq, hj, htr, how, hA⟩ := hrel
    have HTR := Lib.hid htr
    have HOW := Lib.hid how
    have hmd : done.length = j := by rw [← natI_length]; exact how.length
    have hcapo := how.cap
    clear htr how
    by_cases hlt : j < ns
    · have z9 : decide ((j : Int) < (ns : Int)) = true := by simp; omega
      obtain ⟨b, o, A', n', c', eA, hbb, c0, hin⟩ := HS.out.2.2.2 j hlt
      have HCAP := Lib.hid hin.cap
      have c1 := up_fact c0
      have HEA := Lib.hid eA
      obtain ⟨sj, hsj⟩ : ∃ z, z = ss.getD j [] := ⟨_, rfl⟩
      rw [← hsj] at hin
      have HIN := Lib.hid hin
      have HSJ := Lib.hid hsj
      clear c0 eA hin hsj
      obtain ⟨x, hx⟩ : ∃ z, z = nx q := ⟨_, rfl⟩
      have hnq := HNX.out q hq
      have HNQ := Lib.hid hx
      rw [← hx] at hnq
      have HN := Lib.hid (show ∀ W, Below w.heap.size w W → ∀ q', q' = q → Calls Try.prog 69 #[.int .i64 (q : Int), .pointer (some ⟨bf, 0, none⟩), .pointer (some ⟨bk, 0, none⟩), .pointer (some ⟨bl, 0, none⟩)] W (fun e w' => e = .returned (.int .i64 x) ∧ Below W.heap.size W w') from fun W hW _ _ => by rw [hx]; exact HN.out W hW q hq)
      clear hx
      rcases hnq with rfl | ⟨q2, hq2, rfl⟩
      · have HNONE := Lib.hid (stB_none HTR.out (by omega) (show stepB nx gs q (ss.getD j []) = none by unfold stepB; rw [if_pos HNQ.out.symm]))
        rw [HEA.out]
        go_wp2_with (first
          | (go_at_call 69; refine (HN.out _ hA q rfl).mono ?_; rintro e w2 ⟨rfl, hb2⟩; have hA2 := bgo hA hb2)
          | fail)
        go_ret2
        exact RetTo.none_ (by rw [HNONE.out]; rfl) hA2
      · obtain ⟨b2, o2, g, eG, hbb2, hg, d0, -⟩ := HI.out.at_ hq2
        have d1 := up_fact d0
        have z1 : ((q2 : Int) == -1) = false := by simp <;> omega
        have HEG := Lib.hid eG
        have HG := Lib.hid hg
        clear d0 eG hg
        obtain ⟨t, ht⟩ : ∃ t, t = hasB sj g.id := ⟨_, rfl⟩
        have HC := Lib.hid (show ∀ W, Below w.heap.size w W → Calls Try.prog 53 #[.slice A' n' c', .int .i64 g.id] W fun e w' => e = .returned (.bool t) ∧ Below W.heap.size W w' from fun W hW => by rw [ht]; exact contains_any BS A' n' c' sj g.id W (HIN.out.below (hW.mono (by have := hBS; omega))) (by have := hBS; have := hW.size; omega))
        have HT := Lib.hid ht
        clear ht
        rcases t with _ | _
        · have HNONE := Lib.hid (stB_none HTR.out (by omega) (show stepB nx gs q (ss.getD j []) = none by unfold stepB; rw [← HNQ.out, if_neg (by omega), Int.toNat_natCast, HG.out, ← HSJ.out]; simp [← HT.out]))
          rw [HEA.out, HEG.out]
          go_wp2_with (first
            | (go_at_call 69; refine (HN.out _ hA q rfl).mono ?_; rintro e w2 ⟨rfl, hb2⟩; have hA2 := bgo hA hb2)
            | (go_at_call 53; refine (HC.out _ hA2).mono ?_; rintro e w3 ⟨rfl, hb3⟩; have hA3 := bgo hA2 hb3))
          go_ret2
          exact RetTo.none_ (by rw [HNONE.out]; rfl) hA3
        · have HSOME := Lib.hid (stB_some HTR.out (by omega) (show stepB nx gs q (ss.getD j []) = some q2 by unfold stepB; rw [← HNQ.out, if_neg (by omega), Int.toNat_natCast, HG.out, ← HSJ.out]; simp [← HT.out]))
          rw [HEA.out, HEG.out]
          go_wp2_with (first
            | (go_at_call 69; refine (HN.out _ hA q rfl).mono ?_; rintro e w2 ⟨rfl, hb2⟩; have hA2 := bgo hA hb2)
            | (go_at_call 53; refine (HC.out _ hA2).mono ?_; rintro e w3 ⟨rfl, hb3⟩; have hA3 := bgo hA2 hb3)
            | (at_builtin; refine wpList_append_ints _ rfl (.tmp 34) (.tmp 36) 51 rfl w.heap.size 3 Try.underlying51 infoInt Ao j co (natI done) rfl ((HOW.out.below (hb2.trans (hb3.mono hb2.size)) (Nat.le_refl _)).alloc _) (w3.heap.size + 1) (some ⟨w3.heap.size, 0, none⟩) 1 1 [(q2 : Int)] rfl (Ints.lit_at _ [(q2 : Int)] _ _ (by omega) rfl rfl (by simp)) (by omega) (by have := hA3.size; simp; omega) ?_; intro A4 c4 w4 ho4 hg4 hb4; have hA4 := below_append (hA3.alloc hA3.size (.cells #[.int .i64 (q2 : Int)] 3)) (by have := hA3.size; simp; omega) hg4 ((HOW.out.below (hb2.trans (hb3.mono hb2.size)) (Nat.le_refl _)).alloc _) (Nat.le_refl _)))
          go_roundw
          case rel => exact ⟨q2, j + 1, done ++ [q2], A4, c4, rfl, rfl, by go_num, hq2, by omega, HSOME.out, by rw [natI_append]; exact ho4, hA4⟩
          case measure => simp [intOf] <;> omega
    · have z9 : decide ((j : Int) < (ns : Int)) = false := by simp; omega
      have HEND := Lib.hid (show tot = some done from stB_end (by have := HTR.out; rw [show j = ss.length by omega] at this; exact this))
      go_wp2_with fail
      go_ret2
      exact RetTo.some_ (by rw [HEND.out]; rfl) (by rw [natI_length]; exact hmd) HOW.out.ints hA

end Go.Proofs.Ytngdolmmaiogiaa
