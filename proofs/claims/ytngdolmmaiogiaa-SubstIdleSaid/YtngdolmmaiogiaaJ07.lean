/- Joined: SkipE MatP LigP. -/
import Derived.Test.YtngdolmmaiogiaaJ06
import Derived.Test.YtngdolmmaiogiaaJ03
import Derived.Test.YtngdolmmaiogiaaJ05

/- The walks of skip.Row and Back. Condition: what they read reads as plain data. Printed by wip/tools. -/
namespace Go.Proofs.Ytngdolmmaiogiaa
open Go.RowKit

theorem KBox.below {w w' : World} {b B : Nat} {l : Lk} (h : KBox w b l) (hb : Below B w w') (hB : b < B) : KBox w' b l := (hb.block b hB).trans h
set_option maxRecDepth 100000 in
set_option maxHeartbeats 4000000 in
theorem row_any (F : Fnt) (B : Nat) (P : PFt) (l : Lk) (A : Option Addr) (n c : Nat) (gs : List Gl) (As : Option Addr) (ns cs : Nat) (ss : List (List Int)) (p : Nat) (w : World) (h : FtR w B F P) (hI : GlsR w B A n c gs) (hS : Grd w B As ns cs ss) (hB : B ≤ w.heap.size) (hp : p < n) (hns : ns ≤ 100000) :
    Calls Try.prog 54 #[.agg #[.int .i64 F.em, .slice F.GA F.gn F.gc, .slice F.MA F.mn F.mc, .slice F.LA F.ln F.lc, .slice F.FA F.fn F.fc, .slice F.SA F.sn F.sc], .agg #[.int .i64 l.ki, .int .i64 l.fl, .int .i64 l.se, .slice l.su.A l.su.n l.su.c], .slice A n c, .int .i64 (p : Int), .slice As ns cs] w (RetTo w ((rowB P l gs p ss).map natI)) := by
  have HF := Lib.hid h
  have HI := Lib.hid hI
  have HS := Lib.hid hS
  have hcap := hI.cap
  have hcaps := hS.cap
  have hlen := hI.length
  clear h hI hS
  obtain ⟨wb1, hw_wb1⟩ : ∃ z, z = w.alloc (.cells #[.int .i64 F.em, .slice F.GA F.gn F.gc, .slice F.MA F.mn F.mc, .slice F.LA F.ln F.lc, .slice F.FA F.fn F.fc, .slice F.SA F.sn F.sc] 28) := ⟨_, rfl⟩
  have hs_wb1 : wb1.heap.size = w.heap.size + 1 := by rw [hw_wb1]; simp
  have hb_wb1 : Below w.heap.size w wb1 := by rw [hw_wb1]; exact (Below.refl _ _).alloc (Nat.le_refl _) _
  have hx_0 : wb1.heap[w.heap.size]? = some (.cells #[.int .i64 F.em, .slice F.GA F.gn F.gc, .slice F.MA F.mn F.mc, .slice F.LA F.ln F.lc, .slice F.FA F.fn F.fc, .slice F.SA F.sn F.sc] 28 (0, 0)) := by rw [hw_wb1]; exact heap_alloc_new _ _
  obtain ⟨wb2, hw_wb2⟩ : ∃ z, z = wb1.alloc (.cells #[.int .i64 l.ki, .int .i64 l.fl, .int .i64 l.se, .slice l.su.A l.su.n l.su.c] 36) := ⟨_, rfl⟩
  have hs_wb2 : wb2.heap.size = w.heap.size + 2 := by rw [hw_wb2]; simp <;> omega
  have hb_wb2 : Below w.heap.size w wb2 := by rw [hw_wb2]; exact hb_wb1.alloc (by omega) _
  have hx_1 : wb2.heap[w.heap.size + 1]? = some (.cells #[.int .i64 l.ki, .int .i64 l.fl, .int .i64 l.se, .slice l.su.A l.su.n l.su.c] 36 (0, 0)) := by rw [hw_wb2]; exact (hs_wb1 ▸ heap_alloc_new wb1 _)
  have hx_0 : wb2.heap[w.heap.size]? = some (.cells #[.int .i64 F.em, .slice F.GA F.gn F.gc, .slice F.MA F.mn F.mc, .slice F.LA F.ln F.lc, .slice F.FA F.fn F.fc, .slice F.SA F.sn F.sc] 28 (0, 0)) := by rw [hw_wb2]; exact (heap_alloc_old _ _ (by omega)).trans hx_0
  obtain ⟨w1, hw_w1⟩ : ∃ z, z = wb2.alloc (.cells #[.slice A n c] 30) := ⟨_, rfl⟩
  have hs_w1 : w1.heap.size = w.heap.size + 3 := by rw [hw_w1]; simp <;> omega
  have hb_w1 : Below w.heap.size w w1 := by rw [hw_w1]; exact hb_wb2.alloc (by omega) _
  have hx_2 : w1.heap[w.heap.size + 2]? = some (.cells #[.slice A n c] 30 (0, 0)) := by rw [hw_w1]; exact (hs_wb2 ▸ heap_alloc_new wb2 _)
  have hx_0 : w1.heap[w.heap.size]? = some (.cells #[.int .i64 F.em, .slice F.GA F.gn F.gc, .slice F.MA F.mn F.mc, .slice F.LA F.ln F.lc, .slice F.FA F.fn F.fc, .slice F.SA F.sn F.sc] 28 (0, 0)) := by rw [hw_w1]; exact (heap_alloc_old _ _ (by omega)).trans hx_0
  have hx_1 : w1.heap[w.heap.size + 1]? = some (.cells #[.int .i64 l.ki, .int .i64 l.fl, .int .i64 l.se, .slice l.su.A l.su.n l.su.c] 36 (0, 0)) := by rw [hw_w1]; exact (heap_alloc_old _ _ (by omega)).trans hx_1
  have u0 := up_fact (show w1.cell? ⟨w.heap.size + 2, 0, none⟩ = some (.slice A n c) by rw [cell_of_row _ _ 0 _ _ _ hx_2]; rfl)
  have hA0 := Below.refl w1.heap.size w1
  have HS1 := Lib.hid hs_w1
  have hs1 : w.heap.size + 2 < w1.heap.size := by omega
  have HB1 := Lib.hid hb_w1
  have HW_wb1 := Lib.hid hw_wb1
  have HW_wb2 := Lib.hid hw_wb2
  have HW_w1 := Lib.hid hw_w1
  clear hw_wb1 hs_wb1 hb_wb1 hw_wb2 hs_wb2 hb_wb2 hw_w1 hs_w1 hb_w1
  have HX0 := Lib.hid (show FBox w1 w.heap.size F from hx_0)
  have HX1 := Lib.hid (show KBox w1 (w.heap.size + 1) l from hx_1)
  have HX2 := Lib.hid (show w1.cell? ⟨w.heap.size + 2, 0, none⟩ = some (.slice A n c) by rw [cell_of_row _ _ 0 _ _ _ hx_2]; rfl)
  clear hx_0 hx_1 hx_2
  have HB := Lib.hid hB
  have HBW := Lib.hid (HB1.out.mono hB)
  have HST := Lib.hid (standsRow_any (fun p => upB (skF P l) gs (p + 1)) B B A n c gs As ns cs ss w.heap.size (w.heap.size + 1) (w.heap.size + 2) p w1 (fun W hW p' hp' => rowclo_any F B P l A n c gs w.heap.size (w.heap.size + 1) (w.heap.size + 2) p' W ((hW.cell (p := ⟨w.heap.size + 2, 0, none⟩) hs1).trans HX2.out) (HX0.out.below hW (by omega)) (HX1.out.below hW (by omega)) (HF.out.below (HBW.out.trans (hW.mono (by omega)))) (HI.out.below (HBW.out.trans (hW.mono (by omega)))) (by have := hW.size; omega) hp') (hlen ▸ upB_ok (skF P l) gs) (HI.out.below HBW.out) (HS.out.below HBW.out) (by omega) (by omega) hp hns)
  have hmf : ∀ (fn : Fn) (first cap : Array Value) (w : World), (Instr.makeFunc fn first cap).run Try.prog w = .ok (.func fn first cap) w := fun _ _ _ _ => rfl
  obtain ⟨r, hr⟩ : ∃ r, r = (stB (fun p => upB (skF P l) gs (p + 1)) gs p ss).map natI := ⟨_, rfl⟩
  rw [← hr] at HST
  have HR := Lib.hid (show (rowB P l gs p ss).map natI = r from hr.symm)
  clear hr
  rw [HR.out]
  go_enter Try.func54, Try.ntmps54
  go_upto_region 1 with fail
  rw [← HW_wb1.out]
  rw [← HW_wb2.out]
  rw [← HW_w1.out]
  go_wp2_with (go_at_call 66; refine (HST.out).mono ?_; rintro e w9 ⟨A9, c9, rfl, hi9, hb9⟩)
  go_ret2
  exact ⟨A9, c9, rfl, hi9, HB1.out.trans (hb9.mono (by omega))⟩

set_option maxRecDepth 100000 in
set_option maxHeartbeats 4000000 in
theorem back_any (F : Fnt) (B : Nat) (P : PFt) (l : Lk) (A : Option Addr) (n c : Nat) (gs : List Gl) (As : Option Addr) (ns cs : Nat) (ss : List (List Int)) (p : Nat) (w : World) (h : FtR w B F P) (hI : GlsR w B A n c gs) (hS : Grd w B As ns cs ss) (hB : B ≤ w.heap.size) (hp : p < n) (hns : ns ≤ 100000) :
    Calls Try.prog 55 #[.agg #[.int .i64 F.em, .slice F.GA F.gn F.gc, .slice F.MA F.mn F.mc, .slice F.LA F.ln F.lc, .slice F.FA F.fn F.fc, .slice F.SA F.sn F.sc], .agg #[.int .i64 l.ki, .int .i64 l.fl, .int .i64 l.se, .slice l.su.A l.su.n l.su.c], .slice A n c, .int .i64 (p : Int), .slice As ns cs] w (RetTo w ((backB P l gs p ss).map natI)) := by
  have HF := Lib.hid h
  have HI := Lib.hid hI
  have HS := Lib.hid hS
  have hcap := hI.cap
  have hcaps := hS.cap
  have hlen := hI.length
  clear h hI hS
  obtain ⟨wb1, hw_wb1⟩ : ∃ z, z = w.alloc (.cells #[.int .i64 F.em, .slice F.GA F.gn F.gc, .slice F.MA F.mn F.mc, .slice F.LA F.ln F.lc, .slice F.FA F.fn F.fc, .slice F.SA F.sn F.sc] 28) := ⟨_, rfl⟩
  have hs_wb1 : wb1.heap.size = w.heap.size + 1 := by rw [hw_wb1]; simp
  have hb_wb1 : Below w.heap.size w wb1 := by rw [hw_wb1]; exact (Below.refl _ _).alloc (Nat.le_refl _) _
  have hx_0 : wb1.heap[w.heap.size]? = some (.cells #[.int .i64 F.em, .slice F.GA F.gn F.gc, .slice F.MA F.mn F.mc, .slice F.LA F.ln F.lc, .slice F.FA F.fn F.fc, .slice F.SA F.sn F.sc] 28 (0, 0)) := by rw [hw_wb1]; exact heap_alloc_new _ _
  obtain ⟨wb2, hw_wb2⟩ : ∃ z, z = wb1.alloc (.cells #[.int .i64 l.ki, .int .i64 l.fl, .int .i64 l.se, .slice l.su.A l.su.n l.su.c] 36) := ⟨_, rfl⟩
  have hs_wb2 : wb2.heap.size = w.heap.size + 2 := by rw [hw_wb2]; simp <;> omega
  have hb_wb2 : Below w.heap.size w wb2 := by rw [hw_wb2]; exact hb_wb1.alloc (by omega) _
  have hx_1 : wb2.heap[w.heap.size + 1]? = some (.cells #[.int .i64 l.ki, .int .i64 l.fl, .int .i64 l.se, .slice l.su.A l.su.n l.su.c] 36 (0, 0)) := by rw [hw_wb2]; exact (hs_wb1 ▸ heap_alloc_new wb1 _)
  have hx_0 : wb2.heap[w.heap.size]? = some (.cells #[.int .i64 F.em, .slice F.GA F.gn F.gc, .slice F.MA F.mn F.mc, .slice F.LA F.ln F.lc, .slice F.FA F.fn F.fc, .slice F.SA F.sn F.sc] 28 (0, 0)) := by rw [hw_wb2]; exact (heap_alloc_old _ _ (by omega)).trans hx_0
  obtain ⟨w1, hw_w1⟩ : ∃ z, z = wb2.alloc (.cells #[.slice A n c] 30) := ⟨_, rfl⟩
  have hs_w1 : w1.heap.size = w.heap.size + 3 := by rw [hw_w1]; simp <;> omega
  have hb_w1 : Below w.heap.size w w1 := by rw [hw_w1]; exact hb_wb2.alloc (by omega) _
  have hx_2 : w1.heap[w.heap.size + 2]? = some (.cells #[.slice A n c] 30 (0, 0)) := by rw [hw_w1]; exact (hs_wb2 ▸ heap_alloc_new wb2 _)
  have hx_0 : w1.heap[w.heap.size]? = some (.cells #[.int .i64 F.em, .slice F.GA F.gn F.gc, .slice F.MA F.mn F.mc, .slice F.LA F.ln F.lc, .slice F.FA F.fn F.fc, .slice F.SA F.sn F.sc] 28 (0, 0)) := by rw [hw_w1]; exact (heap_alloc_old _ _ (by omega)).trans hx_0
  have hx_1 : w1.heap[w.heap.size + 1]? = some (.cells #[.int .i64 l.ki, .int .i64 l.fl, .int .i64 l.se, .slice l.su.A l.su.n l.su.c] 36 (0, 0)) := by rw [hw_w1]; exact (heap_alloc_old _ _ (by omega)).trans hx_1
  have u0 := up_fact (show w1.cell? ⟨w.heap.size + 2, 0, none⟩ = some (.slice A n c) by rw [cell_of_row _ _ 0 _ _ _ hx_2]; rfl)
  have hA0 := Below.refl w1.heap.size w1
  have HS1 := Lib.hid hs_w1
  have hs1 : w.heap.size + 2 < w1.heap.size := by omega
  have HB1 := Lib.hid hb_w1
  have HW_wb1 := Lib.hid hw_wb1
  have HW_wb2 := Lib.hid hw_wb2
  have HW_w1 := Lib.hid hw_w1
  clear hw_wb1 hs_wb1 hb_wb1 hw_wb2 hs_wb2 hb_wb2 hw_w1 hs_w1 hb_w1
  have HX0 := Lib.hid (show FBox w1 w.heap.size F from hx_0)
  have HX1 := Lib.hid (show KBox w1 (w.heap.size + 1) l from hx_1)
  have HX2 := Lib.hid (show w1.cell? ⟨w.heap.size + 2, 0, none⟩ = some (.slice A n c) by rw [cell_of_row _ _ 0 _ _ _ hx_2]; rfl)
  clear hx_0 hx_1 hx_2
  have HB := Lib.hid hB
  have HBW := Lib.hid (HB1.out.mono hB)
  have HST := Lib.hid (standsBack_any (dnB (skF P l) gs) B B A n c gs As ns cs ss w.heap.size (w.heap.size + 1) (w.heap.size + 2) p w1 (fun W hW p' hp' => backclo_any F B P l A n c gs w.heap.size (w.heap.size + 1) (w.heap.size + 2) p' W ((hW.cell (p := ⟨w.heap.size + 2, 0, none⟩) hs1).trans HX2.out) (HX0.out.below hW (by omega)) (HX1.out.below hW (by omega)) (HF.out.below (HBW.out.trans (hW.mono (by omega)))) (HI.out.below (HBW.out.trans (hW.mono (by omega)))) (by have := hW.size; omega) hp') (hlen ▸ dnB_ok (skF P l) gs) (HI.out.below HBW.out) (HS.out.below HBW.out) (by omega) (by omega) hp hns)
  have hmf : ∀ (fn : Fn) (first cap : Array Value) (w : World), (Instr.makeFunc fn first cap).run Try.prog w = .ok (.func fn first cap) w := fun _ _ _ _ => rfl
  obtain ⟨r, hr⟩ : ∃ r, r = (stB (dnB (skF P l) gs) gs p ss).map natI := ⟨_, rfl⟩
  rw [← hr] at HST
  have HR := Lib.hid (show (backB P l gs p ss).map natI = r from hr.symm)
  clear hr
  rw [HR.out]
  go_enter Try.func55, Try.ntmps55
  go_upto_region 1 with fail
  rw [← HW_wb1.out]
  rw [← HW_wb2.out]
  rw [← HW_w1.out]
  go_wp2_with (go_at_call 66; refine (HST.out).mono ?_; rintro e w9 ⟨A9, c9, rfl, hi9, hb9⟩)
  go_ret2
  exact ⟨A9, c9, rfl, hi9, HB1.out.trans (hb9.mono (by omega))⟩

end Go.Proofs.Ytngdolmmaiogiaa

/- What context.Match tells, plainly. No condition. Printed by wip/tools. -/
namespace Go.Proofs.Ytngdolmmaiogiaa
open Go.RowKit

/-- one subtable of a context: where its In stands -/
def mat1 (P : PFt) (l : Lk) (gs : List Gl) (p : Nat) (s : PSu) : Option (List Nat) :=
  match s.inn with
  | [] => none
  | i0 :: ir => match gs[p]? with
    | none => none
    | some g => if hasB i0 g.id then match rowB P l gs p ir with
      | none => none
      | some rest => match backB P l gs p s.ba with
        | none => none
        | some _ => match rowB P l gs ((p :: rest).getD rest.length 0) s.ah with
          | none => none
          | some _ => some (p :: rest)
      else none
/-- the first subtable that stands -/
def matL (f : PSu → Option (List Nat)) : List PSu → Nat → Option (Nat × List Nat)
  | [], _ => none
  | s :: r, i => match f s with
    | some x => some (i, x)
    | none => matL f r (i + 1)
def matB (P : PFt) (l : Lk) (su : List PSu) (gs : List Gl) (p : Nat) : Option (Nat × List Nat) := matL (mat1 P l gs p) su 0
section
variable {f : PSu → Option (List Nat)} {su : List PSu} {j : Nat} {s : PSu} {tot : Option (Nat × List Nat)}
theorem matL_end (h : tot = matL f (su.drop su.length) su.length) : tot = none := by rw [h, List.drop_length]; rfl
theorem drop_some {α : Type} {su : List α} {j : Nat} {s : α} (hs : su[j]? = some s) : su.drop j = s :: su.drop (j + 1) := by
  have hl : j < su.length := by
    rcases Nat.lt_or_ge j su.length with h1 | h1
    · exact h1
    · rw [List.getElem?_eq_none h1] at hs; cases hs
  rw [List.getElem?_eq_getElem hl] at hs
  cases hs
  exact List.drop_eq_getElem_cons hl
theorem matL_none (h : tot = matL f (su.drop j) j) (hs : su[j]? = some s) (hf : f s = none) : tot = matL f (su.drop (j + 1)) (j + 1) := by
  rw [h, drop_some hs]; simp only [matL, hf]
theorem matL_some {x : List Nat} (h : tot = matL f (su.drop j) j) (hs : su[j]? = some s) (hf : f s = some x) : tot = some (j, x) := by
  rw [h, drop_some hs]; simp only [matL, hf]
end
/-- What Match leaves. -/
def RetMat (w : World) : Option (Nat × List Nat) → Ending → World → Prop
  | none, e, w' => e = .returned (.tuple #[.int .i64 0, .slice none 0 0, .bool false]) ∧ Below w.heap.size w w'
  | some (i, ps), e, w' => ∃ A c, e = .returned (.tuple #[.int .i64 (i : Int), .slice A ps.length c, .bool true]) ∧ Ints w' w'.heap.size A ps.length c (natI ps) ∧ (∀ x, A = some x → w.heap.size ≤ x.block) ∧ Below w.heap.size w w'
theorem Grd.tail {w : World} {B b o n c : Nat} {zss : List (List Int)} (h : Grd w B (some ⟨b, o, none⟩) n c zss) (hn : 0 < n) : Grd w B (some ⟨b, o + 1, none⟩) (n - 1) (c - 1) zss.tail := by
  refine ⟨by rw [List.length_tail, h.1], by have := h.2.1; omega, by have := h.2.2.1; omega, fun k hk => ?_⟩
  obtain ⟨b', o', A', n', c', e, h1, h2, h3⟩ := h.2.2.2 (k + 1) (by omega)
  cases e
  refine ⟨b, o + 1, A', n', c', rfl, h1, by rw [show o + 1 + k = o + (k + 1) by omega]; exact h2, ?_⟩
  rw [List.getD_eq_getElem?_getD, List.getElem?_tail, ← List.getD_eq_getElem?_getD]
  exact h3
theorem Grd.tail' {w : World} {B b o n c : Nat} {zss : List (List Int)} (h : Grd w B (some ⟨b, o, none⟩) n c zss) (hn : 0 < n) : Grd w B (if c = 1 then some ⟨b, o, none⟩ else some ⟨b, o + 1, none⟩) (n - 1) (c - 1) zss.tail := by
  split
  · refine ⟨by rw [List.length_tail, h.1], by have := h.2.1; omega, by have := h.2.2.1; omega, fun k hk => ?_⟩
    have := h.2.1
    omega
  · exact h.tail hn
theorem stB_length {nx : Nat → Int} {gs : List Gl} : ∀ {ss : List (List Int)} {p : Nat} {r : List Nat}, stB nx gs p ss = some r → r.length = ss.length
  | [], _, _, h => by cases h; rfl
  | s :: r, p, x, h => by
    unfold stB at h
    split at h
    · rename_i q hq
      cases hr : stB nx gs q r with
      | none => rw [hr] at h; cases h
      | some y => rw [hr] at h; cases h; simp [stB_length hr]
    · cases h
theorem stepB_lt {nx : Nat → Int} {gs : List Gl} {p q : Nat} {s : List Int} (h : stepB nx gs p s = some q) : q < gs.length := by
  unfold stepB at h
  split at h
  · cases h
  · split at h
    · rename_i g hg
      split at h
      · cases h
        rcases Nat.lt_or_ge (nx p).toNat gs.length with h1 | h1
        · exact h1
        · rw [List.getElem?_eq_none h1] at hg; cases hg
      · cases h
    · cases h
theorem stB_lt {nx : Nat → Int} {gs : List Gl} : ∀ {ss : List (List Int)} {p : Nat} {r : List Nat}, stB nx gs p ss = some r → ∀ q ∈ r, q < gs.length
  | [], _, _, h => by cases h; simp
  | s :: r, p, x, h => by
    unfold stB at h
    split at h
    · rename_i q hq
      cases hr : stB nx gs q r with
      | none => rw [hr] at h; cases h
      | some y =>
        rw [hr] at h; cases h
        intro z hz
        rcases List.mem_cons.1 hz with rfl | hz
        · exact stepB_lt hq
        · exact stB_lt hr z hz
    · cases h

end Go.Proofs.Ytngdolmmaiogiaa

/- Rows of ligatures of the call's own; what liga.Parts tells, plainly. No condition. Printed by wip/tools. -/
namespace Go.Proofs.Ytngdolmmaiogiaa
open Go.RowKit

/-- a ligature as it lies: its parts' slice, its glyph -/
abbrev LP := Sl × Int
def lpCells (ps : List LP) : List Value := ps.flatMap fun a => [.slice a.1.A a.1.n a.1.c, .int .i64 a.2]
theorem lpCells_length : ∀ (l : List LP), (lpCells l).length = l.length * 2
  | [] => rfl
  | e :: r => by have := lpCells_length r; simp [lpCells] at this ⊢; omega
theorem lpCells_append (l m : List LP) : lpCells (l ++ m) = lpCells l ++ lpCells m := by simp [lpCells]
theorem lpCells_one {l : List LP} : ∀ v ∈ lpCells l, v.oneCell' = true := by
  intro v hv
  simp only [lpCells, List.mem_flatMap] at hv
  obtain ⟨g, _, hg⟩ := hv
  simp only [List.mem_cons, List.not_mem_nil, or_false] at hg
  rcases hg with rfl | rfl <;> rfl
theorem lpCells_at {l : List LP} {k : Nat} {a : LP} (hk : l[k]? = some a) : (lpCells l)[k * 2]? = some (.slice a.1.A a.1.n a.1.c) ∧ (lpCells l)[k * 2 + 1]? = some (.int .i64 a.2) := by
  induction l generalizing k with
  | nil => simp at hk
  | cons e l ih =>
    rcases k with _ | k
    · simp only [List.getElem?_cons_zero, Option.some.injEq] at hk
      subst hk
      exact ⟨rfl, rfl⟩
    · simp only [List.getElem?_cons_succ] at hk
      have h1 := ih hk
      refine ⟨?_, ?_⟩
      · show ([Value.slice e.1.A e.1.n e.1.c, .int .i64 e.2] ++ lpCells l)[(k + 1) * 2]? = _
        rw [List.getElem?_append_right (by simp; omega), show (k + 1) * 2 - [Value.slice e.1.A e.1.n e.1.c, Value.int .i64 e.2].length = k * 2 by simp; omega]
        exact h1.1
      · show ([Value.slice e.1.A e.1.n e.1.c, .int .i64 e.2] ++ lpCells l)[(k + 1) * 2 + 1]? = _
        rw [List.getElem?_append_right (by simp; omega), show (k + 1) * 2 + 1 - [Value.slice e.1.A e.1.n e.1.c, Value.int .i64 e.2].length = k * 2 + 1 by simp; omega]
        exact h1.2
/-- a row of ligatures of the call's own -/
def LpRow (w : World) (base : Nat) (A : Option Addr) (n c : Nat) (ps : List LP) : Prop := ps.length = n ∧ w.ownsRow base 108 2 (.slice A n c) n (lpCells ps)
/-- their parts read -/
def LpOk (w : World) (R : Option Nat) (ps : List LP) (ls : List PG) : Prop := ps.length = ls.length ∧ ∀ (k : Nat) (a : LP) (p : PG), ps[k]? = some a → ls[k]? = some p → a.2 = p.2 ∧ Ints w w.heap.size a.1.A a.1.n a.1.c p.1 ∧ ∀ x, a.1.A = some x → x.block < w.heap.size ∧ R ≠ some x.block
theorem Ints.grown {w w' : World} {B n c : Nat} {A : Option Addr} {zs : List Int} {R : Option Nat} (h : Ints w B A n c zs) (hg : w.grownBy w' R) (hne : ∀ x, A = some x → x.block < w.heap.size ∧ R ≠ some x.block) : Ints w' B A n c zs :=
  ⟨h.1, h.2.1, h.2.2.1, h.2.2.2.1, fun k x hx => by
    obtain ⟨b, o, hA, hb, hc⟩ := h.2.2.2.2 k x hx
    have h1 := hne _ hA
    exact ⟨b, o, hA, hb, (World.cell?_of_block (hg.block b h1.1 (fun e => h1.2 e.symm))).trans hc⟩⟩
section
variable {w w' : World} {B base : Nat} {A : Option Addr} {n c : Nat} {ps : List LP} {ls : List PG}
theorem LpRow.nil_ (w : World) (base : Nat) : LpRow w base none 0 0 [] := ⟨rfl, World.ownsRow_nil w base _ 2⟩
theorem LpRow.cap (h : LpRow w base A n c ps) : n ≤ c ∧ c ≤ 9223372036854775807 := by
  rcases h.2.2 with ⟨h, rfl⟩ | ⟨g, cap, cur, h, _, _, h1, h2, _⟩
  · simp only [Value.slice.injEq] at h; omega
  · simp only [Value.slice.injEq] at h; unfold maxLen at h2; omega
theorem LpRow.below (h : LpRow w base A n c ps) (hb : Below B w w') (hB : w.heap.size ≤ B) : LpRow w' base A n c ps := by
  refine ⟨h.1, h.2.1, ?_⟩
  rcases h.2.2 with h | ⟨g, cap, cur, h, h1, h2, h3⟩
  · exact .inl h
  · have hg : g < w.heap.size := (Array.getElem?_eq_some_iff.1 h2).1
    exact .inr ⟨g, cap, cur, h, h1, (hb.block g (by omega)).trans h2, h3⟩
theorem LpRow.alloc (h : LpRow w base A n c ps) (o : Obj) : LpRow (w.alloc o) base A n c ps := ⟨h.1, World.ownsRow.alloc h.2 o⟩
theorem LpRow.block (h : LpRow w base A n c ps) : ∀ g, (Value.slice A n c).ownBlock = some g → base ≤ g ∧ g < w.heap.size := World.ownsRow.lt h.2
theorem lp_below {w0 : World} (h : Below B w0 w) (hB : B ≤ w.heap.size) (hg : w.grownBy w' (Value.slice A n c).ownBlock) (ho : LpRow w base A n c ps) (hb : B ≤ base) : Below B w0 w' :=
  h.grown hg hB (fun k hk => Nat.le_trans hb (ho.block k hk).1)
theorem LpOk.below {R : Option Nat} (h : LpOk w R ps ls) (hb : Below w.heap.size w w') : LpOk w' R ps ls :=
  ⟨h.1, fun k a p h1 h2 => by
    obtain ⟨e1, e2, e3⟩ := h.2 k a p h1 h2
    exact ⟨e1, (e2.below hb).more hb.size, fun x hx => ⟨Nat.lt_of_lt_of_le (e3 x hx).1 hb.size, (e3 x hx).2⟩⟩⟩
theorem LpOk.grown {R R' : Option Nat} (h : LpOk w R ps ls) (hg : w.grownBy w' R) (hR : R' = R ∨ R' = some w.heap.size) : LpOk w' R' ps ls :=
  ⟨h.1, fun k a p h1 h2 => by
    obtain ⟨e1, e2, e3⟩ := h.2 k a p h1 h2
    refine ⟨e1, (e2.grown hg e3).more hg.size, fun x hx => ⟨Nat.lt_of_lt_of_le (e3 x hx).1 hg.size, ?_⟩⟩
    rcases hR with rfl | rfl
    · exact (e3 x hx).2
    · have := (e3 x hx).1
      simp
      omega⟩
theorem LpOk.nil_ (w : World) (R : Option Nat) : LpOk w R [] [] := ⟨rfl, fun _ _ _ h => by simp at h⟩
theorem LpOk.snoc {R : Option Nat} {a : LP} {p : PG} (h : LpOk w R ps ls) (h2 : a.2 = p.2) (h3 : Ints w w.heap.size a.1.A a.1.n a.1.c p.1) (h4 : ∀ x, a.1.A = some x → x.block < w.heap.size ∧ R ≠ some x.block) : LpOk w R (ps ++ [a]) (ls ++ [p]) := by
  refine ⟨by simp [h.1], fun k b q hb hq => ?_⟩
  rcases Nat.lt_trichotomy k ps.length with hk | hk | hk
  · rw [List.getElem?_append_left hk] at hb
    rw [List.getElem?_append_left (by rw [← h.1]; exact hk)] at hq
    exact h.2 k b q hb hq
  · rw [List.getElem?_append_right (by omega), hk, Nat.sub_self] at hb
    rw [List.getElem?_append_right (by rw [← h.1]; omega), hk, h.1, Nat.sub_self] at hq
    cases hb; cases hq
    exact ⟨h2, h3, h4⟩
  · rw [List.getElem?_eq_none (by simp; omega)] at hb; cases hb
/-- a row of the call's own reads as ligatures -/
theorem LpRow.slr {R : Option Nat} (h : LpRow w base A n c ps) (hr : LpOk w R ps ls) : SlR w w.heap.size 2 (LigR w w.heap.size) A n c ls := by
  have hc := h.cap
  refine ⟨hr.1.symm.trans h.1, hc.1, by unfold maxLen; exact hc.2, ?_, fun k p hk => ?_⟩
  · rintro rfl
    rcases h.2.2 with ⟨h', hz⟩ | ⟨g, cap, cur, h', _⟩
    · simp only [Value.slice.injEq] at h'; omega
    · simp at h'
  · have hkl : k < ps.length := by
      rw [hr.1]
      rcases Nat.lt_or_ge k ls.length with h1 | h1
      · exact h1
      · rw [List.getElem?_eq_none h1] at hk; cases hk
    have ha : ps[k]? = some ps[k] := List.getElem?_eq_getElem hkl
    have hp := hr.2 k _ p ha hk
    have hcl := lpCells_at ha
    rcases h.2.2 with ⟨h', hz⟩ | ⟨g, cap, cur, h', h1, h2, h3, h4, h5, h6⟩
    · have := h.1; omega
    · simp only [Value.slice.injEq] at h'
      obtain ⟨rfl, -, rfl⟩ := h'
      have hcell : ∀ j v, (lpCells ps)[j]? = some v → w.cell? ⟨g, j, none⟩ = some v := fun j v hj => by
        have hj2 : cur[j]? = some v := by
          rw [← Array.getElem?_toList]
          rw [← h6] at hj
          rw [List.getElem?_take] at hj
          split at hj
          · exact hj
          · cases hj
        simp [World.cell?, h2, hj2]
      refine ⟨g, 0, [.slice (ps[k]).1.A (ps[k]).1.n (ps[k]).1.c, .int .i64 (ps[k]).2], rfl, (Array.getElem?_eq_some_iff.1 h2).1, fun j v hj => ?_, (ps[k]).1.A, (ps[k]).1.n, (ps[k]).1.c, by rw [hp.1], hp.2.1⟩
      rcases j with _ | _ | j
      · cases hj; rw [Nat.zero_add]; exact hcell _ _ hcl.1
      · cases hj; rw [Nat.zero_add]; exact hcell _ _ hcl.2
      · simp at hj
end
theorem infoLig : (Try.prog.info? 108).map (fun i => (i.zero, i.size, i.bytes)) = some (some (.agg #[.slice none 0 0, .int .i64 0]), 2, 32) := by kernel_rfl
section
variable {P : Program} (w : World)
/-- append of one ligature, onto a row of the call's own -/
theorem wp_append_lig {o : Oper} {a : Act} {K : Act → World → Prop} {Q : Exit → Act → World → Prop} (s x : Operand) (t : TypeId)
    (ho : o.op = .call { callee := .builtin .append, args := #[s, x], argTypes := #[t, t] })
    (base : Nat) (z : Value) (hts : P.underlying t = some (.slice 108)) (hi : (P.info? 108).map (fun i => (i.zero, i.size, i.bytes)) = some (some z, 2, 32)) (hzs : z.cells.size = 2)
    (A : Option Addr) (n c : Nat) (ps : List LP) (hs : a.eval s = .slice A n c) (hown : LpRow w base A n c ps)
    (A2 : Addr) (y : LP) (hx : a.eval x = .slice (some A2) 1 1) (hr : ∀ (j : Nat) u, (lpCells [y])[j]? = some u → w.cell? (A2.add j) = some u)
    (hbytes : n ≤ 1000000) (hbase : base ≤ w.heap.size)
    (h : ∀ A' c' w', LpRow w' base A' (n + 1) c' (ps ++ [y]) → w.grownBy w' (Value.slice A n c).ownBlock → ((Value.slice A' (n + 1) c').ownBlock = (Value.slice A n c).ownBlock ∨ (Value.slice A' (n + 1) c').ownBlock = some w.heap.size) → K (a.put o.dst (.slice A' (n + 1) c')) w') : Oper.wp P o a w K Q := by
  obtain ⟨i, hi0, hz, hsz, hby⟩ := info_parts hi
  have run : ∃ A' c' w', (Builtin.append_ #[t, t] o.type #[.slice A n c, .slice (some A2) 1 1]).run P w = .ok (.slice A' (n + 1) c') w' ∧ LpRow w' base A' (n + 1) c' (ps ++ [y]) ∧ w.grownBy w' (Value.slice A n c).ownBlock ∧ ((Value.slice A' (n + 1) c').ownBlock = (Value.slice A n c).ownBlock ∨ (Value.slice A' (n + 1) c').ownBlock = some w.heap.size) := by
    obtain ⟨v', w', hrun, h2, h3, _, h5⟩ := run_append_own_at (P := P) w base t o.type 108 i z 2 32 hts hi0 hz hsz hby hzs (by omega) _ n (lpCells ps) hown.2 A2 1 1 (lpCells [y]) rfl hr lpCells_one (by unfold maxLen; omega) (by omega) hbase
    have hform : ∃ A' c', v' = .slice A' (n + 1) c' := by
      rcases h2.2 with ⟨rfl, h⟩ | ⟨g, cap, cur, rfl, _⟩
      · omega
      · exact ⟨_, _, rfl⟩
    obtain ⟨A', c', rfl⟩ := hform
    exact ⟨A', c', w', hrun, ⟨by rw [List.length_append, hown.1]; rfl, by rw [lpCells_append]; exact h2⟩, h3, h5⟩
  obtain ⟨A', c', w', hrun, h2, h3, h5⟩ := run
  unfold Oper.wp execOp
  simp only [ho, resolve, invoke, builtin, Sem.run_bind, Sem.run_pure, Result.andThen_ok, List.map_toArray, List.map_cons, List.map_nil, hs, hx, hrun]
  exact h A' c' w' h2 h3 h5
theorem step_append_lig {ops : Array Oper} {o : Oper} {a : Act} {K : Act → World → Prop} {Q : Exit → Act → World → Prop} {E : Prop} (hgd : o.guard = none) (s x : Operand) (t : TypeId)
    (ho : o.op = .call { callee := .builtin .append, args := #[s, x], argTypes := #[t, t] })
    (base : Nat) (z : Value) (hts : P.underlying t = some (.slice 108)) (hi : (P.info? 108).map (fun i => (i.zero, i.size, i.bytes)) = some (some z, 2, 32)) (hzs : z.cells.size = 2)
    (A : Option Addr) (n c : Nat) (ps : List LP) (hs : a.eval s = .slice A n c) (hown : LpRow w base A n c ps)
    (A2 : Addr) (y : LP) (hx : a.eval x = .slice (some A2) 1 1) (hr : ∀ (j : Nat) u, (lpCells [y])[j]? = some u → w.cell? (A2.add j) = some u)
    (hbytes : n ≤ 1000000) (hbase : base ≤ w.heap.size)
    (h : ∀ A' c' w', LpRow w' base A' (n + 1) c' (ps ++ [y]) → w.grownBy w' (Value.slice A n c).ownBlock → ((Value.slice A' (n + 1) c').ownBlock = (Value.slice A n c).ownBlock ∨ (Value.slice A' (n + 1) c').ownBlock = some w.heap.size) → K (a.put o.dst (.slice A' (n + 1) c')) w') :
    if Region.wanted o (yielded ops a.tmps) = true then Oper.wp P o a w K Q else E := by
  have hw : Region.wanted o (yielded ops a.tmps) = true := by simp [Region.wanted, hgd]
  rw [if_pos hw]
  exact wp_append_lig w s x t ho base z hts hi hzs A n c ps hs hown A2 y hx hr hbytes hbase h
end
theorem lp_lit (w : World) (y : LP) : ∀ (j : Nat) u, (lpCells [y])[j]? = some u → (w.alloc (.cells #[.slice y.1.A y.1.n y.1.c, .int .i64 y.2] 108)).cell? ((⟨w.heap.size, 0, none⟩ : Addr).add j) = some u := by
  intro j u hj
  have e : ((⟨w.heap.size, 0, none⟩ : Addr).add j) = ⟨w.heap.size, j, none⟩ := by unfold Addr.add; split <;> simp_all
  rw [e, cell_of_row _ _ j _ _ _ (heap_alloc_new _ _)]
  rcases j with _ | _ | j
  · cases hj; rfl
  · cases hj; rfl
  · simp [lpCells] at hj
/-- the ligatures that begin with a glyph -/
def partB : List PSu → Int → List PG
  | [], _ => []
  | s :: r, g => match ixI s.co g with
    | some i => s.li.getD i []
    | none => partB r g
/-- What Parts leaves. -/
def RetLigs (w : World) (ls : List PG) (e : Ending) (w' : World) : Prop := ∃ A c, e = .returned (.slice A ls.length c) ∧ SlR w' w'.heap.size 2 (LigR w' w'.heap.size) A ls.length c ls ∧ Below w.heap.size w w'
theorem partB_end {su : List PSu} {g : Int} {tot : List PG} (h : tot = partB (su.drop su.length) g) : tot = [] := by rw [h, List.drop_length]; rfl
theorem partB_none {su : List PSu} {g : Int} {j : Nat} {s : PSu} {tot : List PG} (h : tot = partB (su.drop j) g) (hs : su[j]? = some s) (hi : ixI s.co g = none) : tot = partB (su.drop (j + 1)) g := by
  rw [h, drop_some hs]; simp only [partB, hi]
theorem partB_some {su : List PSu} {g : Int} {j i : Nat} {s : PSu} {tot : List PG} (h : tot = partB (su.drop j) g) (hs : su[j]? = some s) (hi : ixI s.co g = some i) : tot = s.li.getD i [] := by
  rw [h, drop_some hs]; simp only [partB, hi]

end Go.Proofs.Ytngdolmmaiogiaa
