/- Joined: ExN Aliv. -/
import Derived.Test.YtngdolmmaiogiaaJ37
import Derived.Test.YtngdolmmaiogiaaJ40
import Derived.Great.BuildSlice
import Derived.Great.Walk
import Derived.BigRegion
import Derived.Deep.RegionHeld3

/- The calls of the example of the laws on substitution. No condition. -/
namespace Go.Proofs.Ytngdolmmaiogiaa
open Go.RowKit
theorem infoGl5 : (Try.prog.info? 77).map (fun i => (i.zero, i.size, i.bytes)) = some (some (.agg #[.int .i64 0, .int .i64 0, .int .i64 0, .slice none 0 0]), 4, 48) := by kernel_rfl
theorem undGl5 : Try.prog.underlying 22 = some (.slice 77) := by kernel_rfl
def gl5 : Array Value := #[.int .i64 0, .int .i64 0, .int .i64 0, .slice none 0 0, .int .i64 0, .int .i64 0, .int .i64 0, .slice none 0 0, .int .i64 0, .int .i64 0, .int .i64 0, .slice none 0 0, .int .i64 0, .int .i64 0, .int .i64 0, .slice none 0 0, .int .i64 0, .int .i64 0, .int .i64 0, .slice none 0 0]
theorem gl5_made : madeCells (Value.agg #[.int .i64 0, .int .i64 0, .int .i64 0, .slice none 0 0]).cells (Int.toNat 5 * 4) = gl5 := by kernel_rfl
theorem wpList_make_gl5 {ops : Array Oper} {rest : List Oper} {o : Oper} {a : Act} {w : World} {Q : Exit → Act → World → Prop} (hgd : o.guard = none) (hop : o.op = Op.makeSlice 22 (.const (.int .i64 5)) (.const (.int .i64 5)))
    (hK : wpList Try.prog ops Q rest (a.put o.dst (.slice (some ⟨w.heap.size, 0, none⟩) 5 5)) (w.alloc (.cells gl5 77))) : wpList Try.prog ops Q (o :: rest) a w := by
  obtain ⟨i, hi, hz, hs, hb⟩ := info_parts infoGl5
  have hr := run_make (P := Try.prog) w 22 77 i _ undGl5 hi hz .i64 .i64 5 5 (by omega) (by omega) (by rw [hb]; decide) (by omega)
  rw [hs, gl5_made] at hr
  refine wpList_plain hgd fun K hK' => ?_
  unfold Oper.wp
  simp [execOp, hop, hr, Result.andThen, Act.eval]
  exact hK' _ _ hK
theorem exW_gl5 (w : World) : exW w = (((((((((((((((((((((((((((w.alloc (.cells gl5 77))).alloc (.cells #[.int .i64 1] 3))).alloc (.cells #[.int .i64 2] 3))).alloc (.cells #[.slice (some ⟨w.heap.size + 1 + 1, 0, none⟩) 1 1] 51))).alloc (.cells #[.slice (some ⟨w.heap.size + 1, 0, none⟩) 1 1, .slice (some ⟨w.heap.size + 1 + 1 + 1, 0, none⟩) 1 1, .slice none 0 0, .slice none 0 0, .slice none 0 0, .slice none 0 0, .slice none 0 0, .slice none 0 0, .slice none 0 0, .slice none 0 0, .slice none 0 0, .slice none 0 0] 60))).alloc (.cells #[.int .i64 1] 3))).alloc (.cells #[.slice none 0 0] 51))).alloc (.cells #[.slice (some ⟨w.heap.size + 1 + 1 + 1 + 1 + 1, 0, none⟩) 1 1, .slice (some ⟨w.heap.size + 1 + 1 + 1 + 1 + 1 + 1, 0, none⟩) 1 1, .slice none 0 0, .slice none 0 0, .slice none 0 0, .slice none 0 0, .slice none 0 0, .slice none 0 0, .slice none 0 0, .slice none 0 0, .slice none 0 0, .slice none 0 0] 60))).alloc (.cells #[.int .i64 3] 3))).alloc (.cells #[.slice (some ⟨w.heap.size + 1 + 1 + 1 + 1 + 1 + 1 + 1 + 1, 0, none⟩) 1 1] 51))).alloc (.cells #[.int .i64 0, .int .i64 2] 62))).alloc (.cells #[.slice none 0 0, .slice none 0 0, .slice none 0 0, .slice none 0 0, .slice (some ⟨w.heap.size + 1 + 1 + 1 + 1 + 1 + 1 + 1 + 1 + 1, 0, none⟩) 1 1, .slice none 0 0, .slice (some ⟨w.heap.size + 1 + 1 + 1 + 1 + 1 + 1 + 1 + 1 + 1 + 1, 0, none⟩) 1 1, .slice none 0 0, .slice none 0 0, .slice none 0 0, .slice none 0 0, .slice none 0 0] 60))).alloc (.cells #[.int .i64 1, .int .i64 0, .int .i64 0, .slice (some ⟨w.heap.size + 1 + 1 + 1 + 1, 0, none⟩) 1 1, .int .i64 2, .int .i64 0, .int .i64 0, .slice (some ⟨w.heap.size + 1 + 1 + 1 + 1 + 1 + 1 + 1, 0, none⟩) 1 1, .int .i64 4, .int .i64 0, .int .i64 0, .slice (some ⟨w.heap.size + 1 + 1 + 1 + 1 + 1 + 1 + 1 + 1 + 1 + 1 + 1, 0, none⟩) 1 1] 36))).alloc (.cells #[.int .i64 10, .slice (some ⟨w.heap.size, 0, none⟩) 5 5, .slice none 0 0, .slice (some ⟨w.heap.size + 1 + 1 + 1 + 1 + 1 + 1 + 1 + 1 + 1 + 1 + 1 + 1, 0, none⟩) 3 3, .slice none 0 0, .slice none 0 0] 28)) := rfl
theorem nest_at {w : World} {b B : Nat} {x y : Int} {t : TypeId} (h : w.heap[b]? = some (.cells #[.int .i64 x, .int .i64 y] t (0, 0))) (hb : b < B) : SlR w B 2 NestR (some ⟨b, 0, none⟩) 1 1 [(x, y)] :=
  SlR.rown h hb rfl (by omega) fun k p hk => by
    rcases k with _ | k
    · cases (show some (x, y) = some p from hk)
      exact ⟨[.int .i64 x, .int .i64 y], all_at fun j hj => by
        rcases j with _ | _ | j
        · rfl
        · rfl
        · (have : j + 1 + 1 < 2 := hj); omega, rfl⟩
    · simp at hk
theorem gls_at {w : World} {b B n : Nat} {gs : List Gl} {arr : Array Value} {t : TypeId} (h : w.heap[b]? = some (.cells arr t (0, 0))) (hb : b < B) (hn : gs.length = n) (hm : n ≤ 1000) (he : arr.toList = glCells gs) : GlsR w B (some ⟨b, 0, none⟩) n n gs :=
  ⟨hn, Nat.le_refl _, by unfold maxLen; omega, (fun h => by cases h), fun _ => ⟨b, 0, rfl, hb, fun j v hj => by
    rw [cell_of_row _ _ _ _ _ _ h, Nat.zero_add, ← hj, ← he, Array.getElem?_toList]⟩⟩
section
variable {W0 W : World} {s : Nat}
theorem ex_all (hat : ExAt W0 s) (hs : W0.heap.size = s + 14) (hb : Below W0.heap.size W0 W) :
    Calls Try.prog 8 #[.agg #[.int .i64 10, .slice (some ⟨s, 0, none⟩) 5 5, .slice none 0 0, .slice (some ⟨s + 1 + 1 + 1 + 1 + 1 + 1 + 1 + 1 + 1 + 1 + 1 + 1, 0, none⟩) 3 3, .slice none 0 0, .slice none 0 0], .slice (some ⟨W.heap.size, 0, none⟩) 1 1, .slice (some ⟨W.heap.size + 1, 0, none⟩) 2 2] ((W.alloc (.cells #[.int .i64 0, .int .i64 1] 45)).alloc (.cells #[.int .i64 1, .int .i64 0, .int .i64 0, .int .i64 0, .int .i64 0, .int .i64 (-1), .int .i64 (-1), .int .i64 0, .int .i64 0, .int .i64 1, .int .i64 1, .int .i64 1, .int .i64 0, .int .i64 0, .int .i64 0, .int .i64 (-1), .int .i64 (-1), .int .i64 0, .int .i64 0, .int .i64 2] 38))
      (fun e w' => ∃ A c, e = .returned (.slice A 2 c) ∧ GlsR w' w'.heap.size A 2 c [exGl 2 0 1, exGl 1 1 2] ∧ Below W.heap.size W w') := by
  obtain ⟨Z, hZ⟩ : ∃ Z, Z = (W.alloc (.cells #[.int .i64 0, .int .i64 1] 45)).alloc (.cells #[.int .i64 1, .int .i64 0, .int .i64 0, .int .i64 0, .int .i64 0, .int .i64 (-1), .int .i64 (-1), .int .i64 0, .int .i64 0, .int .i64 1, .int .i64 1, .int .i64 1, .int .i64 0, .int .i64 0, .int .i64 0, .int .i64 (-1), .int .i64 (-1), .int .i64 0, .int .i64 0, .int .i64 2] 38) := ⟨_, rfl⟩
  have hZs : Z.heap.size = W.heap.size + 1 + 1 := by rw [hZ]; simp
  have hWZ : Below W.heap.size W Z := by rw [hZ]; exact ((Below.refl _ _).alloc (Nat.le_refl _) _).alloc (by simp) _
  have h1 : Z.heap[W.heap.size]? = some (.cells #[.int .i64 0, .int .i64 1] 45 (0, 0)) := by rw [hZ]; exact (heap_alloc_old _ _ (by simp)).trans (heap_alloc_new _ _)
  have h2 : Z.heap[W.heap.size + 1]? = some (.cells #[.int .i64 1, .int .i64 0, .int .i64 0, .int .i64 0, .int .i64 0, .int .i64 (-1), .int .i64 (-1), .int .i64 0, .int .i64 0, .int .i64 1, .int .i64 1, .int .i64 1, .int .i64 0, .int .i64 0, .int .i64 0, .int .i64 (-1), .int .i64 (-1), .int .i64 0, .int .i64 0, .int .i64 2] 38 (0, 0)) := by rw [hZ]; exact (show (W.alloc (.cells #[.int .i64 0, .int .i64 1] 45)).heap.size = W.heap.size + 1 by simp) ▸ heap_alloc_new _ _
  have hB := hb.trans (hWZ.mono hb.size)
  rw [← hZ]
  refine (allt_any exPf (exLs s) (exFt s) W0.heap.size [(0, 1)] _ 1 1 _ 2 2 [exGl 1 0 1, exGl 1 1 2] Z ((exFtR hat (Nat.le_of_eq hs.symm)).below hB) ((exLkm hat (Nat.le_of_eq hs.symm)).below hB fun _ _ h => h.below hB) (fun x hx => (exGood s x hx).good) (nest_at h1 (by omega)) (gls_at h2 (by omega) rfl (by omega) rfl) hB.size (by omega) (fun x _ h => by omega)).mono ?_
  rintro e w' ⟨A, c, rfl, hg, hb'⟩
  rw [exAll] at hg ⊢
  exact ⟨A, c, rfl, hg, hWZ.trans (hb'.mono hWZ.size)⟩
theorem ex_look (hat : ExAt W0 s) (hs : W0.heap.size = s + 14) (hb : Below W0.heap.size W0 W) :
    Calls Try.prog 14 #[.agg #[.int .i64 10, .slice (some ⟨s, 0, none⟩) 5 5, .slice none 0 0, .slice (some ⟨s + 1 + 1 + 1 + 1 + 1 + 1 + 1 + 1 + 1 + 1 + 1 + 1, 0, none⟩) 3 3, .slice none 0 0, .slice none 0 0], .agg #[.int .i64 1, .int .i64 1], .slice (some ⟨W.heap.size, 0, none⟩) 2 2] (W.alloc (.cells #[.int .i64 1, .int .i64 0, .int .i64 0, .int .i64 0, .int .i64 0, .int .i64 (-1), .int .i64 (-1), .int .i64 0, .int .i64 0, .int .i64 1, .int .i64 3, .int .i64 1, .int .i64 0, .int .i64 0, .int .i64 0, .int .i64 (-1), .int .i64 (-1), .int .i64 0, .int .i64 0, .int .i64 1] 38))
      (fun e w' => ∃ A c, e = .returned (.slice A 1 c) ∧ GlsR w' w'.heap.size A 1 c [exGl 3 0 1] ∧ Below W.heap.size W w') := by
  obtain ⟨Z, hZ⟩ : ∃ Z, Z = W.alloc (.cells #[.int .i64 1, .int .i64 0, .int .i64 0, .int .i64 0, .int .i64 0, .int .i64 (-1), .int .i64 (-1), .int .i64 0, .int .i64 0, .int .i64 1, .int .i64 3, .int .i64 1, .int .i64 0, .int .i64 0, .int .i64 0, .int .i64 (-1), .int .i64 (-1), .int .i64 0, .int .i64 0, .int .i64 1] 38) := ⟨_, rfl⟩
  have hZs : Z.heap.size = W.heap.size + 1 := by rw [hZ]; simp
  have hWZ : Below W.heap.size W Z := by rw [hZ]; exact (Below.refl _ _).alloc (Nat.le_refl _) _
  have h2 : Z.heap[W.heap.size]? = some (.cells #[.int .i64 1, .int .i64 0, .int .i64 0, .int .i64 0, .int .i64 0, .int .i64 (-1), .int .i64 (-1), .int .i64 0, .int .i64 0, .int .i64 1, .int .i64 3, .int .i64 1, .int .i64 0, .int .i64 0, .int .i64 0, .int .i64 (-1), .int .i64 (-1), .int .i64 0, .int .i64 0, .int .i64 1] 38 (0, 0)) := by rw [hZ]; exact heap_alloc_new _ _
  have hB := hb.trans (hWZ.mono hb.size)
  rw [← hZ]
  refine (lookupt_any exPf (exLs s) (exFt s) W0.heap.size (1, 1) _ 2 2 [exGl 1 0 1, exGl 3 1 1] Z ((exFtR hat (Nat.le_of_eq hs.symm)).below hB) ((exLkm hat (Nat.le_of_eq hs.symm)).below hB fun _ _ h => h.below hB) (fun x hx => (exGood s x hx).good) (gls_at h2 (by omega) rfl (by omega) rfl) hB.size (by omega)).mono ?_
  rintro e w' ⟨A, c, rfl, hg, hb'⟩
  rw [exLook] at hg ⊢
  exact ⟨A, c, rfl, hg, hWZ.trans (hb'.mono hWZ.size)⟩
theorem ex_done (hat : ExAt W0 s) (hs : W0.heap.size = s + 14) (hb : Below W0.heap.size W0 W) :
    Calls Try.prog 11 #[.agg #[.int .i64 10, .slice (some ⟨s, 0, none⟩) 5 5, .slice none 0 0, .slice (some ⟨s + 1 + 1 + 1 + 1 + 1 + 1 + 1 + 1 + 1 + 1 + 1 + 1, 0, none⟩) 3 3, .slice none 0 0, .slice none 0 0], .slice (some ⟨W.heap.size, 0, none⟩) 1 1, .slice (some ⟨W.heap.size + 1, 0, none⟩) 1 1] ((W.alloc (.cells #[.int .i64 2, .int .i64 1] 45)).alloc (.cells #[.int .i64 3, .int .i64 1, .int .i64 0, .int .i64 0, .int .i64 0, .int .i64 (-1), .int .i64 (-1), .int .i64 0, .int .i64 0, .int .i64 1] 38))
      (fun e w' => e = .returned (.int .i64 9) ∧ Below W.heap.size W w') := by
  obtain ⟨Z, hZ⟩ : ∃ Z, Z = (W.alloc (.cells #[.int .i64 2, .int .i64 1] 45)).alloc (.cells #[.int .i64 3, .int .i64 1, .int .i64 0, .int .i64 0, .int .i64 0, .int .i64 (-1), .int .i64 (-1), .int .i64 0, .int .i64 0, .int .i64 1] 38) := ⟨_, rfl⟩
  have hZs : Z.heap.size = W.heap.size + 1 + 1 := by rw [hZ]; simp
  have hWZ : Below W.heap.size W Z := by rw [hZ]; exact ((Below.refl _ _).alloc (Nat.le_refl _) _).alloc (by simp) _
  have h1 : Z.heap[W.heap.size]? = some (.cells #[.int .i64 2, .int .i64 1] 45 (0, 0)) := by rw [hZ]; exact (heap_alloc_old _ _ (by simp)).trans (heap_alloc_new _ _)
  have h2 : Z.heap[W.heap.size + 1]? = some (.cells #[.int .i64 3, .int .i64 1, .int .i64 0, .int .i64 0, .int .i64 0, .int .i64 (-1), .int .i64 (-1), .int .i64 0, .int .i64 0, .int .i64 1] 38 (0, 0)) := by rw [hZ]; exact (show (W.alloc (.cells #[.int .i64 2, .int .i64 1] 45)).heap.size = W.heap.size + 1 by simp) ▸ heap_alloc_new _ _
  have hB := hb.trans (hWZ.mono hb.size)
  rw [← hZ]
  refine (donet_any exPf (exLs s) (exFt s) W0.heap.size [(2, 1)] _ 1 1 _ 1 1 [exGl 3 1 1] Z ((exFtR hat (Nat.le_of_eq hs.symm)).below hB) ((exLkm hat (Nat.le_of_eq hs.symm)).below hB fun _ _ h => h.below hB) (fun x hx => (exGood s x hx).good) (nest_at h1 (by omega)) (gls_at h2 (by omega) rfl (by omega) rfl) hB.size (by omega) (fun x _ h => by omega)).mono ?_
  rintro e w' ⟨he, hb'⟩
  rw [exDone] at he
  exact ⟨he, hWZ.trans (hb'.mono hWZ.size)⟩
end
theorem ExAt.below {w w' : World} {s : Nat} (h : ExAt w s) (hs : w.heap.size = s + 14) (hb : Below w.heap.size w w') : ExAt w' s :=
  ⟨(hb.block _ (by omega)).trans h.b0, (hb.block _ (by omega)).trans h.b1, (hb.block _ (by omega)).trans h.b2, (hb.block _ (by omega)).trans h.b3, (hb.block _ (by omega)).trans h.b4, (hb.block _ (by omega)).trans h.b5, (hb.block _ (by omega)).trans h.b6, (hb.block _ (by omega)).trans h.b7, (hb.block _ (by omega)).trans h.b8, (hb.block _ (by omega)).trans h.b9, (hb.block _ (by omega)).trans h.b10, (hb.block _ (by omega)).trans h.b11, (hb.block _ (by omega)).trans h.b12, (hb.block _ (by omega)).trans h.b13⟩
theorem ex_check {W0 W : World} {s : Nat} (hat : ExAt W0 s) (hs : W0.heap.size = s + 14) (hb : Below W0.heap.size W0 W) :
    Calls Try.prog 12 #[.agg #[.int .i64 10, .slice (some ⟨s, 0, none⟩) 5 5, .slice none 0 0, .slice (some ⟨s + 1 + 1 + 1 + 1 + 1 + 1 + 1 + 1 + 1 + 1 + 1 + 1, 0, none⟩) 3 3, .slice none 0 0, .slice none 0 0]] W (fun e w' => e = .returned (.int .i64 0) ∧ Below W.heap.size W w') := by
  have hw := hat.below hs hb
  refine (kcheck_any (exFt s) W0.heap.size exLk (exLs s) W ((exFnt hat (Nat.le_of_eq hs.symm)).below hb) ((exLkm hat (Nat.le_of_eq hs.symm)).below hb fun _ _ h2 => h2.below hb) ((exLkl hat (Nat.le_of_eq hs.symm)).below hb fun _ _ h2 => h2.below hb) hb.size).mono ?_
  rintro e w' ⟨b, rfl, ⟨_, h2⟩, hb'⟩
  rw [h2 (exFontOk hw)]
  exact ⟨rfl, hb'⟩
end Go.Proofs.Ytngdolmmaiogiaa

/- alive of the laws on substitution: true. No condition. -/
namespace Go.Proofs.Ytngdolmmaiogiaa
open Go.RowKit
set_option maxRecDepth 100000 in
set_option maxHeartbeats 4000000 in
theorem alive_any (w : World) : Calls Try.prog 7 #[] w (fun e w' => e = .returned (.bool true) ∧ Below w.heap.size w w') := by
  obtain ⟨hbE, hsE, hat⟩ := exW_ok w
  obtain ⟨W0, hW0⟩ : ∃ z, z = exW w := ⟨_, rfl⟩
  rw [← hW0] at hbE hsE hat
  rw [exW_gl5] at hW0
  have HW0 := Lib.hid hW0
  have HAT := Lib.hid hat
  have HBE := Lib.hid hbE
  have h13 : W0.heap[w.heap.size + 1 + 1 + 1 + 1 + 1 + 1 + 1 + 1 + 1 + 1 + 1 + 1 + 1]? = some (exB13 w.heap.size) := hat.b13
  unfold exB13 at h13
  have H13 := Lib.hid h13
  clear hW0 hat hbE h13
  go_enter Try.func7, Try.ntmps7
  go_upto_region 2 with (at_make; refine wpList_make_gl5 rfl rfl ?_)
  rw [← HW0.out]
  obtain ⟨s, hs⟩ : ∃ s, s = w.heap.size := ⟨_, rfl⟩
  rw [← hs] at HAT H13 hsE ⊢
  obtain ⟨K, hK⟩ : ∃ K, K = s + 1 + 1 + 1 + 1 + 1 + 1 + 1 + 1 + 1 + 1 + 1 + 1 + 1 := ⟨_, rfl⟩
  rw [← hK] at H13 ⊢
  have hKE : K + 1 = W0.heap.size := by omega
  have HsE := Lib.hid hsE
  clear hK hs hsE
  go_upto_region 5 with (first | (go_at_call 13; refine (rfresh_any 1 0 _).mono ?_; rintro e w1 ⟨rfl, hb1⟩) | (go_at_call 13; refine (rfresh_any 1 1 _).mono ?_; rintro e w2 ⟨rfl, hb2⟩))
  have hB2 := hb1.trans (hb2.mono hb1.size)
  obtain ⟨a, ha⟩ : ∃ a, a = w2.heap.size := ⟨_, rfl⟩
  obtain ⟨w3, hw3⟩ : ∃ z, z = (w2.alloc (.cells #[.int .i64 1, .int .i64 0, .int .i64 0, .int .i64 0, .int .i64 0, .int .i64 (-1), .int .i64 (-1), .int .i64 0, .int .i64 0, .int .i64 1] 38)).alloc (.cells #[.int .i64 1, .int .i64 1, .int .i64 0, .int .i64 0, .int .i64 0, .int .i64 (-1), .int .i64 (-1), .int .i64 0, .int .i64 0, .int .i64 2] 38) := ⟨_, rfl⟩
  have hs3 : w3.heap.size = a + 1 + 1 := by rw [hw3, ha]; simp
  have hB3 : Below W0.heap.size W0 w3 := by rw [hw3]; exact ((hB2.alloc hB2.size _).alloc (by have := hB2.size; simp; omega) _)
  have hxa : w3.heap[a]? = some (.cells #[.int .i64 1, .int .i64 0, .int .i64 0, .int .i64 0, .int .i64 0, .int .i64 (-1), .int .i64 (-1), .int .i64 0, .int .i64 0, .int .i64 1] 38 (0, 0)) := by rw [hw3, ha]; exact (heap_alloc_old _ _ (by simp)).trans (heap_alloc_new _ _)
  have hxb : w3.heap[a + 1]? = some (.cells #[.int .i64 1, .int .i64 1, .int .i64 0, .int .i64 0, .int .i64 0, .int .i64 (-1), .int .i64 (-1), .int .i64 0, .int .i64 0, .int .i64 2] 38 (0, 0)) := by rw [hw3, ha]; exact (show (w2.alloc (.cells #[.int .i64 1, .int .i64 0, .int .i64 0, .int .i64 0, .int .i64 0, .int .i64 (-1), .int .i64 (-1), .int .i64 0, .int .i64 0, .int .i64 1] 38)).heap.size = w2.heap.size + 1 by simp) ▸ heap_alloc_new _ _
  have hxk : w3.heap[K]? = some (.cells #[.int .i64 10, .slice (some ⟨s, 0, none⟩) 5 5, .slice none 0 0, .slice (some ⟨s + 1 + 1 + 1 + 1 + 1 + 1 + 1 + 1 + 1 + 1 + 1 + 1, 0, none⟩) 3 3, .slice none 0 0, .slice none 0 0] 28 (0, 0)) := by rw [hB3.block _ (by omega)]; exact H13.out
  have hsa : W0.heap.size ≤ a := by rw [ha]; exact hB2.size
  rw [← ha, ← hw3]
  have f0 := up_fact (show w3.cell? ⟨K, 0, none⟩ = some (.int .i64 10) by rw [cell_of_row _ _ 0 _ _ _ hxk]; rfl)
  have f1 := up_fact (show w3.cell? ⟨K, 1, none⟩ = some (.slice (some ⟨s, 0, none⟩) 5 5) by rw [cell_of_row _ _ 1 _ _ _ hxk]; rfl)
  have f2 := up_fact (show w3.cell? ⟨K, 2, none⟩ = some (.slice none 0 0) by rw [cell_of_row _ _ 2 _ _ _ hxk]; rfl)
  have f3 := up_fact (show w3.cell? ⟨K, 3, none⟩ = some (.slice (some ⟨s + 1 + 1 + 1 + 1 + 1 + 1 + 1 + 1 + 1 + 1 + 1 + 1, 0, none⟩) 3 3) by rw [cell_of_row _ _ 3 _ _ _ hxk]; rfl)
  have f4 := up_fact (show w3.cell? ⟨K, 4, none⟩ = some (.slice none 0 0) by rw [cell_of_row _ _ 4 _ _ _ hxk]; rfl)
  have f5 := up_fact (show w3.cell? ⟨K, 5, none⟩ = some (.slice none 0 0) by rw [cell_of_row _ _ 5 _ _ _ hxk]; rfl)
  have a0 := up_fact (show w3.cell? ⟨a, 0, none⟩ = some (.int .i64 1) by rw [cell_of_row _ _ 0 _ _ _ hxa]; rfl)
  have a1 := up_fact (show w3.cell? ⟨a, 1, none⟩ = some (.int .i64 0) by rw [cell_of_row _ _ 1 _ _ _ hxa]; rfl)
  have a2 := up_fact (show w3.cell? ⟨a, 2, none⟩ = some (.int .i64 0) by rw [cell_of_row _ _ 2 _ _ _ hxa]; rfl)
  have a3 := up_fact (show w3.cell? ⟨a, 3, none⟩ = some (.int .i64 0) by rw [cell_of_row _ _ 3 _ _ _ hxa]; rfl)
  have a4 := up_fact (show w3.cell? ⟨a, 4, none⟩ = some (.int .i64 0) by rw [cell_of_row _ _ 4 _ _ _ hxa]; rfl)
  have a5 := up_fact (show w3.cell? ⟨a, 5, none⟩ = some (.int .i64 (-1)) by rw [cell_of_row _ _ 5 _ _ _ hxa]; rfl)
  have a6 := up_fact (show w3.cell? ⟨a, 6, none⟩ = some (.int .i64 (-1)) by rw [cell_of_row _ _ 6 _ _ _ hxa]; rfl)
  have a7 := up_fact (show w3.cell? ⟨a, 7, none⟩ = some (.int .i64 0) by rw [cell_of_row _ _ 7 _ _ _ hxa]; rfl)
  have a8 := up_fact (show w3.cell? ⟨a, 8, none⟩ = some (.int .i64 0) by rw [cell_of_row _ _ 8 _ _ _ hxa]; rfl)
  have a9 := up_fact (show w3.cell? ⟨a, 9, none⟩ = some (.int .i64 1) by rw [cell_of_row _ _ 9 _ _ _ hxa]; rfl)
  have b0 := up_fact (show w3.cell? ⟨a + 1, 0, none⟩ = some (.int .i64 1) by rw [cell_of_row _ _ 0 _ _ _ hxb]; rfl)
  have b1 := up_fact (show w3.cell? ⟨a + 1, 1, none⟩ = some (.int .i64 1) by rw [cell_of_row _ _ 1 _ _ _ hxb]; rfl)
  have b2 := up_fact (show w3.cell? ⟨a + 1, 2, none⟩ = some (.int .i64 0) by rw [cell_of_row _ _ 2 _ _ _ hxb]; rfl)
  have b3 := up_fact (show w3.cell? ⟨a + 1, 3, none⟩ = some (.int .i64 0) by rw [cell_of_row _ _ 3 _ _ _ hxb]; rfl)
  have b4 := up_fact (show w3.cell? ⟨a + 1, 4, none⟩ = some (.int .i64 0) by rw [cell_of_row _ _ 4 _ _ _ hxb]; rfl)
  have b5 := up_fact (show w3.cell? ⟨a + 1, 5, none⟩ = some (.int .i64 (-1)) by rw [cell_of_row _ _ 5 _ _ _ hxb]; rfl)
  have b6 := up_fact (show w3.cell? ⟨a + 1, 6, none⟩ = some (.int .i64 (-1)) by rw [cell_of_row _ _ 6 _ _ _ hxb]; rfl)
  have b7 := up_fact (show w3.cell? ⟨a + 1, 7, none⟩ = some (.int .i64 0) by rw [cell_of_row _ _ 7 _ _ _ hxb]; rfl)
  have b8 := up_fact (show w3.cell? ⟨a + 1, 8, none⟩ = some (.int .i64 0) by rw [cell_of_row _ _ 8 _ _ _ hxb]; rfl)
  have b9 := up_fact (show w3.cell? ⟨a + 1, 9, none⟩ = some (.int .i64 2) by rw [cell_of_row _ _ 9 _ _ _ hxb]; rfl)
  have HS3 := Lib.hid hs3
  have HB3 := Lib.hid hB3
  have hA0 := Below.refl w3.heap.size w3
  have hK3 : K < w3.heap.size := by omega
  have ha3 : a < w3.heap.size := by omega
  have hb3 : a + 1 < w3.heap.size := by omega
  clear hw3 ha hb1 hb2 hB2 hB3 hxa hxb hs3 hxk hKE
  have hAT := HAT.out
  have hsE := HsE.out
  have HC1 := Lib.hid (fun W (h : Below w3.heap.size w3 W) => ex_all hAT hsE (HB3.out.trans (h.mono HB3.out.size)))
  have HC2 := Lib.hid (fun W (h : Below w3.heap.size w3 W) => ex_look hAT hsE (HB3.out.trans (h.mono HB3.out.size)))
  have HC3 := Lib.hid (fun W (h : Below w3.heap.size w3 W) => ex_done hAT hsE (HB3.out.trans (h.mono HB3.out.size)))
  have HC4 := Lib.hid (fun W (h : Below w3.heap.size w3 W) => ex_check hAT hsE (HB3.out.trans (h.mono HB3.out.size)))
  clear hAT hsE
  go_upto_region 8 with (first
    | (go_at_call 8; refine (HC1.out _ (Below.refl _ _)).mono ?_; rintro e w4 ⟨A4, k4, rfl, hg4, hb4⟩)
    | (go_at_call 13; refine (rfresh_any 3 1 _).mono ?_; rintro e w5 ⟨rfl, hb5⟩))
  obtain ⟨c, hc⟩ : ∃ c, c = w5.heap.size := ⟨_, rfl⟩
  obtain ⟨w6, hw6⟩ : ∃ z, z = w5.alloc (.cells #[.int .i64 3, .int .i64 1, .int .i64 0, .int .i64 0, .int .i64 0, .int .i64 (-1), .int .i64 (-1), .int .i64 0, .int .i64 0, .int .i64 1] 38) := ⟨_, rfl⟩
  have hB5 := hb4.trans (hb5.mono hb4.size)
  have hB6 : Below w3.heap.size w3 w6 := by rw [hw6]; exact hB5.alloc hB5.size _
  have h46 : Below w4.heap.size w4 w6 := by rw [hw6]; exact hb5.alloc hb5.size _
  have hs6 : w6.heap.size = c + 1 := by rw [hw6, hc]; simp
  have hxc : w6.heap[c]? = some (.cells #[.int .i64 3, .int .i64 1, .int .i64 0, .int .i64 0, .int .i64 0, .int .i64 (-1), .int .i64 (-1), .int .i64 0, .int .i64 0, .int .i64 1] 38 (0, 0)) := by rw [hw6, hc]; exact heap_alloc_new _ _
  rw [← hc, ← hw6]
  have c0 := up_fact (show w6.cell? ⟨c, 0, none⟩ = some (.int .i64 3) by rw [cell_of_row _ _ 0 _ _ _ hxc]; rfl)
  have c1 := up_fact (show w6.cell? ⟨c, 1, none⟩ = some (.int .i64 1) by rw [cell_of_row _ _ 1 _ _ _ hxc]; rfl)
  have c2 := up_fact (show w6.cell? ⟨c, 2, none⟩ = some (.int .i64 0) by rw [cell_of_row _ _ 2 _ _ _ hxc]; rfl)
  have c3 := up_fact (show w6.cell? ⟨c, 3, none⟩ = some (.int .i64 0) by rw [cell_of_row _ _ 3 _ _ _ hxc]; rfl)
  have c4 := up_fact (show w6.cell? ⟨c, 4, none⟩ = some (.int .i64 0) by rw [cell_of_row _ _ 4 _ _ _ hxc]; rfl)
  have c5 := up_fact (show w6.cell? ⟨c, 5, none⟩ = some (.int .i64 (-1)) by rw [cell_of_row _ _ 5 _ _ _ hxc]; rfl)
  have c6 := up_fact (show w6.cell? ⟨c, 6, none⟩ = some (.int .i64 (-1)) by rw [cell_of_row _ _ 6 _ _ _ hxc]; rfl)
  have c7 := up_fact (show w6.cell? ⟨c, 7, none⟩ = some (.int .i64 0) by rw [cell_of_row _ _ 7 _ _ _ hxc]; rfl)
  have c8 := up_fact (show w6.cell? ⟨c, 8, none⟩ = some (.int .i64 0) by rw [cell_of_row _ _ 8 _ _ _ hxc]; rfl)
  have c9 := up_fact (show w6.cell? ⟨c, 9, none⟩ = some (.int .i64 1) by rw [cell_of_row _ _ 9 _ _ _ hxc]; rfl)
  have hC0 := Below.refl w6.heap.size w6
  have hc6 : c < w6.heap.size := by omega
  have H46 := Lib.hid h46
  have HB4 := Lib.hid hb4
  clear hw6 hc hB5 hb5 hs6 hxc h46 hb4
  obtain ⟨p4, o4, g0, rfl, hp4, hx0, ⟨x0, -⟩⟩ := hg4.at_ (k := 0) (by omega)
  obtain ⟨p5, o5, g1, e5, -, hx1, ⟨y0, -⟩⟩ := hg4.at_ (k := 1) (by omega)
  cases e5
  cases hx0
  cases hx1
  have X0 := up_fact x0
  have Y0 := up_fact y0
  have hcap := hg4.cap
  clear x0 y0 hg4
  go_upto_region 10 with (first
    | (go_at_call 14; refine (HC2.out _ hB6).mono ?_; rintro e w7 ⟨A7, k7, rfl, hg7, hb7⟩; have hB7 := hB6.trans (hb7.mono hB6.size); have hc7 : c < w7.heap.size := Nat.lt_of_lt_of_le hc6 hb7.size)
    | (go_at_call 11; refine (HC3.out _ hB7).mono ?_; rintro e w8 ⟨rfl, hb8⟩; have hB8 := hB7.trans (hb8.mono hB7.size)))
  obtain ⟨p7, o7, g7, rfl, hp7, hx7, ⟨z0, z1, -⟩⟩ := hg7.at_ (k := 0) (by omega)
  cases hx7
  have h68 := hb7.trans (hb8.mono hb7.size)
  have h48 := H46.out.trans (h68.mono H46.out.size)
  have e0 := up_fact (show w8.cell? ⟨p4, o4, none⟩ = some (.int .i64 2) by have := X0 w8 h48; simpa [exGl] using this)
  have e1 := up_fact (show w8.cell? ⟨p4, o4 + 10, none⟩ = some (.int .i64 1) by have := Y0 w8 h48; simpa [exGl] using this)
  have e2 := up_fact (show w8.cell? ⟨p7, o7, none⟩ = some (.int .i64 3) by have := up_fact z0 w8 hb8; simpa [exGl] using this)
  have e3 := up_fact (show w8.cell? ⟨p7, o7 + 1, none⟩ = some (.int .i64 0) by have := up_fact z1 w8 hb8; simpa [exGl] using this)
  have hA8 := Below.refl w8.heap.size w8
  have hk7 := hg7.cap
  clear X0 Y0 z0 z1 hg7 h68 h48 hb7 hb8 hp7 hp4
  go_wp2_with (first
    | (go_at_call 12; refine (HC4.out _ hB8).mono ?_; rintro e w9 ⟨rfl, hb9⟩))
  go_ret
  have hB9 := hB8.trans (hb9.mono hB8.size)
  exact ⟨rfl, HBE.out.trans ((HB3.out.trans (hB9.mono HB3.out.size)).mono HBE.out.size)⟩

end Go.Proofs.Ytngdolmmaiogiaa
