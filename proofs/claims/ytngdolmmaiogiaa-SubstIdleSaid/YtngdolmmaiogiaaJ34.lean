/- Joined: FkL. -/
import Derived.Test.YtngdolmmaiogiaaJ26
import Derived.Test.YtngdolmmaiogiaaJ31
import Derived.Test.YtngdolmmaiogiaaJ32
import Derived.Test.YtngdolmmaiogiaaJ33

/- The walk of sub of the check. Condition: the subtable and the lookups read as plain data. Printed by wip/tools/g32k.py. Printed by wip/tools. -/
namespace Go.Proofs.Ytngdolmmaiogiaa
open Go.RowKit

/-- what the check of a subtable tells, and when it lets it be -/
structure FkSub (m : Nat) (ls : List PK) (kind : Int) (p : PSu) (b : Bool) : Prop where
  one : b = true → (kind = 1 ∨ kind = 2) → p.co.length ≤ 4096 ∧ FkTo m kind p.co p.tt
  rev : b = true → kind = 5 → FkTo m kind p.co p.tt ∧ p.ba.length ≤ 16 ∧ p.ah.length ≤ 16
  lig : b = true → kind = 3 → FkLigs m p.li
  ctx : b = true → kind = 4 → p.inn.length ≤ 16 ∧ p.ba.length ≤ 16 ∧ p.ah.length ≤ 16
  ex1 : (kind = 1 ∨ kind = 2) → p.co.length ≤ 1 → p.co.all (fkT m) = true → FkTo m kind p.co p.tt → b = true
  ex4 : kind = 4 → fkW (p.inn.length : Int) 1 16 = true → (∀ zs ∈ p.inn, zs.length ≤ 1 ∧ zs.all (fkT m) = true) → p.ba = [] → p.ah = [] → FkNests ls kind p.inn.length p.ne → b = true
section
variable {m : Nat} {ls : List PK} {kind : Int} {p : PSu} {b : Bool}
theorem FkSub.other (h : ¬ (1 ≤ kind ∧ kind ≤ 5)) : FkSub m ls kind p b :=
  ⟨fun _ h1 => by omega, fun _ h1 => by omega, fun _ h1 => by omega, fun _ h1 => by omega, fun h1 => by omega, fun h1 => by omega⟩
theorem FkSub.of1 (hk : kind = 1 ∨ kind = 2) (h1 : b = true → p.co.length ≤ 4096 ∧ FkTo m kind p.co p.tt) (h2 : p.co.length ≤ 1 → p.co.all (fkT m) = true → FkTo m kind p.co p.tt → b = true) : FkSub m ls kind p b :=
  ⟨fun h _ => h1 h, fun _ h1 => by omega, fun _ h1 => by omega, fun _ h1 => by omega, fun _ => h2, fun h1 => by omega⟩
theorem FkSub.of5 (hk : kind = 5) (h1 : b = true → FkTo m kind p.co p.tt ∧ p.ba.length ≤ 16 ∧ p.ah.length ≤ 16) : FkSub m ls kind p b :=
  ⟨fun _ h1 => by omega, fun h _ => h1 h, fun _ h1 => by omega, fun _ h1 => by omega, fun h1 => by omega, fun h1 => by omega⟩
theorem FkSub.of3 (hk : kind = 3) (h1 : b = true → FkLigs m p.li) : FkSub m ls kind p b :=
  ⟨fun _ h1 => by omega, fun _ h1 => by omega, fun h _ => h1 h, fun _ h1 => by omega, fun h1 => by omega, fun h1 => by omega⟩
theorem FkSub.of4 (hk : kind = 4) (h1 : b = true → p.inn.length ≤ 16 ∧ p.ba.length ≤ 16 ∧ p.ah.length ≤ 16) (h2 : fkW (p.inn.length : Int) 1 16 = true → (∀ zs ∈ p.inn, zs.length ≤ 1 ∧ zs.all (fkT m) = true) → p.ba = [] → p.ah = [] → FkNests ls kind p.inn.length p.ne → b = true) : FkSub m ls kind p b :=
  ⟨fun _ h1 => by omega, fun _ h1 => by omega, fun _ h1 => by omega, fun h _ => h1 h, fun h1 => by omega, fun _ => h2⟩
end
set_option maxRecDepth 100000 in
set_option maxHeartbeats 4000000 in
theorem ksub_any (F : Fnt) (B : Nat) (kind : Int) (s : Sb) (p : PSu) (ls : List PK) (w : World) (hgn : F.gn ≤ 9223372036854775807) (h : SubOk w B s p) (hL : SlR w B 4 (LkR w B) F.LA F.ln F.lc ls) (hB : B ≤ w.heap.size) (hrow : ∀ r ∈ p.li, r.length ≤ 140737488355328) :
    Calls Try.prog 29 #[.agg #[.int .i64 F.em, .slice F.GA F.gn F.gc, .slice F.MA F.mn F.mc, .slice F.LA F.ln F.lc, .slice F.FA F.fn F.fc, .slice F.SA F.sn F.sc], .int .i64 kind, .agg #[.slice s.co.A s.co.n s.co.c, .slice s.tt.A s.tt.n s.tt.c, .slice s.li.A s.li.n s.li.c, .slice s.ba.A s.ba.n s.ba.c, .slice s.inn.A s.inn.n s.inn.c, .slice s.ah.A s.ah.n s.ah.c, .slice s.ne.A s.ne.n s.ne.c, .slice s.va.A s.va.n s.va.c, .slice s.pr.A s.pr.n s.pr.c, .slice s.cu.A s.cu.n s.cu.c, .slice s.ma.A s.ma.n s.ma.c, .slice s.ho.A s.ho.n s.ho.c]] w (RetB w (FkSub F.gn ls kind p)) := by
  have HS00 := Lib.hid h
  have HL00 := Lib.hid hL
  have hcl := h.co.length
  have hil := h.inn.1
  have hvc := h.ok.va.cap
  have hcoc := h.co.cap
  clear h hL
  obtain ⟨wb1, hw_wb1⟩ : ∃ z, z = w.alloc (.cells #[.int .i64 F.em, .slice F.GA F.gn F.gc, .slice F.MA F.mn F.mc, .slice F.LA F.ln F.lc, .slice F.FA F.fn F.fc, .slice F.SA F.sn F.sc] 71) := ⟨_, rfl⟩
  have hs_wb1 : wb1.heap.size = w.heap.size + 1 := by rw [hw_wb1]; simp
  have hb_wb1 : Below w.heap.size w wb1 := by rw [hw_wb1]; exact (Below.refl _ _).alloc (Nat.le_refl _) _
  have hx_0 : wb1.heap[w.heap.size]? = some (.cells #[.int .i64 F.em, .slice F.GA F.gn F.gc, .slice F.MA F.mn F.mc, .slice F.LA F.ln F.lc, .slice F.FA F.fn F.fc, .slice F.SA F.sn F.sc] 71 (0, 0)) := by rw [hw_wb1]; exact heap_alloc_new _ _
  obtain ⟨w1, hw_w1⟩ : ∃ z, z = wb1.alloc (.cells #[.slice s.co.A s.co.n s.co.c, .slice s.tt.A s.tt.n s.tt.c, .slice s.li.A s.li.n s.li.c, .slice s.ba.A s.ba.n s.ba.c, .slice s.inn.A s.inn.n s.inn.c, .slice s.ah.A s.ah.n s.ah.c, .slice s.ne.A s.ne.n s.ne.c, .slice s.va.A s.va.n s.va.c, .slice s.pr.A s.pr.n s.pr.c, .slice s.cu.A s.cu.n s.cu.c, .slice s.ma.A s.ma.n s.ma.c, .slice s.ho.A s.ho.n s.ho.c] 60) := ⟨_, rfl⟩
  have hs_w1 : w1.heap.size = w.heap.size + 2 := by rw [hw_w1]; simp <;> omega
  have hb_w1 : Below w.heap.size w w1 := by rw [hw_w1]; exact hb_wb1.alloc (by omega) _
  have hx_1 : w1.heap[w.heap.size + 1]? = some (.cells #[.slice s.co.A s.co.n s.co.c, .slice s.tt.A s.tt.n s.tt.c, .slice s.li.A s.li.n s.li.c, .slice s.ba.A s.ba.n s.ba.c, .slice s.inn.A s.inn.n s.inn.c, .slice s.ah.A s.ah.n s.ah.c, .slice s.ne.A s.ne.n s.ne.c, .slice s.va.A s.va.n s.va.c, .slice s.pr.A s.pr.n s.pr.c, .slice s.cu.A s.cu.n s.cu.c, .slice s.ma.A s.ma.n s.ma.c, .slice s.ho.A s.ho.n s.ho.c] 60 (0, 0)) := by rw [hw_w1]; exact (hs_wb1 ▸ heap_alloc_new wb1 _)
  have hx_0 : w1.heap[w.heap.size]? = some (.cells #[.int .i64 F.em, .slice F.GA F.gn F.gc, .slice F.MA F.mn F.mc, .slice F.LA F.ln F.lc, .slice F.FA F.fn F.fc, .slice F.SA F.sn F.sc] 71 (0, 0)) := by rw [hw_w1]; exact (heap_alloc_old _ _ (by omega)).trans hx_0
  have g0 := up_fact (show w1.cell? ⟨w.heap.size, 0, none⟩ = some (.int .i64 F.em) by rw [cell_of_row _ _ 0 _ _ _ hx_0]; rfl)
  have g1 := up_fact (show w1.cell? ⟨w.heap.size, 1, none⟩ = some (.slice F.GA F.gn F.gc) by rw [cell_of_row _ _ 1 _ _ _ hx_0]; rfl)
  have g2 := up_fact (show w1.cell? ⟨w.heap.size, 2, none⟩ = some (.slice F.MA F.mn F.mc) by rw [cell_of_row _ _ 2 _ _ _ hx_0]; rfl)
  have g3 := up_fact (show w1.cell? ⟨w.heap.size, 3, none⟩ = some (.slice F.LA F.ln F.lc) by rw [cell_of_row _ _ 3 _ _ _ hx_0]; rfl)
  have g4 := up_fact (show w1.cell? ⟨w.heap.size, 4, none⟩ = some (.slice F.FA F.fn F.fc) by rw [cell_of_row _ _ 4 _ _ _ hx_0]; rfl)
  have g5 := up_fact (show w1.cell? ⟨w.heap.size, 5, none⟩ = some (.slice F.SA F.sn F.sc) by rw [cell_of_row _ _ 5 _ _ _ hx_0]; rfl)
  have s0 := up_fact (show w1.cell? ⟨w.heap.size + 1, 0, none⟩ = some (.slice s.co.A s.co.n s.co.c) by rw [cell_of_row _ _ 0 _ _ _ hx_1]; rfl)
  have s1 := up_fact (show w1.cell? ⟨w.heap.size + 1, 1, none⟩ = some (.slice s.tt.A s.tt.n s.tt.c) by rw [cell_of_row _ _ 1 _ _ _ hx_1]; rfl)
  have s2 := up_fact (show w1.cell? ⟨w.heap.size + 1, 2, none⟩ = some (.slice s.li.A s.li.n s.li.c) by rw [cell_of_row _ _ 2 _ _ _ hx_1]; rfl)
  have s3 := up_fact (show w1.cell? ⟨w.heap.size + 1, 3, none⟩ = some (.slice s.ba.A s.ba.n s.ba.c) by rw [cell_of_row _ _ 3 _ _ _ hx_1]; rfl)
  have s4 := up_fact (show w1.cell? ⟨w.heap.size + 1, 4, none⟩ = some (.slice s.inn.A s.inn.n s.inn.c) by rw [cell_of_row _ _ 4 _ _ _ hx_1]; rfl)
  have s5 := up_fact (show w1.cell? ⟨w.heap.size + 1, 5, none⟩ = some (.slice s.ah.A s.ah.n s.ah.c) by rw [cell_of_row _ _ 5 _ _ _ hx_1]; rfl)
  have s6 := up_fact (show w1.cell? ⟨w.heap.size + 1, 6, none⟩ = some (.slice s.ne.A s.ne.n s.ne.c) by rw [cell_of_row _ _ 6 _ _ _ hx_1]; rfl)
  have s7 := up_fact (show w1.cell? ⟨w.heap.size + 1, 7, none⟩ = some (.slice s.va.A s.va.n s.va.c) by rw [cell_of_row _ _ 7 _ _ _ hx_1]; rfl)
  have s8 := up_fact (show w1.cell? ⟨w.heap.size + 1, 8, none⟩ = some (.slice s.pr.A s.pr.n s.pr.c) by rw [cell_of_row _ _ 8 _ _ _ hx_1]; rfl)
  have s9 := up_fact (show w1.cell? ⟨w.heap.size + 1, 9, none⟩ = some (.slice s.cu.A s.cu.n s.cu.c) by rw [cell_of_row _ _ 9 _ _ _ hx_1]; rfl)
  have s10 := up_fact (show w1.cell? ⟨w.heap.size + 1, 10, none⟩ = some (.slice s.ma.A s.ma.n s.ma.c) by rw [cell_of_row _ _ 10 _ _ _ hx_1]; rfl)
  have s11 := up_fact (show w1.cell? ⟨w.heap.size + 1, 11, none⟩ = some (.slice s.ho.A s.ho.n s.ho.c) by rw [cell_of_row _ _ 11 _ _ _ hx_1]; rfl)
  have hA0 := Below.refl w1.heap.size w1
  have HS1 := Lib.hid hs_w1
  have hs1 : w.heap.size + 1 < w1.heap.size := by omega
  have HB1 := Lib.hid hb_w1
  have HW_wb1 := Lib.hid hw_wb1
  have HW_w1 := Lib.hid hw_w1
  clear hw_wb1 hs_wb1 hb_wb1 hw_w1 hs_w1 hb_w1
  clear hx_0 hx_1
  have HS := Lib.hid (HS00.out.below (HB1.out.mono hB))
  have HL := Lib.hid (SlR.below HL00.out (HB1.out.mono hB) fun _ _ h => LkR.below h (HB1.out.mono hB))
  have HROW := Lib.hid hrow
  have up : ∀ W, Below w1.heap.size w1 W → Below B w1 W ∧ B ≤ W.heap.size := fun W hW => ⟨hW.mono (by omega), by have := hW.size; omega⟩
  have HUP := Lib.hid up
  clear hrow up
  have HCO := Lib.hid (fun W (hW : Below w1.heap.size w1 W) => kcover_any F B s.co.A s.co.n s.co.c p.co W hgn (HS.out.co.below (HUP.out W hW).1) (HUP.out W hW).2)
  have HTO := Lib.hid (fun W (hW : Below w1.heap.size w1 W) => kto_any F B kind s p W hgn (HS.out.below (HUP.out W hW).1) (HUP.out W hW).2)
  have HLI := Lib.hid (fun W (hc : p.co.length ≤ 4096) (hW : Below w1.heap.size w1 W) => kligs_any F B s p W hgn (HS.out.below (HUP.out W hW).1) (HUP.out W hW).2 HROW.out (by omega))
  have HIN := Lib.hid (fun W (hW : Below w1.heap.size w1 W) => kcovers_any F B s.inn.A s.inn.n s.inn.c p.inn 1 W hgn (HS.out.inn.below (HUP.out W hW).1) (HUP.out W hW).2)
  have HBA := Lib.hid (fun W (hW : Below w1.heap.size w1 W) => kcovers_any F B s.ba.A s.ba.n s.ba.c p.ba 0 W hgn (HS.out.ba.below (HUP.out W hW).1) (HUP.out W hW).2)
  have HAH := Lib.hid (fun W (hW : Below w1.heap.size w1 W) => kcovers_any F B s.ah.A s.ah.n s.ah.c p.ah 0 W hgn (HS.out.ah.below (HUP.out W hW).1) (HUP.out W hW).2)
  have HNE := Lib.hid (fun W (hW : Below w1.heap.size w1 W) => knests_any F B kind s p ls W (HS.out.below (HUP.out W hW).1) (SlR.below HL.out (HUP.out W hW).1 fun _ _ h => LkR.below h (HUP.out W hW).1) (HUP.out W hW).2)
  obtain ⟨vs, hvs⟩ := ShSl.vals HS.out.ok.va
  have HVA := Lib.hid (fun W (hW : Below w1.heap.size w1 W) => (kvalues_any B s.va.A s.va.n s.va.c vs W (SlR.below hvs (HUP.out W hW).1 fun _ _ h => h) (HUP.out W hW).2).mono (R' := RetB W (fun _ => True)) fun e w' h => ⟨_, h.1, trivial, h.2⟩)
  have HPR := Lib.hid (fun W (hW : Below w1.heap.size w1 W) => kpairs_any F B s.pr.A s.pr.n s.pr.c W hgn (HS.out.ok.pr.below (HUP.out W hW).1) (HUP.out W hW).2)
  have HCU := Lib.hid (fun W (hW : Below w1.heap.size w1 W) => kcurs_any F B s.cu.A s.cu.n s.cu.c W hgn (HS.out.ok.cu.below (HUP.out W hW).1) (HUP.out W hW).2)
  have HMA := Lib.hid (fun W (hW : Below w1.heap.size w1 W) => kmarks_any F B s.ma.A s.ma.n s.ma.c W hgn (HS.out.ok.ma.below (HUP.out W hW).1) (HUP.out W hW).2)
  have HHO := Lib.hid (fun W (hW : Below w1.heap.size w1 W) => khosts_any F kind B s.ho.A s.ho.n s.ho.c W hgn (HS.out.ok.ho.below (HUP.out W hW).1) (HUP.out W hW).2)
  clear hvs
  by_cases k1 : kind = 1
  · have p1 : (kind == 1) = true := by simp [k1]
    have HK := Lib.hid k1
    clear k1
    go_enter Try.func29, Try.ntmps29
    go_upto_region 1 with fail
    rw [← HW_wb1.out]
    rw [← HW_w1.out]
    go_wp2_with (first | (go_at_call 27; refine (HCO.out _ hA0).mono ?_; rintro e w3 ⟨b3, rfl, hp3, hb3⟩; have HP3 := Lib.hid hp3; have hA3 := bgo hA0 hb3; clear hp3 hb3; rcases b3 with _ | _) | (go_at_call 32; refine (HTO.out _ hA3).mono ?_; rintro e w4 ⟨b4, rfl, hp4, hb4⟩; have HP4 := Lib.hid hp4; have hA4 := bgo hA3 hb4; clear hp4 hb4; rcases b4 with _ | _))
    · go_ret
      exact ⟨_, rfl, FkSub.of1 (.inl HK.out) (fun h => by cases h) (fun h1 h2 _ => HP3.out.2 h1 h2), HB1.out.trans (hA3.mono (by omega))⟩
    · go_ret
      exact ⟨_, rfl, FkSub.of1 (.inl HK.out) (fun h => by cases h) (fun _ _ h3 => HP4.out.2 h3), HB1.out.trans (hA4.mono (by omega))⟩
    · go_ret
      exact ⟨_, rfl, FkSub.of1 (.inl HK.out) (fun _ => ⟨HP3.out.1 (by trivial), HP4.out.1 (by trivial)⟩) (fun _ _ _ => rfl), HB1.out.trans (hA4.mono (by omega))⟩
  have p1 : (kind == 1) = false := by simp [k1]
  by_cases k2 : kind = 2
  · have p2 : (kind == 2) = true := by simp [k2]
    have HK := Lib.hid k2
    clear k2
    go_enter Try.func29, Try.ntmps29
    go_upto_region 1 with fail
    rw [← HW_wb1.out]
    rw [← HW_w1.out]
    go_wp2_with (first | (go_at_call 27; refine (HCO.out _ hA0).mono ?_; rintro e w3 ⟨b3, rfl, hp3, hb3⟩; have HP3 := Lib.hid hp3; have hA3 := bgo hA0 hb3; clear hp3 hb3; rcases b3 with _ | _) | (go_at_call 32; refine (HTO.out _ hA3).mono ?_; rintro e w4 ⟨b4, rfl, hp4, hb4⟩; have HP4 := Lib.hid hp4; have hA4 := bgo hA3 hb4; clear hp4 hb4; rcases b4 with _ | _))
    · go_ret
      exact ⟨_, rfl, FkSub.of1 (.inr HK.out) (fun h => by cases h) (fun h1 h2 _ => HP3.out.2 h1 h2), HB1.out.trans (hA3.mono (by omega))⟩
    · go_ret
      exact ⟨_, rfl, FkSub.of1 (.inr HK.out) (fun h => by cases h) (fun _ _ h3 => HP4.out.2 h3), HB1.out.trans (hA4.mono (by omega))⟩
    · go_ret
      exact ⟨_, rfl, FkSub.of1 (.inr HK.out) (fun _ => ⟨HP3.out.1 (by trivial), HP4.out.1 (by trivial)⟩) (fun _ _ _ => rfl), HB1.out.trans (hA4.mono (by omega))⟩
  have p2 : (kind == 2) = false := by simp [k2]
  by_cases k5 : kind = 5
  · have p5 : (kind == 5) = true := by simp [k5]
    have HK := Lib.hid k5
    clear k5
    go_enter Try.func29, Try.ntmps29
    go_upto_region 1 with fail
    rw [← HW_wb1.out]
    rw [← HW_w1.out]
    go_wp2_with (first | (go_at_call 27; refine (HCO.out _ hA0).mono ?_; rintro e w3 ⟨b3, rfl, hp3, hb3⟩; have HP3 := Lib.hid hp3; have hA3 := bgo hA0 hb3; clear hp3 hb3; rcases b3 with _ | _) | (go_at_call 32; refine (HTO.out _ hA3).mono ?_; rintro e w4 ⟨b4, rfl, hp4, hb4⟩; have HP4 := Lib.hid hp4; have hA4 := bgo hA3 hb4; clear hp4 hb4; rcases b4 with _ | _) | (go_at_call_of 33 (Value.slice s.ba.A s.ba.n s.ba.c); refine (HBA.out _ hA4).mono ?_; rintro e w5 ⟨b5, rfl, hp5, hb5⟩; have HP5 := Lib.hid hp5; have hA5 := bgo hA4 hb5; clear hp5 hb5; rcases b5 with _ | _) | (go_at_call_of 33 (Value.slice s.ah.A s.ah.n s.ah.c); refine (HAH.out _ hA5).mono ?_; rintro e w6 ⟨b6, rfl, hp6, hb6⟩; have HP6 := Lib.hid hp6; have hA6 := bgo hA5 hb6; clear hp6 hb6; rcases b6 with _ | _))
    · go_ret
      exact ⟨_, rfl, FkSub.of5 HK.out (fun h => by cases h), HB1.out.trans (hA3.mono (by omega))⟩
    · go_ret
      exact ⟨_, rfl, FkSub.of5 HK.out (fun h => by cases h), HB1.out.trans (hA4.mono (by omega))⟩
    · go_ret
      exact ⟨_, rfl, FkSub.of5 HK.out (fun h => by cases h), HB1.out.trans (hA5.mono (by omega))⟩
    · go_ret
      exact ⟨_, rfl, FkSub.of5 HK.out (fun h => by cases h), HB1.out.trans (hA6.mono (by omega))⟩
    · go_ret
      exact ⟨_, rfl, FkSub.of5 HK.out (fun _ => ⟨HP4.out.1 (by trivial), HP5.out.1 (by trivial), HP6.out.1 (by trivial)⟩), HB1.out.trans (hA6.mono (by omega))⟩
  have p5 : (kind == 5) = false := by simp [k5]
  by_cases k3 : kind = 3
  · have p3 : (kind == 3) = true := by simp [k3]
    have HK := Lib.hid k3
    clear k3
    go_enter Try.func29, Try.ntmps29
    go_upto_region 1 with fail
    rw [← HW_wb1.out]
    rw [← HW_w1.out]
    go_wp2_with (first | (go_at_call 27; refine (HCO.out _ hA0).mono ?_; rintro e w3 ⟨b3, rfl, hp3, hb3⟩; have HP3 := Lib.hid hp3; have hA3 := bgo hA0 hb3; clear hp3 hb3; rcases b3 with _ | _) | (go_at_call 34; refine (HLI.out _ (HP3.out.1 (by trivial)) hA3).mono ?_; rintro e w4 ⟨b4, rfl, hp4, hb4⟩; have HP4 := Lib.hid hp4; have hA4 := bgo hA3 hb4; clear hp4 hb4; rcases b4 with _ | _))
    · go_ret
      exact ⟨_, rfl, FkSub.of3 HK.out (fun h => by cases h), HB1.out.trans (hA3.mono (by omega))⟩
    · go_ret
      exact ⟨_, rfl, FkSub.of3 HK.out (fun h => by cases h), HB1.out.trans (hA4.mono (by omega))⟩
    · go_ret
      exact ⟨_, rfl, FkSub.of3 HK.out (fun _ => HP4.out (by trivial)), HB1.out.trans (hA4.mono (by omega))⟩
  have p3 : (kind == 3) = false := by simp [k3]
  by_cases k4 : kind = 4
  · have p4 : (kind == 4) = true := by simp [k4]
    have HK := Lib.hid k4
    clear k4
    go_enter Try.func29, Try.ntmps29
    go_upto_region 1 with fail
    rw [← HW_wb1.out]
    rw [← HW_w1.out]
    go_wp2_with (first | (go_at_call_of 33 (Value.slice s.inn.A s.inn.n s.inn.c); refine (HIN.out _ hA0).mono ?_; rintro e w3 ⟨b3, rfl, hp3, hb3⟩; have HP3 := Lib.hid hp3; have hA3 := bgo hA0 hb3; clear hp3 hb3; rcases b3 with _ | _) | (go_at_call_of 33 (Value.slice s.ba.A s.ba.n s.ba.c); refine (HBA.out _ hA3).mono ?_; rintro e w4 ⟨b4, rfl, hp4, hb4⟩; have HP4 := Lib.hid hp4; have hA4 := bgo hA3 hb4; clear hp4 hb4; rcases b4 with _ | _) | (go_at_call_of 33 (Value.slice s.ah.A s.ah.n s.ah.c); refine (HAH.out _ hA4).mono ?_; rintro e w5 ⟨b5, rfl, hp5, hb5⟩; have HP5 := Lib.hid hp5; have hA5 := bgo hA4 hb5; clear hp5 hb5; rcases b5 with _ | _) | (go_at_call 35; refine (HNE.out _ hA5).mono ?_; rintro e w6 ⟨b6, rfl, hp6, hb6⟩; have HP6 := Lib.hid hp6; have hA6 := bgo hA5 hb6; clear hp6 hb6; rcases b6 with _ | _))
    · go_ret
      exact ⟨_, rfl, FkSub.of4 HK.out (fun h => by cases h) (fun h1 h2 h3 h4 h5 => HP3.out.2 h1 h2), HB1.out.trans (hA3.mono (by omega))⟩
    · go_ret
      exact ⟨_, rfl, FkSub.of4 HK.out (fun h => by cases h) (fun h1 h2 h3 h4 h5 => HP4.out.2 (by rw [h3]; rfl) (by rw [h3]; exact fun zs h => by cases h)), HB1.out.trans (hA4.mono (by omega))⟩
    · go_ret
      exact ⟨_, rfl, FkSub.of4 HK.out (fun h => by cases h) (fun h1 h2 h3 h4 h5 => HP5.out.2 (by rw [h4]; rfl) (by rw [h4]; exact fun zs h => by cases h)), HB1.out.trans (hA5.mono (by omega))⟩
    · go_ret
      exact ⟨_, rfl, FkSub.of4 HK.out (fun h => by cases h) (fun h1 h2 h3 h4 h5 => HP6.out h5), HB1.out.trans (hA6.mono (by omega))⟩
    · go_ret
      exact ⟨_, rfl, FkSub.of4 HK.out (fun _ => ⟨HP3.out.1 (by trivial), HP4.out.1 (by trivial), HP5.out.1 (by trivial)⟩) (fun _ _ _ _ _ => rfl), HB1.out.trans (hA6.mono (by omega))⟩
  have p4 : (kind == 4) = false := by simp [k4]
  by_cases k12 : kind = 12
  · have p12 : (kind == 12) = true := by simp [k12]
    have HK := Lib.hid k12
    clear k12
    go_enter Try.func29, Try.ntmps29
    go_upto_region 1 with fail
    rw [← HW_wb1.out]
    rw [← HW_w1.out]
    go_wp2_with (first | (go_at_call_of 33 (Value.slice s.inn.A s.inn.n s.inn.c); refine (HIN.out _ hA0).mono ?_; rintro e w3 ⟨b3, rfl, hp3, hb3⟩; have HP3 := Lib.hid hp3; have hA3 := bgo hA0 hb3; clear hp3 hb3; rcases b3 with _ | _) | (go_at_call_of 33 (Value.slice s.ba.A s.ba.n s.ba.c); refine (HBA.out _ hA3).mono ?_; rintro e w4 ⟨b4, rfl, hp4, hb4⟩; have HP4 := Lib.hid hp4; have hA4 := bgo hA3 hb4; clear hp4 hb4; rcases b4 with _ | _) | (go_at_call_of 33 (Value.slice s.ah.A s.ah.n s.ah.c); refine (HAH.out _ hA4).mono ?_; rintro e w5 ⟨b5, rfl, hp5, hb5⟩; have HP5 := Lib.hid hp5; have hA5 := bgo hA4 hb5; clear hp5 hb5; rcases b5 with _ | _) | (go_at_call 35; refine (HNE.out _ hA5).mono ?_; rintro e w6 ⟨b6, rfl, hp6, hb6⟩; have HP6 := Lib.hid hp6; have hA6 := bgo hA5 hb6; clear hp6 hb6; rcases b6 with _ | _))
    · go_ret
      exact ⟨_, rfl, FkSub.other (by have := HK.out; omega), HB1.out.trans (hA3.mono (by omega))⟩
    · go_ret
      exact ⟨_, rfl, FkSub.other (by have := HK.out; omega), HB1.out.trans (hA4.mono (by omega))⟩
    · go_ret
      exact ⟨_, rfl, FkSub.other (by have := HK.out; omega), HB1.out.trans (hA5.mono (by omega))⟩
    · go_ret
      exact ⟨_, rfl, FkSub.other (by have := HK.out; omega), HB1.out.trans (hA6.mono (by omega))⟩
    · go_ret
      exact ⟨_, rfl, FkSub.other (by have := HK.out; omega), HB1.out.trans (hA6.mono (by omega))⟩
  have p12 : (kind == 12) = false := by simp [k12]
  by_cases k6 : kind = 6
  · have p6 : (kind == 6) = true := by simp [k6]
    have HK := Lib.hid k6
    clear k6
    by_cases hvn : s.va.n = s.co.n
    · have v1 : ((s.va.n : Int) == (s.co.n : Int)) = true := by simp; omega
      have v2 : (s.va.n == s.co.n) = true := by simp; omega
      clear hvn
      go_enter Try.func29, Try.ntmps29
      go_upto_region 1 with fail
      rw [← HW_wb1.out]
      rw [← HW_w1.out]
      go_wp2_with (first | (go_at_call 27; refine (HCO.out _ hA0).mono ?_; rintro e w3 ⟨b3, rfl, hp3, hb3⟩; have HP3 := Lib.hid hp3; have hA3 := bgo hA0 hb3; clear hp3 hb3; rcases b3 with _ | _) | (go_at_call 36; refine (HVA.out _ hA3).mono ?_; rintro e w4 ⟨b4, rfl, hp4, hb4⟩; have HP4 := Lib.hid hp4; have hA4 := bgo hA3 hb4; clear hp4 hb4; rcases b4 with _ | _))
      · go_ret
        exact ⟨_, rfl, FkSub.other (by have := HK.out; omega), HB1.out.trans (hA3.mono (by omega))⟩
      · go_ret
        exact ⟨_, rfl, FkSub.other (by have := HK.out; omega), HB1.out.trans (hA4.mono (by omega))⟩
      · go_ret
        exact ⟨_, rfl, FkSub.other (by have := HK.out; omega), HB1.out.trans (hA4.mono (by omega))⟩
    · have v1 : ((s.va.n : Int) == (s.co.n : Int)) = false := by simp; omega
      have v2 : (s.va.n == s.co.n) = false := by simp; omega
      clear hvn
      go_enter Try.func29, Try.ntmps29
      go_upto_region 1 with fail
      rw [← HW_wb1.out]
      rw [← HW_w1.out]
      go_wp2_with (first | (go_at_call 27; refine (HCO.out _ hA0).mono ?_; rintro e w3 ⟨b3, rfl, hp3, hb3⟩; have HP3 := Lib.hid hp3; have hA3 := bgo hA0 hb3; clear hp3 hb3; rcases b3 with _ | _))
      · go_ret
        exact ⟨_, rfl, FkSub.other (by have := HK.out; omega), HB1.out.trans (hA3.mono (by omega))⟩
      · go_ret
        exact ⟨_, rfl, FkSub.other (by have := HK.out; omega), HB1.out.trans (hA3.mono (by omega))⟩
  have p6 : (kind == 6) = false := by simp [k6]
  by_cases k7 : kind = 7
  · have p7 : (kind == 7) = true := by simp [k7]
    have HK := Lib.hid k7
    clear k7
    go_enter Try.func29, Try.ntmps29
    go_upto_region 1 with fail
    rw [← HW_wb1.out]
    rw [← HW_w1.out]
    go_wp2_with (first | (go_at_call 37; refine (HPR.out _ hA0).mono ?_; rintro e w3 ⟨b3, rfl, hp3, hb3⟩; have HP3 := Lib.hid hp3; have hA3 := bgo hA0 hb3; clear hp3 hb3; rcases b3 with _ | _))
    · go_ret
      exact ⟨_, rfl, FkSub.other (by have := HK.out; omega), HB1.out.trans (hA3.mono (by omega))⟩
    · go_ret
      exact ⟨_, rfl, FkSub.other (by have := HK.out; omega), HB1.out.trans (hA3.mono (by omega))⟩
  have p7 : (kind == 7) = false := by simp [k7]
  by_cases k8 : kind = 8
  · have p8 : (kind == 8) = true := by simp [k8]
    have HK := Lib.hid k8
    clear k8
    go_enter Try.func29, Try.ntmps29
    go_upto_region 1 with fail
    rw [← HW_wb1.out]
    rw [← HW_w1.out]
    go_wp2_with (first | (go_at_call 38; refine (HCU.out _ hA0).mono ?_; rintro e w3 ⟨b3, rfl, hp3, hb3⟩; have HP3 := Lib.hid hp3; have hA3 := bgo hA0 hb3; clear hp3 hb3; rcases b3 with _ | _))
    · go_ret
      exact ⟨_, rfl, FkSub.other (by have := HK.out; omega), HB1.out.trans (hA3.mono (by omega))⟩
    · go_ret
      exact ⟨_, rfl, FkSub.other (by have := HK.out; omega), HB1.out.trans (hA3.mono (by omega))⟩
  have p8 : (kind == 8) = false := by simp [k8]
  have HK := Lib.hid (show ¬ (1 ≤ kind ∧ kind ≤ 5) by omega)
  clear k1 k2 k5 k3 k4 k12 k6 k7 k8
  go_enter Try.func29, Try.ntmps29
  go_upto_region 1 with fail
  rw [← HW_wb1.out]
  rw [← HW_w1.out]
  go_wp2_with (first | (go_at_call 39; refine (HMA.out _ hA0).mono ?_; rintro e w3 ⟨b3, rfl, hp3, hb3⟩; have HP3 := Lib.hid hp3; have hA3 := bgo hA0 hb3; clear hp3 hb3; rcases b3 with _ | _) | (go_at_call 40; refine (HHO.out _ hA3).mono ?_; rintro e w4 ⟨b4, rfl, hp4, hb4⟩; have HP4 := Lib.hid hp4; have hA4 := bgo hA3 hb4; clear hp4 hb4; rcases b4 with _ | _))
  · go_ret
    exact ⟨_, rfl, FkSub.other HK.out, HB1.out.trans (hA3.mono (by omega))⟩
  · go_ret
    exact ⟨_, rfl, FkSub.other HK.out, HB1.out.trans (hA4.mono (by omega))⟩
  · go_ret
    exact ⟨_, rfl, FkSub.other HK.out, HB1.out.trans (hA4.mono (by omega))⟩

end Go.Proofs.Ytngdolmmaiogiaa
