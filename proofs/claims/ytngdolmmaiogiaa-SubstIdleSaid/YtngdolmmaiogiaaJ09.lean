/- Joined: LigC BufA RetG BufB BufC RepP. -/
import Derived.Test.YtngdolmmaiogiaaJ08
import Derived.Laws.Rows
import Derived.Laws.Tables
import Derived.Laws.ResultCell
import Derived.Test.YtngdolmmaiogiaaJ05
import Derived.OwnWalk

/- The walk of liga.Find. Condition: what it reads reads as plain data. Printed by wip/tools. -/
namespace Go.Proofs.Ytngdolmmaiogiaa
open Go.RowKit

theorem results_row_tmp2 {P : Program} {fn : Func} {p u v : Tmp} {ty : TypeId} (h : fn.results = #[.cell p ty, .tmp u, .tmp v]) (tmps : Array Value) (w : World) (g : Nat) (t : TypeId) (cs : Array Value) (fr : Nat × Nat) (d : TypeDesc)
    (hp : tmps.getD p undef = .pointer (some ⟨g, 0, none⟩)) (hg : w.heap[g]? = some (.cells cs t fr))
    (hu : P.underlying ty = some d) (hd : (match d with | .struct _ | .array _ _ => true | _ => false) = true) (hi : (P.info? ty).map (·.size) = some cs.size) :
    (results fn tmps).run P w = .ok (.tuple #[.agg cs, tmps.getD u undef, tmps.getD v undef]) w := by
  have hp' : tmps[p]?.getD undef = .pointer (some ⟨g, 0, none⟩) := by simpa using hp
  simp only [results, h]
  simp [Result.andThen, hp', asAddr, run_loadVar_row w g t ty cs fr d hg hu hd hi]
theorem sizeLig : (Try.prog.info? 108).map (·.size) = some 2 := by kernel_rfl
theorem oneLig (z : Int) (A : Option Addr) (n c : Nat) : (#[.slice A n c, .int .i64 z] : Array Value).all (·.oneCell') = true := by simp [Value.oneCell']
theorem Ints.setRow_far {w : World} {B n c g : Nat} {A : Option Addr} {zs : List Int} (h : Ints w B A n c zs) (ha : ∀ x, A = some x → x.block ≠ g) (cs : Array Value) : Ints (w.setRow g cs) B A n c zs :=
  ⟨h.1, h.2.1, h.2.2.1, h.2.2.2.1, fun k x hx => by
    obtain ⟨b, o, hA, hb, hc⟩ := h.2.2.2.2 k x hx
    exact ⟨b, o, hA, hb, (cell_setRow_other w g cs ⟨b, o + k, none⟩ (show b ≠ g from ha ⟨b, o, none⟩ hA)).trans hc⟩⟩
theorem partB_mem {g : Int} {x : PG} : ∀ {su : List PSu}, x ∈ partB su g → ∃ s ∈ su, ∃ r ∈ s.li, x ∈ r
  | [], h => by simp [partB] at h
  | s :: r, h => by
    unfold partB at h
    split at h
    · rename_i i hi
      rw [List.getD_eq_getElem?_getD] at h
      cases hr : s.li[i]? with
      | none => rw [hr] at h; simp at h
      | some y => rw [hr] at h; exact ⟨s, by simp, y, List.mem_of_getElem? hr, h⟩
    · obtain ⟨s', h1, h2⟩ := partB_mem h
      exact ⟨s', by simp [h1], h2⟩
/-- the ligature that stands -/
def findL (P : PFt) (l : Lk) (gs : List Gl) (p : Nat) : List PG → Option (PG × List Nat)
  | [] => none
  | x :: r => match rowB P l gs p (sing x.1) with
    | some q => some (x, p :: q)
    | none => findL P l gs p r
def finB (P : PFt) (l : Lk) (su : List PSu) (gs : List Gl) (p : Nat) : Option (PG × List Nat) :=
  match gs[p]? with
  | some g => findL P l gs p (partB su g.id)
  | none => none
section
variable {P : PFt} {l : Lk} {gs : List Gl} {p j : Nat} {ls : List PG} {x : PG} {tot : Option (PG × List Nat)}
theorem findL_end (h : tot = findL P l gs p (ls.drop ls.length)) : tot = none := by rw [h, List.drop_length]; rfl
theorem findL_none (h : tot = findL P l gs p (ls.drop j)) (hs : ls[j]? = some x) (hf : rowB P l gs p (sing x.1) = none) : tot = findL P l gs p (ls.drop (j + 1)) := by
  rw [h, drop_some hs]; simp only [findL, hf]
theorem findL_some {q : List Nat} (h : tot = findL P l gs p (ls.drop j)) (hs : ls[j]? = some x) (hf : rowB P l gs p (sing x.1) = some q) : tot = some (x, p :: q) := by
  rw [h, drop_some hs]; simp only [findL, hf]
end
/-- What Find leaves. -/
def RetFind (w : World) : Option (PG × List Nat) → Ending → World → Prop
  | none, e, w' => e = .returned (.tuple #[.agg #[.slice none 0 0, .int .i64 0], .slice none 0 0, .bool false]) ∧ Below w.heap.size w w'
  | some (x, ps), e, w' => ∃ A0 n0 c0 A c, e = .returned (.tuple #[.agg #[.slice A0 n0 c0, .int .i64 x.2], .slice A ps.length c, .bool true]) ∧ Ints w' w'.heap.size A ps.length c (natI ps) ∧ Below w.heap.size w w'
set_option maxRecDepth 100000 in
set_option maxHeartbeats 4000000 in
theorem find_any (F : Fnt) (B : Nat) (P : PFt) (l : Lk) (A : Option Addr) (n c : Nat) (gs : List Gl) (su : List PSu) (p : Nat) (w : World) (hF : FtR w B F P) (hK : KsR w B l.su.A l.su.n l.su.c su) (hsm : ∀ s ∈ su, ∀ r ∈ s.li, r.length ≤ 100000 ∧ ∀ p ∈ r, p.1.length ≤ 1000) (hI : GlsR w B A n c gs) (hB : B ≤ w.heap.size) (hp : p < n) :
    Calls Try.prog 61 #[.agg #[.int .i64 F.em, .slice F.GA F.gn F.gc, .slice F.MA F.mn F.mc, .slice F.LA F.ln F.lc, .slice F.FA F.fn F.fc, .slice F.SA F.sn F.sc], .agg #[.int .i64 l.ki, .int .i64 l.fl, .int .i64 l.se, .slice l.su.A l.su.n l.su.c], .slice A n c, .int .i64 (p : Int)] w (RetFind w (finB P l su gs p)) := by
  have HF := Lib.hid hF
  have HI := Lib.hid hI
  have HKS := Lib.hid hK
  have HSM := Lib.hid hsm
  have hcap := hI.cap
  have hlen := hI.length
  clear hI hF hK hsm
  obtain ⟨wb1, hw_wb1⟩ : ∃ z, z = w.alloc (.cells #[.int .i64 F.em, .slice F.GA F.gn F.gc, .slice F.MA F.mn F.mc, .slice F.LA F.ln F.lc, .slice F.FA F.fn F.fc, .slice F.SA F.sn F.sc] 28) := ⟨_, rfl⟩
  have hs_wb1 : wb1.heap.size = w.heap.size + 1 := by rw [hw_wb1]; simp
  have hb_wb1 : Below w.heap.size w wb1 := by rw [hw_wb1]; exact (Below.refl _ _).alloc (Nat.le_refl _) _
  have hx_0 : wb1.heap[w.heap.size]? = some (.cells #[.int .i64 F.em, .slice F.GA F.gn F.gc, .slice F.MA F.mn F.mc, .slice F.LA F.ln F.lc, .slice F.FA F.fn F.fc, .slice F.SA F.sn F.sc] 28 (0, 0)) := by rw [hw_wb1]; exact heap_alloc_new _ _
  obtain ⟨wb2, hw_wb2⟩ : ∃ z, z = wb1.alloc (.cells #[.int .i64 l.ki, .int .i64 l.fl, .int .i64 l.se, .slice l.su.A l.su.n l.su.c] 36) := ⟨_, rfl⟩
  have hs_wb2 : wb2.heap.size = w.heap.size + 2 := by rw [hw_wb2]; simp <;> omega
  have hb_wb2 : Below w.heap.size w wb2 := by rw [hw_wb2]; exact hb_wb1.alloc (by omega) _
  have hx_1 : wb2.heap[w.heap.size + 1]? = some (.cells #[.int .i64 l.ki, .int .i64 l.fl, .int .i64 l.se, .slice l.su.A l.su.n l.su.c] 36 (0, 0)) := by rw [hw_wb2]; exact (hs_wb1 ▸ heap_alloc_new wb1 _)
  have hx_0 : wb2.heap[w.heap.size]? = some (.cells #[.int .i64 F.em, .slice F.GA F.gn F.gc, .slice F.MA F.mn F.mc, .slice F.LA F.ln F.lc, .slice F.FA F.fn F.fc, .slice F.SA F.sn F.sc] 28 (0, 0)) := by rw [hw_wb2]; exact (heap_alloc_old _ _ (by omega)).trans hx_0
  obtain ⟨w1, hw_w1⟩ : ∃ z, z = wb2.alloc (.cells #[.slice none 0 0, .int .i64 0] 108) := ⟨_, rfl⟩
  have hs_w1 : w1.heap.size = w.heap.size + 3 := by rw [hw_w1]; simp <;> omega
  have hb_w1 : Below w.heap.size w w1 := by rw [hw_w1]; exact hb_wb2.alloc (by omega) _
  have hx_2 : w1.heap[w.heap.size + 2]? = some (.cells #[.slice none 0 0, .int .i64 0] 108 (0, 0)) := by rw [hw_w1]; exact (hs_wb2 ▸ heap_alloc_new wb2 _)
  have hx_0 : w1.heap[w.heap.size]? = some (.cells #[.int .i64 F.em, .slice F.GA F.gn F.gc, .slice F.MA F.mn F.mc, .slice F.LA F.ln F.lc, .slice F.FA F.fn F.fc, .slice F.SA F.sn F.sc] 28 (0, 0)) := by rw [hw_w1]; exact (heap_alloc_old _ _ (by omega)).trans hx_0
  have hx_1 : w1.heap[w.heap.size + 1]? = some (.cells #[.int .i64 l.ki, .int .i64 l.fl, .int .i64 l.se, .slice l.su.A l.su.n l.su.c] 36 (0, 0)) := by rw [hw_w1]; exact (heap_alloc_old _ _ (by omega)).trans hx_1
  have g0 := up_fact (show w1.cell? ⟨w.heap.size, 0, none⟩ = some (.int .i64 F.em) by rw [cell_of_row _ _ 0 _ _ _ hx_0]; rfl)
  have g1 := up_fact (show w1.cell? ⟨w.heap.size, 1, none⟩ = some (.slice F.GA F.gn F.gc) by rw [cell_of_row _ _ 1 _ _ _ hx_0]; rfl)
  have g2 := up_fact (show w1.cell? ⟨w.heap.size, 2, none⟩ = some (.slice F.MA F.mn F.mc) by rw [cell_of_row _ _ 2 _ _ _ hx_0]; rfl)
  have g3 := up_fact (show w1.cell? ⟨w.heap.size, 3, none⟩ = some (.slice F.LA F.ln F.lc) by rw [cell_of_row _ _ 3 _ _ _ hx_0]; rfl)
  have g4 := up_fact (show w1.cell? ⟨w.heap.size, 4, none⟩ = some (.slice F.FA F.fn F.fc) by rw [cell_of_row _ _ 4 _ _ _ hx_0]; rfl)
  have g5 := up_fact (show w1.cell? ⟨w.heap.size, 5, none⟩ = some (.slice F.SA F.sn F.sc) by rw [cell_of_row _ _ 5 _ _ _ hx_0]; rfl)
  have h0 := up_fact (show w1.cell? ⟨w.heap.size + 1, 0, none⟩ = some (.int .i64 l.ki) by rw [cell_of_row _ _ 0 _ _ _ hx_1]; rfl)
  have h1 := up_fact (show w1.cell? ⟨w.heap.size + 1, 1, none⟩ = some (.int .i64 l.fl) by rw [cell_of_row _ _ 1 _ _ _ hx_1]; rfl)
  have h2 := up_fact (show w1.cell? ⟨w.heap.size + 1, 2, none⟩ = some (.int .i64 l.se) by rw [cell_of_row _ _ 2 _ _ _ hx_1]; rfl)
  have h3 := up_fact (show w1.cell? ⟨w.heap.size + 1, 3, none⟩ = some (.slice l.su.A l.su.n l.su.c) by rw [cell_of_row _ _ 3 _ _ _ hx_1]; rfl)
  have hA0 := Below.refl w1.heap.size w1
  have HS1 := Lib.hid hs_w1
  have hs1 : w.heap.size + 2 < w1.heap.size := by omega
  have HB1 := Lib.hid hb_w1
  have HW_wb1 := Lib.hid hw_wb1
  have HW_wb2 := Lib.hid hw_wb2
  have HW_w1 := Lib.hid hw_w1
  clear hw_wb1 hs_wb1 hb_wb1 hw_wb2 hs_wb2 hb_wb2 hw_w1 hs_w1 hb_w1
  have HX2 := Lib.hid hx_2
  clear hx_0 hx_1 hx_2
  have HB := Lib.hid hB
  have HBW := Lib.hid (HB1.out.mono hB)
  obtain ⟨b2, o2, g, rfl, hbb2, hg, d0, -⟩ := (HI.out.below HBW.out).at_ hp
  have d1 := up_fact d0
  have HG := Lib.hid hg
  clear d0 hg
  have z0 : decide ((p : Int) < 0) = false := by simp
  have z1 : decide ((n : Int) ≤ (p : Int)) = false := by simp; omega
  have z2 : decide (n ≤ p) = false := by simp; omega
  obtain ⟨ls, hls⟩ : ∃ z, z = partB su g.id := ⟨_, rfl⟩
  have HPA := Lib.hid (fun W (hW : Below w1.heap.size w1 W) => show Calls Try.prog 77 #[.agg #[.int .i64 l.ki, .int .i64 l.fl, .int .i64 l.se, .slice l.su.A l.su.n l.su.c], .int .i64 g.id] W (RetLigs W ls) from by rw [hls]; exact parts_any B l su g.id W (KsR.below HKS.out (HBW.out.trans (hW.mono (by have := HB.out; omega)))) HSM.out (by have := HB.out; have := hW.size; omega))
  obtain ⟨tot, htot⟩ : ∃ z, z = finB P l su gs p := ⟨_, rfl⟩
  rw [← htot]
  have HTOT := Lib.hid (show tot = findL P l gs p ls by rw [htot, hls]; unfold finB; rw [HG.out])
  have HPB := Lib.hid (show ∀ x ∈ ls, x.1.length ≤ 1000 from fun x hx => by
    obtain ⟨s, h1, r, h2, h3⟩ := partB_mem (hls ▸ hx)
    exact (HSM.out s h1 r h2).2 x h3)
  clear htot hls
  go_enter Try.func61, Try.ntmps61
  go_upto_region 1 with fail
  rw [← HW_wb1.out]
  rw [← HW_wb2.out]
  rw [← HW_w1.out]
  go_upto_region 3 with fail
  go_region_held3 (fun W => W.cell? ⟨w.heap.size + 1, 0, none⟩ = some (.int .i64 l.ki) ∧ W.cell? ⟨w.heap.size + 1, 1, none⟩ = some (.int .i64 l.fl) ∧ W.cell? ⟨w.heap.size + 1, 2, none⟩ = some (.int .i64 l.se) ∧ W.cell? ⟨w.heap.size + 1, 3, none⟩ = some (.slice l.su.A l.su.n l.su.c) ∧ W.cell? ⟨b2, o2 + p * 10, none⟩ = some (.int .i64 g.id)) (first | exact ⟨h0 w1 hA0, h1 w1 hA0, h2 w1 hA0, h3 w1 hA0, d1 w1 hA0⟩ | exact ⟨h0 w4 hA4, h1 w4 hA4, h2 w4 hA4, h3 w4 hA4, d1 w4 hA4⟩)
    (first
      | (go_at_call 77; refine (HPA.out _ ((Below.refl _ _).drew)).mono ?_; rintro e w4 ⟨A4, c4, rfl, hi4, hb4⟩; have hA4 := ((Below.refl w1.heap.size w1).drew).trans hb4)
  )
  have HLG := Lib.hid hi4
  have hcl := SlR.cap hi4
  have hll := SlR.length hi4
  obtain ⟨np, hnp⟩ : ∃ z, z = ls.length := ⟨_, rfl⟩
  rw [← hnp] at HLG ⊢
  have HX4 := Lib.hid ((hA4.block (w.heap.size + 2) hs1).trans HX2.out)
  have HA4 := Lib.hid hA4
  have g0 := up_fact (g0 w4 hA4)
  have g1 := up_fact (g1 w4 hA4)
  have g2 := up_fact (g2 w4 hA4)
  have g3 := up_fact (g3 w4 hA4)
  have g4 := up_fact (g4 w4 hA4)
  have g5 := up_fact (g5 w4 hA4)
  have h0 := up_fact (h0 w4 hA4)
  have h1 := up_fact (h1 w4 hA4)
  have h2 := up_fact (h2 w4 hA4)
  have h3 := up_fact (h3 w4 hA4)
  have hA := Below.refl w4.heap.size w4
  have HNP := Lib.hid hnp
  have hcap2 : np ≤ 9223372036854775807 := by omega
  clear hi4 hb4 hA4 hA0 d1 hcl hll hnp
  go_wp2_with fail
  go_loopw [32] (fun v wr => ∃ j : Nat, v = .int .i64 (j : Int) ∧ j ≤ np ∧ tot = findL P l gs p (ls.drop j) ∧ Below w4.heap.size w4 wr) (fun v _ => np - (intOf v).toNat)
  case atStart => exact ⟨0, rfl, Nat.zero_le _, HTOT.out, hA⟩
  case round =>
    clear hA
    obtain ⟨j, rfl, hj, htr, hA⟩ := hrel
    have HTR := Lib.hid htr
    clear htr
    by_cases hlt : j < np
    · have z9 : decide ((j : Int) < (np : Int)) = true := by simp; omega
      obtain ⟨pg, b7, o7, cs7, hpg, e7, hb7', hc7, A7, n7, c7, rfl, hi7⟩ := SlR.at_ HLG.out hlt
      have u7 := up_fact (show w4.cell? ⟨b7, o7 + j * 2, none⟩ = _ from hc7 0 _ rfl)
      have u8 := up_fact (show w4.cell? ⟨b7, o7 + j * 2 + 1, none⟩ = _ from hc7 1 _ rfl)
      have HE7 := Lib.hid e7
      have HPG := Lib.hid hpg
      have HI7 := Lib.hid hi7
      have hm7 := HPB.out pg (List.mem_of_getElem? hpg)
      have hl7 := hi7.length
      clear hc7 e7 hpg hi7
      rw [HE7.out]
      go_upto_region 6 with fail
      obtain ⟨w5, hw5⟩ : ∃ z, z = wr.alloc (.cells #[.slice A7 n7 c7, .int .i64 pg.2] 108) := ⟨_, rfl⟩
      obtain ⟨bz, hbz⟩ : ∃ z, z = wr.heap.size := ⟨_, rfl⟩
      rw [← hw5, ← hbz]
      have hX : w5.heap[bz]? = some (.cells #[.slice A7 n7 c7, .int .i64 pg.2] 108 (0, 0)) := by rw [hw5, hbz]; exact heap_alloc_new _ _
      have q0 := up_fact (show w5.cell? ⟨bz, 0, none⟩ = some (.slice A7 n7 c7) by rw [cell_of_row _ _ 0 _ _ _ hX]; rfl)
      have q1 := up_fact (show w5.cell? ⟨bz, 1, none⟩ = some (.int .i64 pg.2) by rw [cell_of_row _ _ 1 _ _ _ hX]; rfl)
      have hA5 : Below w4.heap.size w4 w5 := by rw [hw5]; exact hA.alloc hA.size _
      have hC5 := Below.refl w5.heap.size w5
      clear hX hw5 hbz u7 u8 hA
      obtain ⟨r1, hr1⟩ : ∃ z, z = rowB P l gs p (sing pg.1) := ⟨_, rfl⟩
      have HR1 := Lib.hid hr1.symm
      obtain ⟨r1n, hr1n⟩ : ∃ z, z = (r1.map (p :: ·)).map natI := ⟨_, rfl⟩
      have HR1N := Lib.hid hr1n
      have HFO := Lib.hid (fun W (hW : Below w4.heap.size w4 W) => show Calls Try.prog 78 #[.agg #[.int .i64 F.em, .slice F.GA F.gn F.gc, .slice F.MA F.mn F.mc, .slice F.LA F.ln F.lc, .slice F.FA F.fn F.fc, .slice F.SA F.sn F.sc], .agg #[.int .i64 l.ki, .int .i64 l.fl, .int .i64 l.se, .slice l.su.A l.su.n l.su.c], .slice (some ⟨b2, o2, none⟩) n c, .int .i64 (p : Int), .slice A7 n7 c7] W (RetFol W r1n) from by
        have hWW := HBW.out.trans ((HA4.out.trans (hW.mono HA4.out.size)).mono (by have := HB.out; omega))
        have h0 := follows_any F B P l (some ⟨b2, o2, none⟩) n c gs A7 n7 c7 pg.1 p W (HF.out.below hWW) (HI.out.below hWW) w4.heap.size (HI7.out.below hW) hW.size (by have := HB.out; have := HA4.out.size; have := hW.size; omega) hp (by omega)
        rw [← hr1, ← hr1n] at h0
        exact h0)
      clear hr1 hr1n
      go_upto_region 7 with (go_at_call 78; refine (HFO.out _ hA5).mono ?_; rintro e w6 ⟨A6, c6, rfl, hi6, ha6, hb6⟩; have hA6 := bgo hA5 hb6; have hC6 := bgo hC5 hb6)
      have HI6 := Lib.hid hi6
      have HA6 := Lib.hid (show ∀ x, A6 = some x → x.block ≠ w.heap.size + 2 from fun x hx => by have := ha6 x hx; have := hA5.size; have := HA4.out.size; omega)
      clear hi6 ha6 hb6 hA5 hC5
      rcases r1 with _ | q
      · obtain rfl : r1n = none := HR1N.out
        simp only [Option.getD_none, Option.isSome_none, List.length_nil]
        have HNX := Lib.hid (findL_none HTR.out HPG.out HR1.out)
        go_wp2_with fail
        go_roundw
        case rel => exact ⟨j + 1, by go_num, by omega, HNX.out, hA6⟩
        case measure => simp [intOf] <;> omega
      · obtain rfl : r1n = some (natI (p :: q)) := HR1N.out
        simp only [Option.getD_some, Option.isSome_some, natI_length]
        have HEND := Lib.hid (findL_some HTR.out HPG.out HR1.out)
        have HI8 := Lib.hid (show Ints w6 w6.heap.size A6 (p :: q).length c6 (natI (p :: q)) from by have h0 := HI6.out; simp only [Option.getD_some, natI_length] at h0; exact h0)
        obtain ⟨m, hm⟩ : ∃ z, z = (p :: q).length := ⟨_, rfl⟩
        rw [← hm] at HI8 ⊢
        have HMM := Lib.hid hm
        have HXr := Lib.hid ((hA6.block (w.heap.size + 2) (by have := HA4.out.size; omega)).trans HX4.out)
        clear hm
        go_wp2_with (first
          | (refine wpList_store_row rfl 108 _ _ rfl (w.heap.size + 2) #[.slice A7 n7 c7, .int .i64 pg.2] rfl rfl 108 _ HXr.out sizeLig rfl (oneLig _ _ _ _) ?_)
          | fail)
        (try simp only [Exit.inBlock, Exit.then])
        refine bodyPost_ret (results_row_tmp2 rfl _ _ (w.heap.size + 2) 108 #[.slice A7 n7 c7, .int .i64 pg.2] (0, 0) _ rfl (setRow_heap _ _ _ _ _ _ HXr.out) Try.underlying108 rfl sizeLig) rfl ?_
        rw [HEND.out]
        refine ⟨A7, n7, c7, A6, c6, by rw [← HMM.out]; rfl, ?_, below_setRow (HB1.out.trans ((HA4.out.trans (hA6.mono HA4.out.size)).mono (by have := HB.out; omega))) (by omega) _⟩
        rw [← HMM.out, setRow_size]
        exact HI8.out.setRow_far HA6.out _
    · have HEND := Lib.hid (show tot = none from findL_end (by have := HTR.out; rw [show j = ls.length by have := HNP.out; omega] at this; exact this))
      have z9 : decide ((j : Int) < (np : Int)) = false := by simp; omega
      have HXr := Lib.hid ((hA.block (w.heap.size + 2) (by have := HA4.out.size; omega)).trans HX4.out)
      go_wp2_with (first
        | (refine wpList_store_row rfl 108 _ _ rfl (w.heap.size + 2) #[.slice none 0 0, .int .i64 0] rfl rfl 108 _ HXr.out sizeLig rfl (oneLig _ _ _ _) ?_)
        | fail)
      (try simp only [Exit.inBlock, Exit.then])
      refine bodyPost_ret (results_row_tmp2 rfl _ _ (w.heap.size + 2) 108 #[.slice none 0 0, .int .i64 0] (0, 0) _ rfl (setRow_heap _ _ _ _ _ _ HXr.out) Try.underlying108 rfl sizeLig) rfl ?_
      rw [HEND.out]
      exact ⟨rfl, below_setRow (HB1.out.trans ((HA4.out.trans (hA.mono HA4.out.size)).mono (by have := HB.out; omega))) (by omega) _⟩

end Go.Proofs.Ytngdolmmaiogiaa

/- clear, append of made elements, and overlaps, at buffers of glyphs. No condition. -/
namespace Go.Proofs.Ytngdolmmaiogiaa
open Go.RowKit

section
variable {P : Program} (w : World)
/-- clear of a part of a row: the row ahead of it stays -/
theorem wpList_clear_gls {ops : Array Oper} {rest : List Oper} {o : Oper} {a : Act} {Q : Exit → Act → World → Prop} (hgd : o.guard = none) (x : Operand) (t : TypeId)
    (ho : o.op = .call { callee := .builtin .clear, args := #[x], argTypes := #[t] }) (elem : TypeId) (z : Value) (hu : P.underlying t = some (.slice elem))
    (hzv : ∀ w, (zeroValue elem).run P w = .ok z w) (hz10 : z.cells.size = 10) (hz1 : ∀ v ∈ z.cells.toList, v.oneCell' = true)
    (p : Option Addr) (m c : Nat) (hx : a.eval x = .slice p m c)
    (g off : Nat) (cur : List Value) (tt : TypeId) (hg : w.heap[g]? = some (.cells cur.toArray tt (0, 0))) (hp : 0 < m → p = some ⟨g, off, none⟩) (hfit : off + m * 10 ≤ cur.length)
    (h : ∀ cur' : List Value, cur'.length = cur.length → (0 < m → cur'.take off = cur.take off) → (m = 0 → cur' = cur) → wpList P ops Q rest (a.put o.dst (.tuple #[])) (w.setRow g cur'.toArray)) : wpList P ops Q (o :: rest) a w := by
  refine wpList_plain hgd fun K hK => ?_
  by_cases hm : m = 0
  · subst hm
    have hr : (Builtin.clear_ #[t] o.type #[.slice p 0 c]).run P w = .ok (.tuple #[]) w := by
      cases p <;> simp [Builtin.clear_, run_underlying hu]
    have h' := h cur rfl (fun h => by omega) (fun _ => rfl)
    rw [setRow_self w g _ tt _ hg] at h'
    unfold Oper.wp
    simp [execOp, ho, resolve, invoke, builtin, hx, hr, Result.andThen]
    exact hK _ _ h'
  · obtain rfl := hp (by omega)
    obtain ⟨m', rfl⟩ : ∃ m', m = m' + 1 := ⟨m - 1, by omega⟩
    have hzs : (Builtin.zeroCells z.cells (m' + 1)).toList.length = (m' + 1) * 10 := by
      rw [Array.length_toList, size_zeroCells, hz10]
    have hz2 : ∀ v ∈ (Builtin.zeroCells z.cells (m' + 1)).toList, v.oneCell' = true := by
      intro v hv
      simp only [Builtin.zeroCells, Array.toList_map, List.mem_map] at hv
      obtain ⟨i, _, rfl⟩ := hv
      refine hz1 _ ?_
      have hi : i % z.cells.size < z.cells.size := Nat.mod_lt _ (by omega)
      rw [getElem!_pos z.cells (i % z.cells.size) hi]
      exact Array.getElem_mem_toList hi
    have hst := run_storeCells_at P g off tt (Builtin.zeroCells z.cells (m' + 1)).toList 0 cur.toArray w hg (by rw [hzs]; simpa using hfit) hz2
    have hr : (Builtin.clear_ #[t] o.type #[.slice (some ⟨g, off, none⟩) (m' + 1) c]).run P w = .ok (.tuple #[]) (w.setRow g (cur.take off ++ (Builtin.zeroCells z.cells (m' + 1)).toList ++ cur.drop (off + (Builtin.zeroCells z.cells (m' + 1)).toList.length)).toArray) := by
      simp [Builtin.clear_, run_underlying hu, hzv]
      simp at hst
      simp [hst]
    have h' := h (cur.take off ++ (Builtin.zeroCells z.cells (m' + 1)).toList ++ cur.drop (off + (Builtin.zeroCells z.cells (m' + 1)).toList.length)) (by
      rw [List.length_append, List.length_append, List.length_take, List.length_drop, hzs]; omega) (fun _ => by
      rw [List.append_assoc, List.take_append_of_le_length (by rw [List.length_take]; omega), List.take_take, Nat.min_self]) (fun h => by omega)
    unfold Oper.wp
    simp only [execOp, ho, resolve, invoke, builtin, Sem.run_bind, Sem.run_pure, Result.andThen_ok, List.map_toArray, List.map_cons, List.map_nil, hx, hr]
    exact hK _ _ h'
/-- append of k made elements, where there is no room: a new row -/
theorem wpList_append_made {ops : Array Oper} {rest : List Oper} {o : Oper} {a : Act} {Q : Exit → Act → World → Prop} (hgd : o.guard = none) (s x : Operand) (t tn : TypeId)
    (ho : o.op = .call { callee := .builtin .append, args := #[s, x], argTypes := #[t, tn] })
    (z : Value) (hts : P.underlying t = some (.slice 38)) (htn : P.underlying tn = some (.int .i64)) (hi : (P.info? 38).map (fun i => (i.zero, i.size, i.bytes)) = some (some z, 10, 80)) (hzs : z.cells.size = 10)
    (base : Nat) (A : Option Addr) (n c : Nat) (gs : List Gl) (hs : a.eval s = .slice A n c) (hown : GRow w base A n c gs)
    (k : Nat) (hx : a.eval x = .int .i64 (k : Int)) (hk : 0 < k) (hroom : c < n + k) (hn : n + k ≤ 1000000)
    (h : ∀ (c' : Nat) (cur : List Value) w', w'.heap[w.heap.size]? = some (.cells cur.toArray 38 (0, 0)) → cur.length = c' * 10 → n + k ≤ c' → c' ≤ maxLen → cur.take (n * 10) = glCells gs → w.heap.size < w'.heap.size → Below w.heap.size w w' →
      wpList P ops Q rest (a.put o.dst (.slice (some ⟨w.heap.size, 0, none⟩) (n + k) c')) w') : wpList P ops Q (o :: rest) a w := by
  obtain ⟨i, hi0, hz, hsz, hby⟩ := info_parts hi
  have hgs := hown.gls
  have hold : (Builtin.firstCells i.size n (.slice A n c)).run P w.drew = .ok (glCells gs).toArray w.drew := by
    rw [hsz]
    by_cases hn0 : n = 0
    · subst hn0
      have hg0 : gs = [] := List.eq_nil_of_length_eq_zero hown.1
      subst hg0
      cases A <;> simp [Builtin.firstCells, loadCells, loadCellsFrom, glCells]
    · obtain ⟨b, o', rfl, _, hc⟩ := hgs.2.2.2.2 (by omega)
      exact run_firstCells_some w.drew 10 n ⟨b, o', none⟩ n c (glCells gs) (by rw [glCells_length, hown.1]) (fun j v hj => by
        have : (⟨b, o', none⟩ : Addr).add j = ⟨b, o' + j, none⟩ := by unfold Addr.add; split <;> simp_all
        rw [this]; exact hc j v hj)
  have hr := Lib.run_append_grow_zeros w t tn o.type 38 i z .i64 .i64 hts htn hi0 hz A n c (glCells gs) hold k hk (by omega) hroom (by omega) (by rw [hby]; omega) (by rw [hby]; exact growslice_fits hroom (by omega))
  refine Lib.wpList_append_run w hgd s x t tn ho _ _ hs hx _ _ hr ?_
  have hge := grownCap_ge w (n + k) c 38
  have hcm := grownCap_le_maxLen w (n + k) c 38 (by unfold maxLen; omega)
  refine h _ ((glCells gs).toArray ++ Builtin.zeroCells z.cells k ++ Builtin.zeroCells z.cells (grownCap w (n + k) c 38 - (n + k))).toList _ (by rw [Array.toArray_toList]; exact heap_alloc_new w.drew _) ?_ hge hcm ?_ (by simp) ?_
  · rw [Array.length_toList]
    simp only [Array.size_append, List.size_toArray, size_zeroCells, hzs, glCells_length, hown.1, ← Nat.add_mul]
    congr 1
    omega
  · simp only [Array.toList_append, List.append_assoc]
    rw [List.take_left' (by rw [glCells_length, hown.1])]
  · exact (Below.refl _ _).drew.alloc (Nat.le_refl _) _
end
theorem zeroGl (w : World) : (zeroValue 38).run Try.prog w = .ok (.agg #[.int .i64 0, .int .i64 0, .int .i64 0, .int .i64 0, .int .i64 0, .int .i64 0, .int .i64 0, .int .i64 0, .int .i64 0, .int .i64 0]) w := by kernel_rfl
theorem sizeGl : (Try.prog.info? 38).map (·.size) = some 10 := by kernel_rfl
theorem sizeOfGl (w : World) : (Go.sizeOf 38).run Try.prog w = .ok 10 w := by kernel_rfl
theorem zeroGl_one : ∀ v ∈ (Value.agg #[.int .i64 0, .int .i64 0, .int .i64 0, .int .i64 0, .int .i64 0, .int .i64 0, .int .i64 0, .int .i64 0, .int .i64 0, .int .i64 0]).cells.toList, v.oneCell' = true := by decide
/-- two rows apart do not overlap -/
theorem overlaps_any (w : World) (g g2 o c1 n1 n2 c2 : Nat) (cur cur2 : List Value) (hne : g ≠ g2) (hg : w.heap[g]? = some (.cells cur.toArray 38 (0, 0))) (hg2 : w.heap[g2]? = some (.cells cur2.toArray 38 (0, 0))) (h2 : 0 < cur2.length) (b2 : Nat) :
    (callFunc 82 #[.slice (some ⟨g, o, none⟩) n1 c1, .slice (some ⟨g2, b2, none⟩) n2 c2]).run Try.prog w = .ok (.value (.bool false)) w := by
  have hs1 : w.shape? g = some (38, cur.toArray.size) := by simp [World.shape?, hg]
  have hs2 : w.shape? g2 = some (38, cur2.toArray.size) := by simp [World.shape?, hg2]
  rw [run_callFunc_extern Try.func82 (by kernel_rfl) (by kernel_rfl) (by kernel_rfl) (e := Extern.SlicesOverlaps.overlaps #[30, 30] #[4]) (by kernel_rfl),
    Lib.run_overlaps_apart w 30 4 38 Try.underlying30 10 sizeOfGl ⟨g, o, none⟩ ⟨g2, b2, none⟩ n1 c1 n2 c2 hne 38 38 cur.toArray.size cur2.toArray.size hs1 hs2 (by simp; intro h; subst h; simp at h2) (frozen_of_row _ _ _ _ _ hg) (frozen_of_row _ _ _ _ _ hg)]
  rfl

end Go.Proofs.Ytngdolmmaiogiaa

/- What a call leaves that hands back glyphs. No condition. -/
namespace Go.Proofs.Ytngdolmmaiogiaa
open Go.RowKit

/-- What a call leaves that hands back glyphs. -/
def RetGls (w : World) (base : Nat) (gs : List Gl) (e : Ending) (w' : World) : Prop := ∃ A c, e = .returned (.slice A gs.length c) ∧ GRow w' base A gs.length c gs ∧ Below base w w'

end Go.Proofs.Ytngdolmmaiogiaa

/- Clone of glyphs; a fresh glyph. Condition: at most a hundred thousand. -/
namespace Go.Proofs.Ytngdolmmaiogiaa
open Go.RowKit

theorem GRow.empty (w : World) : GRow (w.alloc (.cells #[] 38)) w.heap.size (some ⟨w.heap.size, 0, none⟩) 0 0 [] :=
  GRow.of_block (cur := []) (heap_alloc_new w _) (Nat.le_refl _) rfl (Nat.le_refl _) (by unfold maxLen; omega) rfl rfl
theorem GlsR.lit (w : World) (g : Gl) : GlsR (w.alloc (.cells #[.int .i64 g.id, .int .i64 g.cl, .int .i64 g.ad, .int .i64 g.dx, .int .i64 g.dy, .int .i64 g.tw, .int .i64 g.hg, .int .i64 g.li, .int .i64 g.co, .int .i64 g.ma] 38)) (w.heap.size + 1) (some ⟨w.heap.size, 0, none⟩) 1 1 [g] :=
  ⟨rfl, Nat.le_refl _, (by unfold maxLen; omega), (fun e => by cases e), fun _ => ⟨w.heap.size, 0, rfl, by omega, fun j v hj => by
    rw [Nat.zero_add, cell_of_row _ _ j _ _ _ (heap_alloc_new w _)]
    simpa [glCells, Gl.cells] using hj⟩⟩
/-- a glyph laid anew -/
def freshG (id cl : Int) : Gl := ⟨id, cl, 0, 0, 0, -1, -1, 0, 0, 0⟩
theorem take_succ_get {gs : List Gl} {k : Nat} {g : Gl} (h : gs[k]? = some g) : gs.take k ++ [g] = gs.take (k + 1) := by
  have hk := (List.getElem?_eq_some_iff.1 h).1
  have he := (List.getElem?_eq_some_iff.1 h).2
  rw [List.take_succ_eq_append_getElem hk, he]

set_option maxRecDepth 100000 in
set_option maxHeartbeats 1000000 in
theorem gclone_any (B : Nat) (A : Option Addr) (n c : Nat) (gs : List Gl) (w : World) (h : GlsR w B A n c gs) (hB : B ≤ w.heap.size) (hn : n ≤ 100000) :
    Calls Try.prog 21 #[.slice A n c] w (RetGls w w.heap.size gs) := by
  have hl := h.length
  have HI := Lib.hid h
  have HL := Lib.hid hl
  by_cases hnil : A = none
  · subst hnil
    obtain ⟨rfl, rfl⟩ := h.2.2.2.1 rfl
    obtain rfl : gs = [] := List.eq_nil_of_length_eq_zero hl
    clear h hl
    have he : ∀ w : World, (binOp .eql 30 (.slice none 0 0) (.slice none 0 0)).run Try.prog w = .ok (.bool true) w := fun _ => rfl
    go_enter Try.func21, Try.ntmps21
    go_wp2_with fail
    go_ret
    exact ⟨none, 0, rfl, GRow.nil_ _ _, Below.refl _ _⟩
  · obtain ⟨a, rfl⟩ : ∃ a, A = some a := by cases A with | none => exact absurd rfl hnil | some a => exact ⟨a, rfl⟩
    clear h hl hnil
    have he : ∀ w : World, (binOp .eql 30 (.slice (some a) n c) (.slice none 0 0)).run Try.prog w = .ok (.bool false) w := fun _ => rfl
    go_enter Try.func21, Try.ntmps21
    go_wp2_with (first
      | (at_builtin; refine wpList_append_gls _ rfl (.tmp 5) (.tmp 6) 30 rfl w.heap.size _ Try.underlying30 infoGl rfl (some ⟨w.heap.size, 0, none⟩) 0 0 [] rfl (GRow.empty w) B (some a) n c gs rfl (HI.out.below ((Below.refl _ _).alloc hB _)) (by omega) (by simp) ?_; intro A3 c3 w3 ho3 hg3 _ _))
    have hb3 : Below w.heap.size w w3 := gl_below ((Below.refl _ _).alloc (Nat.le_refl _) _) (by simp) hg3 (GRow.empty w) (Nat.le_refl _)
    go_ret
    rw [Nat.zero_add, List.nil_append] at ho3
    have hn := HL.out
    subst hn
    exact ⟨A3, c3, rfl, ho3, hb3⟩

set_option maxRecDepth 100000 in
set_option maxHeartbeats 4000000 in
theorem fresh_any (id cl : Int) (w : World) :
    Calls Try.prog 75 #[.int .i64 id, .int .i64 cl] w (fun e w' => e = .returned (.agg #[.int .i64 id, .int .i64 cl, .int .i64 0, .int .i64 0, .int .i64 0, .int .i64 (-1), .int .i64 (-1), .int .i64 0, .int .i64 0, .int .i64 0]) ∧ Below w.heap.size w w') := by
  go_enter Try.func75, Try.ntmps75
  go_wp2_with fail
  (try simp only [Exit.inBlock, Exit.then])
  refine bodyPost_ret (results_cell_row rfl _ _ w.heap.size 38 #[.int .i64 id, .int .i64 cl, .int .i64 0, .int .i64 0, .int .i64 0, .int .i64 (-1), .int .i64 (-1), .int .i64 0, .int .i64 0, .int .i64 0] (0, 0) _ rfl (heap_alloc_new _ _) Try.underlying38 rfl sizeGl) rfl ?_
  exact ⟨rfl, (Below.refl _ _).alloc (Nat.le_refl _) _⟩

set_option maxRecDepth 100000 in
set_option maxHeartbeats 4000000 in
theorem rfresh_any (id cl : Int) (w : World) :
    Calls Try.prog 13 #[.int .i64 id, .int .i64 cl] w (fun e w' => e = .returned (.agg #[.int .i64 id, .int .i64 cl, .int .i64 0, .int .i64 0, .int .i64 0, .int .i64 (-1), .int .i64 (-1), .int .i64 0, .int .i64 0, .int .i64 0]) ∧ Below w.heap.size w w') := by
  go_enter Try.func13, Try.ntmps13
  go_wp2_with fail
  (try simp only [Exit.inBlock, Exit.then])
  refine bodyPost_ret (results_cell_row rfl _ _ w.heap.size 38 #[.int .i64 id, .int .i64 cl, .int .i64 0, .int .i64 0, .int .i64 0, .int .i64 (-1), .int .i64 (-1), .int .i64 0, .int .i64 0, .int .i64 0] (0, 0) _ rfl (heap_alloc_new _ _) Try.underlying38 rfl sizeGl) rfl ?_
  exact ⟨rfl, (Below.refl _ _).alloc (Nat.le_refl _) _⟩

end Go.Proofs.Ytngdolmmaiogiaa

/- The least cluster of one glyph. Condition: it reads as one. -/
namespace Go.Proofs.Ytngdolmmaiogiaa
open Go.RowKit

set_option maxRecDepth 100000 in
set_option maxHeartbeats 4000000 in
theorem least_any (B : Nat) (A : Option Addr) (c : Nat) (g : Gl) (w : World) (h : GlsR w B A 1 c [g]) :
    Calls Try.prog 74 #[.slice A 1 c] w (fun e w' => e = .returned (.int .i64 g.cl) ∧ Below w.heap.size w w') := by
  have hcap := h.cap
  have HI := Lib.hid h
  clear h
  obtain ⟨b, o, g', rfl, hbb, hg', c0, c1, c2, c3', c4, c5, c6, c7, c8, c9⟩ := HI.out.at_ (k := 0) (by omega)
  obtain rfl : g = g' := by simpa using hg'
  simp only [Nat.zero_mul, Nat.add_zero] at c0 c1 c2 c3' c4 c5 c6 c7 c8 c9
  have y0 := up_fact c0
  have y1 := up_fact c1
  have y2 := up_fact c2
  have y3 := up_fact c3'
  have y4 := up_fact c4
  have y5 := up_fact c5
  have y6 := up_fact c6
  have y7 := up_fact c7
  have y8 := up_fact c8
  have y9 := up_fact c9
  have hA0 := Below.refl w.heap.size w
  have hmin : min g.cl g.cl = g.cl := Int.min_self _
  clear c0 c1 c2 c3' c4 c5 c6 c7 c8 c9 hg'
  go_enter Try.func74, Try.ntmps74
  go_wp2_with fail
  go_loopw [3, 12] (fun v3 v wr => ∃ k : Nat, v3 = .int .i64 g.cl ∧ v = .int .i64 (k : Int) ∧ k ≤ 1 ∧ Below w.heap.size w wr) (fun _ v _ => 1 - (intOf v).toNat)
  case atStart => exact ⟨0, rfl, rfl, by omega, Below.refl _ _⟩
  case round =>
    obtain ⟨k, rfl, rfl, hk, hA⟩ := hrel
    by_cases hlt : k < 1
    · obtain rfl : k = 0 := by omega
      have hz : decide (((0 : Nat) : Int) < 1) = true := by simp
      go_upto_region 5 with (fail)
      obtain ⟨w3, hw3⟩ : ∃ z, z = wr.alloc (.cells #[.int .i64 g.id, .int .i64 g.cl, .int .i64 g.ad, .int .i64 g.dx, .int .i64 g.dy, .int .i64 g.tw, .int .i64 g.hg, .int .i64 g.li, .int .i64 g.co, .int .i64 g.ma] 38) := ⟨_, rfl⟩
      obtain ⟨bx, hbx⟩ : ∃ z, z = wr.heap.size := ⟨_, rfl⟩
      rw [← hw3, ← hbx]
      have hA3 := (show Below w.heap.size w w3 by rw [hw3]; exact hA.alloc hA.size _)
      have hX : w3.heap[bx]? = some (.cells #[.int .i64 g.id, .int .i64 g.cl, .int .i64 g.ad, .int .i64 g.dx, .int .i64 g.dy, .int .i64 g.tw, .int .i64 g.hg, .int .i64 g.li, .int .i64 g.co, .int .i64 g.ma] 38 (0, 0)) := by rw [hw3, hbx]; exact heap_alloc_new _ _
      have xf1 := up_fact (show w3.cell? ⟨bx, 1, none⟩ = some (.int .i64 g.cl) by rw [cell_of_row _ _ 1 _ _ _ hX]; rfl)
      have hC := Below.refl w3.heap.size w3
      clear hX hw3 hbx
      go_wp2_with fail
      go_roundw
      case rel => exact ⟨1, rfl, by go_num, by omega, hA3⟩
      case measure => simp [intOf]
    · obtain rfl : k = 1 := by omega
      have hz : decide (((1 : Nat) : Int) < 1) = false := by simp
      go_wp2_with fail
      go_ret
      exact ⟨rfl, hA⟩

end Go.Proofs.Ytngdolmmaiogiaa

/- What a replaced stretch of one glyph is, plainly; a store into a glyph's cluster; parts of a buffer. No condition. -/
namespace Go.Proofs.Ytngdolmmaiogiaa
open Go.RowKit

def putOne (g : Gl) (i : Int) : Gl := ⟨i, g.cl, 0, 0, 0, -1, -1, g.li, g.co, g.ma⟩
def putG (g : Gl) (ids : List Int) : List Gl := ids.map (putOne g)
def setc (c : Int) (g : Gl) : Gl := ⟨g.id, c, g.ad, g.dx, g.dy, g.tw, g.hg, g.li, g.co, g.ma⟩
def recl (was c : Int) : List Gl → List Gl
  | [] => []
  | g :: r => if g.cl = was then setc c g :: recl was c r else g :: r
def fixG (out : List Gl) (at_ : Nat) (c : Int) : List Gl :=
  match out[at_]? with
  | some g => if c < g.cl then out.take at_ ++ recl g.cl c (out.drop at_) else out
  | none => out
def outG (gs : List Gl) (at_ : Nat) (g : Gl) (ids : List Int) : List Gl := gs.take at_ ++ putG g ids ++ gs.drop (at_ + 1)
def repG (gs : List Gl) (at_ : Nat) (ids : List Int) : List Gl :=
  match gs[at_]? with
  | some g => if ids.length = 0 then fixG (outG gs at_ g ids) at_ g.cl else outG gs at_ g ids
  | none => gs
theorem repG_of {gs : List Gl} {at_ : Nat} {g : Gl} (h : gs[at_]? = some g) (ids : List Int) : repG gs at_ ids = if ids.length = 0 then fixG (outG gs at_ g ids) at_ g.cl else outG gs at_ g ids := by
  unfold repG; rw [h]
theorem fixG_none {out : List Gl} {at_ : Nat} {c : Int} (h : out.length ≤ at_) : fixG out at_ c = out := by
  unfold fixG; rw [List.getElem?_eq_none h]
theorem fixG_no {out : List Gl} {at_ : Nat} {c : Int} {g : Gl} (h : out[at_]? = some g) (hc : ¬ c < g.cl) : fixG out at_ c = out := by
  unfold fixG; rw [h]; simp [hc]
theorem fixG_yes {out : List Gl} {at_ : Nat} {c : Int} {g : Gl} (h : out[at_]? = some g) (hc : c < g.cl) : fixG out at_ c = out.take at_ ++ recl g.cl c (out.drop at_) := by
  unfold fixG; rw [h]; simp [hc]
theorem recl_split {was c : Int} : ∀ {l : List Gl} {k : Nat}, (∀ g ∈ l.take k, g.cl = was) → (∀ g, l[k]? = some g → g.cl ≠ was) → recl was c l = (l.take k).map (setc c) ++ l.drop k
  | [], k, _, _ => by simp [recl]
  | g :: r, 0, _, h => by
    have := h g rfl
    simp [recl, this]
  | g :: r, k + 1, h1, h2 => by
    have hg : g.cl = was := h1 g (by simp)
    have := recl_split (was := was) (c := c) (l := r) (k := k) (fun x hx => h1 x (by simp [hx])) (fun x hx => h2 x (by simpa using hx))
    simp [recl, hg, this]
/-- how far the new cluster has been laid -/
def stage (out : List Gl) (at_ j : Nat) (c : Int) : List Gl := out.take at_ ++ ((out.drop at_).take (j - at_)).map (setc c) ++ out.drop j
theorem stage_start (out : List Gl) (at_ : Nat) (c : Int) : stage out at_ at_ c = out := by unfold stage; simp
theorem stage_length {out : List Gl} {at_ j : Nat} {c : Int} (h1 : at_ ≤ j) (h2 : j ≤ out.length) : (stage out at_ j c).length = out.length := by
  unfold stage
  rw [List.length_append, List.length_append, List.length_map, List.length_take, List.length_take, List.length_drop, List.length_drop]
  omega
theorem stage_at {out : List Gl} {at_ j : Nat} {c : Int} (_h1 : at_ ≤ j) (h2 : j < out.length) : stage out at_ j c = (out.take at_ ++ ((out.drop at_).take (j - at_)).map (setc c)) ++ out[j] :: out.drop (j + 1) := by
  unfold stage
  rw [List.drop_eq_getElem_cons h2]
theorem stage_next {out : List Gl} {at_ j : Nat} {c : Int} (h1 : at_ ≤ j) (h2 : j < out.length) : (out.take at_ ++ ((out.drop at_).take (j - at_)).map (setc c)) ++ setc c out[j] :: out.drop (j + 1) = stage out at_ (j + 1) c := by
  unfold stage
  have e : (out.drop at_).take (j + 1 - at_) = (out.drop at_).take (j - at_) ++ [out[j]] := by
    have hj : j - at_ < (out.drop at_).length := by rw [List.length_drop]; omega
    rw [show j + 1 - at_ = j - at_ + 1 by omega, List.take_succ_eq_append_getElem hj, List.getElem_drop]
    congr 3
    omega
  rw [e, List.map_append]
  simp
theorem stage_prefix {out : List Gl} {at_ j : Nat} {c : Int} (h1 : at_ ≤ j) (h2 : j < out.length) : (out.take at_ ++ ((out.drop at_).take (j - at_)).map (setc c)).length = j := by
  rw [List.length_append, List.length_map, List.length_take, List.length_take, List.length_drop]
  omega
theorem stage_end {out : List Gl} {at_ j : Nat} {c was : Int} {g : Gl} (h : out[at_]? = some g) (hw : g.cl = was) (hc : c < g.cl) (h1 : at_ ≤ j) (hall : ∀ t x, at_ ≤ t → t < j → out[t]? = some x → x.cl = was) (hend : ∀ x, out[j]? = some x → x.cl ≠ was) : fixG out at_ c = stage out at_ j c := by
  rw [fixG_yes h hc, hw, recl_split (k := j - at_)]
  · unfold stage
    rw [List.append_assoc, List.drop_drop]
    congr 3
    omega
  · intro x hx
    obtain ⟨t, ht, rfl⟩ := List.getElem_of_mem hx
    rw [List.length_take, List.length_drop] at ht
    rw [List.getElem_take, List.getElem_drop]
    exact hall (at_ + t) _ (by omega) (by omega) (List.getElem?_eq_getElem (by omega))
  · intro x hx
    rw [List.getElem?_drop, show at_ + (j - at_) = j by omega] at hx
    exact hend x hx

section
variable {w : World} {B base : Nat} {A : Option Addr} {n c : Nat} {gs : List Gl}
theorem GlsR.zero {a : Addr} (hc : c ≤ maxLen) : GlsR w B (some a) 0 c [] := ⟨rfl, Nat.zero_le _, hc, (fun h => by cases h), (fun h => by omega)⟩
theorem GlsR.one {b o k : Nat} {g : Gl} (h : GlsR w B (some ⟨b, o, none⟩) n c gs) (hk : k < n) (hg : gs[k]? = some g) : GlsR w B (some ⟨b, o + k * 10, none⟩) 1 (c - k) [g] := by
  have h1 := h.part (i := k) (j := k + 1) (by omega) (by omega)
  have e : (gs.drop k).take (k + 1 - k) = [g] := by
    have hkl : k < gs.length := by rw [h.1]; exact hk
    have hd : gs.drop k = gs[k] :: gs.drop (k + 1) := List.drop_eq_getElem_cons hkl
    rw [List.getElem?_eq_getElem hkl] at hg
    cases hg
    rw [show k + 1 - k = 1 by omega, hd]
    rfl
  rw [e, show k + 1 - k = 1 by omega] at h1
  exact h1
theorem GlsR.front {b o k : Nat} (h : GlsR w B (some ⟨b, o, none⟩) n c gs) (hk : k ≤ n) : GlsR w B (some ⟨b, o, none⟩) k c (gs.take k) := by
  have h1 := h.part (i := 0) (j := k) (by omega) hk
  simpa using h1
theorem GlsR.back {b o k : Nat} (h : GlsR w B (some ⟨b, o, none⟩) n c gs) (hk : k ≤ n) : GlsR w B (some ⟨b, o + k * 10, none⟩) (n - k) (c - k) (gs.drop k) := by
  have h1 := h.part (i := k) (j := n) hk (Nat.le_refl _)
  rw [List.take_of_length_le (by rw [List.length_drop, h.1]; exact Nat.le_refl _)] at h1
  exact h1
/-- an element of a row of the call's own -/
theorem GRow.at_ (h : GRow w base A n c gs) {k : Nat} (hk : k < n) : ∃ b g, A = some ⟨b, 0, none⟩ ∧ base ≤ b ∧ b < w.heap.size ∧ gs[k]? = some g ∧ w.cell? ⟨b, k * 10 + 1, none⟩ = some (.int .i64 g.cl) ∧ w.frozen? ⟨b, k * 10 + 1, none⟩ = false := by
  obtain ⟨b, rfl, h1, h2, cur, h3, _⟩ := h.form (.inl (by omega))
  obtain ⟨b', o, g, e, _, hg, _, hc, _⟩ := h.gls.at_ hk
  obtain ⟨b2, e2, _, _, cur2, h32, hl2, ht2⟩ := h.form (.inl (by omega))
  cases e2
  refine ⟨b, g, rfl, h1, h2, hg, ?_, frozen_of_row _ _ _ _ _ h3⟩
  rw [cell_of_row _ _ _ _ _ _ h32]
  have hx : (glCells gs)[k * 10 + 1]? = some (.int .i64 g.cl) := by rw [glCells_at hg (by omega)]; rfl
  rw [← ht2, List.getElem?_take_of_lt (by omega)] at hx
  simpa using hx
/-- a store into a glyph's cluster -/
theorem GRow.put {b k : Nat} {pre r : List Gl} {x : Gl} (h : GRow w base (some ⟨b, 0, none⟩) n c (pre ++ x :: r)) (hk : pre.length = k) (y : Int) : GRow (w.setCell ⟨b, k * 10 + 1, none⟩ (.int .i64 y)) base (some ⟨b, 0, none⟩) n c (pre ++ setc y x :: r) := by
  subst hk
  refine ⟨by have := h.1; simp at this ⊢; omega, ?_⟩
  have h1 := (World.ownsRow.stored h.2 (pre.length * 10 + 1) (.int .i64 y)).1
  have h2 : (glCells (pre ++ x :: r)).set (pre.length * 10 + 1) (.int .i64 y) = glCells (pre ++ setc y x :: r) := by
    have e1 : glCells (pre ++ x :: r) = glCells pre ++ (x.cells ++ glCells r) := by rw [glCells_append]; rfl
    have e2 : glCells (pre ++ setc y x :: r) = glCells pre ++ ((setc y x).cells ++ glCells r) := by rw [glCells_append]; rfl
    rw [e1, e2, List.set_append_right _ _ (by rw [glCells_length]; omega), glCells_length, show pre.length * 10 + 1 - pre.length * 10 = 1 by omega]
    rfl
  rw [h2] at h1
  exact h1
end

end Go.Proofs.Ytngdolmmaiogiaa
