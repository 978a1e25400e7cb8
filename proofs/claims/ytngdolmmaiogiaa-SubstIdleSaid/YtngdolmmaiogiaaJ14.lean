/- Joined: LigE. -/
import Derived.Test.YtngdolmmaiogiaaJ13
import Derived.Deep.RegionHeldLaw

/- The walk of liga.Apply. Condition: what it reads reads as plain data. Printed by wip/tools. -/
namespace Go.Proofs.Ytngdolmmaiogiaa
open Go.RowKit

theorem stB_gt {nx : Nat → Int} {gs : List Gl} (hnx : ∀ p, nx p = -1 ∨ ∃ q : Nat, p < q ∧ nx p = (q : Int)) : ∀ {ss : List (List Int)} {p : Nat} {r : List Nat}, stB nx gs p ss = some r → ∀ q ∈ r, p < q
  | [], _, _, h => by cases h; simp
  | s :: r, p, x, h => by
    unfold stB at h
    split at h
    · rename_i q hq
      cases hr : stB nx gs q r with
      | none => rw [hr] at h; cases h
      | some y =>
        rw [hr] at h; cases h
        have hpq : p < q := by
          unfold stepB at hq
          rcases hnx p with h1 | ⟨q', h1, h2⟩
          · rw [if_pos h1] at hq; cases hq
          · rw [h2, if_neg (by omega), Int.toNat_natCast] at hq
            split at hq
            · split at hq
              · cases hq; exact h1
              · cases hq
            · cases hq
        intro z hz
        rcases List.mem_cons.1 hz with rfl | hz
        · exact hpq
        · have := stB_gt hnx hr z hz; omega
    · cases h
theorem rowB_gt {P : PFt} {l : Lk} {gs : List Gl} {p : Nat} {ss : List (List Int)} {r : List Nat} (h : rowB P l gs p ss = some r) : ∀ q ∈ r, p < q :=
  stB_gt (nx := fun p => upB (skF P l) gs (p + 1)) (fun p => by
    rcases upL_range (s := skF P l) (gs.drop (p + 1)) (p + 1) with h1 | ⟨q, h1, h2, h3⟩
    · exact .inl h1
    · exact .inr ⟨q, by omega, h3⟩) h
theorem finB_last {P : PFt} {l : Lk} {su : List PSu} {gs : List Gl} {p : Nat} {x : PG} {ps : List Nat} (hp : p < gs.length) (h : finB P l su gs p = some (x, ps)) : 0 < ps.length ∧ ps[0]? = some p ∧ p ≤ lastN ps ∧ lastN ps < gs.length := by
  have h0 : ∃ q, ps = p :: q ∧ (∀ z ∈ q, z < gs.length) ∧ ∀ z ∈ q, p < z := by
    unfold finB at h
    split at h
    · rename_i g hg
      generalize partB su g.id = ls at h
      induction ls with
      | nil => cases h
      | cons y r ih =>
        unfold findL at h
        split at h
        · rename_i q hq
          cases h
          exact ⟨q, rfl, stB_lt hq, rowB_gt hq⟩
        · exact ih h
    · cases h
  obtain ⟨q, rfl, h1, h2⟩ := h0
  have e : lastN (p :: q) = (p :: q)[q.length]'(by simp) := by
    unfold lastN
    rw [List.getD_eq_getElem?_getD, List.length_cons, Nat.add_sub_cancel, List.getElem?_eq_getElem (by simp)]; rfl
  have hm := List.getElem_mem (l := p :: q) (n := q.length) (by simp)
  rw [e]
  rcases List.mem_cons.1 hm with h3 | h3
  · rw [h3]; exact ⟨by simp, rfl, Nat.le_refl _, hp⟩
  · exact ⟨by simp, rfl, Nat.le_of_lt (h2 _ h3), h1 _ h3⟩
theorem GlsR.back' {w : World} {B b n c k : Nat} {gs : List Gl} (h : GlsR w B (some ⟨b, 0, none⟩) n c gs) (hk : k ≤ n) : GlsR w B (if c = k then some ⟨b, 0, none⟩ else some ⟨b, k * 10, none⟩) (n - k) (c - k) (gs.drop k) := by
  split
  · have := h.2.1
    refine ⟨by rw [List.length_drop, h.1], by omega, by have := h.2.2.1; omega, (fun h => by cases h), fun h0 => by omega⟩
  · have h1 := h.back hk
    rw [Nat.zero_add] at h1
    exact h1
set_option maxRecDepth 100000 in
set_option maxHeartbeats 4000000 in
theorem lapply_any (F : Fnt) (B : Nat) (P : PFt) (l : Lk) (A : Option Addr) (n c : Nat) (gs : List Gl) (su : List PSu) (p : Nat) (w : World) (hF : FtR w B F P) (hK : KsR w B l.su.A l.su.n l.su.c su) (hsm : ∀ s ∈ su, ∀ r ∈ s.li, r.length ≤ 100000 ∧ ∀ p ∈ r, p.1.length ≤ 1000) (hI : GlsR w B A n c gs) (hB : B ≤ w.heap.size) (hp : p < n) (hn : n ≤ 90000) :
    Calls Try.prog 51 #[.agg #[.int .i64 F.em, .slice F.GA F.gn F.gc, .slice F.MA F.mn F.mc, .slice F.LA F.ln F.lc, .slice F.FA F.fn F.fc, .slice F.SA F.sn F.sc], .agg #[.int .i64 l.ki, .int .i64 l.fl, .int .i64 l.se, .slice l.su.A l.su.n l.su.c], .slice A n c, .int .i64 (p : Int)] w (RetAp w (ligaB P l su gs p)) := by
  have HF := Lib.hid hF
  have HI := Lib.hid hI
  have HKS := Lib.hid hK
  have HSM := Lib.hid hsm
  obtain ⟨ba, oa, gp0, rfl, -⟩ := hI.at_ hp
  have hcap := hI.cap
  have hlen := hI.length
  have HGL := Lib.hid hlen
  clear hI hF hK hsm
  obtain ⟨wb1, hw_wb1⟩ : ∃ z, z = w.alloc (.cells #[.int .i64 F.em, .slice F.GA F.gn F.gc, .slice F.MA F.mn F.mc, .slice F.LA F.ln F.lc, .slice F.FA F.fn F.fc, .slice F.SA F.sn F.sc] 28) := ⟨_, rfl⟩
  have hs_wb1 : wb1.heap.size = w.heap.size + 1 := by rw [hw_wb1]; simp
  have hb_wb1 : Below w.heap.size w wb1 := by rw [hw_wb1]; exact (Below.refl _ _).alloc (Nat.le_refl _) _
  have hx_0 : wb1.heap[w.heap.size]? = some (.cells #[.int .i64 F.em, .slice F.GA F.gn F.gc, .slice F.MA F.mn F.mc, .slice F.LA F.ln F.lc, .slice F.FA F.fn F.fc, .slice F.SA F.sn F.sc] 28 (0, 0)) := by rw [hw_wb1]; exact heap_alloc_new _ _
  obtain ⟨w1, hw_w1⟩ : ∃ z, z = wb1.alloc (.cells #[.int .i64 l.ki, .int .i64 l.fl, .int .i64 l.se, .slice l.su.A l.su.n l.su.c] 36) := ⟨_, rfl⟩
  have hs_w1 : w1.heap.size = w.heap.size + 2 := by rw [hw_w1]; simp <;> omega
  have hb_w1 : Below w.heap.size w w1 := by rw [hw_w1]; exact hb_wb1.alloc (by omega) _
  have hx_1 : w1.heap[w.heap.size + 1]? = some (.cells #[.int .i64 l.ki, .int .i64 l.fl, .int .i64 l.se, .slice l.su.A l.su.n l.su.c] 36 (0, 0)) := by rw [hw_w1]; exact (hs_wb1 ▸ heap_alloc_new wb1 _)
  have hx_0 : w1.heap[w.heap.size]? = some (.cells #[.int .i64 F.em, .slice F.GA F.gn F.gc, .slice F.MA F.mn F.mc, .slice F.LA F.ln F.lc, .slice F.FA F.fn F.fc, .slice F.SA F.sn F.sc] 28 (0, 0)) := by rw [hw_w1]; exact (heap_alloc_old _ _ (by omega)).trans hx_0
  have g0 := up_fact (show w1.cell? ⟨w.heap.size, 0, none⟩ = some (.int .i64 F.em) by rw [cell_of_row _ _ 0 _ _ _ hx_0]; rfl)
  have g1 := up_fact (show w1.cell? ⟨w.heap.size, 1, none⟩ = some (.slice F.GA F.gn F.gc) by rw [cell_of_row _ _ 1 _ _ _ hx_0]; rfl)
  have g2 := up_fact (show w1.cell? ⟨w.heap.size, 2, none⟩ = some (.slice F.MA F.mn F.mc) by rw [cell_of_row _ _ 2 _ _ _ hx_0]; rfl)
  have g3 := up_fact (show w1.cell? ⟨w.heap.size, 3, none⟩ = some (.slice F.LA F.ln F.lc) by rw [cell_of_row _ _ 3 _ _ _ hx_0]; rfl)
  have g4 := up_fact (show w1.cell? ⟨w.heap.size, 4, none⟩ = some (.slice F.FA F.fn F.fc) by rw [cell_of_row _ _ 4 _ _ _ hx_0]; rfl)
  have g5 := up_fact (show w1.cell? ⟨w.heap.size, 5, none⟩ = some (.slice F.SA F.sn F.sc) by rw [cell_of_row _ _ 5 _ _ _ hx_0]; rfl)
  have h0 := up_fact (show w1.cell? ⟨w.heap.size + 1, 0, none⟩ = some (.int .i64 l.ki) by rw [cell_of_row _ _ 0 _ _ _ hx_1]; rfl)
  have h1 := up_fact (show w1.cell? ⟨w.heap.size + 1, 1, none⟩ = some (.int .i64 l.fl) by rw [cell_of_row _ _ 1 _ _ _ hx_1]; rfl)
  have h2 := up_fact (show w1.cell? ⟨w.heap.size + 1, 2, none⟩ = some (.int .i64 l.se) by rw [cell_of_row _ _ 2 _ _ _ hx_1]; rfl)
  have h3 := up_fact (show w1.cell? ⟨w.heap.size + 1, 3, none⟩ = some (.slice l.su.A l.su.n l.su.c) by rw [cell_of_row _ _ 3 _ _ _ hx_1]; rfl)
  have hA0 := Below.refl w1.heap.size w1
  have HS1 := Lib.hid hs_w1
  have hs1 : w.heap.size + 1 < w1.heap.size := by omega
  have HB1 := Lib.hid hb_w1
  have HW_wb1 := Lib.hid hw_wb1
  have HW_w1 := Lib.hid hw_w1
  clear hw_wb1 hs_wb1 hb_wb1 hw_w1 hs_w1 hb_w1
  clear hx_0 hx_1
  have HB := Lib.hid hB
  have HBW := Lib.hid (HB1.out.mono hB)
  obtain ⟨r, hr⟩ : ∃ z, z = finB P l su gs p := ⟨_, rfl⟩
  have HFI := Lib.hid (show Calls Try.prog 61 #[.agg #[.int .i64 F.em, .slice F.GA F.gn F.gc, .slice F.MA F.mn F.mc, .slice F.LA F.ln F.lc, .slice F.FA F.fn F.fc, .slice F.SA F.sn F.sc], .agg #[.int .i64 l.ki, .int .i64 l.fl, .int .i64 l.se, .slice l.su.A l.su.n l.su.c], .slice (some ⟨ba, oa, none⟩) n c, .int .i64 (p : Int)] w1 (RetFind w1 r) from by rw [hr]; exact find_any F B P l (some ⟨ba, oa, none⟩) n c gs su p w1 (HF.out.below HBW.out) (KsR.below HKS.out HBW.out) HSM.out (HI.out.below HBW.out) (by have := HB.out; omega) hp)
  have HR := Lib.hid hr.symm
  clear hr
  rcases r with _ | ⟨x, ps⟩
  · have HNONE := Lib.hid (show ligaB P l su gs p = none by unfold ligaB; rw [HR.out])
    go_enter Try.func51, Try.ntmps51
    go_upto_region 1 with fail
    rw [← HW_wb1.out]
    rw [← HW_w1.out]
    go_wp2_with (go_at_call 61; refine (HFI.out).mono ?_; rintro e w2 ⟨rfl, hb2⟩)
    go_ret3
    rw [HNONE.out]
    exact ⟨rfl, HB1.out.trans ((hb2.alloc hb2.size _).mono (by omega))⟩
  · obtain ⟨hm0, hps0, hlp, hln⟩ := finB_last (by omega) HR.out
    obtain ⟨m1, hm1⟩ : ∃ z, ps.length = z + 1 := ⟨ps.length - 1, by omega⟩
    obtain ⟨lz, hlz⟩ : ∃ z, z = lastN ps := ⟨_, rfl⟩
    rw [← hlz] at hlp hln
    have HLZ := Lib.hid hlz
    have HPL := Lib.hid hm1
    have HFI := Lib.hid (show Calls Try.prog 61 #[.agg #[.int .i64 F.em, .slice F.GA F.gn F.gc, .slice F.MA F.mn F.mc, .slice F.LA F.ln F.lc, .slice F.FA F.fn F.fc, .slice F.SA F.sn F.sc], .agg #[.int .i64 l.ki, .int .i64 l.fl, .int .i64 l.se, .slice l.su.A l.su.n l.su.c], .slice (some ⟨ba, oa, none⟩) n c, .int .i64 (p : Int)] w1 (fun e w' => ∃ A0 n0 c0 A c, e = .returned (.tuple #[.agg #[.slice A0 n0 c0, .int .i64 x.2], .slice A (m1 + 1) c, .bool true]) ∧ Ints w' w'.heap.size A (m1 + 1) c (natI ps) ∧ Below w1.heap.size w1 w') from by
      have h0 := HFI.out
      exact h0.mono (fun e w' ⟨A0, n0, c0, A, c, e1, e2, e3⟩ => ⟨A0, n0, c0, A, c, by rw [← HPL.out]; exact e1, by rw [← HPL.out]; exact e2, e3⟩))
    clear hlz hm1 hm0
    go_enter Try.func51, Try.ntmps51
    go_upto_region 1 with fail
    rw [← HW_wb1.out]
    rw [← HW_w1.out]
    go_upto_region 2 with (go_at_call 61; refine (HFI.out).mono ?_; rintro e w2 ⟨A0, n0, c0, A2, c2, rfl, hi2, hb2⟩)
    obtain ⟨w3, hw3⟩ : ∃ z, z = w2.alloc (.cells #[.slice A0 n0 c0, .int .i64 x.2] 108) := ⟨_, rfl⟩
    obtain ⟨bx, hbx⟩ : ∃ z, z = w2.heap.size := ⟨_, rfl⟩
    rw [← hw3, ← hbx]
    have hX : w3.heap[bx]? = some (.cells #[.slice A0 n0 c0, .int .i64 x.2] 108 (0, 0)) := by rw [hw3, hbx]; exact heap_alloc_new _ _
    have cx := up_fact (show w3.cell? ⟨bx, 1, none⟩ = some (.int .i64 x.2) by rw [cell_of_row _ _ 1 _ _ _ hX]; rfl)
    have HB13 := Lib.hid (show Below w1.heap.size w1 w3 by rw [hw3]; exact hb2.alloc hb2.size _)
    have HP3 := Lib.hid (show Ints w3 w3.heap.size A2 (m1 + 1) c2 (natI ps) by rw [hw3]; exact (hi2.alloc (Nat.le_refl _) _).more (by simp))
    have HBW3 := Lib.hid (HBW.out.trans (HB13.out.mono (by have := HB.out; omega)))
    have HI3 := Lib.hid (HI.out.below HBW3.out)
    have hcp2 := hi2.cap
    have hA0 := Below.refl w3.heap.size w3
    clear hX hw3 hbx hi2 hb2 g0 g1 g2 g3 g4 g5 h0 h1 h2 h3 HFI
    obtain ⟨bp, op, xl, eP, hbp, hxl, cl0⟩ := HP3.out.at_ (k := m1) (by omega)
    obtain rfl : xl = (lz : Int) := by
      unfold natI at hxl
      rw [List.getElem?_map] at hxl
      have h1 := HLZ.out
      unfold lastN at h1
      rw [HPL.out, Nat.add_sub_cancel, List.getD_eq_getElem?_getD] at h1
      cases h2 : ps[m1]? with
      | none => rw [h2] at hxl; cases hxl
      | some y => rw [h2] at hxl h1; cases hxl; rw [h1]; rfl
    subst eP
    have cl1 := up_fact cl0
    have s1 : IntKind.i64.wrap ((m1 : Int) + 1 - 1) = (m1 : Int) := by rw [IntKind.wrap_i64]; omega
    have s1' : IntKind.i64.wrap (m1 : Int) = (m1 : Int) := by rw [IntKind.wrap_i64]; omega
    have s1'' : IntKind.i64.wrap (((m1 + 1 : Nat) : Int) - 1) = (m1 : Int) := by rw [IntKind.wrap_i64]; omega
    have s2 : IntKind.i64.wrap ((lz : Int) + 1) = ((lz + 1 : Nat) : Int) := by rw [IntKind.wrap_i64]; omega
    have l1 : m1 < m1 + 1 := by omega
    have l2 : (m1 : Int) < (m1 : Int) + 1 := by omega
    have l3 : (0 : Int) ≤ (m1 : Int) := by omega
    obtain ⟨e0, he0⟩ : ∃ z, z = lz + 1 := ⟨_, rfl⟩
    rw [← he0] at s2
    have HE0 := Lib.hid he0
    have hpe : p < e0 := by omega
    have hen : e0 ≤ n := by omega
    obtain ⟨M, hM⟩ : ∃ z, z = mergeB gs p e0 := ⟨_, rfl⟩
    have hML : M.length = n := by rw [hM, mergeB_length (by omega) (by omega)]; exact hlen
    have HME := Lib.hid (show ∀ W, Below w3.heap.size w3 W → Calls Try.prog 62 #[.slice (some ⟨ba, oa, none⟩) n c, .int .i64 (p : Int), .int .i64 (e0 : Int)] W (RetGls W W.heap.size M) from fun W hW => by rw [hM]; exact merge_any B (some ⟨ba, oa, none⟩) n c gs p e0 W (HI3.out.below (hW.mono (by have := HBW3.out.size; have := HB.out; have := HB13.out.size; omega))) (by have := hW.size; have := HB.out; have := HB13.out.size; omega) (by omega) hpe hen)
    have HM := Lib.hid hM
    have HML := Lib.hid hML
    clear hM he0 hxl cl0
    go_upto_region 6 with (go_at_call 62; refine ((HME.out _ (by exact hA0)).mono (fun _ _ h => h.n HML.out)).mono ?_; rintro e w4 ⟨A4, c4, rfl, ho4, hb4⟩)
    obtain ⟨b4, rfl, hb41, hb42, -⟩ := ho4.form (.inl (by omega))
    have HO4 := Lib.hid ho4
    have HI4 := Lib.hid (HI3.out.below (hb4.mono (by have := HBW3.out.size; have := HB13.out.size; have := HB.out; omega)))
    have HP4 := Lib.hid (HP3.out.below hb4)
    have cx := up_fact (cx w4 hb4)
    have HB34 := Lib.hid hb4
    have hcap4 := ho4.cap
    have hA := Below.refl w4.heap.size w4
    clear ho4 hb4 HME s1 s1' s1'' s2 l1 l2 l3 cl1 hA0
    obtain ⟨mx, hmx⟩ : ∃ z, z = mxL 0 gs := ⟨_, rfl⟩
    obtain ⟨num, hnum⟩ : ∃ z, IntKind.i64.wrap (mx + 1) = z := ⟨_, rfl⟩
    have HMX := Lib.hid hmx.symm
    have HNUM := Lib.hid hnum
    clear hmx hnum
    go_wp2_with fail
    go_loopw [16, 48] (fun v16 v48 wr => ∃ (k : Nat) (z : Int), v16 = .int .i64 z ∧ v48 = .int .i64 (k : Int) ∧ k ≤ n ∧ mxL z (gs.drop k) = mx ∧ Below w4.heap.size w4 wr) (fun _ v _ => n - (intOf v).toNat)
    case atStart => exact ⟨0, 0, rfl, rfl, Nat.zero_le _, HMX.out, hA⟩
    case round =>
      clear hA
      obtain ⟨k, m, rfl, rfl, hk, htr, hA⟩ := hrel
      have HTR := Lib.hid htr
      clear htr
      by_cases hlt : k < n
      · have zl : decide ((k : Int) < (n : Int)) = true := by simp; omega
        obtain ⟨b', o', g, e', hbb', hg, c0, c1, c2', c3, c4', c5, c6, c7, c8, c9⟩ := HI4.out.at_ hlt
        cases e'
        have y0 := up_fact c0
        have y1 := up_fact c1
        have y2 := up_fact c2'
        have y3 := up_fact c3
        have y4 := up_fact c4'
        have y5 := up_fact c5
        have y6 := up_fact c6
        have y7 := up_fact c7
        have y8 := up_fact c8
        have y9 := up_fact c9
        have HG := Lib.hid hg
        clear c0 c1 c2' c3 c4' c5 c6 c7 c8 c9 hg
        go_upto_region 10 with (fail)
        obtain ⟨w5, hw5⟩ : ∃ z, z = wr.alloc (.cells #[.int .i64 g.id, .int .i64 g.cl, .int .i64 g.ad, .int .i64 g.dx, .int .i64 g.dy, .int .i64 g.tw, .int .i64 g.hg, .int .i64 g.li, .int .i64 g.co, .int .i64 g.ma] 38) := ⟨_, rfl⟩
        obtain ⟨by5, hbx⟩ : ∃ z, z = wr.heap.size := ⟨_, rfl⟩
        rw [← hw5, ← hbx]
        have hA5 := (show Below w4.heap.size w4 w5 by rw [hw5]; exact hA.alloc hA.size _)
        have hX : w5.heap[by5]? = some (.cells #[.int .i64 g.id, .int .i64 g.cl, .int .i64 g.ad, .int .i64 g.dx, .int .i64 g.dy, .int .i64 g.tw, .int .i64 g.hg, .int .i64 g.li, .int .i64 g.co, .int .i64 g.ma] 38 (0, 0)) := by rw [hw5, hbx]; exact heap_alloc_new _ _
        have xf7 := up_fact (show w5.cell? ⟨by5, 7, none⟩ = some (.int .i64 g.li) by rw [cell_of_row _ _ 7 _ _ _ hX]; rfl)
        have hC := Below.refl w5.heap.size w5
        clear hX hw5 hbx hA
        rcases Int.lt_trichotomy m g.li with hgm | hgm | hgm
        · have t1 : decide (m < g.li) = true := by simp; omega
          have t2 : decide (g.li < m) = false := by simp; omega
          have t3 : decide (g.li ≤ m) = false := by simp; omega
          have t4 : max m g.li = g.li := by omega
          have t5 : ¬ g.li ≤ m := by omega
          have t6 : ¬ g.li < m := by omega
          go_wp2_with fail
          go_roundw
          case rel => exact ⟨k + 1, g.li, rfl, by go_num, by omega, by rw [← HTR.out, mxL_step HG.out]; congr 1; omega, hA5⟩
          case measure => simp [intOf] <;> omega
        · rw [← hgm] at xf7
          have HGM := Lib.hid hgm
          have t4 : max m m = m := Int.max_self _
          clear hgm
          go_wp2_with fail
          go_roundw
          case rel => exact ⟨k + 1, m, rfl, by go_num, by omega, by rw [← HTR.out, mxL_step HG.out]; congr 1; have := HGM.out; omega, hA5⟩
          case measure => simp [intOf] <;> omega
        · have t1 : decide (m < g.li) = false := by simp; omega
          have t2 : decide (g.li < m) = true := by simp; omega
          have t3 : decide (g.li ≤ m) = true := by simp; omega
          have t4 : max m g.li = m := by omega
          have t5 : ¬ m ≤ g.li := by omega
          have t6 : ¬ m < g.li := by omega
          go_wp2_with fail
          go_roundw
          case rel => exact ⟨k + 1, m, rfl, by go_num, by omega, by rw [← HTR.out, mxL_step HG.out]; congr 1; omega, hA5⟩
          case measure => simp [intOf] <;> omega
      · have hkn : k = gs.length := by omega
        have HEND := Lib.hid (show m = mx by have := HTR.out; rw [hkn, List.drop_length] at this; exact this)
        have zl : decide ((k : Int) < (n : Int)) = false := by simp; omega
        rw [HEND.out]
        have hnum := HNUM.out
        have HO6 := Lib.hid (HO4.out.below hA (Nat.le_refl _))
        have hFR := (HO6.out.gls).front (k := p) (by omega)
        have hfl : (M.take p).length = p := by rw [List.length_take, HML.out]; omega
        have HCL := Lib.hid (show Calls Try.prog 21 #[.slice (some ⟨b4, 0, none⟩) p c4] wr (fun e w' => ∃ A' c', e = .returned (.slice A' p c') ∧ GRow w' wr.heap.size A' p c' (M.take p) ∧ Below wr.heap.size wr w') from (gclone_any wr.heap.size _ p c4 _ wr hFR (Nat.le_refl _) (by omega)).mono (fun _ _ h => h.n hfl))
        have p1 : (p : Int) ≤ (c4 : Int) := by omega
        have p2 : p ≤ c4 := by omega
        have p3 : (0 : Int) ≤ (p : Int) := by omega
        clear hFR HEND
        go_upto_region 14 with (go_at_call 21; refine (HCL.out).mono ?_; rintro e w5 ⟨A5, c5, rfl, ho5, hb5⟩)
        obtain ⟨Z, hZ⟩ : ∃ z, z = wr.heap.size := ⟨_, rfl⟩
        rw [← hZ] at ho5
        have hZ4 : w4.heap.size ≤ Z := by rw [hZ]; exact hA.size
        have hA5 := bgo hA hb5
        have hZ5 : Z ≤ w5.heap.size := by rw [hZ]; exact hb5.size
        have HO5 := Lib.hid ho5
        have hcap5 := ho5.cap
        clear hA hb5 ho5 hZ HCL HO6 p1 p2 p3
        obtain ⟨bm, om, mp, em, -, hmp, -, m1', -, -, -, -, -, -, -, m9⟩ := (HO4.out.gls).at_ hp
        cases em
        have HMP := Lib.hid hmp
        have mc := up_fact (show w4.cell? ⟨b4, p * 10 + 1, none⟩ = _ from by have h0 := m1'; rw [Nat.zero_add] at h0; exact h0)
        have ma := up_fact (show w4.cell? ⟨b4, p * 10 + 9, none⟩ = _ from by have h0 := m9; rw [Nat.zero_add] at h0; exact h0)
        clear hmp m1' m9
        go_region_held_law (fun W => W.cell? ⟨bx, 1, none⟩ = some (.int .i64 x.2) ∧ W.cell? ⟨b4, p * 10 + 1, none⟩ = some (.int .i64 mp.cl) ∧ W.cell? ⟨b4, p * 10 + 9, none⟩ = some (.int .i64 mp.ma)) (first | exact ⟨cx w5 hA5, mc w5 hA5, ma w5 hA5⟩ | exact ⟨cx _ (hA5.drew.alloc hA5.size _), mc _ (hA5.drew.alloc hA5.size _), ma _ (hA5.drew.alloc hA5.size _)⟩ | exact ⟨cx w6 hA6, mc w6 hA6, ma w6 hA6⟩)
          (first
            | (refine step_append_gls _ rfl (.tmp 63) (.tmp 78) 30 rfl Z _ Try.underlying30 infoGl rfl A5 p c5 (M.take p) rfl ((HO5.out.below ((Below.refl w5.heap.size w5).drew) (Nat.le_refl _)).alloc _) (w5.drew.heap.size + 1) ⟨w5.drew.heap.size, 0, none⟩ 1 1 [(ligG x.2 num mp)] rfl (GlsR.lit w5.drew (ligG x.2 num mp)) (by omega) (by omega) (by have := hZ5; simp; omega) ?_; intro A6 c6 w6 ho6 hg6 hR6; have hA6 := gl_below (hA5.drew.alloc hA5.size (.cells #[.int .i64 (ligG x.2 num mp).id, .int .i64 (ligG x.2 num mp).cl, .int .i64 (ligG x.2 num mp).ad, .int .i64 (ligG x.2 num mp).dx, .int .i64 (ligG x.2 num mp).dy, .int .i64 (ligG x.2 num mp).tw, .int .i64 (ligG x.2 num mp).hg, .int .i64 (ligG x.2 num mp).li, .int .i64 (ligG x.2 num mp).co, .int .i64 (ligG x.2 num mp).ma] 38)) (by have := hA5.size; simp; omega) hg6 ((HO5.out.below ((Below.refl w5.heap.size w5).drew) (Nat.le_refl _)).alloc _) hZ4))
        have hso6 : (M.take p ++ [ligG x.2 num mp]).length = p + 1 := ho6.1
        obtain ⟨tot, htot⟩ : ∃ z, z = (M.take p ++ [ligG x.2 num mp]) ++ lgL ps num M (e0 - (p + 1)) (p + 1) 0 := ⟨_, rfl⟩
        have HTOT := Lib.hid htot.symm
        have hZ6 : Z ≤ w6.heap.size := by have := hg6.size; simp at this; omega
        have HO6 := Lib.hid ho6
        have HM3 := Lib.hid HML.out
        clear ho6 hg6 hR6 htot cx mc ma hA5 hnum
        go_wp2_with fail
        go_loopw [19, 20, 21] (fun v19 v20 v21 wr => ∃ (i part k : Nat) (out : List Gl) (Ao : Option Addr) (co : Nat), v19 = .slice Ao k co ∧ v20 = .int .i64 (part : Int) ∧ v21 = .int .i64 (i : Int) ∧ p + 1 ≤ i ∧ i ≤ e0 ∧ part ≤ m1 ∧ k ≤ i ∧ out ++ lgL ps num M (e0 - i) i part = tot ∧ GRow wr Z Ao k co out ∧ Z ≤ wr.heap.size ∧ Below w4.heap.size w4 wr) (fun _ _ v21 _ => e0 - (intOf v21).toNat)
        case atStart => exact ⟨p + 1, 0, p + 1, _, A6, c6, rfl, rfl, by go_num, Nat.le_refl _, by omega, by omega, Nat.le_refl _, HTOT.out, HO6.out, hZ6, hA6⟩
        case round =>
          clear hA6 hZ6
          obtain ⟨i, part, k, out, Ao, co, rfl, rfl, rfl, hi1, hi2, hpm, hki, htr2, hou, hzr, hA6⟩ := hrel
          have HTR2 := Lib.hid htr2
          have HOU := Lib.hid hou
          have HZR := Lib.hid hzr
          have hcapo := hou.cap
          clear htr2 hou hzr
          by_cases hie : i < e0
          · have z1 : decide ((i : Int) < (e0 : Int)) = true := by simp; omega
            have s1 : IntKind.i64.wrap ((part : Int) + 1) = (part : Int) + 1 := by rw [IntKind.wrap_i64]; omega
            have s3 : IntKind.i64.wrap ((i : Int) + 1) = (i : Int) + 1 := by rw [IntKind.wrap_i64]; omega
            by_cases hpl : part < m1
            · obtain ⟨bq, oq, zI, eq, hbq, hzI, cz⟩ := HP4.out.at_ (k := part + 1) (by omega)
              cases eq
              obtain ⟨z, hz, hzz⟩ : ∃ z : Nat, ps[part + 1]? = some z ∧ zI = (z : Int) := by
                unfold natI at hzI
                rw [List.getElem?_map] at hzI
                cases h2 : ps[part + 1]? with
                | none => rw [h2] at hzI; cases hzI
                | some y => rw [h2] at hzI; cases hzI; exact ⟨y, rfl, rfl⟩
              subst hzz
              have czu := up_fact (show w4.cell? ⟨bp, op + (part + 1), none⟩ = _ from cz)
              have HZ1 := Lib.hid (show ps.getD (part + 1) 0 = z by rw [List.getD_eq_getElem?_getD, hz]; rfl)
              have q1 : (part : Int) + 1 < (m1 : Int) + 1 := by omega
              have q2 : decide ((part : Int) + 1 < (m1 : Int) + 1) = true := by simp; omega
              have q3 : decide (part < m1) = true := by simp; omega
              have q4 : part + 1 < m1 + 1 := by omega
              have q5 : (0 : Int) ≤ (part : Int) + 1 := by omega
              have q6 : ((part : Int) + 1).toNat = part + 1 := by omega
              clear cz hzI hz
              by_cases hzi : z = i
              · have HNEXT := Lib.hid (show out ++ lgL ps num M (e0 - (i + 1)) (i + 1) (part + 1) = tot by rw [← HTR2.out, lgL_skip hie ⟨by have := HPL.out; omega, by rw [HZ1.out]; exact hzi⟩])
                have r1 : ((z : Int) == (i : Int)) = true := by simp; omega
                have r2 : (z == i) = true := by simp; omega
                have HZI := Lib.hid hzi
                clear hzi
                go_wp2_with fail
                go_roundw
                case rel => exact ⟨i + 1, part + 1, k, out, Ao, co, rfl, by go_num, by go_num, by omega, by omega, by omega, by omega, HNEXT.out, HOU.out, HZR.out, hA6⟩
                case measure => simp [intOf] <;> omega
              · have HNO := Lib.hid (show ¬ (part + 1 < ps.length ∧ ps.getD (part + 1) 0 = i) from fun h => hzi (by rw [← HZ1.out]; exact h.2))
                have r1 : ((z : Int) == (i : Int)) = false := by simp; omega
                have r2 : (z == i) = false := by simp; omega
                have HZI := Lib.hid hzi
                clear hzi
                obtain ⟨bm', om', g, em', _, hg, c0, c1, c2', c3, c4', c5', c6', c7, c8, c9⟩ := (HO4.out.gls).at_ (k := i) (by omega)
                cases em'
                rw [Nat.zero_add] at c0 c1 c2' c3 c4' c5' c6' c7 c8 c9
                have y0 := up_fact c0
                have y1 := up_fact c1
                have y2 := up_fact c2'
                have y3 := up_fact c3
                have y4 := up_fact c4'
                have y5 := up_fact c5'
                have y6 := up_fact c6'
                have y7 := up_fact c7
                have y8 := up_fact c8
                have y9 := up_fact c9
                have HGI := Lib.hid hg
                clear c0 c1 c2' c3 c4' c5' c6' c7 c8 c9 hg
                have HNEXT := Lib.hid (show (out ++ [setlc num part g]) ++ lgL ps num M (e0 - (i + 1)) (i + 1) part = tot by rw [← HTR2.out, lgL_put hie HNO.out HGI.out]; simp)
                have hin : i < n := by omega
                go_upto_region 22 with fail
                obtain ⟨w7, hw7⟩ : ∃ z, z = wr.alloc (.cells #[.int .i64 g.id, .int .i64 g.cl, .int .i64 g.ad, .int .i64 g.dx, .int .i64 g.dy, .int .i64 g.tw, .int .i64 g.hg, .int .i64 g.li, .int .i64 g.co, .int .i64 g.ma] 38) := ⟨_, rfl⟩
                obtain ⟨bz, hbz⟩ : ∃ z, z = wr.heap.size := ⟨_, rfl⟩
                rw [← hw7, ← hbz]
                have hX7 : w7.heap[bz]? = some (.cells #[.int .i64 g.id, .int .i64 g.cl, .int .i64 g.ad, .int .i64 g.dx, .int .i64 g.dy, .int .i64 g.tw, .int .i64 g.hg, .int .i64 g.li, .int .i64 g.co, .int .i64 g.ma] 38 (0, 0)) := by rw [hw7, hbz]; exact heap_alloc_new _ _
                have hb7 : Below wr.heap.size wr w7 := by rw [hw7]; exact (Below.refl _ _).alloc (Nat.le_refl _) _
                have xf7 := (show w7.cell? ⟨bz, 7, none⟩ = some (.int .i64 g.li) by rw [cell_of_row _ _ 7 _ _ _ hX7]; rfl)
                have xf8 := (show w7.cell? ⟨bz, 8, none⟩ = some (.int .i64 g.co) by rw [cell_of_row _ _ 8 _ _ _ hX7]; rfl)
                have fr7 := (show w7.frozen? ⟨bz, 7, none⟩ = false from frozen_of_row _ _ _ _ _ hX7)
                have fr8 := (show w7.frozen? ⟨bz, 8, none⟩ = false from frozen_of_row _ _ _ _ _ hX7)
                have HX7 := Lib.hid hX7
                have HBZ := Lib.hid (show wr.heap.size ≤ bz by omega)
                have HB7 := Lib.hid hb7
                clear hw7 hbz hX7 hb7
                go_upto_region 23 with fail
                obtain ⟨w8, hw8⟩ : ∃ z, z = (w7.setCell ⟨bz, 7, none⟩ (.int .i64 num)).setCell ⟨bz, 8, none⟩ (.int .i64 (part : Int)) := ⟨_, rfl⟩
                rw [← hw8]
                have hX8 : w8.heap[bz]? = some (.cells #[.int .i64 (setlc num part g).id, .int .i64 (setlc num part g).cl, .int .i64 (setlc num part g).ad, .int .i64 (setlc num part g).dx, .int .i64 (setlc num part g).dy, .int .i64 (setlc num part g).tw, .int .i64 (setlc num part g).hg, .int .i64 (setlc num part g).li, .int .i64 (setlc num part g).co, .int .i64 (setlc num part g).ma] 38 (0, 0)) := by rw [hw8]; exact heap_setCell_same _ bz 8 _ _ _ (heap_setCell_same _ bz 7 _ _ _ HX7.out)
                have hb8 : Below wr.heap.size wr w8 := by rw [hw8]; exact (HB7.out.setCell (p := ⟨bz, 7, none⟩) HBZ.out _).setCell (p := ⟨bz, 8, none⟩) HBZ.out _
                have xg0 := (show w8.cell? ⟨bz, 0, none⟩ = some (.int .i64 g.id) by rw [cell_of_row _ _ 0 _ _ _ hX8]; rfl)
                have xg1 := (show w8.cell? ⟨bz, 1, none⟩ = some (.int .i64 g.cl) by rw [cell_of_row _ _ 1 _ _ _ hX8]; rfl)
                have xg2 := (show w8.cell? ⟨bz, 2, none⟩ = some (.int .i64 g.ad) by rw [cell_of_row _ _ 2 _ _ _ hX8]; rfl)
                have xg3 := (show w8.cell? ⟨bz, 3, none⟩ = some (.int .i64 g.dx) by rw [cell_of_row _ _ 3 _ _ _ hX8]; rfl)
                have xg4 := (show w8.cell? ⟨bz, 4, none⟩ = some (.int .i64 g.dy) by rw [cell_of_row _ _ 4 _ _ _ hX8]; rfl)
                have xg5 := (show w8.cell? ⟨bz, 5, none⟩ = some (.int .i64 g.tw) by rw [cell_of_row _ _ 5 _ _ _ hX8]; rfl)
                have xg6 := (show w8.cell? ⟨bz, 6, none⟩ = some (.int .i64 g.hg) by rw [cell_of_row _ _ 6 _ _ _ hX8]; rfl)
                have xg7 := (show w8.cell? ⟨bz, 7, none⟩ = some (.int .i64 num) by rw [cell_of_row _ _ 7 _ _ _ hX8]; rfl)
                have xg8 := (show w8.cell? ⟨bz, 8, none⟩ = some (.int .i64 (part : Int)) by rw [cell_of_row _ _ 8 _ _ _ hX8]; rfl)
                have xg9 := (show w8.cell? ⟨bz, 9, none⟩ = some (.int .i64 g.ma) by rw [cell_of_row _ _ 9 _ _ _ hX8]; rfl)
                have hA8 := bgo hA6 hb8
                have HO8 := Lib.hid (HOU.out.below hb8 (Nat.le_refl _))
                have hs8 := hA8.size
                have hs9 := hb8.size
                have hs10 := HZR.out
                clear xf7 xf8 fr7 fr8 HX7 hX8 hw8 y0 y1 y2 y3 y4 y5 y6 y7 y8 y9
                go_wp2_with (at_builtin; refine wpList_append_gls _ rfl (.tmp 111) (.tmp 113) 30 rfl Z _ Try.underlying30 infoGl rfl Ao k co out rfl (HO8.out.alloc _) (w8.heap.size + 1) (some ⟨w8.heap.size, 0, none⟩) 1 1 [setlc num part g] rfl (GlsR.lit w8 (setlc num part g)) (by omega) (by simp; omega) ?_; intro A9 c9 w9 ho9 hg9 hat9 _)
                have hA9 := gl_below (hA8.alloc hs8 (.cells #[.int .i64 (setlc num part g).id, .int .i64 (setlc num part g).cl, .int .i64 (setlc num part g).ad, .int .i64 (setlc num part g).dx, .int .i64 (setlc num part g).dy, .int .i64 (setlc num part g).tw, .int .i64 (setlc num part g).hg, .int .i64 (setlc num part g).li, .int .i64 (setlc num part g).co, .int .i64 (setlc num part g).ma] 38)) (by simp; omega) hg9 (HO8.out.alloc _) hZ4
                have HZ9 := Lib.hid (show Z ≤ w9.heap.size by have := hg9.size; simp at this; omega)
                clear hg9 hat9
                go_roundw
                case rel => exact ⟨i + 1, part, k + 1, _, A9, c9, rfl, rfl, by go_num, by omega, by omega, hpm, by omega, HNEXT.out, ho9, HZ9.out, hA9⟩
                case measure => simp [intOf] <;> omega
            · have HNO := Lib.hid (show ¬ (part + 1 < ps.length ∧ ps.getD (part + 1) 0 = i) from fun h => by have := h.1; have := HPL.out; omega)
              have q1 : ¬ (part : Int) + 1 < (m1 : Int) + 1 := by omega
              have q2 : decide ((part : Int) + 1 < (m1 : Int) + 1) = false := by simp; omega
              have q3 : decide (part < m1) = false := by simp; omega
              obtain ⟨bm', om', g, em', _, hg, c0, c1, c2', c3, c4', c5', c6', c7, c8, c9⟩ := (HO4.out.gls).at_ (k := i) (by omega)
              cases em'
              rw [Nat.zero_add] at c0 c1 c2' c3 c4' c5' c6' c7 c8 c9
              have y0 := up_fact c0
              have y1 := up_fact c1
              have y2 := up_fact c2'
              have y3 := up_fact c3
              have y4 := up_fact c4'
              have y5 := up_fact c5'
              have y6 := up_fact c6'
              have y7 := up_fact c7
              have y8 := up_fact c8
              have y9 := up_fact c9
              have HGI := Lib.hid hg
              clear c0 c1 c2' c3 c4' c5' c6' c7 c8 c9 hg
              have HNEXT := Lib.hid (show (out ++ [setlc num part g]) ++ lgL ps num M (e0 - (i + 1)) (i + 1) part = tot by rw [← HTR2.out, lgL_put hie HNO.out HGI.out]; simp)
              have hin : i < n := by omega
              go_upto_region 22 with fail
              obtain ⟨w7, hw7⟩ : ∃ z, z = wr.alloc (.cells #[.int .i64 g.id, .int .i64 g.cl, .int .i64 g.ad, .int .i64 g.dx, .int .i64 g.dy, .int .i64 g.tw, .int .i64 g.hg, .int .i64 g.li, .int .i64 g.co, .int .i64 g.ma] 38) := ⟨_, rfl⟩
              obtain ⟨bz, hbz⟩ : ∃ z, z = wr.heap.size := ⟨_, rfl⟩
              rw [← hw7, ← hbz]
              have hX7 : w7.heap[bz]? = some (.cells #[.int .i64 g.id, .int .i64 g.cl, .int .i64 g.ad, .int .i64 g.dx, .int .i64 g.dy, .int .i64 g.tw, .int .i64 g.hg, .int .i64 g.li, .int .i64 g.co, .int .i64 g.ma] 38 (0, 0)) := by rw [hw7, hbz]; exact heap_alloc_new _ _
              have hb7 : Below wr.heap.size wr w7 := by rw [hw7]; exact (Below.refl _ _).alloc (Nat.le_refl _) _
              have xf7 := (show w7.cell? ⟨bz, 7, none⟩ = some (.int .i64 g.li) by rw [cell_of_row _ _ 7 _ _ _ hX7]; rfl)
              have xf8 := (show w7.cell? ⟨bz, 8, none⟩ = some (.int .i64 g.co) by rw [cell_of_row _ _ 8 _ _ _ hX7]; rfl)
              have fr7 := (show w7.frozen? ⟨bz, 7, none⟩ = false from frozen_of_row _ _ _ _ _ hX7)
              have fr8 := (show w7.frozen? ⟨bz, 8, none⟩ = false from frozen_of_row _ _ _ _ _ hX7)
              have HX7 := Lib.hid hX7
              have HBZ := Lib.hid (show wr.heap.size ≤ bz by omega)
              have HB7 := Lib.hid hb7
              clear hw7 hbz hX7 hb7
              go_upto_region 23 with fail
              obtain ⟨w8, hw8⟩ : ∃ z, z = (w7.setCell ⟨bz, 7, none⟩ (.int .i64 num)).setCell ⟨bz, 8, none⟩ (.int .i64 (part : Int)) := ⟨_, rfl⟩
              rw [← hw8]
              have hX8 : w8.heap[bz]? = some (.cells #[.int .i64 (setlc num part g).id, .int .i64 (setlc num part g).cl, .int .i64 (setlc num part g).ad, .int .i64 (setlc num part g).dx, .int .i64 (setlc num part g).dy, .int .i64 (setlc num part g).tw, .int .i64 (setlc num part g).hg, .int .i64 (setlc num part g).li, .int .i64 (setlc num part g).co, .int .i64 (setlc num part g).ma] 38 (0, 0)) := by rw [hw8]; exact heap_setCell_same _ bz 8 _ _ _ (heap_setCell_same _ bz 7 _ _ _ HX7.out)
              have hb8 : Below wr.heap.size wr w8 := by rw [hw8]; exact (HB7.out.setCell (p := ⟨bz, 7, none⟩) HBZ.out _).setCell (p := ⟨bz, 8, none⟩) HBZ.out _
              have xg0 := (show w8.cell? ⟨bz, 0, none⟩ = some (.int .i64 g.id) by rw [cell_of_row _ _ 0 _ _ _ hX8]; rfl)
              have xg1 := (show w8.cell? ⟨bz, 1, none⟩ = some (.int .i64 g.cl) by rw [cell_of_row _ _ 1 _ _ _ hX8]; rfl)
              have xg2 := (show w8.cell? ⟨bz, 2, none⟩ = some (.int .i64 g.ad) by rw [cell_of_row _ _ 2 _ _ _ hX8]; rfl)
              have xg3 := (show w8.cell? ⟨bz, 3, none⟩ = some (.int .i64 g.dx) by rw [cell_of_row _ _ 3 _ _ _ hX8]; rfl)
              have xg4 := (show w8.cell? ⟨bz, 4, none⟩ = some (.int .i64 g.dy) by rw [cell_of_row _ _ 4 _ _ _ hX8]; rfl)
              have xg5 := (show w8.cell? ⟨bz, 5, none⟩ = some (.int .i64 g.tw) by rw [cell_of_row _ _ 5 _ _ _ hX8]; rfl)
              have xg6 := (show w8.cell? ⟨bz, 6, none⟩ = some (.int .i64 g.hg) by rw [cell_of_row _ _ 6 _ _ _ hX8]; rfl)
              have xg7 := (show w8.cell? ⟨bz, 7, none⟩ = some (.int .i64 num) by rw [cell_of_row _ _ 7 _ _ _ hX8]; rfl)
              have xg8 := (show w8.cell? ⟨bz, 8, none⟩ = some (.int .i64 (part : Int)) by rw [cell_of_row _ _ 8 _ _ _ hX8]; rfl)
              have xg9 := (show w8.cell? ⟨bz, 9, none⟩ = some (.int .i64 g.ma) by rw [cell_of_row _ _ 9 _ _ _ hX8]; rfl)
              have hA8 := bgo hA6 hb8
              have HO8 := Lib.hid (HOU.out.below hb8 (Nat.le_refl _))
              have hs8 := hA8.size
              have hs9 := hb8.size
              have hs10 := HZR.out
              clear xf7 xf8 fr7 fr8 HX7 hX8 hw8 y0 y1 y2 y3 y4 y5 y6 y7 y8 y9
              go_wp2_with (at_builtin; refine wpList_append_gls _ rfl (.tmp 111) (.tmp 113) 30 rfl Z _ Try.underlying30 infoGl rfl Ao k co out rfl (HO8.out.alloc _) (w8.heap.size + 1) (some ⟨w8.heap.size, 0, none⟩) 1 1 [setlc num part g] rfl (GlsR.lit w8 (setlc num part g)) (by omega) (by simp; omega) ?_; intro A9 c9 w9 ho9 hg9 hat9 _)
              have hA9 := gl_below (hA8.alloc hs8 (.cells #[.int .i64 (setlc num part g).id, .int .i64 (setlc num part g).cl, .int .i64 (setlc num part g).ad, .int .i64 (setlc num part g).dx, .int .i64 (setlc num part g).dy, .int .i64 (setlc num part g).tw, .int .i64 (setlc num part g).hg, .int .i64 (setlc num part g).li, .int .i64 (setlc num part g).co, .int .i64 (setlc num part g).ma] 38)) (by simp; omega) hg9 (HO8.out.alloc _) hZ4
              have HZ9 := Lib.hid (show Z ≤ w9.heap.size by have := hg9.size; simp at this; omega)
              clear hg9 hat9
              go_roundw
              case rel => exact ⟨i + 1, part, k + 1, _, A9, c9, rfl, rfl, by go_num, by omega, by omega, hpm, by omega, HNEXT.out, ho9, HZ9.out, hA9⟩
              case measure => simp [intOf] <;> omega
          · have hie2 : i = e0 := by omega
            have HTE := Lib.hid (show out = tot by have h0 := HTR2.out; rw [hie2, lgL_end, List.append_nil] at h0; exact h0)
            have hol : out.length = k := HOU.out.1
            have HRES := Lib.hid (show ligaB P l su gs p = some (out ++ M.drop e0, k) by
              have e1 : M = mergeB gs p (lastN ps + 1) := by rw [HM.out, HE0.out, HLZ.out]
              have e2 : num = IntKind.i64.wrap (mxL 0 gs + 1) := by rw [← HNUM.out, HMX.out]
              have e3 : M.getD p zGl = mp := by rw [List.getD_eq_getElem?_getD, HMP.out]; rfl
              have e4 : e0 = lastN ps + 1 := by rw [HE0.out, HLZ.out]
              have e5 : ligOut gs p x ps = out := by
                rw [HTE.out, ← HTOT.out]
                unfold ligOut
                rw [← e1, ← e2, ← e4, e3]
                simp
              unfold ligaB
              rw [HR.out]
              show some (ligOut gs p x ps ++ (mergeB gs p (lastN ps + 1)).drop (lastN ps + 1), (ligOut gs p x ps).length) = _
              rw [e5, ← e1, ← e4, hol])
            have z1 : decide ((i : Int) < (e0 : Int)) = false := by simp; omega
            have z2 : decide (i < e0) = false := by simp; omega
            obtain ⟨At, hAt⟩ : ∃ z : Option Addr, (if c4 = e0 then some ⟨b4, 0, none⟩ else some ⟨b4, e0 * 10, none⟩) = z := ⟨_, rfl⟩
            have hbk := ((HO4.out.gls).below hA6).back' hen
            rw [hAt] at hbk
            have HBK := Lib.hid hbk
            have p1 : e0 ≤ n := hen
            have p2 : (e0 : Int) ≤ (n : Int) := by omega
            have p3 : (0 : Int) ≤ (e0 : Int) := by omega
            have p4 : n ≤ c4 := by omega
            have p5 : (n : Int) ≤ (c4 : Int) := by omega
            have hs10 := HZR.out
            clear hbk
            go_wp2_with (at_builtin; refine wpList_append_gls _ rfl (.tmp 117) (.tmp 120) 30 rfl Z _ Try.underlying30 infoGl rfl Ao k co out rfl HOU.out w4.heap.size At (n - e0) (c4 - e0) (M.drop e0) rfl HBK.out (by omega) hs10 ?_; intro A9 c9 w9 ho9 hg9 hat9 _)
            have hA9 := gl_below hA6 hA6.size hg9 HOU.out hZ4
            go_ret3
            rw [HRES.out]
            have hll : (out ++ M.drop e0).length = k + (n - e0) := by rw [List.length_append, hol, List.length_drop, HML.out]
            refine ⟨A9, c9, by rw [hll]; rfl, by rw [hll]; exact ho9.gls, ?_⟩
            exact HB1.out.trans ((HB13.out.trans ((HB34.out.trans (hA9.mono HB34.out.size)).mono HB13.out.size)).mono (by have := HB.out; omega))

end Go.Proofs.Ytngdolmmaiogiaa
