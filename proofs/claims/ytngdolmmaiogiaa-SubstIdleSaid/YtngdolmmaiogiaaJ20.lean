/- Joined: CtxB. -/
import Derived.Test.YtngdolmmaiogiaaJ18
import Derived.Test.YtngdolmmaiogiaaJ19

/- The walk of context.Apply. Condition: what it reads reads as plain data; a contract of the closure. Printed by wip/tools. -/
namespace Go.Proofs.Ytngdolmmaiogiaa
open Go.RowKit

set_option maxRecDepth 100000 in
set_option maxHeartbeats 4000000 in
theorem capply_any (do_ : Nat → List Gl → Int → Nat → Option (List Gl) × Nat) (F : Fnt) (B : Nat) (P : PFt) (l : Lk) (A : Option Addr) (n c : Nat) (gs : List Gl) (su : List PSu) (p bm k1 k2 L : Nat) (w : World) (hF : FtR w B F P) (hK : KsR w B l.su.A l.su.n l.su.c su) (hk4 : l.ki = 4) (hG : LkGood l su) (hI : GlsR w w.heap.size A n c gs) (hM : MBox w bm F L) (hB : B ≤ w.heap.size) (hBm : B ≤ bm) (hp : p < n) (hn : n ≤ 16384) (hL : L ≤ 65536) (hdo : ∀ W L gs A n c lk p, But bm w W → MBox W bm F L → GlsR W W.heap.size A n c gs → n ≤ 16384 → p < n → L ≤ 65536 → Calls Try.prog 45 #[.slice A n c, .int .i64 lk, .int .i64 ((p : Nat) : Int), .pointer (some ⟨k1, 0, none⟩), .pointer (some ⟨k2, 0, none⟩)] W (RetDo W bm F (do_ L gs lk p))) (hdl : ∀ L gs lk p gs' L', do_ L gs lk p = (some gs', L') → gs'.length ≤ 16384) (hdm : ∀ L gs lk p r L', do_ L gs lk p = (r, L') → L' ≤ L) :
    Calls Try.prog 44 #[.agg #[.int .i64 F.em, .slice F.GA F.gn F.gc, .slice F.MA F.mn F.mc, .slice F.LA F.ln F.lc, .slice F.FA F.fn F.fc, .slice F.SA F.sn F.sc], .agg #[.int .i64 l.ki, .int .i64 l.fl, .int .i64 l.se, .slice l.su.A l.su.n l.su.c], .slice A n c, .int .i64 (p : Int), .func (.func 45) #[] #[.pointer (some ⟨k1, 0, none⟩), .pointer (some ⟨k2, 0, none⟩)]] w (RetCtx w bm F (ctxB do_ P l su gs p L)) := by
  have HK4 := Lib.hid hk4
  clear hk4
  obtain ⟨ba, oa, g0, rfl, -⟩ := hI.at_ hp
  have hcap := hI.cap
  have hlen := hI.length
  have HGL := Lib.hid hlen
  have HI := Lib.hid hI
  have HF := Lib.hid hF
  have HK := Lib.hid hK
  have HG := Lib.hid hG
  have HM := Lib.hid hM
  have HDO := Lib.hid hdo
  have HDL := Lib.hid hdl
  have HDM := Lib.hid hdm
  have hbw := hM.lt
  clear hI hF hK hG hM hdo hdl hdm
  obtain ⟨r, hr⟩ : ∃ z, z = matB P l su gs p := ⟨_, rfl⟩
  obtain ⟨res, hres⟩ : ∃ z, z = ctxB do_ P l su gs p L := ⟨_, rfl⟩
  rw [← hres]
  have HRES0 := Lib.hid hres
  obtain ⟨wb1, hw_wb1⟩ : ∃ z, z = w.alloc (.cells #[.int .i64 F.em, .slice F.GA F.gn F.gc, .slice F.MA F.mn F.mc, .slice F.LA F.ln F.lc, .slice F.FA F.fn F.fc, .slice F.SA F.sn F.sc] 28) := ⟨_, rfl⟩
  have hs_wb1 : wb1.heap.size = w.heap.size + 1 := by rw [hw_wb1]; simp
  have hb_wb1 : Below w.heap.size w wb1 := by rw [hw_wb1]; exact (Below.refl _ _).alloc (Nat.le_refl _) _
  have hx_0 : wb1.heap[w.heap.size]? = some (.cells #[.int .i64 F.em, .slice F.GA F.gn F.gc, .slice F.MA F.mn F.mc, .slice F.LA F.ln F.lc, .slice F.FA F.fn F.fc, .slice F.SA F.sn F.sc] 28 (0, 0)) := by rw [hw_wb1]; exact heap_alloc_new _ _
  obtain ⟨w1, hw_w1⟩ : ∃ z, z = wb1.alloc (.cells #[.int .i64 l.ki, .int .i64 l.fl, .int .i64 l.se, .slice l.su.A l.su.n l.su.c] 36) := ⟨_, rfl⟩
  have hs_w1 : w1.heap.size = w.heap.size + 2 := by rw [hw_w1]; simp <;> omega
  have hb_w1 : Below w.heap.size w w1 := by rw [hw_w1]; exact hb_wb1.alloc (by omega) _
  have hx_1 : w1.heap[w.heap.size + 1]? = some (.cells #[.int .i64 l.ki, .int .i64 l.fl, .int .i64 l.se, .slice l.su.A l.su.n l.su.c] 36 (0, 0)) := by rw [hw_w1]; exact (hs_wb1 ▸ heap_alloc_new wb1 _)
  have hx_0 : w1.heap[w.heap.size]? = some (.cells #[.int .i64 F.em, .slice F.GA F.gn F.gc, .slice F.MA F.mn F.mc, .slice F.LA F.ln F.lc, .slice F.FA F.fn F.fc, .slice F.SA F.sn F.sc] 28 (0, 0)) := by rw [hw_w1]; exact (heap_alloc_old _ _ (by omega)).trans hx_0
  have g0 := up_fact (show w1.cell? ⟨w.heap.size, 0, none⟩ = some (.int .i64 F.em) by rw [cell_of_row _ _ 0 _ _ _ hx_0]; rfl)
  have g1 := up_fact (show w1.cell? ⟨w.heap.size, 1, none⟩ = some (.slice F.GA F.gn F.gc) by rw [cell_of_row _ _ 1 _ _ _ hx_0]; rfl)
  have g2 := up_fact (show w1.cell? ⟨w.heap.size, 2, none⟩ = some (.slice F.MA F.mn F.mc) by rw [cell_of_row _ _ 2 _ _ _ hx_0]; rfl)
  have g3 := up_fact (show w1.cell? ⟨w.heap.size, 3, none⟩ = some (.slice F.LA F.ln F.lc) by rw [cell_of_row _ _ 3 _ _ _ hx_0]; rfl)
  have g4 := up_fact (show w1.cell? ⟨w.heap.size, 4, none⟩ = some (.slice F.FA F.fn F.fc) by rw [cell_of_row _ _ 4 _ _ _ hx_0]; rfl)
  have g5 := up_fact (show w1.cell? ⟨w.heap.size, 5, none⟩ = some (.slice F.SA F.sn F.sc) by rw [cell_of_row _ _ 5 _ _ _ hx_0]; rfl)
  have h0 := up_fact (show w1.cell? ⟨w.heap.size + 1, 0, none⟩ = some (.int .i64 l.ki) by rw [cell_of_row _ _ 0 _ _ _ hx_1]; rfl)
  have h1 := up_fact (show w1.cell? ⟨w.heap.size + 1, 1, none⟩ = some (.int .i64 l.fl) by rw [cell_of_row _ _ 1 _ _ _ hx_1]; rfl)
  have h2 := up_fact (show w1.cell? ⟨w.heap.size + 1, 2, none⟩ = some (.int .i64 l.se) by rw [cell_of_row _ _ 2 _ _ _ hx_1]; rfl)
  have h3 := up_fact (show w1.cell? ⟨w.heap.size + 1, 3, none⟩ = some (.slice l.su.A l.su.n l.su.c) by rw [cell_of_row _ _ 3 _ _ _ hx_1]; rfl)
  have hA0 := Below.refl w1.heap.size w1
  have HS1 := Lib.hid hs_w1
  have hs1 : w.heap.size + 1 < w1.heap.size := by omega
  have HB1 := Lib.hid hb_w1
  have HW_wb1 := Lib.hid hw_wb1
  have HW_w1 := Lib.hid hw_w1
  clear hw_wb1 hs_wb1 hb_wb1 hw_w1 hs_w1 hb_w1
  clear hx_0 hx_1
  have HB := Lib.hid hB
  have HBW := Lib.hid (HB1.out.mono hB)
  have HMA := Lib.hid (fun W (hW : Below w1.heap.size w1 W) => show Calls Try.prog 43 #[.agg #[.int .i64 F.em, .slice F.GA F.gn F.gc, .slice F.MA F.mn F.mc, .slice F.LA F.ln F.lc, .slice F.FA F.fn F.fc, .slice F.SA F.sn F.sc], .agg #[.int .i64 l.ki, .int .i64 l.fl, .int .i64 l.se, .slice l.su.A l.su.n l.su.c], .slice (some ⟨ba, oa, none⟩) n c, .int .i64 (p : Int)] W (RetMat W r) from by rw [hr]; exact match_any F w.heap.size P l (some ⟨ba, oa, none⟩) n c gs su p W ((HF.out.more HB.out).below (HB1.out.trans (hW.mono (by omega)))) (KsR.below (KsR.more HK.out HB.out) (HB1.out.trans (hW.mono (by omega)))) (HG.out.row HK4.out) (HI.out.below (HB1.out.trans (hW.mono (by omega)))) (by have := hW.size; omega) hp)
  have HR := Lib.hid hr.symm
  clear hr hres
  rcases r with _ | ⟨i, ps⟩
  · have HRES := Lib.hid (show res = (none, L) by rw [HRES0.out]; unfold ctxB; rw [HR.out])
    go_enter Try.func44, Try.ntmps44
    go_upto_region 1 with fail
    rw [← HW_wb1.out]
    rw [← HW_w1.out]
    go_wp2_with (go_at_call 43; refine (HMA.out _ hA0).mono ?_; rintro e w2 ⟨rfl, hb2⟩; have hA2 := bgo hA0 hb2)
    go_ret3
    rw [HRES.out]
    have hbb := HB1.out.trans (hA2.mono (by omega))
    exact ⟨rfl, HM.out.below hbb hbw, But.of hbb⟩
  · obtain ⟨q, hq, hps0, hpsl, hln⟩ := matB_some (by omega) HR.out
    have HRES := Lib.hid (show res = (some ((q.ne.foldl (nest1 do_) ⟨gs, natI ps, L⟩).l, max (((q.ne.foldl (nest1 do_) ⟨gs, natI ps, L⟩).l.length : Int) - ((n - lastN ps - 1 : Nat) : Int)) (p : Int)), (q.ne.foldl (nest1 do_) ⟨gs, natI ps, L⟩).L) by rw [HRES0.out]; unfold ctxB; rw [HR.out]; simp only [hq, hlen])
    have hil : i < l.su.n := by rw [← SlR.length HK.out]; exact lt_of_some' hq
    obtain ⟨q', b, o, cs, hq', eA, hbb', hc, s, rfl, hs⟩ := SlR.at_ (KsR.below HK.out HBW.out) hil
    rw [hq] at hq'
    cases hq'
    have HEA := Lib.hid eA
    have HS := Lib.hid hs
    have y6 := up_fact (show w1.cell? ⟨b, o + i * 12 + 6, none⟩ = _ from hc 6 _ rfl)
    have hcne := SlR.cap hs.ne
    have hsne := hs.ne
    have hlne := SlR.length hs.ne
    have hrow := HG.out.row HK4.out q (List.mem_of_getElem? hq)
    have z9 : decide ((i : Int) < (l.su.n : Int)) = true := by simp; omega
    obtain ⟨m1, hm1⟩ : ∃ z, ps.length = z + 1 := ⟨ps.length - 1, by omega⟩
    obtain ⟨lz, hlz⟩ : ∃ z, z = lastN ps := ⟨_, rfl⟩
    rw [← hlz] at hln
    have HLZ := Lib.hid hlz
    have HPL := Lib.hid hm1
    have hcaps := SlR.cap HK.out
    have HMA := Lib.hid (fun W (hW : Below w1.heap.size w1 W) => (HMA.out W hW).mono (R' := fun e w' => ∃ A c, e = .returned (.tuple #[.int .i64 (i : Int), .slice A (m1 + 1) c, .bool true]) ∧ Ints w' w'.heap.size A (m1 + 1) c (natI ps) ∧ (∀ x, A = some x → W.heap.size ≤ x.block) ∧ Below W.heap.size W w') (fun e w' h => by
      obtain ⟨A2, c2, e1, e2, e3, e4⟩ := h
      exact ⟨A2, c2, by rw [← HPL.out]; exact e1, by rw [← HPL.out]; exact e2, e3, e4⟩))
    clear hq eA hs hc hlz hm1
    go_enter Try.func44, Try.ntmps44
    go_upto_region 1 with fail
    rw [← HW_wb1.out]
    rw [← HW_w1.out]
    rw [HEA.out] at h3 HMA
    go_upto_region 4 with (go_at_call 43; refine (HMA.out _ hA0).mono ?_; rintro e w2 ⟨A2, c2, rfl, hi2, ha2, hb2⟩; have hA2 := bgo hA0 hb2)
    obtain ⟨bp, op, xl, eP, hbp, hxl, cl0⟩ := hi2.at_ (k := m1) (by omega)
    obtain rfl : xl = (lz : Int) := by
      unfold natI at hxl
      rw [List.getElem?_map] at hxl
      have h1 := HLZ.out
      unfold lastN at h1
      rw [HPL.out, Nat.add_sub_cancel, List.getD_eq_getElem?_getD] at h1
      cases h2 : ps[m1]? with
      | none => rw [h2] at hxl; cases hxl
      | some y => rw [h2] at hxl h1; cases hxl; rw [h1]; rfl
    subst eP
    have hA22 := Below.refl w2.heap.size w2
    have cl1 := up_fact cl0
    have HI2 := Lib.hid hi2
    have hcp2 := hi2.cap
    have HA2 := Lib.hid (ha2 _ rfl)
    have s1 : IntKind.i64.wrap ((m1 : Int) + 1 - 1) = (m1 : Int) := by rw [IntKind.wrap_i64]; omega
    have s1' : IntKind.i64.wrap (m1 : Int) = (m1 : Int) := by rw [IntKind.wrap_i64]; omega
    have s1'' : IntKind.i64.wrap (((m1 + 1 : Nat) : Int) - 1) = (m1 : Int) := by rw [IntKind.wrap_i64]; omega
    obtain ⟨d1, hd1⟩ : ∃ z : Nat, z = n - lz := ⟨_, rfl⟩
    obtain ⟨rest, hrest⟩ : ∃ z : Nat, z = n - lz - 1 := ⟨_, rfl⟩
    have s2 : IntKind.i64.wrap ((n : Int) - (lz : Int)) = (d1 : Int) := by rw [IntKind.wrap_i64]; omega
    have s3 : IntKind.i64.wrap ((d1 : Int) - 1) = (rest : Int) := by rw [IntKind.wrap_i64]; omega
    have hrn : rest ≤ n := by omega
    have l1 : m1 < m1 + 1 := by omega
    have l2 : (m1 : Int) < (m1 : Int) + 1 := by omega
    have l3 : (0 : Int) ≤ (m1 : Int) := by omega
    have HRS := Lib.hid (show rest = n - lastN ps - 1 by rw [hrest, HLZ.out])
    have HW2 := Lib.hid (HB1.out.trans (hA2.mono (by omega)))
    clear hi2 ha2 hb2 cl0 hxl hrest hd1 hA0
    go_upto_region 6 with (first | (refine wpList_store_row rfl 137 _ _ rfl w3.heap.size #[.func (.func 45) #[] #[.pointer (some ⟨k1, 0, none⟩), .pointer (some ⟨k2, 0, none⟩)], .slice A3 n c3, .slice (some ⟨bp, op, none⟩) (m1 + 1) c2] rfl rfl 137 #[.nilFunc, .slice none 0 0, .slice none 0 0] (heap_alloc_new _ _) sizeWork rfl (oneWork _ _ _ _ _ _ _ _ _) ?_) | (go_at_call 21; refine ((gclone_any w.heap.size (some ⟨ba, oa, none⟩) n c gs _ (HI.out.below HW2.out) (by have := hA2.size; omega) (by omega)).mono (fun _ _ h => h.n HGL.out)).mono ?_; rintro e w3 ⟨A3, c3, rfl, ho3, hb3⟩; have hA3 := bgo hA2 hb3))
    obtain ⟨w4, hw4⟩ : ∃ z, z = (w3.alloc (.cells #[.nilFunc, .slice none 0 0, .slice none 0 0] 137)).setRow w3.heap.size #[.func (.func 45) #[] #[.pointer (some ⟨k1, 0, none⟩), .pointer (some ⟨k2, 0, none⟩)], .slice A3 n c3, .slice (some ⟨bp, op, none⟩) (m1 + 1) c2] := ⟨_, rfl⟩
    obtain ⟨bw, hbw0⟩ : ∃ z, z = w3.heap.size := ⟨_, rfl⟩
    rw [← hw4, ← hbw0]
    have hA4 := (show Below w1.heap.size w1 w4 by rw [hw4]; exact below_setRow (hA3.alloc hA3.size _) hA3.size _)
    have HX4 := Lib.hid (show w4.heap[bw]? = some (.cells #[.func (.func 45) #[] #[.pointer (some ⟨k1, 0, none⟩), .pointer (some ⟨k2, 0, none⟩)], .slice A3 n c3, .slice (some ⟨bp, op, none⟩) (m1 + 1) c2] 137 (0, 0)) by rw [hw4, hbw0]; exact setRow_heap _ _ _ _ _ _ (heap_alloc_new _ _))
    have hb34 : Below w3.heap.size w3 w4 := by rw [hw4]; exact below_setRow ((Below.refl _ _).alloc (Nat.le_refl _) _) (Nat.le_refl _) _
    have hA14 := HB1.out.trans (hA4.mono (by omega))
    have hs3 := hA3.size
    have hs2 := hb3.size
    have HNR := Lib.hid (show NRd w4 bm bw F (.func (.func 45) #[] #[.pointer (some ⟨k1, 0, none⟩), .pointer (some ⟨k2, 0, none⟩)]) ⟨gs, natI ps, L⟩ from ⟨HM.out.below hA14 hbw, A3, c3, some ⟨bp, op, none⟩, c2, by
      show WBox w4 bw _ A3 gs.length c3 _ (natI ps).length c2
      rw [HGL.out, natI_length, HPL.out]
      exact HX4.out, by
      show GlsR _ _ _ gs.length _ _
      rw [HGL.out]
      exact (ho3.gls.below hb34).more hb34.size, by
      show Ints _ _ _ (natI ps).length _ _
      rw [natI_length, HPL.out]
      exact (HI2.out.below (hb3.trans (hb34.mono hs2))).more (Nat.le_trans hs2 hb34.size), fun x hx => by
      cases hx
      have h1 := HA2.out
      show bp ≠ bm ∧ bp ≠ bw
      omega⟩)
    have hbmw : bm ≠ bw := by omega
    have hwbw : w.heap.size ≤ bw := by omega
    have HB4 := Lib.hid (But.of (bm := bm) hA14)
    have HA4 := Lib.hid hA4
    clear ho3 hb3 hA3 hw4 hbw0 hb34 hA14 cl1 hA22 hA2 s1 s1' s1'' s2 s3 l1 l2 l3
    go_wp2_with fail
    obtain ⟨st0, hst0⟩ : ∃ z : NSt, z = ⟨gs, natI ps, L⟩ := ⟨_, rfl⟩
    have HNR0 := Lib.hid (show NRd w4 bm bw F (.func (.func 45) #[] #[.pointer (some ⟨k1, 0, none⟩), .pointer (some ⟨k2, 0, none⟩)]) st0 by rw [hst0]; exact HNR.out)
    have hl0 : st0.l.length ≤ 16384 := by rw [hst0]; show gs.length ≤ _; omega
    have hp0 : st0.pl.length ≤ 100000 := by rw [hst0]; show (natI ps).length ≤ _; rw [natI_length]; omega
    have hL0 : st0.L ≤ 65536 := by rw [hst0]; exact hL
    rw [← hst0] at HRES
    have hBw1 : B ≤ w4.heap.size := by have := HB.out; have := HA4.out.size; omega
    have hBbw : B ≤ bw := by have := HB.out; omega
    have HNE := Lib.hid hsne
    have hfo : ∀ j, ((q.ne.take j).foldl (nest1 do_) st0).l.length ≤ 16384 ∧ ((q.ne.take j).foldl (nest1 do_) st0).pl.length ≤ 100000 ∧ ((q.ne.take j).foldl (nest1 do_) st0).L ≤ 65536 := by
      intro j
      generalize q.ne.take j = ns
      clear hst0 HRES HNR0
      induction ns generalizing st0 with
      | nil => exact ⟨hl0, hp0, hL0⟩
      | cons a r ih =>
        have h1 := nest1_ok HDL.out HDM.out (st := st0) (nn := a) hl0
        exact ih (nest1 do_ st0 a) h1.1 (by omega) (by omega)
    have HFO := Lib.hid hfo
    clear hfo hst0
    go_loopw [53] (fun v wr => ∃ j : Nat, v = .int .i64 (j : Int) ∧ j ≤ s.ne.n ∧ NRd wr bm bw F (.func (.func 45) #[] #[.pointer (some ⟨k1, 0, none⟩), .pointer (some ⟨k2, 0, none⟩)]) ((q.ne.take j).foldl (nest1 do_) st0) ∧ But2 bm bw w4 wr) (fun v _ => s.ne.n - (intOf v).toNat)
    case atStart => exact ⟨0, rfl, Nat.zero_le _, HNR0.out, But2.refl _ _ _⟩
    case round =>
      obtain ⟨j, rfl, hj, hnr, hb⟩ := hrel
      have HN := Lib.hid hnr
      have HBB := Lib.hid hb
      have hmr := hnr.1.lt
      clear hnr
      by_cases hlt : j < s.ne.n
      · have zl : decide ((j : Int) < (s.ne.n : Int)) = true := by simp; omega
        obtain ⟨nn, b9, o9, cs9, hnn, e9, hb9, hc9, hr9⟩ := SlR.at_ HNE.out hlt
        obtain rfl : cs9 = [.int .i64 nn.1, .int .i64 nn.2] := hr9
        have HNN := Lib.hid hnn
        have hBr := (HA4.out.mono (show B ≤ w1.heap.size by have := HB.out; omega)).trans (hb.below hBm hBbw hBw1)
        have n0 := (hBr.cell (p := ⟨b9, o9 + j * 2, none⟩) hb9).trans (show w1.cell? ⟨b9, o9 + j * 2, none⟩ = _ from hc9 0 _ rfl)
        have n1 := (hBr.cell (p := ⟨b9, o9 + j * 2 + 1, none⟩) hb9).trans (show w1.cell? ⟨b9, o9 + j * 2 + 1, none⟩ = _ from hc9 1 _ rfl)
        have HE9 := Lib.hid e9
        clear hnn hc9 e9 hb hBr
        rw [HE9.out]
        go_upto_region 9 with fail
        obtain ⟨w5, hw5⟩ : ∃ z, z = wr.alloc (.cells #[.int .i64 nn.1, .int .i64 nn.2] 62) := ⟨_, rfl⟩
        obtain ⟨bz, hbz⟩ : ∃ z, z = wr.heap.size := ⟨_, rfl⟩
        rw [← hw5, ← hbz]
        have hX : w5.heap[bz]? = some (.cells #[.int .i64 nn.1, .int .i64 nn.2] 62 (0, 0)) := by rw [hw5, hbz]; exact heap_alloc_new _ _
        have x0 := (show w5.cell? ⟨bz, 0, none⟩ = some (.int .i64 nn.1) by rw [cell_of_row _ _ 0 _ _ _ hX]; rfl)
        have x1 := (show w5.cell? ⟨bz, 1, none⟩ = some (.int .i64 nn.2) by rw [cell_of_row _ _ 1 _ _ _ hX]; rfl)
        have hb5 : Below wr.heap.size wr w5 := by rw [hw5]; exact (Below.refl _ _).alloc (Nat.le_refl _) _
        have HB5 := Lib.hid (HBB.out.trans (But2.of (bw := bw) (But.of (bm := bm) hb5)))
        have HN5 := Lib.hid (HN.out.below hb5)
        have hf := HFO.out j
        have HNS := Lib.hid (nest_any do_ F bm bw k1 k2 ((q.ne.take j).foldl (nest1 do_) st0) nn w5 hbmw HN5.out (fun W L' gs' A' n' c' lk p' h1 h2 h3 h4 h5 h6 => HDO.out W L' gs' A' n' c' lk p' (But2.but HB4.out (HB5.out.trans h1) hwbw) h2 h3 h4 h5 h6) HDL.out hf.1 hf.2.1 hf.2.2)
        clear hX hw5 hbz hb5 n0 n1 hf
        go_wp2_with (go_at_call 56; refine (HNS.out).mono ?_; rintro e w6 ⟨rfl, hn6, hb6⟩)
        go_roundw
        case rel => exact ⟨j + 1, by go_num, by omega, by rw [List.take_add_one, HNN.out]; simp only [Option.toList_some, List.foldl_append, List.foldl_cons, List.foldl_nil]; exact hn6, HB5.out.trans hb6⟩
        case measure => simp [intOf] <;> omega
      · have hjn : j = s.ne.n := by omega
        have zl : decide ((j : Int) < (s.ne.n : Int)) = false := by simp; omega
        have hstf : (q.ne.take j).foldl (nest1 do_) st0 = q.ne.foldl (nest1 do_) st0 := by rw [List.take_of_length_le (by omega)]
        obtain ⟨stF, hsf⟩ : ∃ z, z = q.ne.foldl (nest1 do_) st0 := ⟨_, rfl⟩
        rw [← hsf] at hstf HRES
        have hnf := HN.out
        rw [hstf] at hnf
        obtain ⟨hM9, A9, c9, Ap9, cp9, hW9, hI9, hP9, hAp9⟩ := hnf
        have hlN := (HFO.out j).1
        rw [hstf] at hlN
        obtain ⟨N, hN⟩ : ∃ z, stF.l.length = z := ⟨_, rfl⟩
        rw [hN] at hI9 hW9 hlN
        have HNF := Lib.hid hN
        have HI9 := Lib.hid hI9
        have HM9 := Lib.hid hM9
        have hcap9 := hI9.cap
        have k9 := up_fact (show wr.cell? ⟨bw, 1, none⟩ = some (.slice A9 N c9) by rw [cell_of_row _ _ 1 _ _ _ hW9]; rfl)
        have hA9 := Below.refl wr.heap.size wr
        obtain ⟨d, hd⟩ : ∃ d : Int, (N : Int) - (rest : Int) = d := ⟨_, rfl⟩
        have s5 : IntKind.i64.wrap ((N : Int) - (rest : Int)) = d := by rw [IntKind.wrap_i64]; omega
        have HD5 := Lib.hid hd
        clear hstf hsf hM9 hW9 hI9 hP9 hAp9 hN hb hd
        rcases Int.lt_trichotomy d (p : Int) with hgm | hgm | hgm
        · have HT4 := Lib.hid (show max d (p : Int) = (p : Int) by omega)
          have t1 : decide (d < (p : Int)) = true := by simp; omega
          have t2 : decide ((p : Int) < d) = false := by simp; omega
          have t3 : decide ((p : Int) ≤ d) = false := by simp; omega
          have t4 : max d (p : Int) = (p : Int) := by omega
          have t5 : ¬ (p : Int) ≤ d := by omega
          have t6 : ¬ (p : Int) < d := by omega
          go_wp2_with fail
          go_region_held3 (fun W => W.cell? ⟨bw, 1, none⟩ = some (.slice A9 N c9)) (first | exact k9 wr hA9 | exact k9 w7 hA7)
            (first
              | (go_at_call 21; refine ((gclone_any wr.heap.size A9 N c9 stF.l wr.drew HI9.out (Nat.le_refl _) (by omega)).mono (fun _ _ h => h.n HNF.out)).mono ?_; rintro e w7 ⟨A7, c7, rfl, ho7, hb7⟩; have hA7 := ((Below.refl wr.heap.size wr).drew).trans hb7)
          )
          go_wp2_with fail
          all_goals
            go_ret3
            rw [HRES.out]
            have hll : stF.l.length = N := HNF.out
            have hbut := (But2.but HB4.out HBB.out hwbw).trans (But.of hA7)
            refine ⟨A7, c7, by rw [hll, ← HRS.out, HD5.out, HT4.out]; rfl, by rw [hll]; exact ho7.gls, HM9.out.below hA7 HM9.out.lt, hbut⟩
        · subst hgm
          have t4 : max (p : Int) (p : Int) = (p : Int) := Int.max_self _
          have HT4 := Lib.hid t4
          go_wp2_with fail
          go_region_held3 (fun W => W.cell? ⟨bw, 1, none⟩ = some (.slice A9 N c9)) (first | exact k9 wr hA9 | exact k9 w7 hA7)
            (first
              | (go_at_call 21; refine ((gclone_any wr.heap.size A9 N c9 stF.l wr.drew HI9.out (Nat.le_refl _) (by omega)).mono (fun _ _ h => h.n HNF.out)).mono ?_; rintro e w7 ⟨A7, c7, rfl, ho7, hb7⟩; have hA7 := ((Below.refl wr.heap.size wr).drew).trans hb7)
          )
          go_wp2_with fail
          all_goals
            go_ret3
            rw [HRES.out]
            have hll : stF.l.length = N := HNF.out
            have hbut := (But2.but HB4.out HBB.out hwbw).trans (But.of hA7)
            refine ⟨A7, c7, by rw [hll, ← HRS.out, HD5.out, HT4.out]; rfl, by rw [hll]; exact ho7.gls, HM9.out.below hA7 HM9.out.lt, hbut⟩
        · have HT4 := Lib.hid (show max d (p : Int) = d by omega)
          have t1 : decide (d < (p : Int)) = false := by simp; omega
          have t2 : decide ((p : Int) < d) = true := by simp; omega
          have t3 : decide ((p : Int) ≤ d) = true := by simp; omega
          have t4 : max d (p : Int) = d := by omega
          have t5 : ¬ d ≤ (p : Int) := by omega
          have t6 : ¬ d < (p : Int) := by omega
          go_wp2_with fail
          go_region_held3 (fun W => W.cell? ⟨bw, 1, none⟩ = some (.slice A9 N c9)) (first | exact k9 wr hA9 | exact k9 w7 hA7)
            (first
              | (go_at_call 21; refine ((gclone_any wr.heap.size A9 N c9 stF.l wr.drew HI9.out (Nat.le_refl _) (by omega)).mono (fun _ _ h => h.n HNF.out)).mono ?_; rintro e w7 ⟨A7, c7, rfl, ho7, hb7⟩; have hA7 := ((Below.refl wr.heap.size wr).drew).trans hb7)
          )
          go_wp2_with fail
          all_goals
            go_ret3
            rw [HRES.out]
            have hll : stF.l.length = N := HNF.out
            have hbut := (But2.but HB4.out HBB.out hwbw).trans (But.of hA7)
            refine ⟨A7, c7, by rw [hll, ← HRS.out, HD5.out, HT4.out]; rfl, by rw [hll]; exact ho7.gls, HM9.out.below hA7 HM9.out.lt, hbut⟩

end Go.Proofs.Ytngdolmmaiogiaa
