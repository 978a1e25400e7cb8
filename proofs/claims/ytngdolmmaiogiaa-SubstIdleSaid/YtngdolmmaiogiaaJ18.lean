/- Joined: NestP NestA CtxP More OnceA. -/
import Derived.Test.YtngdolmmaiogiaaJ17
import Derived.Deep.RegionHeld3

/- What a context does by its nests, plainly. No condition. Printed by wip/tools. -/
namespace Go.Proofs.Ytngdolmmaiogiaa
open Go.RowKit

/-- what a nest does: the buffer, where its In stands, how much is left -/
structure NSt where
  l : List Gl
  pl : List Int
  L : Nat
def nest1 (do_ : Nat → List Gl → Int → Nat → Option (List Gl) × Nat) (st : NSt) (n : Int × Int) : NSt :=
  if 0 ≤ n.1 ∧ n.1 < st.pl.length then
    if 0 ≤ st.pl.getD n.1.toNat 0 ∧ st.pl.getD n.1.toNat 0 < st.l.length then
      match do_ st.L st.l n.2 (st.pl.getD n.1.toNat 0).toNat with
      | (some now, L') => ⟨now, movB st.pl (st.pl.getD n.1.toNat 0) st.l.length now.length, L'⟩
      | (none, L') => ⟨st.l, st.pl, L'⟩
    else st
  else st
/-- what a closure leaves that does a lookup -/
def RetDo (w : World) (bm : Nat) (F : Fnt) : Option (List Gl) × Nat → Ending → World → Prop
  | (none, L'), e, w' => (∃ A n c, e = .returned (.tuple #[.slice A n c, .bool false])) ∧ MBox w' bm F L' ∧ But bm w w'
  | (some gs, L'), e, w' => ∃ A c, e = .returned (.tuple #[.slice A gs.length c, .bool true]) ∧ GlsR w' w'.heap.size A gs.length c gs ∧ MBox w' bm F L' ∧ But bm w w'
/-- but for two blocks all is as it was -/
structure But2 (bm bw : Nat) (w w' : World) : Prop where
  os : w'.os = w.os
  tape : w'.tape = w.tape
  output : w'.output = w.output
  size : w.heap.size ≤ w'.heap.size
  block : ∀ k, k < w.heap.size → k ≠ bm → k ≠ bw → w'.heap[k]? = w.heap[k]?
theorem But2.refl (bm bw : Nat) (w : World) : But2 bm bw w w := ⟨rfl, rfl, rfl, Nat.le_refl _, fun _ _ _ _ => rfl⟩
theorem But2.trans {bm bw : Nat} {a b c : World} (h : But2 bm bw a b) (k : But2 bm bw b c) : But2 bm bw a c :=
  ⟨k.os.trans h.os, k.tape.trans h.tape, k.output.trans h.output, Nat.le_trans h.size k.size, fun j hj h1 h2 => (k.block j (Nat.lt_of_lt_of_le hj h.size) h1 h2).trans (h.block j hj h1 h2)⟩
theorem But2.of {bm bw : Nat} {w w' : World} (h : But bm w w') : But2 bm bw w w' := ⟨h.os, h.tape, h.output, h.size, fun j hj h1 _ => h.block j hj (fun e => h1 (Option.some.inj e))⟩
theorem But2.put (bm bw : Nat) (w : World) (j : Nat) (v : Value) : But2 bm bw w (w.setCell ⟨bw, j, none⟩ v) := by
  have h := But.put bw w j v
  exact ⟨h.os, h.tape, h.output, h.size, fun k hk _ h2 => h.block k hk (fun e => h2 (Option.some.inj e))⟩
/-- a context's box under way: the closure, the buffer, the places -/
def WBox (w : World) (bw : Nat) (fv : Value) (A : Option Addr) (n c : Nat) (Ap : Option Addr) (np cp : Nat) : Prop := w.heap[bw]? = some (.cells #[fv, .slice A n c, .slice Ap np cp] 137 (0, 0))
/-- a state under way -/
def NRd (w : World) (bm bw : Nat) (F : Fnt) (fv : Value) (st : NSt) : Prop :=
  MBox w bm F st.L ∧ ∃ A c Ap cp, WBox w bw fv A st.l.length c Ap st.pl.length cp ∧ GlsR w w.heap.size A st.l.length c st.l ∧ Ints w w.heap.size Ap st.pl.length cp st.pl ∧ ∀ x, Ap = some x → x.block ≠ bm ∧ x.block ≠ bw
/-- glyphs do not lie in a context's box -/
theorem GlsR.neW {w : World} {B b o n c bw : Nat} {gs : List Gl} {fv : Value} {A Ap : Option Addr} {n1 c1 np cp : Nat} (h : GlsR w B (some ⟨b, o, none⟩) n c gs) (hn : 0 < n) (hm : WBox w bw fv A n1 c1 Ap np cp) : b ≠ bw := by
  rintro rfl
  obtain ⟨b', o', e, _, h2⟩ := h.2.2.2.2 hn
  cases e
  obtain ⟨g0, hg⟩ : ∃ g0, gs[0]? = some g0 := ⟨_, List.getElem?_eq_getElem (by rw [h.1]; exact hn)⟩
  have h3 := h2 9 (.int .i64 g0.ma) (by have h4 := glCells_at (i := 9) hg (by omega); rw [Nat.zero_mul, Nat.zero_add] at h4; rw [h4]; rfl)
  rw [cell_of_row _ _ _ _ _ _ hm] at h3
  rw [Array.getElem?_eq_none (by simp)] at h3
  cases h3
theorem GlsR.but2 {w w' : World} {B n c bm bw L : Nat} {F : Fnt} {gs : List Gl} {fv : Value} {A A1 Ap : Option Addr} {n1 c1 np cp : Nat} (h : GlsR w B A n c gs) (hm : MBox w bm F L) (hw : WBox w bw fv A1 n1 c1 Ap np cp) (hb : But2 bm bw w w') (hB : B ≤ w.heap.size) : GlsR w' B A n c gs :=
  ⟨h.1, h.2.1, h.2.2.1, h.2.2.2.1, fun hn => by
    obtain ⟨b, o, e, h1, h2⟩ := h.2.2.2.2 hn
    have hne : b ≠ bm := GlsR.ne (e ▸ h) hn hm
    have hne2 : b ≠ bw := GlsR.neW (e ▸ h) hn hw
    exact ⟨b, o, e, h1, fun j v hj => (World.cell?_of_block (a := ⟨b, o + j, none⟩) (hb.block b (by omega) hne hne2)).trans (h2 j v hj)⟩⟩
theorem Ints.but2 {w w' : World} {B n c bm bw : Nat} {A : Option Addr} {zs : List Int} (h : Ints w B A n c zs) (hb : But2 bm bw w w') (hB : B ≤ w.heap.size) (ha : ∀ x, A = some x → x.block ≠ bm ∧ x.block ≠ bw) : Ints w' B A n c zs :=
  ⟨h.1, h.2.1, h.2.2.1, h.2.2.2.1, fun k x hx => by
    obtain ⟨b, o, hA, hbB, hc⟩ := h.2.2.2.2 k x hx
    have h1 := ha _ hA
    exact ⟨b, o, hA, hbB, (World.cell?_of_block (a := ⟨b, o + k, none⟩) (hb.block b (by omega) h1.1 h1.2)).trans hc⟩⟩

end Go.Proofs.Ytngdolmmaiogiaa

/- The walk of (*work).nest. Condition: what it reads reads as plain data; a contract of the closure. Printed by wip/tools. -/
namespace Go.Proofs.Ytngdolmmaiogiaa
open Go.RowKit

/-- a nest's state behind its doing -/
def nestR (st : NSt) (p : Nat) : Option (List Gl) × Nat → NSt
  | (some now, L') => ⟨now, movB st.pl (p : Int) st.l.length now.length, L'⟩
  | (none, L') => ⟨st.l, st.pl, L'⟩
theorem nest1_go {do_ : Nat → List Gl → Int → Nat → Option (List Gl) × Nat} {st : NSt} {nn : Int × Int} {p : Nat} {r : Option (List Gl) × Nat} (h1 : 0 ≤ nn.1 ∧ nn.1 < st.pl.length) (h2 : st.pl.getD nn.1.toNat 0 = (p : Int)) (h3 : p < st.l.length) (hr : do_ st.L st.l nn.2 p = r) : nest1 do_ st nn = nestR st p r := by
  unfold nest1
  rw [if_pos h1, h2, if_pos ⟨by omega, by omega⟩, Int.toNat_natCast, hr]
  rcases r with ⟨_ | now, L'⟩ <;> rfl
set_option maxRecDepth 100000 in
set_option maxHeartbeats 4000000 in
theorem nest_any (do_ : Nat → List Gl → Int → Nat → Option (List Gl) × Nat) (F : Fnt) (bm bw k1 k2 : Nat) (st : NSt) (nn : Int × Int) (w : World) (hbm : bm ≠ bw) (hN : NRd w bm bw F (.func (.func 45) #[] #[.pointer (some ⟨k1, 0, none⟩), .pointer (some ⟨k2, 0, none⟩)]) st) (hdo : ∀ W L gs A n c lk p, But2 bm bw w W → MBox W bm F L → GlsR W W.heap.size A n c gs → n ≤ 16384 → p < n → L ≤ 65536 → Calls Try.prog 45 #[.slice A n c, .int .i64 lk, .int .i64 ((p : Nat) : Int), .pointer (some ⟨k1, 0, none⟩), .pointer (some ⟨k2, 0, none⟩)] W (RetDo W bm F (do_ L gs lk p))) (hdl : ∀ L gs lk p gs' L', do_ L gs lk p = (some gs', L') → gs'.length ≤ 16384) (hl : st.l.length ≤ 16384) (hp2 : st.pl.length ≤ 100000) (hL : st.L ≤ 65536) :
    Calls Try.prog 56 #[.pointer (some ⟨bw, 0, none⟩), .agg #[.int .i64 nn.1, .int .i64 nn.2]] w (fun e w' => e = .returned (.tuple #[]) ∧ NRd w' bm bw F (.func (.func 45) #[] #[.pointer (some ⟨k1, 0, none⟩), .pointer (some ⟨k2, 0, none⟩)]) (nest1 do_ st nn) ∧ But2 bm bw w w') := by
  obtain ⟨hM, A, c, Ap, cp, hW, hI, hP, hAp⟩ := hN
  have hcap := hI.cap
  have hcapp := hP.cap
  have hlen := hI.length
  have hlenp := hP.length
  have hbmw := hM.lt
  have hbww : bw < w.heap.size := (Array.getElem?_eq_some_iff.1 hW).1
  have HM := Lib.hid hM
  have HW := Lib.hid hW
  have HI := Lib.hid hI
  have HP := Lib.hid hP
  have HAP := Lib.hid hAp
  have HDO := Lib.hid hdo
  have HDL := Lib.hid hdl
  obtain ⟨ln, hln⟩ : ∃ z, z = st.l.length := ⟨_, rfl⟩
  obtain ⟨pn, hpn⟩ : ∃ z, z = st.pl.length := ⟨_, rfl⟩
  obtain ⟨res, hres⟩ : ∃ z, z = nest1 do_ st nn := ⟨_, rfl⟩
  rw [← hres]
  have HRES0 := Lib.hid hres
  rw [← hln] at hl hcap
  rw [← hpn] at hp2 hcapp
  have HLN := Lib.hid hln
  have HPN := Lib.hid hpn
  clear hM hW hI hP hAp hdo hdl hres
  obtain ⟨w1, hw_w1⟩ : ∃ z, z = w.alloc (.cells #[.int .i64 nn.1, .int .i64 nn.2] 62) := ⟨_, rfl⟩
  have hs_w1 : w1.heap.size = w.heap.size + 1 := by rw [hw_w1]; simp
  have hb_w1 : Below w.heap.size w w1 := by rw [hw_w1]; exact (Below.refl _ _).alloc (Nat.le_refl _) _
  have hx_0 : w1.heap[w.heap.size]? = some (.cells #[.int .i64 nn.1, .int .i64 nn.2] 62 (0, 0)) := by rw [hw_w1]; exact heap_alloc_new _ _
  have u0 := up_fact (show w1.cell? ⟨w.heap.size, 0, none⟩ = some (.int .i64 nn.1) by rw [cell_of_row _ _ 0 _ _ _ hx_0]; rfl)
  have u1 := up_fact (show w1.cell? ⟨w.heap.size, 1, none⟩ = some (.int .i64 nn.2) by rw [cell_of_row _ _ 1 _ _ _ hx_0]; rfl)
  have hA0 := Below.refl w1.heap.size w1
  have HS1 := Lib.hid hs_w1
  have hs1 : w.heap.size + 0 < w1.heap.size := by omega
  have HB1 := Lib.hid hb_w1
  have HW_w1 := Lib.hid hw_w1
  clear hw_w1 hs_w1 hb_w1
  clear hx_0
  have HW1 := Lib.hid ((HB1.out.block bw hbww).trans HW.out)
  have b0 := up_fact (show w1.cell? ⟨bw, 0, none⟩ = some (.func (.func 45) #[] #[.pointer (some ⟨k1, 0, none⟩), .pointer (some ⟨k2, 0, none⟩)]) by rw [cell_of_row _ _ 0 _ _ _ HW1.out]; rfl)
  have b1 := up_fact (show w1.cell? ⟨bw, 1, none⟩ = some (.slice A ln c) by rw [cell_of_row _ _ 1 _ _ _ HW1.out, hln]; rfl)
  have b2 := up_fact (show w1.cell? ⟨bw, 2, none⟩ = some (.slice Ap pn cp) by rw [cell_of_row _ _ 2 _ _ _ HW1.out, hpn]; rfl)
  clear hln hpn
  by_cases hn1 : 0 ≤ nn.1
  · obtain ⟨a, ha⟩ : ∃ a : Nat, nn.1 = (a : Int) := ⟨nn.1.toNat, by omega⟩
    rw [ha] at u0
    have HA := Lib.hid ha
    by_cases hap : a < pn
    · obtain ⟨bp, op, pv, eP, hbp, hpv, cp0⟩ := HP.out.at_ (k := a) (by rw [← HPN.out]; exact hap)
      have cp1 := up_fact ((HB1.out.cell (p := ⟨bp, op + a, none⟩) hbp).trans cp0)
      have HEP := Lib.hid eP
      have HPV := Lib.hid (show st.pl.getD nn.1.toNat 0 = pv by rw [HA.out, Int.toNat_natCast, List.getD_eq_getElem?_getD, hpv]; rfl)
      have HC1 := Lib.hid (show 0 ≤ nn.1 ∧ nn.1 < (st.pl.length : Int) from by rw [HA.out, ← HPN.out]; omega)
      rw [HEP.out] at b2
      have z0 : decide ((a : Int) < 0) = false := by simp
      have z1 : decide ((pn : Int) ≤ (a : Int)) = false := by simp; omega
      have z2 : decide (pn ≤ a) = false := by simp; omega
      clear cp0 hpv eP ha hn1
      by_cases hpq : 0 ≤ pv ∧ pv < (ln : Int)
      · obtain ⟨p, rfl⟩ : ∃ p : Nat, pv = (p : Int) := ⟨pv.toNat, by omega⟩
        have hpl : p < ln := by omega
        have y0 : decide ((p : Int) < 0) = false := by simp
        have y1 : decide ((ln : Int) ≤ (p : Int)) = false := by simp; omega
        have y2 : decide (ln ≤ p) = false := by simp; omega
        clear hpq
        obtain ⟨r, hr⟩ : ∃ z, z = do_ st.L st.l nn.2 p := ⟨_, rfl⟩
        have HR := Lib.hid hr.symm
        have HN1 := Lib.hid (show res = nestR st p r by rw [HRES0.out]; exact nest1_go HC1.out HPV.out (by rw [← HLN.out]; exact hpl) hr.symm)
        clear hr
        rcases r with ⟨_ | gs', L'⟩
        · have HRES := Lib.hid (show res = ⟨st.l, st.pl, L'⟩ from HN1.out)
          go_enter Try.func56, Try.ntmps56
          go_upto_region 1 with fail
          rw [← HW_w1.out]
          have hU0 := bup hA0
          have HUP := Lib.hid (bup hA0)
          refine wp_region_up w1.heap.size (by kernel_rfl) (by kernel_rfl) ?_
          repeat (go_big_quiet_step (fail))
          refine wpQuiet_nil (up_all fun w2 hb2 => ?_)
          have hA0 := bgo hA0 hb2
          clear hb2 HUP hU0
          go_upto_region 2 with fail
          have hU0 := bup hA0
          have HUP := Lib.hid (bup hA0)
          refine wp_region_up w2.heap.size (by kernel_rfl) (by kernel_rfl) ?_
          repeat (go_big_quiet_step (fail))
          refine wpQuiet_nil (up_all fun w3 hb2 => ?_)
          have hA0 := bgo hA0 hb2
          clear hb2 HUP hU0
          go_upto_region 4 with fail
          have HW3 := Lib.hid (HB1.out.trans (hA0.mono (by omega)))
          have HD := Lib.hid (HDO.out w3.drew st.L st.l A ln c nn.2 p (But2.of (But.of HW3.out.drew)) (HM.out.below HW3.out.drew hbmw) (by rw [HLN.out]; exact (HI.out.below HW3.out.drew).more HW3.out.size) hl hpl hL)
          rw [HR.out] at HD
          have hs3 := HW3.out.size
          go_region_held3 (fun W => W.cell? ⟨bw, 0, none⟩ = some (.func (.func 45) #[] #[.pointer (some ⟨k1, 0, none⟩), .pointer (some ⟨k2, 0, none⟩)]) ∧ W.cell? ⟨bw, 1, none⟩ = some (.slice A ln c) ∧ W.cell? ⟨w.heap.size, 1, none⟩ = some (.int .i64 nn.2)) (first | exact ⟨b0 w3 hA0, b1 w3 hA0, u1 w3 hA0⟩ | exact ⟨k40, k41, k42⟩)
            (first
              | (go_at_call 45; refine (HD.out).mono ?_; rintro e w4 ⟨⟨A4, n4, c4, rfl⟩, hm4, hb4⟩; have k40 := (hb4.cell (p := ⟨bw, 0, none⟩) (show bw < w3.heap.size by omega) (Ne.symm hbm)).trans (b0 w3 hA0); have k41 := (hb4.cell (p := ⟨bw, 1, none⟩) (show bw < w3.heap.size by omega) (Ne.symm hbm)).trans (b1 w3 hA0); have k42 := (hb4.cell (p := ⟨w.heap.size, 1, none⟩) (show w.heap.size < w3.heap.size by have := hA0.size; omega) (show w.heap.size ≠ bm by omega)).trans (u1 w3 hA0))
          )
          have hB34 := (But.of (bm := bm) HW3.out.drew).trans hb4
          have HB34 := Lib.hid hB34
          have HW4 := Lib.hid ((HB34.out.block bw hbww (fun e => hbm (Option.some.inj e).symm)).trans HW.out)
          have HP4 := Lib.hid (HP.out.but2 (But2.of (bw := bw) HB34.out) (Nat.le_refl _) HAP.out)
          go_wp2_with fail
          first | go_end0 | refine bodyPost_ret (results_none rfl _ _ _) rfl ?_
          rw [HRES.out]
          exact ⟨rfl, ⟨hm4, A, c, Ap, cp, HW4.out, (HI.out.but HM.out HB34.out (Nat.le_refl _)).more HB34.out.size, HP4.out.more HB34.out.size, HAP.out⟩, But2.of HB34.out⟩
        · have HRES := Lib.hid (show res = ⟨gs', movB st.pl (p : Int) ln gs'.length, L'⟩ by rw [HLN.out]; exact HN1.out)
          obtain ⟨N, hN⟩ : ∃ z, z = gs'.length := ⟨_, rfl⟩
          rw [← hN] at HRES
          have HN := Lib.hid hN
          have hNl : N ≤ 16384 := by rw [hN]; exact HDL.out _ _ _ _ _ _ HR.out
          go_enter Try.func56, Try.ntmps56
          go_upto_region 1 with fail
          rw [← HW_w1.out]
          have hU0 := bup hA0
          have HUP := Lib.hid (bup hA0)
          refine wp_region_up w1.heap.size (by kernel_rfl) (by kernel_rfl) ?_
          repeat (go_big_quiet_step (fail))
          refine wpQuiet_nil (up_all fun w2 hb2 => ?_)
          have hA0 := bgo hA0 hb2
          clear hb2 HUP hU0
          go_upto_region 2 with fail
          have hU0 := bup hA0
          have HUP := Lib.hid (bup hA0)
          refine wp_region_up w2.heap.size (by kernel_rfl) (by kernel_rfl) ?_
          repeat (go_big_quiet_step (fail))
          refine wpQuiet_nil (up_all fun w3 hb2 => ?_)
          have hA0 := bgo hA0 hb2
          clear hb2 HUP hU0
          go_upto_region 4 with fail
          have HW3 := Lib.hid (HB1.out.trans (hA0.mono (by omega)))
          have HD := Lib.hid (HDO.out w3.drew st.L st.l A ln c nn.2 p (But2.of (But.of HW3.out.drew)) (HM.out.below HW3.out.drew hbmw) (by rw [HLN.out]; exact (HI.out.below HW3.out.drew).more HW3.out.size) hl hpl hL)
          rw [HR.out] at HD
          have HD := Lib.hid (HD.out.mono (R' := fun e w' => ∃ A c, e = .returned (.tuple #[.slice A N c, .bool true]) ∧ GlsR w' w'.heap.size A N c gs' ∧ MBox w' bm F L' ∧ But bm w3.drew w') (fun e w' h => by rw [HN.out]; exact h))
          have hs3 := HW3.out.size
          clear hN
          go_region_held3 (fun W => W.cell? ⟨bw, 0, none⟩ = some (.func (.func 45) #[] #[.pointer (some ⟨k1, 0, none⟩), .pointer (some ⟨k2, 0, none⟩)]) ∧ W.cell? ⟨bw, 1, none⟩ = some (.slice A ln c) ∧ W.cell? ⟨w.heap.size, 1, none⟩ = some (.int .i64 nn.2)) (first | exact ⟨b0 w3 hA0, b1 w3 hA0, u1 w3 hA0⟩ | exact ⟨k40, k41, k42⟩)
            (first
              | (go_at_call 45; refine (HD.out).mono ?_; rintro e w4 ⟨A4, c4, rfl, hi4, hm4, hb4⟩; have k40 := (hb4.cell (p := ⟨bw, 0, none⟩) (show bw < w3.heap.size by omega) (Ne.symm hbm)).trans (b0 w3 hA0); have k41 := (hb4.cell (p := ⟨bw, 1, none⟩) (show bw < w3.heap.size by omega) (Ne.symm hbm)).trans (b1 w3 hA0); have k42 := (hb4.cell (p := ⟨w.heap.size, 1, none⟩) (show w.heap.size < w3.heap.size by have := hA0.size; omega) (show w.heap.size ≠ bm by omega)).trans (u1 w3 hA0))
          )
          have hB34 := (But.of (bm := bm) HW3.out.drew).trans hb4
          have HB34 := Lib.hid hB34
          have HW4 := Lib.hid ((HB34.out.block bw hbww (fun e => hbm (Option.some.inj e).symm)).trans HW.out)
          have HP4 := Lib.hid (HP.out.but2 (But2.of (bw := bw) HB34.out) (Nat.le_refl _) HAP.out)
          have k43 := (show w4.cell? ⟨bw, 2, none⟩ = some (.slice Ap pn cp) by rw [cell_of_row _ _ 2 _ _ _ HW4.out, HPN.out]; rfl)
          have HM4 := Lib.hid hm4
          have HI4 := Lib.hid hi4
          have hcap4 := hi4.cap
          have hs4 := HB34.out.size
          have HMV := Lib.hid (show Calls Try.prog 71 #[.slice Ap pn cp, .int .i64 (p : Int), .int .i64 (ln : Int), .int .i64 (N : Int)] w4.drew (RetOwn 3 w4.drew pn (movB st.pl (p : Int) ln N)) from by
            rw [HPN.out]
            exact moved_any w.heap.size Ap st.pl.length cp st.pl (p : Int) ln N w4.drew HP4.out.drew (show w.heap.size ≤ w4.heap.size by omega) (by rw [← HPN.out]; exact hp2))
          clear hi4 hm4 hb4 k42 hB34 b0 b1 b2 u0 u1 hA0 HD
          rw [HEP.out] at k43 HMV
          go_wp2_with fail
          go_region_with (first
            | (go_at_call 71; refine (HMV.out).mono ?_; rintro e w6 ⟨A6, c6, rfl, ho6, hb6'⟩; have hb6 := (Below.refl w4.heap.size w4).drew.trans hb6'; have hW6 := (hb6.block bw (by omega)).trans HW4.out; have k61 := (show w6.cell? ⟨bw, 1, none⟩ = some (.slice A st.l.length c) by rw [cell_of_row _ _ 1 _ _ _ hW6]; rfl); have k62 := (show w6.cell? ⟨bw, 2, none⟩ = some (.slice Ap st.pl.length cp) by rw [cell_of_row _ _ 2 _ _ _ hW6]; rfl); have f61 := (show w6.frozen? ⟨bw, 1, none⟩ = false from frozen_of_row _ _ _ _ _ hW6); have f62 := (show w6.frozen? ⟨bw, 2, none⟩ = false from frozen_of_row _ _ _ _ _ hW6)))
          all_goals
            have HO6 := Lib.hid ho6
            have HW6 := Lib.hid hW6
            have HB6 := Lib.hid hb6
            have HM6 := Lib.hid (HM4.out.below hb6 (by omega))
            clear ho6 hW6 hb6 hb6'
            go_wp2_with fail
            first | go_end0 | refine bodyPost_ret (results_none rfl _ _ _) rfl ?_
            rw [HRES.out]
            have e1 : gs'.length = N := HN.out.symm
            have e2 : (movB st.pl (p : Int) ln N).length = pn := by unfold movB; rw [List.length_map, HPN.out]
            have hs6 := HB6.out.size
            have b68 := (But2.put bm bw w6 2 (.slice A6 pn c6)).trans (But2.put bm bw _ 1 (.slice A4 N c4))
            have ha6 : ∀ x, A6 = some x → x.block ≠ bm ∧ x.block ≠ bw := fun x hx => by
              have h1 : w4.heap.size ≤ x.block := (HO6.out.block x.block (by rw [hx]; rfl)).1
              omega
            refine ⟨rfl, ⟨((Below.heap_setCell _ _ _ bm hbm).trans (Below.heap_setCell _ _ _ bm hbm)).trans HM6.out, A4, c4, A6, c6, ?_, ?_, ?_, ha6⟩, (But2.of HB34.out).trans ((But2.of (But.of HB6.out)).trans b68)⟩
            · show WBox _ _ _ _ gs'.length _ _ (movB st.pl (p : Int) ln N).length _
              rw [e1, e2]
              exact heap_setCell_same _ bw 1 _ _ _ (heap_setCell_same _ bw 2 _ _ _ HW6.out)
            · show GlsR _ _ _ gs'.length _ _
              rw [e1]
              exact ((HI4.out.below HB6.out).but2 HM6.out HW6.out b68 hs6).more (Nat.le_trans hs6 b68.size)
            · show Ints _ _ _ (movB st.pl (p : Int) ln N).length _ _
              rw [e2]
              exact (HO6.out.ints.but2 b68 (Nat.le_refl _) ha6).more b68.size
      · have HRES := Lib.hid (show res = st by rw [HRES0.out]; unfold nest1; rw [if_pos HC1.out, HPV.out, if_neg (by rw [← HLN.out]; exact hpq)])
        by_cases hp0 : pv < 0
        · have y0 : decide (pv < 0) = true := by simp [hp0]
          clear hpq
          go_enter Try.func56, Try.ntmps56
          go_upto_region 1 with fail
          rw [← HW_w1.out]
          have hU0 := bup hA0
          have HUP := Lib.hid (bup hA0)
          refine wp_region_up w1.heap.size (by kernel_rfl) (by kernel_rfl) ?_
          repeat (go_big_quiet_step (fail))
          refine wpQuiet_nil (up_all fun w2 hb2 => ?_)
          have hA0 := bgo hA0 hb2
          clear hb2 HUP hU0
          go_upto_region 2 with fail
          have hU0 := bup hA0
          have HUP := Lib.hid (bup hA0)
          refine wp_region_up w2.heap.size (by kernel_rfl) (by kernel_rfl) ?_
          repeat (go_big_quiet_step (fail))
          refine wpQuiet_nil (up_all fun w3 hb2 => ?_)
          have hA0 := bgo hA0 hb2
          clear hb2 HUP hU0
          go_wp2_with fail
          first | go_end0 | refine bodyPost_ret (results_none rfl _ _ _) rfl ?_
          rw [HRES.out]
          exact ⟨rfl, ⟨HM.out.below (HB1.out.trans (hA0.mono (by omega))) hbmw, A, c, Ap, cp, (HB1.out.trans (hA0.mono (by omega))).block bw hbww |>.trans HW.out, ((HI.out.below (HB1.out.trans (hA0.mono (by omega)))).more (HB1.out.trans (hA0.mono (by omega))).size), ((HP.out.below (HB1.out.trans (hA0.mono (by omega)))).more (HB1.out.trans (hA0.mono (by omega))).size), HAP.out⟩, But2.of (But.of (HB1.out.trans (hA0.mono (by omega))))⟩
        · have y0 : decide (pv < 0) = false := by simp; omega
          have y1 : decide ((ln : Int) ≤ pv) = true := by simp; omega
          clear hpq
          go_enter Try.func56, Try.ntmps56
          go_upto_region 1 with fail
          rw [← HW_w1.out]
          have hU0 := bup hA0
          have HUP := Lib.hid (bup hA0)
          refine wp_region_up w1.heap.size (by kernel_rfl) (by kernel_rfl) ?_
          repeat (go_big_quiet_step (fail))
          refine wpQuiet_nil (up_all fun w2 hb2 => ?_)
          have hA0 := bgo hA0 hb2
          clear hb2 HUP hU0
          go_upto_region 2 with fail
          have hU0 := bup hA0
          have HUP := Lib.hid (bup hA0)
          refine wp_region_up w2.heap.size (by kernel_rfl) (by kernel_rfl) ?_
          repeat (go_big_quiet_step (fail))
          refine wpQuiet_nil (up_all fun w3 hb2 => ?_)
          have hA0 := bgo hA0 hb2
          clear hb2 HUP hU0
          go_wp2_with fail
          first | go_end0 | refine bodyPost_ret (results_none rfl _ _ _) rfl ?_
          rw [HRES.out]
          exact ⟨rfl, ⟨HM.out.below (HB1.out.trans (hA0.mono (by omega))) hbmw, A, c, Ap, cp, (HB1.out.trans (hA0.mono (by omega))).block bw hbww |>.trans HW.out, ((HI.out.below (HB1.out.trans (hA0.mono (by omega)))).more (HB1.out.trans (hA0.mono (by omega))).size), ((HP.out.below (HB1.out.trans (hA0.mono (by omega)))).more (HB1.out.trans (hA0.mono (by omega))).size), HAP.out⟩, But2.of (But.of (HB1.out.trans (hA0.mono (by omega))))⟩
    · have HRES := Lib.hid (show res = st by rw [HRES0.out]; unfold nest1; rw [if_neg (by rw [HA.out, ← HPN.out]; omega)])
      have z0 : decide ((a : Int) < 0) = false := by simp
      have z1 : decide ((pn : Int) ≤ (a : Int)) = true := by simp; omega
      have z2 : decide (pn ≤ a) = true := by simp; omega
      clear ha hn1
      go_enter Try.func56, Try.ntmps56
      go_upto_region 1 with fail
      rw [← HW_w1.out]
      have hU0 := bup hA0
      have HUP := Lib.hid (bup hA0)
      refine wp_region_up w1.heap.size (by kernel_rfl) (by kernel_rfl) ?_
      repeat (go_big_quiet_step (fail))
      refine wpQuiet_nil (up_all fun w2 hb2 => ?_)
      have hA0 := bgo hA0 hb2
      clear hb2 HUP hU0
      go_wp2_with fail
      first | go_end0 | refine bodyPost_ret (results_none rfl _ _ _) rfl ?_
      rw [HRES.out]
      exact ⟨rfl, ⟨HM.out.below (HB1.out.trans (hA0.mono (by omega))) hbmw, A, c, Ap, cp, (HB1.out.trans (hA0.mono (by omega))).block bw hbww |>.trans HW.out, ((HI.out.below (HB1.out.trans (hA0.mono (by omega)))).more (HB1.out.trans (hA0.mono (by omega))).size), ((HP.out.below (HB1.out.trans (hA0.mono (by omega)))).more (HB1.out.trans (hA0.mono (by omega))).size), HAP.out⟩, But2.of (But.of (HB1.out.trans (hA0.mono (by omega))))⟩
  · have HRES := Lib.hid (show res = st by rw [HRES0.out]; unfold nest1; rw [if_neg (by omega)])
    have z0 : decide (nn.1 < 0) = true := by simp; omega
    go_enter Try.func56, Try.ntmps56
    go_upto_region 1 with fail
    rw [← HW_w1.out]
    have hU0 := bup hA0
    have HUP := Lib.hid (bup hA0)
    refine wp_region_up w1.heap.size (by kernel_rfl) (by kernel_rfl) ?_
    repeat (go_big_quiet_step (fail))
    refine wpQuiet_nil (up_all fun w2 hb2 => ?_)
    have hA0 := bgo hA0 hb2
    clear hb2 HUP hU0
    go_wp2_with fail
    first | go_end0 | refine bodyPost_ret (results_none rfl _ _ _) rfl ?_
    rw [HRES.out]
    exact ⟨rfl, ⟨HM.out.below (HB1.out.trans (hA0.mono (by omega))) hbmw, A, c, Ap, cp, (HB1.out.trans (hA0.mono (by omega))).block bw hbww |>.trans HW.out, ((HI.out.below (HB1.out.trans (hA0.mono (by omega)))).more (HB1.out.trans (hA0.mono (by omega))).size), ((HP.out.below (HB1.out.trans (hA0.mono (by omega)))).more (HB1.out.trans (hA0.mono (by omega))).size), HAP.out⟩, But2.of (But.of (HB1.out.trans (hA0.mono (by omega))))⟩

end Go.Proofs.Ytngdolmmaiogiaa

/- What context.Apply does, plainly. No condition. Printed by wip/tools. -/
namespace Go.Proofs.Ytngdolmmaiogiaa
open Go.RowKit

theorem sizeWork : (Try.prog.info? 137).map (·.size) = some 3 := by kernel_rfl
theorem oneWork (k : FuncId) (x y : Value) (A A2 : Option Addr) (n c n2 : Nat) : ∀ c2 : Nat, (#[.func (.func k) #[] #[x, y], .slice A n c, .slice A2 n2 c2] : Array Value).all (·.oneCell') = true := fun _ => by simp [Value.oneCell']
def ctxB (do_ : Nat → List Gl → Int → Nat → Option (List Gl) × Nat) (P : PFt) (l : Lk) (su : List PSu) (gs : List Gl) (p L : Nat) : Option (List Gl × Int) × Nat :=
  match matB P l su gs p with
  | none => (none, L)
  | some (i, ps) => match su[i]? with
    | none => (none, L)
    | some s => (some ((s.ne.foldl (nest1 do_) ⟨gs, natI ps, L⟩).l, max (((s.ne.foldl (nest1 do_) ⟨gs, natI ps, L⟩).l.length : Int) - ((gs.length - lastN ps - 1 : Nat) : Int)) (p : Int)), (s.ne.foldl (nest1 do_) ⟨gs, natI ps, L⟩).L)
/-- What context.Apply leaves. -/
def RetCtx (w : World) (bm : Nat) (F : Fnt) : Option (List Gl × Int) × Nat → Ending → World → Prop
  | (none, L'), e, w' => e = .returned (.tuple #[.slice none 0 0, .int .i64 0, .bool false]) ∧ MBox w' bm F L' ∧ But bm w w'
  | (some (gs, k), L'), e, w' => ∃ A c, e = .returned (.tuple #[.slice A gs.length c, .int .i64 k, .bool true]) ∧ GlsR w' w'.heap.size A gs.length c gs ∧ MBox w' bm F L' ∧ But bm w w'
theorem nest1_ok {do_ : Nat → List Gl → Int → Nat → Option (List Gl) × Nat} (h1 : ∀ L gs lk p gs' L', do_ L gs lk p = (some gs', L') → gs'.length ≤ 16384) (h2 : ∀ L gs lk p r L', do_ L gs lk p = (r, L') → L' ≤ L) {st : NSt} {nn : Int × Int} (hl : st.l.length ≤ 16384) : (nest1 do_ st nn).l.length ≤ 16384 ∧ (nest1 do_ st nn).pl.length = st.pl.length ∧ (nest1 do_ st nn).L ≤ st.L := by
  unfold nest1
  split
  · split
    · generalize hr : do_ st.L st.l nn.2 (st.pl.getD nn.1.toNat 0).toNat = r
      rcases r with ⟨_ | now, L'⟩
      · exact ⟨hl, rfl, h2 _ _ _ _ _ _ hr⟩
      · exact ⟨h1 _ _ _ _ _ _ hr, (by show (movB _ _ _ _).length = _; unfold movB; rw [List.length_map]), h2 _ _ _ _ _ _ hr⟩
    · exact ⟨hl, rfl, Nat.le_refl _⟩
  · exact ⟨hl, rfl, Nat.le_refl _⟩
theorem NRd.below {w w' : World} {bm bw : Nat} {F : Fnt} {fv : Value} {st : NSt} (h : NRd w bm bw F fv st) (hb : Below w.heap.size w w') : NRd w' bm bw F fv st := by
  obtain ⟨hM, A, c, Ap, cp, hW, hI, hP, hAp⟩ := h
  exact ⟨hM.below hb hM.lt, A, c, Ap, cp, (hb.block bw (Array.getElem?_eq_some_iff.1 hW).1).trans hW, (hI.below hb).more hb.size, (hP.below hb).more hb.size, hAp⟩
theorem mat1_some {P : PFt} {l : Lk} {gs : List Gl} {p : Nat} {s : PSu} {ps : List Nat} (h : mat1 P l gs p s = some ps) : ∃ rest, ps = p :: rest ∧ rest.length ≤ s.inn.length ∧ ∀ q ∈ rest, q < gs.length := by
  unfold mat1 at h
  split at h
  · cases h
  · rename_i i0 ir hinn
    split at h
    · cases h
    · split at h
      · split at h
        · cases h
        · rename_i rest hrest
          split at h
          · cases h
          · split at h
            · cases h
            · cases h
              have h1 : rest.length = ir.length := stB_length (show stB _ gs p ir = some rest from hrest)
              exact ⟨rest, rfl, by rw [hinn, List.length_cons]; omega, stB_lt (show stB _ gs p ir = some rest from hrest)⟩
      · cases h
theorem matB_some {P : PFt} {l : Lk} {su : List PSu} {gs : List Gl} {p i : Nat} {ps : List Nat} (hp : p < gs.length) (h : matB P l su gs p = some (i, ps)) : ∃ s, su[i]? = some s ∧ 0 < ps.length ∧ ps.length ≤ s.inn.length + 1 ∧ lastN ps < gs.length := by
  obtain ⟨s, _, h2, h3⟩ := matL_idx h
  rw [Nat.sub_zero] at h2
  obtain ⟨rest, rfl, h4, h5⟩ := mat1_some h3
  refine ⟨s, h2, by simp, by simp; omega, ?_⟩
  unfold lastN
  rw [List.getD_eq_getElem?_getD, List.length_cons, Nat.add_sub_cancel, List.getElem?_eq_getElem (by simp)]
  have hm := List.getElem_mem (l := p :: rest) (n := rest.length) (by simp)
  rcases List.mem_cons.1 hm with h6 | h6
  · rw [Option.getD_some, h6]; exact hp
  · exact h5 _ h6
/-- a fact of a cell below a block -/
theorem fact_below {w : World} {B : Nat} {p : Addr} {v : Value} (h : w.cell? p = some v) (hp : p.block < B) : ∀ W, Below B w W → W.cell? p = some v := fun _ hb => (hb.cell hp).trans h
theorem But2.below {bm bw B : Nat} {w w' : World} (h : But2 bm bw w w') (h1 : B ≤ bm) (h2 : B ≤ bw) (h3 : B ≤ w.heap.size) : Below B w w' :=
  ⟨h.os, h.tape, h.output, h.size, fun k hk => h.block k (by omega) (by omega) (by omega)⟩
theorem But2.but {bm bw : Nat} {w w' w'' : World} (h : But bm w w') (k : But2 bm bw w' w'') (hw : w.heap.size ≤ bw) : But bm w w'' :=
  ⟨k.os.trans h.os, k.tape.trans h.tape, k.output.trans h.output, Nat.le_trans h.size k.size, fun j hj hne => (k.block j (Nat.lt_of_lt_of_le hj h.size) (fun e => hne (by rw [e])) (by omega)).trans (h.block j hj hne)⟩

end Go.Proofs.Ytngdolmmaiogiaa

/- What reads below a block reads below a later one. No condition. -/
namespace Go.Proofs.Ytngdolmmaiogiaa
open Go.RowKit

section
variable {w : World} {B B' : Nat}
theorem Shd.more (hB : B ≤ B') : ∀ {s : Sh} {cs : List Value}, Shd w B s cs → Shd w B' s cs
  | .int _, _, h => h
  | .bool, _, h => h
  | .str, _, h => h
  | .nil, _, h => h
  | .cons _ _, _, h => by
    obtain ⟨c1, c2, e, h1, h2⟩ := h
    exact ⟨c1, c2, e, Shd.more hB h1, Shd.more hB h2⟩
  | .sl _, _, h => by
    obtain ⟨A, n, c, e, h1, h2, h3, h4⟩ := h
    refine ⟨A, n, c, e, h1, h2, h3, fun k hk => ?_⟩
    obtain ⟨b, o, cs', e', hb, hl, hc, hs⟩ := h4 k hk
    exact ⟨b, o, cs', e', by omega, hl, hc, Shd.more hB hs⟩
theorem ShSl.more {e : Sh} {A : Option Addr} {n c : Nat} (h : ShSl w B e A n c) (hB : B ≤ B') : ShSl w B' e A n c := Shd.more hB h
theorem FntOk.more {F : Fnt} (h : FntOk w B F) (hB : B ≤ B') : FntOk w B' F := ⟨h.hG.more hB, h.hM.more hB, h.hL.more hB, h.hF.more hB, h.hS.more hB⟩
theorem SbOk.more {s : Sb} (h : SbOk w B s) (hB : B ≤ B') : SbOk w B' s := ⟨h.co.more hB, h.tt.more hB, h.li.more hB, h.ba.more hB, h.inn.more hB, h.ah.more hB, h.ne.more hB, h.va.more hB, h.pr.more hB, h.cu.more hB, h.ma.more hB, h.ho.more hB⟩
theorem Grd.more {A : Option Addr} {n c : Nat} {zss : List (List Int)} (h : Grd w B A n c zss) (hB : B ≤ B') : Grd w B' A n c zss :=
  ⟨h.1, h.2.1, h.2.2.1, fun k hk => by
    obtain ⟨b, o, A', n', c', e, h1, h2, h3⟩ := h.2.2.2 k hk
    exact ⟨b, o, A', n', c', e, by omega, h2, h3.more hB⟩⟩
theorem SlR.more {α : Type} {sz : Nat} {R R' : α → List Value → Prop} {A : Option Addr} {n c : Nat} {ps : List α} (h : SlR w B sz R A n c ps) (hB : B ≤ B') (hR : ∀ p cs, R p cs → R' p cs) : SlR w B' sz R' A n c ps :=
  ⟨h.1, h.2.1, h.2.2.1, h.2.2.2.1, fun k p hk => by
    obtain ⟨b, o, cs, e, h1, h2, h3⟩ := h.2.2.2.2 k p hk
    exact ⟨b, o, cs, e, by omega, h2, hR p cs h3⟩⟩
theorem LigR.more {p : PG} {cs : List Value} (h : LigR w B p cs) (hB : B ≤ B') : LigR w B' p cs := by
  obtain ⟨A, n, c, e, h⟩ := h; exact ⟨A, n, c, e, h.more hB⟩
theorem RowR.more {p : List PG} {cs : List Value} (h : RowR w B p cs) (hB : B ≤ B') : RowR w B' p cs := by
  obtain ⟨A, n, c, e, h⟩ := h; exact ⟨A, n, c, e, h.more hB fun _ _ h => h.more hB⟩
theorem SubOk.more {s : Sb} {p : PSu} (h : SubOk w B s p) (hB : B ≤ B') : SubOk w B' s p :=
  ⟨h.ok.more hB, h.co.more hB, h.tt.more hB, h.li.more hB fun _ _ h => h.more hB, h.ba.more hB, h.inn.more hB, h.ah.more hB, h.ne.more hB fun _ _ h => h⟩
theorem SubR.more {p : PSu} {cs : List Value} (h : SubR w B p cs) (hB : B ≤ B') : SubR w B' p cs := by
  obtain ⟨s, e, h⟩ := h; exact ⟨s, e, h.more hB⟩
theorem KsR.more {A : Option Addr} {n c : Nat} {p : List PSu} (h : KsR w B A n c p) (hB : B ≤ B') : KsR w B' A n c p := SlR.more h hB fun _ _ h => h.more hB
theorem LkR.more {p : PK} {cs : List Value} (h : LkR w B p cs) (hB : B ≤ B') : LkR w B' p cs := by
  obtain ⟨A, n, c, e, h⟩ := h; exact ⟨A, n, c, e, KsR.more h hB⟩
theorem InfR.more {p : Int × Int} {cs : List Value} (h : InfR w B p cs) (hB : B ≤ B') : InfR w B' p cs := by
  obtain ⟨ad, A, n, c, e, h⟩ := h; exact ⟨ad, A, n, c, e, h.more hB⟩
theorem FtR.more {F : Fnt} {P : PFt} (h : FtR w B F P) (hB : B ≤ B') : FtR w B' F P :=
  ⟨h.ok.more hB, h.gi.more hB fun _ _ h => h.more hB, h.ss.more hB, h.ls.more hB fun _ _ h => h.more hB⟩
/-- a lookup as it lies, with its subtables -/
abbrev LkS := Lk × List PSu
def LkR2 (w : World) (B : Nat) (p : LkS) (cs : List Value) : Prop := cs = [.int .i64 p.1.ki, .int .i64 p.1.fl, .int .i64 p.1.se, .slice p.1.su.A p.1.su.n p.1.su.c] ∧ KsR w B p.1.su.A p.1.su.n p.1.su.c p.2
theorem LkR2.below {w' : World} {p : LkS} {cs : List Value} (h : LkR2 w B p cs) (hb : Below B w w') : LkR2 w' B p cs := ⟨h.1, KsR.below h.2 hb⟩
theorem ShSl.lkr2 {A : Option Addr} {n c : Nat} (h : ShSl w B shLookup A n c) : ∃ ps, SlR w B 4 (LkR2 w B) A n c ps :=
  ShSl.slr h fun cs hs => by
    obtain ⟨ki, fl, se, Asu, nsu, csu, rfl, _, _, _, h0⟩ := hs.unLookup
    obtain ⟨p, hp⟩ := ShSl.ksr h0
    exact ⟨(⟨ki, fl, se, ⟨Asu, nsu, csu⟩⟩, p), rfl, hp⟩
end
/-- what a lookup does at a place, within k more lookups -/
def onceB (P : PFt) (Ls : List LkS) : Nat → Nat → List Gl → Int → Int → Option (List Gl × Int) × Nat
  | 0, L, _, _, _ => (none, L)
  | k + 1, L, gs, nn, at_ =>
    if 0 ≤ nn ∧ nn < (Ls.length : Int) ∧ 0 ≤ at_ ∧ at_ < (gs.length : Int) ∧ L ≠ 0 ∧ gs.length ≤ 16384 then
      match Ls[nn.toNat]?, gs[at_.toNat]? with
      | some (l, su), some g =>
        if skF P l g then (none, L)
        else if l.ki = 4 then match matB P l su gs at_.toNat with
          | none => (none, L)
          | some _ => ctxB (fun L gs lk p => ((onceB P Ls k L gs lk (p : Int)).1.map (·.1), (onceB P Ls k L gs lk (p : Int)).2)) P l su gs at_.toNat (L - 1)
        else match sngB P l su gs at_.toNat with
          | some r => (some r, L - 1)
          | none => (none, L)
      | _, _ => (none, L)
    else (none, L)
/-- a lookup within lookups, as a context does it -/
def doB (P : PFt) (Ls : List LkS) (k L : Nat) (gs : List Gl) (lk : Int) (p : Nat) : Option (List Gl) × Nat := ((onceB P Ls k L gs lk (p : Int)).1.map (·.1), (onceB P Ls k L gs lk (p : Int)).2)
theorem onceB_out {P : PFt} {Ls : List LkS} {k L : Nat} {gs : List Gl} {nn at_ : Int} (h : ¬ (0 ≤ nn ∧ nn < (Ls.length : Int) ∧ 0 ≤ at_ ∧ at_ < (gs.length : Int) ∧ L ≠ 0 ∧ gs.length ≤ 16384)) : onceB P Ls (k + 1) L gs nn at_ = (none, L) := by
  unfold onceB; rw [if_neg h]
theorem onceB_in {P : PFt} {Ls : List LkS} {k L i p : Nat} {gs : List Gl} {l : Lk} {su : List PSu} {g : Gl} (hl : Ls[i]? = some (l, su)) (hg : gs[p]? = some g) (hL : L ≠ 0) (hgs : gs.length ≤ 16384) : onceB P Ls (k + 1) L gs (i : Int) (p : Int) =
    if skF P l g then (none, L)
    else if l.ki = 4 then match matB P l su gs p with
      | none => (none, L)
      | some _ => ctxB (doB P Ls k) P l su gs p (L - 1)
    else match sngB P l su gs p with
      | some r => (some r, L - 1)
      | none => (none, L) := by
  have h1 := lt_of_some' hl
  have h2 := lt_of_some' hg
  unfold onceB
  rw [if_pos ⟨by omega, by omega, by omega, by omega, hL, hgs⟩, Int.toNat_natCast, Int.toNat_natCast, hl, hg]
  rfl
theorem sngB_len {P : PFt} {l : Lk} {su : List PSu} {gs : List Gl} {p : Nat} {r : List Gl × Int} (h : sngB P l su gs p = some r) : r.1.length ≤ 16384 := by
  unfold sngB at h
  split at h
  · split at h
    · cases h; assumption
    · cases h
  · cases h
theorem foldN_ok {do_ : Nat → List Gl → Int → Nat → Option (List Gl) × Nat} (h1 : ∀ L gs lk p gs' L', do_ L gs lk p = (some gs', L') → gs'.length ≤ 16384) (h2 : ∀ L gs lk p r L', do_ L gs lk p = (r, L') → L' ≤ L) : ∀ (ns : List (Int × Int)) (st : NSt), st.l.length ≤ 16384 → (ns.foldl (nest1 do_) st).l.length ≤ 16384 ∧ (ns.foldl (nest1 do_) st).L ≤ st.L
  | [], _, h => ⟨h, Nat.le_refl _⟩
  | a :: r, st, h => by
    have h3 := nest1_ok h1 h2 (st := st) (nn := a) h
    have h4 := foldN_ok h1 h2 r (nest1 do_ st a) h3.1
    exact ⟨h4.1, Nat.le_trans h4.2 h3.2.2⟩
theorem onceB_ok {P : PFt} {Ls : List LkS} : ∀ (k L : Nat) (gs : List Gl) (nn at_ : Int), (∀ r, (onceB P Ls k L gs nn at_).1 = some r → r.1.length ≤ 16384) ∧ (onceB P Ls k L gs nn at_).2 ≤ L
  | 0, L, _, _, _ => ⟨(fun r h => by cases h), Nat.le_refl _⟩
  | k + 1, L, gs, nn, at_ => by
    by_cases hc : 0 ≤ nn ∧ nn < (Ls.length : Int) ∧ 0 ≤ at_ ∧ at_ < (gs.length : Int) ∧ L ≠ 0 ∧ gs.length ≤ 16384
    · obtain ⟨i, rfl⟩ : ∃ i : Nat, nn = (i : Int) := ⟨nn.toNat, by omega⟩
      obtain ⟨p, rfl⟩ : ∃ p : Nat, at_ = (p : Int) := ⟨at_.toNat, by omega⟩
      obtain ⟨⟨l, su⟩, hl⟩ : ∃ x, Ls[i]? = some x := ⟨_, List.getElem?_eq_getElem (by omega)⟩
      obtain ⟨g, hg⟩ : ∃ x, gs[p]? = some x := ⟨_, List.getElem?_eq_getElem (by omega)⟩
      have hd1 : ∀ L gs lk p gs' L', doB P Ls k L gs lk p = (some gs', L') → gs'.length ≤ 16384 := by
        intro L gs lk p gs' L' h
        have h1 := (onceB_ok (P := P) (Ls := Ls) k L gs lk (p : Int)).1
        unfold doB at h
        cases hr : (onceB P Ls k L gs lk (p : Int)).1 with
        | none => rw [hr] at h; cases h
        | some r => rw [hr] at h; cases h; exact h1 r hr
      have hd2 : ∀ L gs lk p r L', doB P Ls k L gs lk p = (r, L') → L' ≤ L := by
        intro L gs lk p r L' h
        have h1 := (onceB_ok (P := P) (Ls := Ls) k L gs lk (p : Int)).2
        unfold doB at h
        cases h
        exact h1
      rw [onceB_in hl hg hc.2.2.2.2.1 hc.2.2.2.2.2]
      split
      · exact ⟨(fun r h => by cases h), Nat.le_refl _⟩
      · split
        · split
          · exact ⟨(fun r h => by cases h), Nat.le_refl _⟩
          · unfold ctxB
            split
            · exact ⟨(fun r h => by cases h), Nat.sub_le _ _⟩
            · rename_i i' ps' _
              split
              · exact ⟨(fun r h => by cases h), Nat.sub_le _ _⟩
              · rename_i s _
                have h5 := foldN_ok hd1 hd2 s.ne ⟨gs, natI ps', L - 1⟩ hc.2.2.2.2.2
                exact ⟨(fun r h => by cases h; exact h5.1), Nat.le_trans h5.2 (Nat.sub_le _ _)⟩
        · split
          · rename_i r hr
            exact ⟨(fun r' h => by cases h; exact sngB_len hr), Nat.sub_le _ _⟩
          · exact ⟨(fun r h => by cases h), Nat.le_refl _⟩
    · rw [onceB_out hc]
      exact ⟨(fun r h => by cases h), Nat.le_refl _⟩
theorem doB_len {P : PFt} {Ls : List LkS} {k : Nat} : ∀ L gs lk p gs' L', doB P Ls k L gs lk p = (some gs', L') → gs'.length ≤ 16384 := by
  intro L gs lk p gs' L' h
  have h1 := (onceB_ok (P := P) (Ls := Ls) k L gs lk (p : Int)).1
  unfold doB at h
  cases hr : (onceB P Ls k L gs lk (p : Int)).1 with
  | none => rw [hr] at h; cases h
  | some r => rw [hr] at h; cases h; exact h1 r hr
theorem doB_left {P : PFt} {Ls : List LkS} {k : Nat} : ∀ L gs lk p r L', doB P Ls k L gs lk p = (r, L') → L' ≤ L := by
  intro L gs lk p r L' h
  have h1 := (onceB_ok (P := P) (Ls := Ls) k L gs lk (p : Int)).2
  unfold doB at h
  cases h
  exact h1

end Go.Proofs.Ytngdolmmaiogiaa

/- The walk of the closure of (*machine).once. Condition: a contract of once. Printed by wip/tools. -/
namespace Go.Proofs.Ytngdolmmaiogiaa
open Go.RowKit

set_option maxRecDepth 100000 in
set_option maxHeartbeats 4000000 in
theorem once1_any (P : PFt) (Ls : List LkS) (F : Fnt) (bm k1 k2 d k L p : Nat) (A : Option Addr) (n c : Nat) (gs : List Gl) (lk : Int) (w : World) (h1 : w.cell? ⟨k1, 0, none⟩ = some (.pointer (some ⟨bm, 0, none⟩))) (h2 : w.cell? ⟨k2, 0, none⟩ = some (.int .i64 (d : Int))) (hd : d ≤ 8) (IH : Calls Try.prog 31 #[.pointer (some ⟨bm, 0, none⟩), .int .i64 lk, .slice A n c, .int .i64 (p : Int), .int .i64 ((d : Int) + 1)] w (RetCtx w bm F (onceB P Ls k L gs lk (p : Int)))) :
    Calls Try.prog 45 #[.slice A n c, .int .i64 lk, .int .i64 (p : Int), .pointer (some ⟨k1, 0, none⟩), .pointer (some ⟨k2, 0, none⟩)] w (RetDo w bm F (doB P Ls k L gs lk p)) := by
  have b1 := up_fact h1
  have b2 := up_fact h2
  have hA := Below.refl w.heap.size w
  have s1 : IntKind.i64.wrap ((d : Int) + 1) = (d : Int) + 1 := by rw [IntKind.wrap_i64]; omega
  obtain ⟨r, hr⟩ : ∃ z, z = onceB P Ls k L gs lk (p : Int) := ⟨_, rfl⟩
  have HRES := Lib.hid (show doB P Ls k L gs lk p = (r.1.map (·.1), r.2) by unfold doB; rw [hr])
  rw [← hr] at IH
  have HIH := Lib.hid IH
  clear IH hr h1 h2
  rcases r with ⟨_ | ⟨gs', x⟩, L'⟩
  · go_enter Try.func45, Try.ntmps45
    go_wp2_with (go_at_call 31; refine (HIH.out).mono ?_; rintro e w2 ⟨rfl, hm2, hb2⟩)
    go_ret2
    rw [HRES.out]
    exact ⟨⟨none, 0, 0, rfl⟩, hm2, hb2⟩
  · go_enter Try.func45, Try.ntmps45
    go_wp2_with (go_at_call 31; refine (HIH.out).mono ?_; rintro e w2 ⟨A2, c2, rfl, hi2, hm2, hb2⟩)
    go_ret2
    rw [HRES.out]
    exact ⟨A2, c2, rfl, hi2, hm2, hb2⟩

end Go.Proofs.Ytngdolmmaiogiaa
