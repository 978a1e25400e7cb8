/- Joined: Appl Mac. -/
import Derived.Test.YtngdolmmaiogiaaJ12
import Derived.Test.YtngdolmmaiogiaaJ03
import Derived.Deep.RegionHeld3
import Derived.OwnWalk
import Derived.Test.YtngdolmmaiogiaaJ14
import Derived.Test.YtngdolmmaiogiaaJ15

/- The walk of single.Apply. Condition: the lookup and the buffer read as their shapes; at most ninety thousand glyphs. -/
namespace Go.Proofs.Ytngdolmmaiogiaa
open Go.RowKit

/-- what Apply does -/
def applyG (pl : PL) (gs : List Gl) (at_ : Int) : List Gl × Int × Bool :=
  if 0 ≤ at_ then match gs[at_.toNat]? with
    | some g => match toB pl g.id with
      | some zs => (repG gs at_.toNat zs, at_ + zs.length, true)
      | none => (gs, at_, false)
    | none => (gs, at_, false)
  else (gs, at_, false)
theorem applyG_out {pl : PL} {gs : List Gl} {at_ : Int} (h : at_ < 0 ∨ (gs.length : Int) ≤ at_) : applyG pl gs at_ = (gs, at_, false) := by
  unfold applyG
  split
  · rw [List.getElem?_eq_none (by omega)]
  · rfl
theorem applyG_none {pl : PL} {gs : List Gl} {p : Nat} {g : Gl} (hg : gs[p]? = some g) (h : toB pl g.id = none) : applyG pl gs (p : Int) = (gs, (p : Int), false) := by
  unfold applyG
  rw [if_pos (by omega), Int.toNat_natCast, hg]
  simp only [h]
theorem applyG_some {pl : PL} {gs : List Gl} {p : Nat} {g : Gl} {zs : List Int} (hg : gs[p]? = some g) (h : toB pl g.id = some zs) : applyG pl gs (p : Int) = (repG gs p zs, (p : Int) + zs.length, true) := by
  unfold applyG
  rw [if_pos (by omega), Int.toNat_natCast, hg]
  simp only [h]
/-- What Apply leaves. -/
def RetApp (w : World) (r : List Gl × Int × Bool) (e : Ending) (w' : World) : Prop :=
  ∃ A c, e = .returned (.tuple #[.slice A r.1.length c, .int .i64 r.2.1, .bool r.2.2]) ∧ GlsR w' w'.heap.size A r.1.length c r.1 ∧ Below w.heap.size w w'
set_option maxRecDepth 100000 in
set_option maxHeartbeats 4000000 in
theorem sapply_any (F : Fnt) (B : Nat) (l : Lk) (ps : List PS) (A : Option Addr) (n c : Nat) (gs : List Gl) (at_ : Int) (w : World) (hs : SubsR w B l.su.A l.su.n l.su.c ps) (h1' : LkOne (l.ki, ps)) (h : GlsR w B A n c gs) (hB : B ≤ w.heap.size) (hn : n ≤ 90000) :
    Calls Try.prog 50 #[.agg #[.int .i64 F.em, .slice F.GA F.gn F.gc, .slice F.MA F.mn F.mc, .slice F.LA F.ln F.lc, .slice F.FA F.fn F.fc, .slice F.SA F.sn F.sc], .agg #[.int .i64 l.ki, .int .i64 l.fl, .int .i64 l.se, .slice l.su.A l.su.n l.su.c], .slice A n c, .int .i64 at_] w (RetApp w (applyG (l.ki, ps) gs at_)) := by
  have hcap := h.cap
  have hlen := h.length
  have HI := Lib.hid h
  have HGL := Lib.hid hlen
  have HS := Lib.hid hs
  have HONE := Lib.hid h1'
  clear h hs h1' hlen
  obtain ⟨wa, hwa⟩ : ∃ z, z = w.alloc (.cells #[.int .i64 F.em, .slice F.GA F.gn F.gc, .slice F.MA F.mn F.mc, .slice F.LA F.ln F.lc, .slice F.FA F.fn F.fc, .slice F.SA F.sn F.sc] 28) := ⟨_, rfl⟩
  have hsa : wa.heap.size = w.heap.size + 1 := by rw [hwa]; simp
  have hba : Below w.heap.size w wa := by rw [hwa]; exact (Below.refl _ _).alloc (Nat.le_refl _) _
  obtain ⟨w1, hw1⟩ : ∃ z, z = wa.alloc (.cells #[.int .i64 l.ki, .int .i64 l.fl, .int .i64 l.se, .slice l.su.A l.su.n l.su.c] 36) := ⟨_, rfl⟩
  have hb1 : Below w.heap.size w w1 := by rw [hw1]; exact hba.alloc (by omega) _
  have hs1 : w1.heap.size = w.heap.size + 2 := by rw [hw1]; simp; omega
  have hkb : KBox w1 (w.heap.size + 1) l := by rw [hw1, ← hsa]; exact heap_alloc_new _ _
  obtain ⟨l0, l1, l2, l3⟩ := hkb.cells
  have HW1 := Lib.hid hw1
  have HWA := Lib.hid hwa
  have HB1 := Lib.hid hb1
  have hBw : B ≤ w1.heap.size := by omega
  have HS1 := Lib.hid hs1
  clear hw1 hwa hsa hba hkb hb1 hs1
  by_cases h0 : 0 ≤ at_
  · obtain ⟨p, rfl⟩ : ∃ p : Nat, at_ = (p : Int) := ⟨at_.toNat, by omega⟩
    by_cases hp : p < n
    · obtain ⟨b, o, g, rfl, hbb, hg, c0, _⟩ := HI.out.at_ hp
      have x4 := (HB1.out.cell (p := ⟨b, o + p * 10, none⟩) (by show b < w.heap.size; omega)).trans c0
      have HG := Lib.hid hg
      obtain ⟨r, hr⟩ : ∃ r, r = toB (l.ki, ps) g.id := ⟨_, rfl⟩
      have hto := fun W (hW : Below w1.heap.size w1 W) => sto_any B l ps g.id W (HS.out.below ((HB1.out.mono hB).trans (hW.mono hBw))) HONE.out (by have := hW.size; omega)
      rw [← hr] at hto
      have HTO := Lib.hid hto
      have HR := Lib.hid hr
      have h16 := fun zs => @toB_le (l.ki, ps) g.id zs HONE.out
      rw [← hr] at h16
      have H16 := Lib.hid h16
      have z0 : decide ((p : Int) < 0) = false := by simp
      have z1 : decide ((n : Int) ≤ (p : Int)) = false := by simp; omega
      have z2 : decide (n ≤ p) = false := by simp; omega
      have HBL := Lib.hid (show b < w1.heap.size by omega)
      have HKL := Lib.hid (show w.heap.size + 1 < w1.heap.size by have := HS1.out; omega)
      clear hg c0 hr hto h16 h0
      go_enter Try.func50, Try.ntmps50
      go_upto_region 1 with (fail)
      rw [← HWA.out, ← HW1.out]
      go_upto_region 2 with (fail)
      go_region_held3 (fun W => W.cell? ⟨w.heap.size + 1, 0, none⟩ = some (.int .i64 l.ki) ∧ W.cell? ⟨w.heap.size + 1, 1, none⟩ = some (.int .i64 l.fl) ∧ W.cell? ⟨w.heap.size + 1, 2, none⟩ = some (.int .i64 l.se) ∧ W.cell? ⟨w.heap.size + 1, 3, none⟩ = some (.slice l.su.A l.su.n l.su.c) ∧ W.cell? ⟨b, o + p * 10, none⟩ = some (.int .i64 g.id)) (first | exact ⟨l0, l1, l2, l3, x4⟩ | exact ⟨(hb2.cell (p := ⟨_, _, none⟩) HKL.out).trans l0, (hb2.cell (p := ⟨_, _, none⟩) HKL.out).trans l1, (hb2.cell (p := ⟨_, _, none⟩) HKL.out).trans l2, (hb2.cell (p := ⟨_, _, none⟩) HKL.out).trans l3, (hb2.cell (p := ⟨b, _, none⟩) HBL.out).trans x4⟩ | go_keep)
        (first | (go_at_call 59; refine (HTO.out _ ((Below.refl _ _).drew)).mono ?_; rintro e w2 ⟨A2, c2, rfl, hi2, hb2⟩))
      have HI2 := Lib.hid hi2
      have HB2 := Lib.hid (show Below w1.heap.size w1 w2 from ((Below.refl w1.heap.size w1).drew).trans hb2)
      clear hi2 hb2 l0 l1 l2 l3 x4
      have HBB := Lib.hid (show Below w.heap.size w w2 from HB1.out.trans (HB2.out.mono HB1.out.size))
      have hszb := HBB.out.size
      rcases r with _ | zs
      · simp only [Option.getD_none, Option.isSome_none, List.length_nil]
        have HOUT := Lib.hid (applyG_none HG.out HR.out.symm)
        go_wp2_with (go_at_call 21; refine ((gclone_any B _ n c gs _ (HI.out.below (HBB.out.mono hB)) (by have := HB1.out.size; first | omega | (have := hszb; omega)) (by omega)).mono (fun _ _ h => h.n HGL.out)).mono ?_; rintro e w5 ⟨A5, c5, rfl, ho, hb⟩; have HO5 := Lib.hid ho; have HB5 := Lib.hid hb; clear ho hb)
        go_ret3
        rw [HOUT.out]
        exact ⟨A5, c5, by rw [HGL.out]; rfl, by rw [HGL.out]; exact HO5.out.gls, HBB.out.trans (HB5.out.mono hszb)⟩
      · simp only [Option.getD_some, Option.isSome_some]
        have HOUT := Lib.hid (applyG_some HG.out HR.out.symm)
        have HI3 := Lib.hid (show Ints w2 w2.heap.size A2 zs.length c2 zs from HI2.out)
        have hm16 := H16.out zs rfl
        obtain ⟨m, hmz⟩ : ∃ m, m = zs.length := ⟨_, rfl⟩
        rw [← hmz] at HI3 hm16 ⊢
        have HMZ := Lib.hid hmz
        have hw9 : IntKind.i64.wrap ((p : Int) + (m : Int)) = (p : Int) + (m : Int) := by rw [IntKind.wrap_i64]; omega
        clear hmz
        go_wp2_with (go_at_call 60; refine (breplace_any B w2.heap.size p n c m c2 _ A2 gs zs _ (HI.out.below (HBB.out.mono hB)) HI3.out hp (by omega) (by omega) (by omega)).mono ?_; rintro e w5 ⟨A5, c5, rfl, ho, hb⟩; have HO5 := Lib.hid ho; have HB5 := Lib.hid hb; clear ho hb)
        go_ret3
        rw [HOUT.out, ← HMZ.out]
        exact ⟨A5, c5, rfl, HO5.out.gls, HBB.out.trans (HB5.out.mono hszb)⟩
    · have HOUT := Lib.hid (show (p : Int) < 0 ∨ (gs.length : Int) ≤ (p : Int) from .inr (by rw [HGL.out]; omega))
      have z0 : decide ((p : Int) < 0) = false := by simp
      have z1 : decide ((n : Int) ≤ (p : Int)) = true := by simp; omega
      have z2 : decide (n ≤ p) = true := by simp; omega
      have z3 : decide ((p : Int) < (n : Int)) = false := by simp; omega
      have z4 : decide (p < n) = false := by simp; omega
      have HNP := Lib.hid hp
      clear hp h0
      go_enter Try.func50, Try.ntmps50
      go_upto_region 1 with (fail)
      rw [← HWA.out, ← HW1.out]
      go_wp2_with (go_at_call 21; refine ((gclone_any B A n c gs _ (HI.out.below (HB1.out.mono hB)) (by have := HB1.out.size; first | omega | (have := hszb; omega)) (by omega)).mono (fun _ _ h => h.n HGL.out)).mono ?_; rintro e w5 ⟨A5, c5, rfl, ho, hb⟩; have HO5 := Lib.hid ho; have HB5 := Lib.hid hb; clear ho hb)
      go_ret3
      rw [applyG_out HOUT.out]
      exact ⟨A5, c5, by rw [HGL.out]; rfl, by rw [HGL.out]; exact HO5.out.gls, HB1.out.trans (HB5.out.mono HB1.out.size)⟩
  · have HOUT := Lib.hid (show at_ < 0 ∨ (gs.length : Int) ≤ at_ from .inl (by omega))
    have z0 : decide (at_ < 0) = true := by simp; omega
    have z1 : decide (0 ≤ at_) = false := by simp; omega
    clear h0
    go_enter Try.func50, Try.ntmps50
    go_upto_region 1 with (fail)
    rw [← HWA.out, ← HW1.out]
    go_wp2_with (go_at_call 21; refine ((gclone_any B A n c gs _ (HI.out.below (HB1.out.mono hB)) (by have := HB1.out.size; first | omega | (have := hszb; omega)) (by omega)).mono (fun _ _ h => h.n HGL.out)).mono ?_; rintro e w5 ⟨A5, c5, rfl, ho, hb⟩; have HO5 := Lib.hid ho; have HB5 := Lib.hid hb; clear ho hb)
    go_ret3
    rw [applyG_out HOUT.out]
    exact ⟨A5, c5, by rw [HGL.out]; rfl, by rw [HGL.out]; exact HO5.out.gls, HB1.out.trans (HB5.out.mono HB1.out.size)⟩

end Go.Proofs.Ytngdolmmaiogiaa

/- The machine of substitutions: its box; worlds that differ in it alone; what single does, plainly. No condition. Printed by wip/tools. -/
namespace Go.Proofs.Ytngdolmmaiogiaa
open Go.RowKit

/-- the machine's box: its font, how much is left -/
def MBox (w : World) (bm : Nat) (F : Fnt) (L : Nat) : Prop := w.heap[bm]? = some (.cells #[.int .i64 F.em, .slice F.GA F.gn F.gc, .slice F.MA F.mn F.mc, .slice F.LA F.ln F.lc, .slice F.FA F.fn F.fc, .slice F.SA F.sn F.sc, .int .i64 (L : Int)] 69 (0, 0))
/-- but for one block all is as it was -/
def But (bm : Nat) (w w' : World) : Prop := w.grownBy w' (some bm)
section
variable {w w' w'' : World} {bm B n c L : Nat} {F : Fnt} {A : Option Addr} {gs : List Gl}
theorem But.refl (bm : Nat) (w : World) : But bm w w := World.grownBy.refl w _
theorem But.trans (h : But bm w w') (k : But bm w' w'') : But bm w w'' :=
  ⟨k.os.trans h.os, k.tape.trans h.tape, k.output.trans h.output, Nat.le_trans h.size k.size, fun j hj hne => (k.block j (Nat.lt_of_lt_of_le hj h.size) hne).trans (h.block j hj hne)⟩
theorem But.of (h : Below w.heap.size w w') : But bm w w' := ⟨h.os, h.tape, h.output, h.size, fun j hj _ => h.block j hj⟩
theorem But.cell (h : But bm w w') {p : Addr} (hp : p.block < w.heap.size) (hne : p.block ≠ bm) : w'.cell? p = w.cell? p :=
  World.cell?_of_block (h.block p.block hp (fun e => hne (Option.some.inj e)))
theorem But.below (h : But bm w w') (hB : B ≤ bm) (hB2 : B ≤ w.heap.size) : Below B w w' :=
  ⟨h.os, h.tape, h.output, h.size, fun j hj => h.block j (by omega) (fun e => by have := Option.some.inj e; omega)⟩
theorem But.put (bm : Nat) (w : World) (j : Nat) (v : Value) : But bm w (w.setCell ⟨bm, j, none⟩ v) := by
  have h := (Below.refl 0 w).setCell (p := ⟨bm, j, none⟩) (Nat.zero_le _) v
  exact ⟨h.os, h.tape, h.output, h.size, fun k _ hne => Below.heap_setCell _ _ _ k (fun e => hne (by rw [e]))⟩
theorem but_fact {p : Addr} {v : Value} (h : w.cell? p = some v) (hne : p.block ≠ bm) : ∀ W, But bm w W → W.cell? p = some v :=
  fun _ hb => (hb.cell (World.block_lt_of_cell? w _ h) hne).trans h
theorem MBox.lt (h : MBox w bm F L) : bm < w.heap.size := (Array.getElem?_eq_some_iff.1 h).1
theorem MBox.below (h : MBox w bm F L) (hb : Below B w w') (hB : bm < B) : MBox w' bm F L := (hb.block bm hB).trans h
theorem MBox.put (h : MBox w bm F L) (L' : Nat) : MBox (w.setCell ⟨bm, 6, none⟩ (.int .i64 (L' : Int))) bm F L' := heap_setCell_same _ bm 6 _ _ _ h
theorem MBox.left (h : MBox w bm F L) : w.cell? ⟨bm, 6, none⟩ = some (.int .i64 (L : Int)) := by rw [cell_of_row _ _ 6 _ _ _ h]; rfl
theorem MBox.free (h : MBox w bm F L) (j : Nat) : w.frozen? ⟨bm, j, none⟩ = false := frozen_of_row _ _ _ _ _ h
theorem GlsR.ne {b o : Nat} (h : GlsR w B (some ⟨b, o, none⟩) n c gs) (hn : 0 < n) (hm : MBox w bm F L) : b ≠ bm := by
  rintro rfl
  obtain ⟨b', o', e, _, h2⟩ := h.2.2.2.2 hn
  cases e
  obtain ⟨g0, hg⟩ : ∃ g0, gs[0]? = some g0 := ⟨_, List.getElem?_eq_getElem (by rw [h.1]; exact hn)⟩
  have h3 := h2 9 (.int .i64 g0.ma) (by have h4 := glCells_at (i := 9) hg (by omega); rw [Nat.zero_mul, Nat.zero_add] at h4; rw [h4]; rfl)
  rw [cell_of_row _ _ _ _ _ _ hm] at h3
  rw [Array.getElem?_eq_none (by simp)] at h3
  cases h3
theorem GlsR.but (h : GlsR w B A n c gs) (hm : MBox w bm F L) (hb : But bm w w') (hB : B ≤ w.heap.size) : GlsR w' B A n c gs :=
  ⟨h.1, h.2.1, h.2.2.1, h.2.2.2.1, fun hn => by
    obtain ⟨b, o, e, h1, h2⟩ := h.2.2.2.2 hn
    have hne : b ≠ bm := GlsR.ne (e ▸ h) hn hm
    exact ⟨b, o, e, h1, fun j v hj => (hb.cell (p := ⟨b, o + j, none⟩) (by show b < w.heap.size; omega) hne).trans (h2 j v hj)⟩⟩
end
/-- what a lookup of no context does at a place -/
def sng0 (P : PFt) (l : Lk) (su : List PSu) (gs : List Gl) (p : Nat) : Option (List Gl × Int) :=
  if l.ki = 1 ∨ l.ki = 2 then (if (applyG (l.ki, psOf su) gs p).2.2 then some ((applyG (l.ki, psOf su) gs p).1, (applyG (l.ki, psOf su) gs p).2.1) else none)
  else if l.ki = 3 then (ligaB P l su gs p).map fun r => (r.1, (r.2 : Int))
  else if l.ki = 5 then (revAp P l su gs p).map fun r => (r, (p : Int) + 1)
  else none
def sngB (P : PFt) (l : Lk) (su : List PSu) (gs : List Gl) (p : Nat) : Option (List Gl × Int) :=
  match sng0 P l su gs p with
  | some (out, k) => if out.length ≤ 16384 then some (out, k) else none
  | none => none
/-- What single leaves. -/
def RetSng (w : World) (bm : Nat) (F : Fnt) (L : Nat) : Option (List Gl × Int) → Ending → World → Prop
  | none, e, w' => e = .returned (.tuple #[.slice none 0 0, .int .i64 0, .bool false]) ∧ Below w.heap.size w w'
  | some (gs, k), e, w' => ∃ A c, e = .returned (.tuple #[.slice A gs.length c, .int .i64 k, .bool true]) ∧ GlsR w' w'.heap.size A gs.length c gs ∧ MBox w' bm F (L - 1) ∧ But bm w w'
/-- what of the font's check a lookup's functions lean on -/
structure LkGood (l : Lk) (su : List PSu) : Prop where
  one : LkOne (l.ki, psOf su)
  row : l.ki = 4 → ∀ s ∈ su, s.inn.length ≤ 1000 ∧ s.ba.length ≤ 1000 ∧ s.ah.length ≤ 1000
  rev : l.ki = 5 → ∀ s ∈ su, True ∧ s.ba.length ≤ 1000 ∧ s.ah.length ≤ 1000
  lig : l.ki = 3 → ∀ s ∈ su, ∀ r ∈ s.li, r.length ≤ 100000 ∧ ∀ p ∈ r, p.1.length ≤ 1000

end Go.Proofs.Ytngdolmmaiogiaa
