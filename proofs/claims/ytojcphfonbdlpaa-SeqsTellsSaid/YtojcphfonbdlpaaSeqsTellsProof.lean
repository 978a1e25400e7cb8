/- The law SeqsTells answers true at every input, and changes nothing that was there. No condition. -/
import Derived.Test.YtojcphfonbdlpaaRows
import Derived.Test.YtojcphfonbdlpaaSeqF
import Derived.Test.YtojcphfonbdlpaaSeqM
import Derived.Test.YtojcphfonbdlpaaRowIn
import Derived.Test.YtojcphfonbdlpaaLevNon
import Derived.Test.YtojcphfonbdlpaaRefLev
import Derived.WalkKit
import Derived.ProofKit
import Derived.OpenShut
import Derived.ShutString
import Derived.ChangeOld
import Derived.Below
namespace Go.Proofs.Ytojcphfonbdlpaa.seqsTells
open Go.ChangeShapes Go.WideShapes Go.ChangeAt Go.RowKit
open Go.ChangeMaps (open_string shut_string)
set_option linter.unusedVariables false

theorem own : ownKnob Try.prog.godebug = none := by kernel_rfl
theorem laidOut : laidOutB Try.prog = true := by kernel_rfl

def IsRow (k : IntKind) (w : World) (a : Option Addr) (len cap : Nat) (zs : List Int) : Prop :=
  (a = none ∧ len = 0 ∧ cap = 0 ∧ zs = []) ∨
  ∃ x, a = some x ∧ len ≤ cap ∧ cap ≤ maxLen ∧ zs.length = cap ∧ (∀ i, i < zs.length → w.cell? (x.add i) = some (.int k (zs.getD i 0))) ∧ ∀ n ∈ zs, (Lit.int k n).wf = true

set_option maxRecDepth 100000 in
set_option maxHeartbeats 4000000 in
theorem walk (a0 : Option Addr) (len0 cap0 : Nat) (z0 : List Int) (a1 : Bool) (w : World) (w0 : IsRow .i64 w a0 len0 cap0 z0) :
    Calls Try.prog 4 #[.slice a0 len0 cap0, .bool a1] w fun e w' => e = .returned (.bool true) ∧ Below w.heap.size w w' := by
  have h := Ints.of_row w0
  clear w0
  have hcap := h.cap
  by_cases hl : 100 < len0
  · have hl' : (100 : Int) < (len0 : Int) := by omega
    clear h
    go_enter Try.func4, Try.ntmps4
    go_wp2_with (go_at_call 7; refine (alive_any _).mono ?_; rintro e w1 ⟨rfl, hb1⟩)
    go_ret
    exact ⟨rfl, hb1⟩
  · have hd : decide ((100 : Int) < (len0 : Int)) = false := by simp; omega
    have hd0 : decide (100 < len0) = false := by simp; omega
    obtain ⟨cs, hcs⟩ : ∃ cs, cs = z0.take len0 := ⟨_, rfl⟩
    rw [← hcs] at h
    clear hcs
    obtain ⟨bv, hbv⟩ : ∃ b : Int, b = (if a1 then 1 else 0) := ⟨_, rfl⟩
    have hb0 : 0 ≤ bv ∧ bv ≤ 1 := by rw [hbv]; split <;> omega
    have hnon := Lv.levels_non (base := bv) (by omega) cs
    have HBV := Lib.hid hbv
    have HI := Lib.hid h
    have HNON := Lib.hid hnon
    clear hbv h hnon
    go_enter Try.func4, Try.ntmps4
    go_upto_region 4 with (first
      | (go_at_call 9; refine (level_any a1 _).mono ?_; rw [← HBV.out]; rintro e w1 ⟨rfl, rfl⟩)
      | (go_at_call 8; refine (rlevels_any w.heap.size a0 len0 cap0 cs bv _ HI.out (Nat.le_refl _) (by omega) (by omega) (by omega)).mono ?_; rintro e w1 ⟨A1, c1, A2, c2, rfl, hlv, -, hb1⟩))
    have hs1 := hb1.size
    have hlc := hlv.cap
    have HLV := Lib.hid hlv.ints
    have HI1 := Lib.hid ((HI.out.below hb1).more hs1)
    clear hlv
    have h1 := of_any w1.heap.size a0 A1 len0 cap0 c1 cs (Lv.levels bv cs) bv w1 HI1.out HLV.out (Nat.le_refl _) (by omega) hb0.1 HNON.out
    obtain ⟨l, hl9⟩ : ∃ l, l = Sq.of cs (Lv.levels bv cs) bv := ⟨_, rfl⟩
    rw [← hl9] at h1
    have HOF := Lib.hid h1
    have HL9 := Lib.hid hl9
    clear h1 hl9
    go_upto_region 5 with (first
      | (go_at_call 9; refine (level_any a1 _).mono ?_; rw [← HBV.out]; rintro e w3 ⟨rfl, rfl⟩)
      | (go_at_call 10; refine HOF.out.mono ?_; rintro e w2 ⟨A3, c3, r1, rfl, hr1, hq1, hb2⟩)
      | (go_at_call 12; refine (Rf.of_any w1.heap.size a0 A1 len0 cap0 c1 cs (Lv.levels bv cs) bv w2 (HI1.out.below hb2) (HLV.out.below hb2) hb2.size (by omega) hb0.1 HNON.out).mono ?_; rw [← HL9.out]; rintro e w3 ⟨A4, c4, r2, rfl, hr2, hq2, hb3⟩))
    have hll : ((l.length : Int) != (l.length : Int)) = false := by simp
    obtain ⟨L, hL⟩ : ∃ L, L = l.length := ⟨_, rfl⟩
    rw [← hL] at hq1 hq2 hll ⊢
    have hqc1 := hq1.cap
    have hqc2 := hq2.cap
    have HQ1 := Lib.hid (hq1.below hb3 (Nat.le_refl _))
    have HQ2 := Lib.hid hq2
    have HL := Lib.hid hL
    have HR := Lib.hid (hr1.trans hr2.symm)
    have HB3 := Lib.hid (show Below w.heap.size w w3 from (hb1.trans (hb2.mono hs1)).trans (hb3.mono (Nat.le_trans hs1 hb2.size)))
    have h13 := Nat.le_trans hb2.size hb3.size
    have HI3 := Lib.hid ((HI1.out.below hb2).below (hb3.mono hb2.size))
    have HLV3 := Lib.hid ((HLV.out.below hb2).below (hb3.mono hb2.size))
    have hlr1 : r1.length = L := HQ1.out.length
    have hlr2 : r2.length = L := HQ2.out.length
    have HLR := Lib.hid (And.intro hlr1 hlr2)
    clear hq1 hq2 hL hr1 hr2 hb1 hb2 hb3 HOF hlr1 hlr2
    go_upto_region 7 with (first
      | (go_at_call 14; refine (cuts_any w1.heap.size a0 A1 len0 cap0 c1 cs (Lv.levels bv cs) w3 HI3.out HLV3.out h13 (by omega)).mono ?_; rintro e w4 ⟨A5, c5, rfl, hu5, hb4⟩; rw [List.length_map] at hu5)
      | (go_at_call 15; refine (rcuts_any w1.heap.size a0 A1 len0 cap0 c1 cs (Lv.levels bv cs) w4 (HI3.out.below (hb4.mono h13)) (HLV3.out.below (hb4.mono h13)) (Nat.le_trans h13 hb4.size) (by omega)).mono ?_; rintro e w5 ⟨A6, c6, rfl, hu6, hb5⟩; rw [List.length_map] at hu6)
      | (go_at_call 13; refine (cutsEq_any A5 A6 _ c5 _ c6 _ _ w5 (hu5.below hb5 (Nat.le_refl _)) hu6).mono ?_; rintro e w6 ⟨rfl, k6, rfl⟩))
    have hb6 : Below w3.heap.size w3 (w5.drewN k6) := below_drewN (hb4.trans (hb5.mono hb4.size)) k6
    clear hu5 hu6
    generalize w5.drewN k6 = w6 at *
    have HB6 := Lib.hid (HB3.out.trans (hb6.mono HB3.out.size))
    have HS1 := Lib.hid (HQ1.out.below hb6 (Nat.le_refl _))
    have HS2 := Lib.hid (HQ2.out.below hb6 (Nat.le_refl _))
    clear hb4 hb5 hb6 HQ1 HQ2 HI3 HLV3
    go_wp2_with fail
    go_loopw [9] (fun i wr => ∃ (k q : Nat), i = .int .i64 (k : Int) ∧ k ≤ L ∧ wr = w6.drewN q) (fun i _ => L - (intOf i).toNat)
    case atStart => exact ⟨0, 0, rfl, Nat.zero_le _, rfl⟩
    case round =>
      obtain ⟨k, q, rfl, hk, hw⟩ := hrel
      have HW := Lib.hid hw
      have HT1 := Lib.hid (show Seqs wr w1.heap.size A3 L c3 r1 by rw [hw]; exact HS1.out.drewN q)
      have HT2 := Lib.hid (show Rf.Seqs wr w2.heap.size A4 L c4 r2 by rw [hw]; exact HS2.out.drewN q)
      have HB7 := Lib.hid (show Below w.heap.size w wr by rw [hw]; exact below_drewN HB6.out q)
      clear hw
      by_cases hlt : k < L
      · obtain ⟨x1, hx1⟩ : ∃ x, r1[k]? = some x := ⟨_, List.getElem?_eq_getElem (by rw [HLR.out.1]; exact hlt)⟩
        obtain ⟨x2, hx2⟩ : ∃ x, r2[k]? = some x := ⟨_, List.getElem?_eq_getElem (by rw [HLR.out.2]; exact hlt)⟩
        have hxx : x1.s = x2.s := by
          have e1 : (r1.map SRw.s)[k]? = some x1.s := by simp [hx1]
          have e2 : (r2.map SRw.s)[k]? = some x2.s := by simp [hx2]
          rw [HR.out, e2] at e1
          exact (Option.some.inj e1).symm
        obtain ⟨_, g, rfl, hg1, hg2, p0, p1, p2, p3, po⟩ := HT1.out.at_ hx1
        obtain ⟨_, g', rfl, hg3, hg4, q0, q1, q2, q3, qo⟩ := HT2.out.at_ hx2
        obtain ⟨⟨ps, lv, sos, eos⟩, hss⟩ : ∃ s, s = x2.s := ⟨_, rfl⟩
        rw [hxx, ← hss] at p0 p1 p2 p3 po
        rw [← hss] at q0 q1 q2 q3 qo
        simp only at p0 p1 p2 p3 po q0 q1 q2 q3 qo
        obtain ⟨m, hm⟩ : ∃ m, m = ps.length := ⟨_, rfl⟩
        rw [← hm] at p0 q0 po qo
        have hpc := po.cap
        have hqc := qo.cap
        have hxl : (lv != lv) = false := by simp
        have hxs : (sos != sos) = false := by simp
        have hxe : (eos != eos) = false := by simp
        have hI : ∀ nq, Calls Try.prog 16 #[.slice (some ⟨x1.g, 0, none⟩) m x1.c, .slice (some ⟨x2.g, 0, none⟩) m x2.c] (wr.drewN nq) (fun e w' => e = .returned (.bool true) ∧ ∃ k, w' = (wr.drewN nq).drewN k) := fun nq => ints_any (some ⟨x1.g, 0, none⟩) (some ⟨x2.g, 0, none⟩) m x1.c _ x2.c _ ps (wr.drewN nq) ((po.drewN nq).ints) ((qo.drewN nq).ints)
        have HII := Lib.hid hI
        clear hI po qo hm hss hxx hx1 hx2
        go_wp2_with fail
        go_quiet (first | (go_at_call 16; exact Calls.quiet_of (HII.out _)))
        go_wp2
        go_roundw
        case rel => exact ⟨k + 1, q + nq, by go_num, by omega, by rw [HW.out, World.drewN_drewN]⟩
        case measure => simp [intOf]; omega
      · have hge : L ≤ k := by omega
        go_wp2_with (go_at_call 7; refine (alive_any _).mono ?_; rintro e w9 ⟨rfl, hb9⟩)
        go_ret
        exact ⟨rfl, HB7.out.trans (hb9.mono HB7.out.size)⟩

set_option maxRecDepth 100000 in
theorem lifted (os : Os) (started : os.Started) (H : Type) (enc : TypeId × Value → H) :
    ReturnsInHanded {} Try.checked os 4 .any (Rows.seqsTellsSpec.pre6 enc Try.prog Try.f4 Rows.seqsTellsRow.domain false) (Rows.seqsTellsSpec.post enc Try.prog Try.f4 false true false false) := by
  refine returnsInHanded_of_change (C := Try.checked) own started (by kernel_rfl) Try.func4
    (ChangeSpec.witness6 (enc := enc) (C := Try.checked) false ⟨#[], #[.slice none 0 0, .bool false], []⟩ 8 (by kernel_rfl) (by kernel_rfl) (by kernel_rfl) (by kernel_rfl)) ?_
  intro W base args ds gs before hval0 hW hcnd _
  have hval : ∀ (j : Nat) t v, Try.f4.params[j]? = some t → args[j]? = some v → Value.okWide Try.prog W .any base t v := hval0
  have hW' := hW
  obtain ⟨p, q, hA0, hV, rfl, hfz, hnd⟩ := hW
  have hA : DataW.TrodAll enc Try.prog W 0 (fun _ => true) true Try.f4.params.toList args.toList ds p := hA0
  rw [Try.params4] at hA hval
  obtain ⟨v0, vs0, d0, ds0, p0, q0, hargs, rfl, rfl, h0, r0⟩ := trodAll_cons hA
  obtain ⟨v1, vs1, d1, ds1, p1, q1, rfl, rfl, rfl, h1, r1⟩ := trodAll_cons r0
  obtain ⟨rfl, rfl, rfl⟩ := trodAll_nil r1
  obtain rfl : args = #[v0, v1] := by cases args; simp_all
  obtain ⟨rfl, rfl⟩ := trodVars_none hV
  obtain ⟨a0, len0, cap0, rfl⟩ := okWide_slice Try.underlying22 (hval 0 22 v0 rfl rfl)
  have k0 := h0
  have lt0 : ∀ x ∈ p0, x.block < W.heap.size := by obtain ⟨m, hm⟩ := k0; exact DataW.trod_lt m _ _ _ hm
  obtain ⟨z0, w0⟩ : ∃ zs, IsRow .i64 W a0 len0 cap0 zs := by
    obtain ⟨fuel, hf⟩ := h0
    rcases open_ints Try.underlying22 Try.underlying3 (by kernel_rfl) hf with ⟨hcs, _⟩ | ⟨x, l, c, zs, hcs, _, hl, hm, hz, _, hcell, hwz⟩
    · simp [Value.cells] at hcs
      obtain ⟨rfl, rfl, rfl⟩ := hcs
      exact ⟨[], .inl ⟨rfl, rfl, rfl, rfl⟩⟩
    · simp [Value.cells] at hcs
      obtain ⟨rfl, rfl, rfl⟩ := hcs
      exact ⟨zs, .inr ⟨_, rfl, hl, hm, by simpa using hz, hcell, hwz⟩⟩
  obtain ⟨a1, rfl, rfl, rfl⟩ := open_bool Try.underlying4 (hval 1 4 v1 rfl rfl) h1
  clear hA0 hval0
  refine (walk a0 len0 cap0 z0 a1 W w0).mono fun e W' ⟨he, bel⟩ => ?_
  subst he
  exact ⟨_, rfl, _, _, _, [], _, [], hW', trodAll_mk1 (shut_bool Try.underlying4 _), (trodAll_cons_mk (Below.trod laidOut (by kernel_rfl) (of_decide_eq_true (by kernel_rfl)) k0 bel lt0) (trodAll_cons_mk (shut_bool Try.underlying4 _) trodAll_mk0)), rfl, bel.frame _, fun h => by cases h⟩

theorem over : Rows.seqsTellsRow.holds Try.pinned (OpenSpec.ofChange Rows.seqsTellsSpec) :=
  OpenClaim.holds_of_wide 4 Try.f4 rfl rfl rfl rfl rfl rfl rfl ⟨rfl, rfl, rfl, rfl, rfl⟩ rfl rfl rfl rfl rfl (by kernel_rfl) Try.func4 (by kernel_rfl)
    (of_decide_eq_true (by kernel_rfl)) (by unfold Func.isWrapper; first | (rw [if_pos (by decide +kernel)]; kernel_rfl) | (rw [if_neg (by decide +kernel)]; exact ⟨rfl, rfl⟩))
    (fun os started H enc _ => lifted os started H enc)

theorem proved : Rows.SeqsTellsSaid := over
#print axioms proved
end Go.Proofs.Ytojcphfonbdlpaa.seqsTells
