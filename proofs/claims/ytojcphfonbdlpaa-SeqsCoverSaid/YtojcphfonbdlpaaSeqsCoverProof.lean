/- The law SeqsCover answers true at every input, and changes nothing that was there. No condition. -/
import Derived.Test.YtojcphfonbdlpaaRows
import Derived.Test.YtojcphfonbdlpaaSqSeen
import Derived.Test.YtojcphfonbdlpaaSeqM
import Derived.Test.YtojcphfonbdlpaaRowIn
import Derived.Test.YtojcphfonbdlpaaLevNon
import Derived.Test.YtojcphfonbdlpaaRefLev
import Derived.WalkKit
import Derived.ProofKit
import Derived.OpenShut
import Derived.ShutString
import Derived.ChangeOld
import Derived.Below
namespace Go.Proofs.Ytojcphfonbdlpaa.seqsCover
open Go.ChangeShapes Go.WideShapes Go.ChangeAt Go.RowKit
open Go.ChangeMaps (open_string shut_string)
set_option linter.unusedVariables false

theorem own : ownKnob Try.prog.godebug = none := by kernel_rfl
theorem laidOut : laidOutB Try.prog = true := by kernel_rfl

def IsRow (k : IntKind) (w : World) (a : Option Addr) (len cap : Nat) (zs : List Int) : Prop :=
  (a = none ∧ len = 0 ∧ cap = 0 ∧ zs = []) ∨
  ∃ x, a = some x ∧ len ≤ cap ∧ cap ≤ maxLen ∧ zs.length = cap ∧ (∀ i, i < zs.length → w.cell? (x.add i) = some (.int k (zs.getD i 0))) ∧ ∀ n ∈ zs, (Lit.int k n).wf = true

set_option maxRecDepth 100000 in
set_option maxHeartbeats 4000000 in
theorem walk (a0 : Option Addr) (len0 cap0 : Nat) (z0 : List Int) (a1 : Bool) (w : World) (w0 : IsRow .i64 w a0 len0 cap0 z0) :
    Calls Try.prog 3 #[.slice a0 len0 cap0, .bool a1] w fun e w' => e = .returned (.bool true) ∧ Below w.heap.size w w' := by
  have h := Ints.of_row w0
  clear w0
  have hcap := h.cap
  by_cases hl : 100 < len0
  · have hl' : (100 : Int) < (len0 : Int) := by omega
    clear h
    go_enter Try.func3, Try.ntmps3
    go_wp2_with (go_at_call 7; refine (alive_any _).mono ?_; rintro e w1 ⟨rfl, hb1⟩)
    go_ret
    exact ⟨rfl, hb1⟩
  · have hd : decide ((100 : Int) < (len0 : Int)) = false := by simp; omega
    have hd0 : decide (100 < len0) = false := by simp; omega
    obtain ⟨cs, hcs⟩ : ∃ cs, cs = z0.take len0 := ⟨_, rfl⟩
    rw [← hcs] at h
    clear hcs
    obtain ⟨bv, hbv⟩ : ∃ b : Int, b = (if a1 then 1 else 0) := ⟨_, rfl⟩
    have hb0 : 0 ≤ bv ∧ bv ≤ 1 := by rw [hbv]; split <;> omega
    have hnon := Lv.levels_non (base := bv) (by omega) cs
    have HBV := Lib.hid hbv
    have HI := Lib.hid h
    have HNON := Lib.hid hnon
    have HLEN := Lib.hid h.length
    clear hbv h hnon
    go_enter Try.func3, Try.ntmps3
    go_upto_region 4 with (first
      | (go_at_call 9; refine (level_any a1 _).mono ?_; rw [← HBV.out]; rintro e w1 ⟨rfl, rfl⟩)
      | (go_at_call 8; refine (rlevels_any w.heap.size a0 len0 cap0 cs bv _ HI.out (Nat.le_refl _) (by omega) (by omega) (by omega)).mono ?_; rintro e w1 ⟨A1, c1, A2, c2, rfl, hlv, -, hb1⟩))
    have hs1 := hb1.size
    have hlc := hlv.cap
    have HLV := Lib.hid hlv.ints
    have HI1 := Lib.hid ((HI.out.below hb1).more hs1)
    clear hlv
    have h1 := of_any w1.heap.size a0 A1 len0 cap0 c1 cs (Lv.levels bv cs) bv w1 HI1.out HLV.out (Nat.le_refl _) (by omega) hb0.1 HNON.out
    obtain ⟨l, hl9⟩ : ∃ l, l = Sq.of cs (Lv.levels bv cs) bv := ⟨_, rfl⟩
    rw [← hl9] at h1
    have hgood : ∀ s ∈ l, s.ps.Pairwise (· < ·) ∧ ∀ p ∈ s.ps, (∃ j : Nat, p = (j : Int) ∧ j < cs.length) ∧ Sq.at0 (Lv.levels bv cs) p = s.lv := by rw [hl9]; exact Sq.seq_good bv cs
    have hcov : ∀ (i : Nat) (c : Int), cs[i]? = some c → (l.flatMap (·.ps)).count (i : Int) = if Lv.removed c = true then 0 else 1 := by rw [hl9]; exact Sq.cover bv cs
    obtain ⟨L, hL⟩ : ∃ L, L = l.length := ⟨_, rfl⟩
    have HOF := Lib.hid h1
    have HGOOD := Lib.hid hgood
    have HCOV := Lib.hid hcov
    have HL := Lib.hid hL
    clear h1 hl9 hgood hcov hL
    go_upto_region 5 with (first
      | (go_at_call 9; refine (level_any a1 _).mono ?_; rw [← HBV.out]; rintro e w3 ⟨rfl, rfl⟩)
      | (go_at_call 10; refine HOF.out.mono ?_; rintro e w2 ⟨A3, c3, r1, rfl, hr1, hq1, hb2⟩; rw [← HL.out] at hq1))
    rw [← HL.out]
    have hqc1 := hq1.cap
    have hlr1 : r1.length = L := hq1.length
    have hs2 := hb2.size
    have HQ1 := Lib.hid hq1
    have HR1 := Lib.hid hr1
    have HLR := Lib.hid hlr1
    have HB2 := Lib.hid (show Below w.heap.size w w2 from hb1.trans (hb2.mono hs1))
    have HI2 := Lib.hid ((HI1.out.below hb2).more hs2)
    have HLV2 := Lib.hid ((HLV.out.below hb2).more hs2)
    clear hq1 hr1 hlr1 hb1 hb2 HOF HI1 HLV
    go_wp2_with (at_make; refine wpList_make_ints _ rfl _ _ 22 rfl w2.heap.size 3 Try.underlying22 Try.infoInt len0 rfl rfl (by omega) (by simp) ?_; intro w3 hown hbel hsz)
    obtain ⟨g8, hg8⟩ : ∃ g, g = w2.heap.size := ⟨_, rfl⟩
    have HOWN := Lib.hid hown
    have HB3 := Lib.hid hbel
    clear hown hbel
    go_loopw [9] (fun i wr => ∃ (k : Nat), i = .int .i64 (k : Int) ∧ k ≤ L ∧ Own wr w2.heap.size 3 (some ⟨w2.heap.size, 0, none⟩) len0 len0 (Sq.seen len0 ((l.take k).flatMap (·.ps))) ∧ Below w2.heap.size w2 wr) (fun i _ => L - (intOf i).toNat)
    case atStart => exact ⟨0, rfl, Nat.zero_le _, by rw [List.take_zero, List.flatMap_nil, Sq.seen_nil]; exact HOWN.out, HB3.out⟩
    case round =>
      obtain ⟨k, rfl, hk, how, hbel⟩ := hrel
      have HOW := Lib.hid how
      clear how
      by_cases hlt : k < L
      · obtain ⟨x1, hx1⟩ : ∃ x, r1[k]? = some x := ⟨_, List.getElem?_eq_getElem (by rw [HLR.out]; exact hlt)⟩
        have hls : l[k]? = some x1.s := by rw [← HR1.out]; simp [hx1]
        obtain ⟨hris, hpos⟩ := HGOOD.out _ (List.mem_of_getElem? hls)
        obtain ⟨m, hm⟩ : ∃ m, m = x1.s.ps.length := ⟨_, rfl⟩
        obtain ⟨ps, hps⟩ : ∃ p, p = x1.s.ps := ⟨_, rfl⟩
        obtain ⟨lv, hlv⟩ : ∃ p, p = x1.s.lv := ⟨_, rfl⟩
        have HX1 := Lib.hid hx1
        have HLS := Lib.hid hls
        have HRIS := Lib.hid hris
        have HPOS := Lib.hid hpos
        have HM := Lib.hid hm
        have HPS := Lib.hid hps
        have HLVX := Lib.hid hlv
        clear hx1 hls hris hpos hm hps hlv
        have hat := (HQ1.out.below hbel (Nat.le_refl _)).at_ HX1.out
        rw [← HM.out, ← HPS.out, ← HLVX.out] at hat
        obtain ⟨_, g, rfl, hg1, hg2, p0, p1, -, -, po⟩ := hat
        have hpc := po.cap
        clear p0 p1 po
        go_wp2_with fail
        go_loopw [10] (fun i wx => ∃ (j : Nat), i = .int .i64 (j : Int) ∧ j ≤ m ∧ Own wx w2.heap.size 3 (some ⟨w2.heap.size, 0, none⟩) len0 len0 (Sq.seen len0 ((l.take k).flatMap (·.ps) ++ ps.take j)) ∧ Below w2.heap.size w2 wx) (fun i _ => m - (intOf i).toNat)
        case atStart => exact ⟨0, rfl, Nat.zero_le _, by rw [List.take_zero, List.append_nil]; exact HOW.out, hbel⟩
        case round =>
          clear hbel
          obtain ⟨j, rfl, hj, how, hbel⟩ := hrel
          have hat := (HQ1.out.below hbel (Nat.le_refl _)).at_ HX1.out
          rw [← HM.out, ← HPS.out, ← HLVX.out] at hat
          obtain ⟨_, g', e', _, _, p0, p1, -, -, po⟩ := hat
          cases e'
          by_cases hjm : j < m
          · obtain ⟨p, hp⟩ : ∃ p, ps[j]? = some p := ⟨_, List.getElem?_eq_getElem (by rw [HPS.out, ← HM.out]; exact hjm)⟩
            have hpm := List.mem_of_getElem? hp
            obtain ⟨⟨pn, rfl, hpn⟩, hlvp⟩ := HPOS.out p (by rw [← HPS.out]; exact hpm)
            rw [HLEN.out] at hpn
            obtain ⟨_, o5, e5, _, hcx⟩ := po.ints.get hp
            cases e5
            simp only [Nat.zero_add] at hcx
            have hlv1 : (Lv.levels bv cs)[pn]? = some lv := by rw [HLVX.out, ← hlvp]; exact Sq.get_at0 (by rw [Lv.levels_length, HLEN.out]; exact hpn)
            obtain ⟨b6, o6, e6, _, hcl⟩ := (HLV2.out.below hbel).get hlv1
            have hcnt : ((l.take k).flatMap (·.ps) ++ ps.take j).count (pn : Int) ≤ 1 := by
              rw [HPS.out]
              refine Sq.part_le HLS.out ?_
              rw [HCOV.out pn _ (List.getElem?_eq_getElem (by rw [HLEN.out]; exact hpn))]
              split <;> omega
            obtain ⟨cn, hcn⟩ : ∃ c, c = ((l.take k).flatMap (·.ps) ++ ps.take j).count (pn : Int) := ⟨_, rfl⟩
            have hsg := Sq.seen_get (n := len0) ((l.take k).flatMap (·.ps) ++ ps.take j) hpn
            have hsp := Sq.seen_put (n := len0) ((l.take k).flatMap (·.ps) ++ ps.take j) hpn
            rw [← hcn] at hcnt hsg hsp
            obtain ⟨g9, x9, e9, _, hg92, hx9, hc9, hf9⟩ := how.at_ hpn
            cases e9
            rw [hsg] at hx9
            cases hx9
            have hpj : ps.take (j + 1) = ps.take j ++ [(pn : Int)] := by rw [List.take_add_one, hp]; rfl
            rw [List.append_assoc, ← hpj] at hsp
            have HSP := Lib.hid hsp
            have HHOW := Lib.hid how
            have HRISE := Lib.hid (show ∀ k a, j = k + 1 → ps[k]? = some a → a < (pn : Int) by
              intro k a hk ha
              have h1 := HRIS.out
              rw [← HPS.out] at h1
              exact Sq.rise_at h1 ha (by rw [← hk]; exact hp))
            have hprev : ∀ k, j = k + 1 → ∃ a, ps[k]? = some a := fun k hk => ⟨_, List.getElem?_eq_getElem (by rw [HPS.out, ← HM.out]; omega)⟩
            have HPREV := Lib.hid hprev
            have HPO := Lib.hid po
            have hlvv : (lv != lv) = false := by simp
            have q1 : decide ((pn : Int) < 0) = false := by simp
            have q2 : decide ((len0 : Int) ≤ (pn : Int)) = false := by simp; omega
            have q3 : decide (len0 ≤ pn) = false := by simp; omega
            have hcn1 : (cn : Int) ≤ 1 := by omega
            clear hp hpm hlvp hcnt hcn hsg hsp how hpj hprev po hlv1
            subst e6
            rcases j with _ | j
            · have q4 : decide ((0 : Int) < 0) = false := by simp
              go_wp2_with fail
              go_quiet (fail)
              have how2 := HHOW.out.drewN nq
              have hbel2 := below_drewN hbel nq
              have s9 : (wr.drewN nq).cell? ⟨w2.heap.size, pn, none⟩ = some (.int .i64 (cn : Int)) := hc9
              have f9 : (wr.drewN nq).frozen? ⟨w2.heap.size, pn, none⟩ = false := hf9
              have HH2 := Lib.hid how2
              clear how2 hc9 hf9 hcx hcl p0 p1 HHOW HPO
              generalize wr.drewN nq = w7 at *
              go_wp2_with fail
              go_roundw
              case rel => exact ⟨0 + 1, by go_num, by omega, by rw [← HSP.out]; exact HH2.out.set _, hbel2.setCell (p := ⟨w2.heap.size, pn, none⟩) (Nat.le_refl _) _⟩
              case measure => simp [intOf]; omega
            · obtain ⟨a, ha⟩ := HPREV.out j rfl
              have hap := HRISE.out j a rfl ha
              obtain ⟨_, o5, e5, _, hca⟩ := HPO.out.ints.get ha
              cases e5
              simp only [Nat.zero_add] at hca
              have q4 : decide ((pn : Int) ≤ a) = false := by simpa using hap
              have q5 : decide ((0 : Int) < (j : Int) + 1) = true := decide_eq_true (by omega)
              have q6 : (0 : Int) < (j : Int) + 1 := by omega
              have hwr : IntKind.i64.wrap (j : Int) = (j : Int) := by rw [IntKind.wrap_i64]; omega
              clear ha
              go_wp2_with fail
              go_quiet (fail)
              have how2 := HHOW.out.drewN nq
              have hbel2 := below_drewN hbel nq
              have s9 : (wr.drewN nq).cell? ⟨w2.heap.size, pn, none⟩ = some (.int .i64 (cn : Int)) := hc9
              have f9 : (wr.drewN nq).frozen? ⟨w2.heap.size, pn, none⟩ = false := hf9
              have HH2 := Lib.hid how2
              clear how2 hc9 hf9 hcx hcl p0 p1 HHOW HPO
              generalize wr.drewN nq = w7 at *
              go_wp2_with fail
              go_roundw
              case rel => exact ⟨j + 1 + 1, by go_num, by omega, by rw [← HSP.out]; exact HH2.out.set _, hbel2.setCell (p := ⟨w2.heap.size, pn, none⟩) (Nat.le_refl _) _⟩
              case measure => simp [intOf]; omega
          · have hjm' : j = m := by omega
            have HHOW := Lib.hid how
            clear how po
            subst hjm'
            go_wp2_with fail
            go_roundw
            case rel => exact ⟨k + 1, by go_num, by omega, by
              rw [Sq.take_flat HLS.out]
              have h1 : ps.take j = x1.s.ps := by rw [HM.out, HPS.out]; simp
              rw [← h1]; exact HHOW.out, hbel⟩
            case measure => simp [intOf]; omega
      · have hge : L ≤ k := by omega
        have hkL : l.take k = l := by rw [List.take_of_length_le]; rw [← HL.out]; omega
        have HW9 := Lib.hid (show Own wr w2.heap.size 3 (some ⟨w2.heap.size, 0, none⟩) len0 len0 (Sq.seen len0 (l.flatMap (·.ps))) by rw [← hkL]; exact HOW.out)
        have HB9 := Lib.hid (HB2.out.trans (hbel.mono HB2.out.size))
        have HI9 := Lib.hid (HI2.out.below hbel)
        clear HOW hkL hbel
        obtain ⟨w9, hw9⟩ : ∃ x, x = wr := ⟨_, rfl⟩
        subst hw9
        go_wp2_with fail
        go_loopw [12] (fun i wx => ∃ (j q : Nat), i = .int .i64 (j : Int) ∧ j ≤ len0 ∧ wx = w9.drewN q) (fun i _ => len0 - (intOf i).toNat)
        case atStart => exact ⟨0, 0, rfl, Nat.zero_le _, rfl⟩
        case round =>
          obtain ⟨j, q, rfl, hj, hw⟩ := hrel
          have HW := Lib.hid hw
          have hown2 : Own wr w2.heap.size 3 (some ⟨w2.heap.size, 0, none⟩) len0 len0 (Sq.seen len0 (l.flatMap (·.ps))) := by rw [hw]; exact HW9.out.drewN q
          have hin2 : Ints wr w2.heap.size a0 len0 cap0 cs := by rw [hw]; exact HI9.out.drewN q
          have HB7 := Lib.hid (show Below w.heap.size w wr by rw [hw]; exact below_drewN HB9.out q)
          clear hw
          by_cases hlt2 : j < len0
          · obtain ⟨c, hc⟩ : ∃ c, cs[j]? = some c := ⟨_, List.getElem?_eq_getElem (by rw [HLEN.out]; exact hlt2)⟩
            have hcnt := HCOV.out j c hc
            have hsg := Sq.seen_get (n := len0) (l.flatMap (·.ps)) hlt2
            rw [hcnt] at hsg
            obtain ⟨g9, x9, e9, _, hg92, hx9, hc9, _⟩ := hown2.at_ hlt2
            cases e9
            rw [hsg] at hx9
            obtain ⟨b6, o6, rfl, _, hcl⟩ := hin2.get hc
            rcases hrm : Lv.removed c with _ | _
            · rw [hrm] at hx9
              simp at hx9
              subst hx9
              have hR : ∀ nq, Calls Try.prog 11 #[.int .i64 c] (wr.drewN nq) (fun e w' => e = .returned (.bool false) ∧ w' = wr.drewN nq) := fun nq => (rremoved_any c false hrm _).mono fun _ _ ⟨h1, h2⟩ => ⟨h1, h2.symm⟩
              have HR := Lib.hid hR
              have d1 : ((1 : Int) == 0) = false := by simp
              clear hR hrm hc hcnt hsg hown2 hin2
              go_wp2_with fail
              go_quiet (first | (go_at_call 11; exact Calls.quiet_of_same (HR.out _)))
              go_wp2
              go_roundw
              case rel => exact ⟨j + 1, q + nq, by go_num, by omega, by rw [HW.out, World.drewN_drewN]⟩
              case measure => simp [intOf]; omega
            · rw [hrm] at hx9
              simp at hx9
              subst hx9
              have hR : ∀ nq, Calls Try.prog 11 #[.int .i64 c] (wr.drewN nq) (fun e w' => e = .returned (.bool true) ∧ w' = wr.drewN nq) := fun nq => (rremoved_any c true hrm _).mono fun _ _ ⟨h1, h2⟩ => ⟨h1, h2.symm⟩
              have HR := Lib.hid hR
              have d1 : ((0 : Int) == 0) = true := by simp
              clear hR hrm hc hcnt hsg hown2 hin2
              go_wp2_with fail
              go_quiet (first | (go_at_call 11; exact Calls.quiet_of_same (HR.out _)))
              go_wp2
              go_roundw
              case rel => exact ⟨j + 1, q + nq, by go_num, by omega, by rw [HW.out, World.drewN_drewN]⟩
              case measure => simp [intOf]; omega
          · have hge2 : len0 ≤ j := by omega
            clear hown2 hin2
            go_wp2_with (go_at_call 7; refine (alive_any _).mono ?_; rintro e w9 ⟨rfl, hb9⟩)
            go_ret
            exact ⟨rfl, HB7.out.trans (hb9.mono HB7.out.size)⟩

set_option maxRecDepth 100000 in
theorem lifted (os : Os) (started : os.Started) (H : Type) (enc : TypeId × Value → H) :
    ReturnsInHanded {} Try.checked os 3 .any (Rows.seqsCoverSpec.pre6 enc Try.prog Try.f3 Rows.seqsCoverRow.domain false) (Rows.seqsCoverSpec.post enc Try.prog Try.f3 false true false false) := by
  refine returnsInHanded_of_change (C := Try.checked) own started (by kernel_rfl) Try.func3
    (ChangeSpec.witness6 (enc := enc) (C := Try.checked) false ⟨#[], #[.slice none 0 0, .bool false], []⟩ 8 (by kernel_rfl) (by kernel_rfl) (by kernel_rfl) (by kernel_rfl)) ?_
  intro W base args ds gs before hval0 hW hcnd _
  have hval : ∀ (j : Nat) t v, Try.f3.params[j]? = some t → args[j]? = some v → Value.okWide Try.prog W .any base t v := hval0
  have hW' := hW
  obtain ⟨p, q, hA0, hV, rfl, hfz, hnd⟩ := hW
  have hA : DataW.TrodAll enc Try.prog W 0 (fun _ => true) true Try.f3.params.toList args.toList ds p := hA0
  rw [Try.params3] at hA hval
  obtain ⟨v0, vs0, d0, ds0, p0, q0, hargs, rfl, rfl, h0, r0⟩ := trodAll_cons hA
  obtain ⟨v1, vs1, d1, ds1, p1, q1, rfl, rfl, rfl, h1, r1⟩ := trodAll_cons r0
  obtain ⟨rfl, rfl, rfl⟩ := trodAll_nil r1
  obtain rfl : args = #[v0, v1] := by cases args; simp_all
  obtain ⟨rfl, rfl⟩ := trodVars_none hV
  obtain ⟨a0, len0, cap0, rfl⟩ := okWide_slice Try.underlying22 (hval 0 22 v0 rfl rfl)
  have k0 := h0
  have lt0 : ∀ x ∈ p0, x.block < W.heap.size := by obtain ⟨m, hm⟩ := k0; exact DataW.trod_lt m _ _ _ hm
  obtain ⟨z0, w0⟩ : ∃ zs, IsRow .i64 W a0 len0 cap0 zs := by
    obtain ⟨fuel, hf⟩ := h0
    rcases open_ints Try.underlying22 Try.underlying3 (by kernel_rfl) hf with ⟨hcs, _⟩ | ⟨x, l, c, zs, hcs, _, hl, hm, hz, _, hcell, hwz⟩
    · simp [Value.cells] at hcs
      obtain ⟨rfl, rfl, rfl⟩ := hcs
      exact ⟨[], .inl ⟨rfl, rfl, rfl, rfl⟩⟩
    · simp [Value.cells] at hcs
      obtain ⟨rfl, rfl, rfl⟩ := hcs
      exact ⟨zs, .inr ⟨_, rfl, hl, hm, by simpa using hz, hcell, hwz⟩⟩
  obtain ⟨a1, rfl, rfl, rfl⟩ := open_bool Try.underlying4 (hval 1 4 v1 rfl rfl) h1
  clear hA0 hval0
  refine (walk a0 len0 cap0 z0 a1 W w0).mono fun e W' ⟨he, bel⟩ => ?_
  subst he
  exact ⟨_, rfl, _, _, _, [], _, [], hW', trodAll_mk1 (shut_bool Try.underlying4 _), (trodAll_cons_mk (Below.trod laidOut (by kernel_rfl) (of_decide_eq_true (by kernel_rfl)) k0 bel lt0) (trodAll_cons_mk (shut_bool Try.underlying4 _) trodAll_mk0)), rfl, bel.frame _, fun h => by cases h⟩

theorem over : Rows.seqsCoverRow.holds Try.pinned (OpenSpec.ofChange Rows.seqsCoverSpec) :=
  OpenClaim.holds_of_wide 3 Try.f3 rfl rfl rfl rfl rfl rfl rfl ⟨rfl, rfl, rfl, rfl, rfl⟩ rfl rfl rfl rfl rfl (by kernel_rfl) Try.func3 (by kernel_rfl)
    (of_decide_eq_true (by kernel_rfl)) (by unfold Func.isWrapper; first | (rw [if_pos (by decide +kernel)]; kernel_rfl) | (rw [if_neg (by decide +kernel)]; exact ⟨rfl, rfl⟩))
    (fun os started H enc _ => lifted os started H enc)

theorem proved : Rows.SeqsCoverSaid := over
#print axioms proved
end Go.Proofs.Ytojcphfonbdlpaa.seqsCover
