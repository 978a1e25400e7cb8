/- The law SeqsPlain answers true at every input, and changes nothing that was there. No condition. -/
import Derived.Test.YtojcphfonbdlpaaRows
import Derived.Test.YtojcphfonbdlpaaSqCalm
import Derived.Test.YtojcphfonbdlpaaSeqM
import Derived.Test.YtojcphfonbdlpaaRowIn
import Derived.Test.YtojcphfonbdlpaaLevNon
import Derived.Test.YtojcphfonbdlpaaRefLev
import Derived.WalkKit
import Derived.ProofKit
import Derived.OpenShut
import Derived.ShutString
import Derived.ChangeOld
import Derived.Below
namespace Go.Proofs.Ytojcphfonbdlpaa.seqsPlain
open Go.ChangeShapes Go.WideShapes Go.ChangeAt Go.RowKit
open Go.ChangeMaps (open_string shut_string)
set_option linter.unusedVariables false

theorem own : ownKnob Try.prog.godebug = none := by kernel_rfl
theorem laidOut : laidOutB Try.prog = true := by kernel_rfl

def IsRow (k : IntKind) (w : World) (a : Option Addr) (len cap : Nat) (zs : List Int) : Prop :=
  (a = none ∧ len = 0 ∧ cap = 0 ∧ zs = []) ∨
  ∃ x, a = some x ∧ len ≤ cap ∧ cap ≤ maxLen ∧ zs.length = cap ∧ (∀ i, i < zs.length → w.cell? (x.add i) = some (.int k (zs.getD i 0))) ∧ ∀ n ∈ zs, (Lit.int k n).wf = true

set_option maxRecDepth 100000 in
set_option maxHeartbeats 4000000 in
theorem walk (a0 : Option Addr) (len0 cap0 : Nat) (z0 : List Int) (a1 : Bool) (w : World) (w0 : IsRow .i64 w a0 len0 cap0 z0) :
    Calls Try.prog 5 #[.slice a0 len0 cap0, .bool a1] w fun e w' => e = .returned (.bool true) ∧ Below w.heap.size w w' := by
  have h := Ints.of_row w0
  clear w0
  have hcap := h.cap
  by_cases hl : 100 < len0
  · have hl' : (100 : Int) < (len0 : Int) := by omega
    clear h
    go_enter Try.func5, Try.ntmps5
    go_wp2_with (go_at_call 7; refine (alive_any _).mono ?_; rintro e w1 ⟨rfl, hb1⟩)
    go_ret
    exact ⟨rfl, hb1⟩
  · have hd : decide ((100 : Int) < (len0 : Int)) = false := by simp; omega
    have hd0 : decide (100 < len0) = false := by simp; omega
    obtain ⟨cs, hcs⟩ : ∃ cs, cs = z0.take len0 := ⟨_, rfl⟩
    rw [← hcs] at h
    clear hcs
    obtain ⟨bv, hbv⟩ : ∃ b : Int, b = (if a1 then 1 else 0) := ⟨_, rfl⟩
    have hb0 : 0 ≤ bv ∧ bv ≤ 1 := by rw [hbv]; split <;> omega
    have hnon := Lv.levels_non (base := bv) (by omega) cs
    have HBV := Lib.hid hbv
    have HI := Lib.hid h
    have HNON := Lib.hid hnon
    have HLEN := Lib.hid h.length
    clear hbv h hnon
    go_enter Try.func5, Try.ntmps5
    go_wp2_with fail
    go_loop [5] (fun i => ∃ (k : Nat) (pre r : List Int), i = .int .i64 (k : Int) ∧ pre.length = k ∧ cs = pre ++ r ∧ ∀ c ∈ pre, Sq.Calm c) (fun i => len0 - (intOf i).toNat)
    case atStart => exact ⟨0, [], cs, rfl, rfl, rfl, by simp⟩
    case round =>
      obtain ⟨k, pre, r, rfl, hk, hz, hcalm⟩ := hrel
      rcases r with _ | ⟨x, r⟩
      · have hge : len0 ≤ k := by have := HLEN.out; rw [hz] at this; simp at this; omega
        have HCALM := Lib.hid (show ∀ c ∈ cs, Sq.Calm c by rw [hz]; simpa using hcalm)
        clear hz hk hcalm
        go_upto_region 9 with (first
          | (go_at_call 9; refine (level_any a1 _).mono ?_; rw [← HBV.out]; rintro e w1 ⟨rfl, rfl⟩)
          | (go_at_call 8; refine (rlevels_any w.heap.size a0 len0 cap0 cs bv _ HI.out (Nat.le_refl _) (by omega) (by omega) (by omega)).mono ?_; rintro e w1 ⟨A1, c1, A2, c2, rfl, hlv, -, hb1⟩))
        have hs1 := hb1.size
        have hlc := hlv.cap
        have HLV := Lib.hid hlv.ints
        have HI1 := Lib.hid ((HI.out.below hb1).more hs1)
        clear hlv
        have h1 := of_any w1.heap.size a0 A1 len0 cap0 c1 cs (Lv.levels bv cs) bv w1 HI1.out HLV.out (Nat.le_refl _) (by omega) hb0.1 HNON.out
        obtain ⟨rs, hrs⟩ : ∃ rs, rs = Sq.runs cs (Lv.levels bv cs) := ⟨_, rfl⟩
        obtain ⟨l, hl9⟩ : ∃ l, l = Sq.of cs (Lv.levels bv cs) bv := ⟨_, rfl⟩
        rw [← hl9] at h1
        obtain ⟨L, hL⟩ : ∃ L, L = rs.length := ⟨_, rfl⟩
        have hll : l.length = L := by rw [hl9, Sq.of_calm HCALM.out, List.length_map, hL, hrs]
        have hps : ∀ (j : Nat) (s : Sq.Seq) (q : List Int), l[j]? = some s → rs[j]? = some q → s.ps = q := by
          intro j s q h3 h4
          rw [hl9, Sq.of_calm HCALM.out, List.getElem?_map, ← hrs, h4] at h3
          simp only [Option.map_some, Option.some.injEq] at h3
          rw [← h3, Sq.one_calm HCALM.out]
        have hcuts : (rs.map cutOf).length = L := by rw [List.length_map, hL]
        have hne : ∀ q ∈ rs, q ≠ [] := by rw [hrs]; exact Sq.runs_ne _ _
        have hpl : ∀ q ∈ rs, ∀ p ∈ q, ∃ j : Nat, p = (j : Int) ∧ j < len0 := fun q hq p hp => by
          have e : cs.length = (Lv.levels bv cs).length := (Lv.levels_length _ _).symm
          obtain ⟨j, h1, h2⟩ := Sq.keptF_mem 0 cs p (by rw [← Sq.runs_flat e]; rw [hrs] at hq; exact List.mem_flatten.2 ⟨q, hq, hp⟩)
          exact ⟨j, h1, by have := HLEN.out; omega⟩
        have hql : ∀ q ∈ rs, q.length ≤ len0 := fun q hq => by
          have e : cs.length = (Lv.levels bv cs).length := (Lv.levels_length _ _).symm
          have h1 : (Sq.runs cs (Lv.levels bv cs)).flatten.length ≤ len0 := by rw [Sq.runs_flat e]; have := Sq.keptF_length 0 cs; have := HLEN.out; omega
          rw [hrs] at hq
          have h2 := (List.sublist_flatten_of_mem hq).length_le
          omega
        have HQL := Lib.hid hql
        clear hql
        have HRS := Lib.hid hrs
        have HOF := Lib.hid h1
        have HPS := Lib.hid hps
        have HNE := Lib.hid hne
        have HPL := Lib.hid hpl
        have HL := Lib.hid hL
        have HLL := Lib.hid hll
        have HCU := Lib.hid hcuts
        clear h1 hl9 hps hne hpl hrs hL hll hcuts
        go_upto_region 10 with (first
          | (go_at_call 9; refine (level_any a1 _).mono ?_; rw [← HBV.out]; rintro e w3 ⟨rfl, rfl⟩)
          | (go_at_call 10; refine HOF.out.mono ?_; rintro e w2 ⟨A3, c3, r1, rfl, hr1, hq1, hb2⟩; rw [HLL.out] at hq1)
          | (go_at_call 14; refine (cuts_any w1.heap.size a0 A1 len0 cap0 c1 cs (Lv.levels bv cs) w2 (HI1.out.below hb2) (HLV.out.below hb2) hb2.size (by omega)).mono ?_; rw [← HRS.out]; rintro e w4 ⟨A5, c5, rfl, hu5, hb4⟩; rw [HCU.out] at hu5))
        rw [HLL.out, ← HL.out]
        have hll2 : ((L : Int) != (L : Int)) = false := by simp
        have hq1b := hq1.below hb4 (Nat.le_refl _)
        have hqc1 := hq1.cap
        have hqc2 := hu5.cap
        have hlr1 : r1.length = L := hq1.length
        have HQ1 := Lib.hid hq1b
        have HU5 := Lib.hid hu5
        have HR1 := Lib.hid hr1
        have HLR := Lib.hid hlr1
        have HB4 := Lib.hid (show Below w.heap.size w w4 from (hb1.trans (hb2.mono hs1)).trans (hb4.mono (Nat.le_trans hs1 hb2.size)))
        clear hq1 hq1b hu5 hr1 hlr1 hb1 hb2 hb4 HOF
        go_wp2_with fail
        go_loopw [10] (fun i wr => ∃ (k q : Nat), i = .int .i64 (k : Int) ∧ k ≤ L ∧ wr = w4.drewN q) (fun i _ => L - (intOf i).toNat)
        case atStart => exact ⟨0, 0, rfl, Nat.zero_le _, rfl⟩
        case round =>
          obtain ⟨k, q, rfl, hk, hw⟩ := hrel
          have HW := Lib.hid hw
          have HT1 := Lib.hid (show Seqs wr w1.heap.size A3 L c3 r1 by rw [hw]; exact HQ1.out.drewN q)
          have HT2 := Lib.hid (show Cuts wr w2.heap.size A5 L c5 (rs.map cutOf) by rw [hw]; exact HU5.out.drewN q)
          have HB7 := Lib.hid (show Below w.heap.size w wr by rw [hw]; exact below_drewN HB4.out q)
          clear hw
          by_cases hlt : k < L
          · obtain ⟨x1, hx1⟩ : ∃ x, r1[k]? = some x := ⟨_, List.getElem?_eq_getElem (by rw [HLR.out]; exact hlt)⟩
            obtain ⟨qz, hqz⟩ : ∃ x, rs[k]? = some x := ⟨_, List.getElem?_eq_getElem (by rw [← HL.out]; exact hlt)⟩
            have hzz : x1.s.ps = qz := HPS.out k _ _ (by rw [← HR1.out]; simp [hx1]) hqz
            obtain ⟨_, g, rfl, hg1, hg2, p0, p1, p2, p3, po⟩ := HT1.out.at_ hx1
            obtain ⟨g', rfl, hg3, hg4, q0, q1⟩ := HT2.out.at_ (k := k) (x := cutOf qz) (by simp [hqz])
            rw [hzz] at p0 po
            have hqm := List.mem_of_getElem? hqz
            obtain ⟨d, xl, hdx⟩ : ∃ d xl, qz = d ++ [xl] := by
              rcases List.eq_nil_or_concat qz with h0 | ⟨d, x, h0⟩
              · exact absurd h0 (HNE.out qz hqm)
              · exact ⟨d, x, by rw [h0]; simp⟩
            obtain ⟨m, hm⟩ : ∃ m, m = d.length := ⟨_, rfl⟩
            have hlq : qz.length = m + 1 := by rw [hdx, hm]; simp
            rw [hlq] at p0 po
            obtain ⟨jl, rfl, hjn⟩ := HPL.out qz hqm xl (by rw [hdx]; simp)
            obtain ⟨x0, hx0⟩ : ∃ x0, x0 = qz.headD 0 := ⟨_, rfl⟩
            have hh0 : qz[0]? = some x0 := by
              rw [hx0]
              cases hq9 : qz with
              | nil => rw [hq9] at hlq; simp at hlq
              | cons y ys => rfl
            obtain ⟨bq, oq, e1, _, hcl⟩ := po.ints.get (k := m) (x := (jl : Int)) (by rw [hdx, hm]; simp)
            cases e1
            obtain ⟨bq, oq, e1, _, hch⟩ := po.ints.get (k := 0) (x := x0) hh0
            cases e1
            simp only [Nat.zero_add, Nat.add_zero] at hcl hch
            have hcut : cutOf qz = (x0, (jl : Int) + 1) := by unfold cutOf; rw [← hx0, hdx]; simp
            rw [hcut] at q0 q1
            simp only at q0 q1
            have hpc := po.cap
            have hml : m < 1000 := by have := HQL.out qz hqm; omega
            have hwr : IntKind.i64.wrap (m : Int) = (m : Int) := by rw [IntKind.wrap_i64]; omega
            have hwr2 : IntKind.i64.wrap (jl : Int) = (jl : Int) := by rw [IntKind.wrap_i64]; omega
            have hi0 : (m : Int) < (m : Int) + 1 := by omega
            have hi1 : (0 : Int) < (m : Int) + 1 := by omega
            have hi2 : ((m : Int) + 1 == 0) = false := by simp; omega
            have hx00 : (x0 != x0) = false := by simp
            have hjj : ((jl : Int) != (jl : Int)) = false := by simp
            clear po hm hdx hlq hqm hqz hx1 hzz hh0 hx0 hcut
            go_wp2_with fail
            go_quiet (fail)
            go_wp2
            go_roundw
            case rel => exact ⟨k + 1, q + nq, by go_num, by omega, by rw [HW.out, World.drewN_drewN]⟩
            case measure => simp [intOf]; omega
          · have hge : L ≤ k := by omega
            go_wp2_with (go_at_call 7; refine (alive_any _).mono ?_; rintro e w9 ⟨rfl, hb9⟩)
            go_ret
            exact ⟨rfl, HB7.out.trans (hb9.mono HB7.out.size)⟩
      · have hlt : k < len0 := by have := HLEN.out; rw [hz] at this; simp at this; omega
        obtain ⟨b, of, rfl, hbb, hcx⟩ := HI.out.get (k := k) (x := x) (by rw [hz, ← hk]; simp)
        have HZ := Lib.hid hz
        have HK := Lib.hid hk
        have HCA := Lib.hid hcalm
        clear hz hk hcalm
        rcases hin : Sq.ini x with _ | _
        · by_cases h23 : x = 23
          · subst h23
            have d1 : ((23 : Int) == 23) = true := by simp
            have HIN := Lib.hid hin
            clear hin
            go_wp2_with (first
              | (go_at_call 17; refine (rini_any 23 false HIN.out _).mono ?_; rintro e w9 ⟨rfl, rfl⟩)
              | (go_at_call 7; refine (alive_any _).mono ?_; rintro e w9 ⟨rfl, hb9⟩))
            go_ret
            exact ⟨rfl, hb9⟩
          · have d1 : (x == 23) = false := by simpa using h23
            have HIN := Lib.hid (And.intro hin h23)
            clear hin h23
            go_wp2_with (go_at_call 17; refine (rini_any x false HIN.out.1 _).mono ?_; rintro e w9 ⟨rfl, rfl⟩)
            go_round
            case rel => exact ⟨k + 1, pre ++ [x], r, by go_num, by simp [HK.out], by simp [HZ.out], by
              intro c hc
              simp at hc
              rcases hc with hc | rfl
              · exact HCA.out c hc
              · exact HIN.out⟩
            case measure => simp [intOf]; omega
        · have HIN := Lib.hid hin
          clear hin
          go_wp2_with (first
            | (go_at_call 17; refine (rini_any x true HIN.out _).mono ?_; rintro e w9 ⟨rfl, rfl⟩)
            | (go_at_call 7; refine (alive_any _).mono ?_; rintro e w9 ⟨rfl, hb9⟩))
          go_ret
          exact ⟨rfl, hb9⟩

set_option maxRecDepth 100000 in
theorem lifted (os : Os) (started : os.Started) (H : Type) (enc : TypeId × Value → H) :
    ReturnsInHanded {} Try.checked os 5 .any (Rows.seqsPlainSpec.pre6 enc Try.prog Try.f5 Rows.seqsPlainRow.domain false) (Rows.seqsPlainSpec.post enc Try.prog Try.f5 false true false false) := by
  refine returnsInHanded_of_change (C := Try.checked) own started (by kernel_rfl) Try.func5
    (ChangeSpec.witness6 (enc := enc) (C := Try.checked) false ⟨#[], #[.slice none 0 0, .bool false], []⟩ 8 (by kernel_rfl) (by kernel_rfl) (by kernel_rfl) (by kernel_rfl)) ?_
  intro W base args ds gs before hval0 hW hcnd _
  have hval : ∀ (j : Nat) t v, Try.f5.params[j]? = some t → args[j]? = some v → Value.okWide Try.prog W .any base t v := hval0
  have hW' := hW
  obtain ⟨p, q, hA0, hV, rfl, hfz, hnd⟩ := hW
  have hA : DataW.TrodAll enc Try.prog W 0 (fun _ => true) true Try.f5.params.toList args.toList ds p := hA0
  rw [Try.params5] at hA hval
  obtain ⟨v0, vs0, d0, ds0, p0, q0, hargs, rfl, rfl, h0, r0⟩ := trodAll_cons hA
  obtain ⟨v1, vs1, d1, ds1, p1, q1, rfl, rfl, rfl, h1, r1⟩ := trodAll_cons r0
  obtain ⟨rfl, rfl, rfl⟩ := trodAll_nil r1
  obtain rfl : args = #[v0, v1] := by cases args; simp_all
  obtain ⟨rfl, rfl⟩ := trodVars_none hV
  obtain ⟨a0, len0, cap0, rfl⟩ := okWide_slice Try.underlying22 (hval 0 22 v0 rfl rfl)
  have k0 := h0
  have lt0 : ∀ x ∈ p0, x.block < W.heap.size := by obtain ⟨m, hm⟩ := k0; exact DataW.trod_lt m _ _ _ hm
  obtain ⟨z0, w0⟩ : ∃ zs, IsRow .i64 W a0 len0 cap0 zs := by
    obtain ⟨fuel, hf⟩ := h0
    rcases open_ints Try.underlying22 Try.underlying3 (by kernel_rfl) hf with ⟨hcs, _⟩ | ⟨x, l, c, zs, hcs, _, hl, hm, hz, _, hcell, hwz⟩
    · simp [Value.cells] at hcs
      obtain ⟨rfl, rfl, rfl⟩ := hcs
      exact ⟨[], .inl ⟨rfl, rfl, rfl, rfl⟩⟩
    · simp [Value.cells] at hcs
      obtain ⟨rfl, rfl, rfl⟩ := hcs
      exact ⟨zs, .inr ⟨_, rfl, hl, hm, by simpa using hz, hcell, hwz⟩⟩
  obtain ⟨a1, rfl, rfl, rfl⟩ := open_bool Try.underlying4 (hval 1 4 v1 rfl rfl) h1
  clear hA0 hval0
  refine (walk a0 len0 cap0 z0 a1 W w0).mono fun e W' ⟨he, bel⟩ => ?_
  subst he
  exact ⟨_, rfl, _, _, _, [], _, [], hW', trodAll_mk1 (shut_bool Try.underlying4 _), (trodAll_cons_mk (Below.trod laidOut (by kernel_rfl) (of_decide_eq_true (by kernel_rfl)) k0 bel lt0) (trodAll_cons_mk (shut_bool Try.underlying4 _) trodAll_mk0)), rfl, bel.frame _, fun h => by cases h⟩

theorem over : Rows.seqsPlainRow.holds Try.pinned (OpenSpec.ofChange Rows.seqsPlainSpec) :=
  OpenClaim.holds_of_wide 5 Try.f5 rfl rfl rfl rfl rfl rfl rfl ⟨rfl, rfl, rfl, rfl, rfl⟩ rfl rfl rfl rfl rfl (by kernel_rfl) Try.func5 (by kernel_rfl)
    (of_decide_eq_true (by kernel_rfl)) (by unfold Func.isWrapper; first | (rw [if_pos (by decide +kernel)]; kernel_rfl) | (rw [if_neg (by decide +kernel)]; exact ⟨rfl, rfl⟩))
    (fun os started H enc _ => lifted os started H enc)

theorem proved : Rows.SeqsPlainSaid := over
#print axioms proved
end Go.Proofs.Ytojcphfonbdlpaa.seqsPlain
