/- The law ExplicitKeeps answers true at every input, and changes nothing that was there. No condition. -/
import Derived.Test.YthcgdlcpgklhbaaRows
import Derived.Test.YthcgdlcpgklhbaaExplF
import Derived.Test.YthcgdlcpgklhbaaRowIn
import Derived.Test.YthcgdlcpgklhbaaExplKeep
import Derived.WalkKit
import Derived.ProofKit
import Derived.OpenShut
import Derived.ShutString
import Derived.ChangeOld
import Derived.Below
namespace Go.Proofs.Ythcgdlcpgklhbaa.explicitKeeps
open Go.ChangeShapes Go.WideShapes Go.ChangeAt Go.RowKit
open Go.ChangeMaps (open_string shut_string)
set_option linter.unusedVariables false

theorem own : ownKnob Try.prog.godebug = none := by kernel_rfl
theorem laidOut : laidOutB Try.prog = true := by kernel_rfl

def IsRow (k : IntKind) (w : World) (a : Option Addr) (len cap : Nat) (zs : List Int) : Prop :=
  (a = none ∧ len = 0 ∧ cap = 0 ∧ zs = []) ∨
  ∃ x, a = some x ∧ len ≤ cap ∧ cap ≤ maxLen ∧ zs.length = cap ∧ (∀ i, i < zs.length → w.cell? (x.add i) = some (.int k (zs.getD i 0))) ∧ ∀ n ∈ zs, (Lit.int k n).wf = true

/-- Up to a place all is as it is told. -/
def KeepRel (b : Int) (zs : List Int) (w1 : World) (i : Value) (wr : World) : Prop :=
  ∃ (k q : Nat) (pre r lp cp : List Int) (os : List Lv.Out) (was : Int), i = .int .i64 (k : Int) ∧ pre.length = k ∧ lp.length = k ∧ cp.length = k ∧ zs = pre ++ r ∧ Lv.levels b zs = lp ++ os.map (·.lv) ∧ Lv.classes b zs = cp ++ os.map (·.cl) ∧
    Lv.Kept b was r os ∧ (lp = [] → was = b) ∧ (∀ l' y, lp = l' ++ [y] → was = y) ∧ wr = w1.drewN q
theorem KeepRel.go {b x : Int} {zs pre r lp cp : List Int} {os : List Lv.Out} {o : Lv.Out} {w1 : World} {k q : Nat} (hk : pre.length = k) (hlp : lp.length = k) (hcp : cp.length = k) (hz : zs = pre ++ x :: r) (hlv : Lv.levels b zs = lp ++ (o :: os).map (·.lv)) (hcl : Lv.classes b zs = cp ++ (o :: os).map (·.cl))
    (hkk : Lv.Kept b o.lv r os) : KeepRel b zs w1 (.int .i64 ((k : Int) + 1)) (w1.drewN q) :=
  ⟨k + 1, q, pre ++ [x], r, lp ++ [o.lv], cp ++ [o.cl], os, o.lv, by go_num, by simp [hk], by simp [hlp], by simp [hcp], by simp [hz], by simp [hlv], by simp [hcl], hkk, fun h => by simp at h, fun l' y h => by have := congrArg List.getLast? h; simpa using this, rfl⟩

set_option maxRecDepth 100000 in
set_option maxHeartbeats 4000000 in
theorem walk (a0 : Option Addr) (len0 cap0 : Nat) (z0 : List Int) (a1 : Bool) (w : World) (w0 : IsRow .i64 w a0 len0 cap0 z0) :
    Calls Try.prog 4 #[.slice a0 len0 cap0, .bool a1] w fun e w' => e = .returned (.bool true) ∧ Below w.heap.size w w' := by
  have h := Ints.of_row w0
  clear w0
  have hcap := h.cap
  by_cases hlong : 200 < len0
  · have hl : decide (200 < len0) = true := by simpa using hlong
    have HL := Lib.hid hl
    clear h hl hlong
    go_enter Try.func4, Try.ntmps4
    go_wp2_with (go_at_call 8; refine (long_any _ _ _ true HL.out _).mono ?_; rintro e w1 ⟨rfl, rfl⟩)
    go_ret
    exact ⟨rfl, Below.refl _ _⟩
  · have hl : decide (200 < len0) = false := by simpa using hlong
    have HL := Lib.hid hl
    have hle : len0 ≤ 200 := by omega
    obtain ⟨zs, hzs⟩ : ∃ zs, zs = z0.take len0 := ⟨_, rfl⟩
    rw [← hzs] at h
    clear hl hlong hzs
    have hll := h.length
    rcases a1 with _ | _
    · go_enter Try.func4, Try.ntmps4
      go_wp2_with (first
        | (go_at_call 8; refine (long_any _ _ _ false HL.out _).mono ?_; rintro e w1 ⟨rfl, rfl⟩))
      refine (levels_any _ a0 len0 cap0 zs 0 _ h (Nat.le_refl _) (by omega) (by omega) (by omega)).mono ?_
      rintro e w1 ⟨A1, c1, A2, c2, rfl, h1, h2, hb1⟩
      have hi := h.below hb1
      have h1i := h1.ints
      have h2i := h2.ints
      have hcp1 := h1i.cap
      have hcp2 := h2i.cap
      have hkk := Lv.lev_kept 0 (by omega) zs (Lv.begin0 0) 0 (by omega) (Lv.begin0_good 0 (by omega))
      have HKK0 := Lib.hid hkk
      have hnn : ((len0 : Int) != (len0 : Int)) = false := by simp
      clear h h1 h2 hkk
      go_wp2_with fail
      go_loopw [8] (fun i wr => KeepRel 0 zs w1 i wr) (fun i _ => len0 - (intOf i).toNat)
      case atStart => exact ⟨0, 0, [], zs, [], [], _, 0, rfl, rfl, rfl, rfl, rfl, rfl, rfl, HKK0.out, fun _ => rfl, fun l' y hy => by simp at hy, rfl⟩
      case round =>
        obtain ⟨k, q, pre, r, lp, cp, os, was, rfl, hk, hlp, hcp, hz, hlv, hcl, hkk, hw0, hw1, rfl⟩ := hrel
        rcases r with _ | ⟨x, r⟩
        · have hge : len0 ≤ k := by rw [hz] at hll; simp at hll; omega
          have hle : k ≤ len0 := by rw [hz] at hll; simp at hll; omega
          clear hk hlp hcp hz hlv hcl hkk hw0 hw1 hll hi h1i h2i
          go_wp2_with fail
          go_ret
          exact ⟨rfl, below_drewN hb1 _⟩
        · have hlt : k < len0 := by rw [hz] at hll; simp at hll; omega
          rcases os with _ | ⟨o, os⟩
          · exact hkk.elim
          obtain ⟨bb, of, rfl, _, hcx⟩ := hi.get (k := k) (x := x) (by rw [hz, ← hk]; simp)
          obtain ⟨bl, ol, rfl, _, hcl1⟩ := h1i.get (k := k) (x := o.lv) (by rw [hlv, ← hlp]; simp)
          obtain ⟨bc, oc, rfl, _, hcc⟩ := h2i.get (k := k) (x := o.cl) (by rw [hcl, ← hcp]; simp)
          have HKK := Lib.hid hkk
          obtain ⟨hv1, hv2, hrem, hnot, _⟩ := hkk
          have HZ := Lib.hid hz
          have HK := Lib.hid hk
          have HLP := Lib.hid hlp
          have HCP := Lib.hid hcp
          have HLV := Lib.hid hlv
          have HCL := Lib.hid hcl
          have d1 : decide (o.lv < 0) = false := by simp; omega
          have d2 : decide ((125 : Int) < o.lv) = false := by simp; omega
          rcases hr : Lv.removed x with _ | _
          · have HR := Lib.hid hr
            have hcls := hnot hr
            clear hk hlp hcp hz hlv hcl hw0 hw1 hll hi h1i h2i hrem hnot hr
            by_cases hx : o.cl = x
            · have e1 : (o.cl != x) = false := by simp [hx]
              clear hcls hx
              go_wp2_with (first | (go_at_call 12; refine (removed_any x false HR.out _).mono ?_; rintro e w3 ⟨rfl, rfl⟩))
              go_quiet (fail)
              go_wp2
              go_roundw
              case rel => exact KeepRel.go HK.out HLP.out HCP.out HZ.out HLV.out HCL.out HKK.out.2.2.2.2
              case measure => simp [intOf]; omega
            · have e1 : (o.cl != x) = true := by simp [hx]
              by_cases hc1 : o.cl = 1
              · have e2 : (o.cl != 1) = false := by simp [hc1]
                clear hcls hx hc1
                go_wp2_with (first | (go_at_call 12; refine (removed_any x false HR.out _).mono ?_; rintro e w3 ⟨rfl, rfl⟩))
                go_quiet (fail)
                go_wp2
                go_roundw
                case rel => exact KeepRel.go HK.out HLP.out HCP.out HZ.out HLV.out HCL.out HKK.out.2.2.2.2
                case measure => simp [intOf]; omega
              · have e2 : (o.cl != 1) = true := by simp [hc1]
                have hc2 : o.cl = 2 := by omega
                have e3 : (o.cl != 2) = false := by simp [hc2]
                clear hcls hx hc1 hc2
                go_wp2_with (first | (go_at_call 12; refine (removed_any x false HR.out _).mono ?_; rintro e w3 ⟨rfl, rfl⟩))
                go_quiet (fail)
                go_wp2
                go_roundw
                case rel => exact KeepRel.go HK.out HLP.out HCP.out HZ.out HLV.out HCL.out HKK.out.2.2.2.2
                case measure => simp [intOf]; omega
          · have HR := Lib.hid hr
            obtain ⟨hc10, hlw⟩ := hrem hr
            have e1 : (o.cl != 10) = false := by simp [hc10]
            by_cases hk0 : k = 0
            · have hwb : was = 0 := hw0 (List.eq_nil_of_length_eq_zero (by rw [hlp]; exact hk0))
              have e2 : (o.lv != 0) = false := by simp [hlw, hwb]
              have hk1 : k ≤ 0 := by omega
              have d3 : decide (0 < k) = false := by simp; omega
              have d4 : ((k : Int) == 0) = true := by simp [hk0]
              have d5 : decide ((0 : Int) < (k : Int)) = false := by simp; omega
              clear hk hlp hcp hz hlv hcl hw0 hw1 hll hi h1i h2i hrem hnot hr hc10 hlw hwb hk0
              go_wp2_with (first | (go_at_call 12; refine (removed_any x true HR.out _).mono ?_; rintro e w3 ⟨rfl, rfl⟩))
              go_quiet (fail)
              go_wp2
              go_roundw
              case rel => exact KeepRel.go HK.out HLP.out HCP.out HZ.out HLV.out HCL.out HKK.out.2.2.2.2
              case measure => simp [intOf]; omega
            · rcases List.eq_nil_or_concat lp with hlp0 | ⟨l', y, hlp1⟩
              · exact absurd (by rw [← hlp, hlp0]; rfl) hk0
              · rw [List.concat_eq_append] at hlp1
                have hwy := hw1 l' y hlp1
                have hy : (Lv.levels 0 zs)[k - 1]? = some y := by
                  rw [hlv, hlp1]
                  have : l'.length = k - 1 := by rw [hlp1] at hlp; simp at hlp; omega
                  rw [← this]; simp
                obtain ⟨bl', ol', e0, _, hcy⟩ := h1i.get hy
                cases e0
                rw [← hwy, ← hlw] at hcy
                have e2 : (o.lv != o.lv) = false := by simp
                have hk1 : 0 < k := by omega
                have d3 : decide (0 < k) = true := by simp; omega
                have d4 : ((k : Int) == 0) = false := by simp; omega
                have d5 : decide ((0 : Int) < (k : Int)) = true := by simp; omega
                clear hk hlp hcp hz hlv hcl hw0 hw1 hll hi h1i h2i hrem hnot hr hc10 hlw hlp1 hwy hy hk0
                go_wp2_with (first | (go_at_call 12; refine (removed_any x true HR.out _).mono ?_; rintro e w3 ⟨rfl, rfl⟩))
                go_quiet (fail)
                go_wp2
                go_roundw
                case rel => exact KeepRel.go HK.out HLP.out HCP.out HZ.out HLV.out HCL.out HKK.out.2.2.2.2
                case measure => simp [intOf]; omega
    · go_enter Try.func4, Try.ntmps4
      go_wp2_with (first
        | (go_at_call 8; refine (long_any _ _ _ false HL.out _).mono ?_; rintro e w1 ⟨rfl, rfl⟩))
      refine (levels_any _ a0 len0 cap0 zs 1 _ h (Nat.le_refl _) (by omega) (by omega) (by omega)).mono ?_
      rintro e w1 ⟨A1, c1, A2, c2, rfl, h1, h2, hb1⟩
      have hi := h.below hb1
      have h1i := h1.ints
      have h2i := h2.ints
      have hcp1 := h1i.cap
      have hcp2 := h2i.cap
      have hkk := Lv.lev_kept 1 (by omega) zs (Lv.begin0 1) 1 (by omega) (Lv.begin0_good 1 (by omega))
      have HKK0 := Lib.hid hkk
      have hnn : ((len0 : Int) != (len0 : Int)) = false := by simp
      clear h h1 h2 hkk
      go_wp2_with fail
      go_loopw [8] (fun i wr => KeepRel 1 zs w1 i wr) (fun i _ => len0 - (intOf i).toNat)
      case atStart => exact ⟨0, 0, [], zs, [], [], _, 1, rfl, rfl, rfl, rfl, rfl, rfl, rfl, HKK0.out, fun _ => rfl, fun l' y hy => by simp at hy, rfl⟩
      case round =>
        obtain ⟨k, q, pre, r, lp, cp, os, was, rfl, hk, hlp, hcp, hz, hlv, hcl, hkk, hw0, hw1, rfl⟩ := hrel
        rcases r with _ | ⟨x, r⟩
        · have hge : len0 ≤ k := by rw [hz] at hll; simp at hll; omega
          have hle : k ≤ len0 := by rw [hz] at hll; simp at hll; omega
          clear hk hlp hcp hz hlv hcl hkk hw0 hw1 hll hi h1i h2i
          go_wp2_with fail
          go_ret
          exact ⟨rfl, below_drewN hb1 _⟩
        · have hlt : k < len0 := by rw [hz] at hll; simp at hll; omega
          rcases os with _ | ⟨o, os⟩
          · exact hkk.elim
          obtain ⟨bb, of, rfl, _, hcx⟩ := hi.get (k := k) (x := x) (by rw [hz, ← hk]; simp)
          obtain ⟨bl, ol, rfl, _, hcl1⟩ := h1i.get (k := k) (x := o.lv) (by rw [hlv, ← hlp]; simp)
          obtain ⟨bc, oc, rfl, _, hcc⟩ := h2i.get (k := k) (x := o.cl) (by rw [hcl, ← hcp]; simp)
          have HKK := Lib.hid hkk
          obtain ⟨hv1, hv2, hrem, hnot, _⟩ := hkk
          have HZ := Lib.hid hz
          have HK := Lib.hid hk
          have HLP := Lib.hid hlp
          have HCP := Lib.hid hcp
          have HLV := Lib.hid hlv
          have HCL := Lib.hid hcl
          have d1 : decide (o.lv < 1) = false := by simp; omega
          have d2 : decide ((125 : Int) < o.lv) = false := by simp; omega
          rcases hr : Lv.removed x with _ | _
          · have HR := Lib.hid hr
            have hcls := hnot hr
            clear hk hlp hcp hz hlv hcl hw0 hw1 hll hi h1i h2i hrem hnot hr
            by_cases hx : o.cl = x
            · have e1 : (o.cl != x) = false := by simp [hx]
              clear hcls hx
              go_wp2_with (first | (go_at_call 12; refine (removed_any x false HR.out _).mono ?_; rintro e w3 ⟨rfl, rfl⟩))
              go_quiet (fail)
              go_wp2
              go_roundw
              case rel => exact KeepRel.go HK.out HLP.out HCP.out HZ.out HLV.out HCL.out HKK.out.2.2.2.2
              case measure => simp [intOf]; omega
            · have e1 : (o.cl != x) = true := by simp [hx]
              by_cases hc1 : o.cl = 1
              · have e2 : (o.cl != 1) = false := by simp [hc1]
                clear hcls hx hc1
                go_wp2_with (first | (go_at_call 12; refine (removed_any x false HR.out _).mono ?_; rintro e w3 ⟨rfl, rfl⟩))
                go_quiet (fail)
                go_wp2
                go_roundw
                case rel => exact KeepRel.go HK.out HLP.out HCP.out HZ.out HLV.out HCL.out HKK.out.2.2.2.2
                case measure => simp [intOf]; omega
              · have e2 : (o.cl != 1) = true := by simp [hc1]
                have hc2 : o.cl = 2 := by omega
                have e3 : (o.cl != 2) = false := by simp [hc2]
                clear hcls hx hc1 hc2
                go_wp2_with (first | (go_at_call 12; refine (removed_any x false HR.out _).mono ?_; rintro e w3 ⟨rfl, rfl⟩))
                go_quiet (fail)
                go_wp2
                go_roundw
                case rel => exact KeepRel.go HK.out HLP.out HCP.out HZ.out HLV.out HCL.out HKK.out.2.2.2.2
                case measure => simp [intOf]; omega
          · have HR := Lib.hid hr
            obtain ⟨hc10, hlw⟩ := hrem hr
            have e1 : (o.cl != 10) = false := by simp [hc10]
            by_cases hk0 : k = 0
            · have hwb : was = 1 := hw0 (List.eq_nil_of_length_eq_zero (by rw [hlp]; exact hk0))
              have e2 : (o.lv != 1) = false := by simp [hlw, hwb]
              have hk1 : k ≤ 0 := by omega
              have d3 : decide (0 < k) = false := by simp; omega
              have d4 : ((k : Int) == 0) = true := by simp [hk0]
              have d5 : decide ((0 : Int) < (k : Int)) = false := by simp; omega
              clear hk hlp hcp hz hlv hcl hw0 hw1 hll hi h1i h2i hrem hnot hr hc10 hlw hwb hk0
              go_wp2_with (first | (go_at_call 12; refine (removed_any x true HR.out _).mono ?_; rintro e w3 ⟨rfl, rfl⟩))
              go_quiet (fail)
              go_wp2
              go_roundw
              case rel => exact KeepRel.go HK.out HLP.out HCP.out HZ.out HLV.out HCL.out HKK.out.2.2.2.2
              case measure => simp [intOf]; omega
            · rcases List.eq_nil_or_concat lp with hlp0 | ⟨l', y, hlp1⟩
              · exact absurd (by rw [← hlp, hlp0]; rfl) hk0
              · rw [List.concat_eq_append] at hlp1
                have hwy := hw1 l' y hlp1
                have hy : (Lv.levels 1 zs)[k - 1]? = some y := by
                  rw [hlv, hlp1]
                  have : l'.length = k - 1 := by rw [hlp1] at hlp; simp at hlp; omega
                  rw [← this]; simp
                obtain ⟨bl', ol', e0, _, hcy⟩ := h1i.get hy
                cases e0
                rw [← hwy, ← hlw] at hcy
                have e2 : (o.lv != o.lv) = false := by simp
                have hk1 : 0 < k := by omega
                have d3 : decide (0 < k) = true := by simp; omega
                have d4 : ((k : Int) == 0) = false := by simp; omega
                have d5 : decide ((0 : Int) < (k : Int)) = true := by simp; omega
                clear hk hlp hcp hz hlv hcl hw0 hw1 hll hi h1i h2i hrem hnot hr hc10 hlw hlp1 hwy hy hk0
                go_wp2_with (first | (go_at_call 12; refine (removed_any x true HR.out _).mono ?_; rintro e w3 ⟨rfl, rfl⟩))
                go_quiet (fail)
                go_wp2
                go_roundw
                case rel => exact KeepRel.go HK.out HLP.out HCP.out HZ.out HLV.out HCL.out HKK.out.2.2.2.2
                case measure => simp [intOf]; omega

set_option maxRecDepth 100000 in
theorem lifted (os : Os) (started : os.Started) (H : Type) (enc : TypeId × Value → H) :
    ReturnsInHanded {} Try.checked os 4 .any (Rows.explicitKeepsSpec.pre6 enc Try.prog Try.f4 Rows.explicitKeepsRow.domain false) (Rows.explicitKeepsSpec.post enc Try.prog Try.f4 false true false false) := by
  refine returnsInHanded_of_change (C := Try.checked) own started (by kernel_rfl) Try.func4
    (ChangeSpec.witness6 (enc := enc) (C := Try.checked) false ⟨#[], #[.slice none 0 0, .bool false], []⟩ 8 (by kernel_rfl) (by kernel_rfl) (by kernel_rfl) (by kernel_rfl)) ?_
  intro W base args ds gs before hval0 hW hcnd _
  have hval : ∀ (j : Nat) t v, Try.f4.params[j]? = some t → args[j]? = some v → Value.okWide Try.prog W .any base t v := hval0
  have hW' := hW
  obtain ⟨p, q, hA0, hV, rfl, hfz, hnd⟩ := hW
  have hA : DataW.TrodAll enc Try.prog W 0 (fun _ => true) true Try.f4.params.toList args.toList ds p := hA0
  rw [Try.params4] at hA hval
  obtain ⟨v0, vs0, d0, ds0, p0, q0, hargs, rfl, rfl, h0, r0⟩ := trodAll_cons hA
  obtain ⟨v1, vs1, d1, ds1, p1, q1, rfl, rfl, rfl, h1, r1⟩ := trodAll_cons r0
  obtain ⟨rfl, rfl, rfl⟩ := trodAll_nil r1
  obtain rfl : args = #[v0, v1] := by cases args; simp_all
  obtain ⟨rfl, rfl⟩ := trodVars_none hV
  obtain ⟨a0, len0, cap0, rfl⟩ := okWide_slice Try.underlying22 (hval 0 22 v0 rfl rfl)
  have k0 := h0
  have lt0 : ∀ x ∈ p0, x.block < W.heap.size := by obtain ⟨m, hm⟩ := k0; exact DataW.trod_lt m _ _ _ hm
  obtain ⟨z0, w0⟩ : ∃ zs, IsRow .i64 W a0 len0 cap0 zs := by
    obtain ⟨fuel, hf⟩ := h0
    rcases open_ints Try.underlying22 Try.underlying3 (by kernel_rfl) hf with ⟨hcs, _⟩ | ⟨x, l, c, zs, hcs, _, hl, hm, hz, _, hcell, hwz⟩
    · simp [Value.cells] at hcs
      obtain ⟨rfl, rfl, rfl⟩ := hcs
      exact ⟨[], .inl ⟨rfl, rfl, rfl, rfl⟩⟩
    · simp [Value.cells] at hcs
      obtain ⟨rfl, rfl, rfl⟩ := hcs
      exact ⟨zs, .inr ⟨_, rfl, hl, hm, by simpa using hz, hcell, hwz⟩⟩
  obtain ⟨a1, rfl, rfl, rfl⟩ := open_bool Try.underlying4 (hval 1 4 v1 rfl rfl) h1
  clear hA0 hval0
  refine (walk a0 len0 cap0 z0 a1 W w0).mono fun e W' ⟨he, bel⟩ => ?_
  subst he
  exact ⟨_, rfl, _, _, _, [], _, [], hW', trodAll_mk1 (shut_bool Try.underlying4 _), (trodAll_cons_mk (Below.trod laidOut (by kernel_rfl) (of_decide_eq_true (by kernel_rfl)) k0 bel lt0) (trodAll_cons_mk (shut_bool Try.underlying4 _) trodAll_mk0)), rfl, bel.frame _, fun h => by cases h⟩

theorem over : Rows.explicitKeepsRow.holds Try.pinned (OpenSpec.ofChange Rows.explicitKeepsSpec) :=
  OpenClaim.holds_of_wide 4 Try.f4 rfl rfl rfl rfl rfl rfl rfl ⟨rfl, rfl, rfl, rfl, rfl⟩ rfl rfl rfl rfl rfl (by kernel_rfl) Try.func4 (by kernel_rfl)
    (of_decide_eq_true (by kernel_rfl)) (by unfold Func.isWrapper; first | (rw [if_pos (by decide +kernel)]; kernel_rfl) | (rw [if_neg (by decide +kernel)]; exact ⟨rfl, rfl⟩))
    (fun os started H enc _ => lifted os started H enc)

theorem proved : Rows.ExplicitKeepsSaid := over
#print axioms proved
end Go.Proofs.Ythcgdlcpgklhbaa.explicitKeeps
