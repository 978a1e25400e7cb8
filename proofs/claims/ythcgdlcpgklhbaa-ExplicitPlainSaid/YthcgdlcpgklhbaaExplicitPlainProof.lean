/- The law ExplicitPlain answers true at every input, and changes nothing that was there. No condition. -/
import Derived.Test.YthcgdlcpgklhbaaRows
import Derived.Test.YthcgdlcpgklhbaaExplPlain
import Derived.Test.YthcgdlcpgklhbaaRowIn
import Derived.WalkKit
import Derived.ProofKit
import Derived.OpenShut
import Derived.ShutString
import Derived.ChangeOld
import Derived.Below
namespace Go.Proofs.Ythcgdlcpgklhbaa.explicitPlain
open Go.ChangeShapes Go.WideShapes Go.ChangeAt Go.RowKit
open Go.ChangeMaps (open_string shut_string)
set_option linter.unusedVariables false

theorem own : ownKnob Try.prog.godebug = none := by kernel_rfl
theorem laidOut : laidOutB Try.prog = true := by kernel_rfl

def IsRow (k : IntKind) (w : World) (a : Option Addr) (len cap : Nat) (zs : List Int) : Prop :=
  (a = none ∧ len = 0 ∧ cap = 0 ∧ zs = []) ∨
  ∃ x, a = some x ∧ len ≤ cap ∧ cap ≤ maxLen ∧ zs.length = cap ∧ (∀ i, i < zs.length → w.cell? (x.add i) = some (.int k (zs.getD i 0))) ∧ ∀ n ∈ zs, (Lit.int k n).wf = true

/-- Up to a place both lists are made. -/
def PlainRel (w0 : World) (b : Int) (zs : List Int) (s6 s7 s8 : Value) (wr : World) : Prop :=
  ∃ (k : Nat) (pre r : List Int) (A6 A7 : Option Addr) (c6 c7 : Nat), s6 = .slice A6 k c6 ∧ s7 = .slice A7 k c7 ∧ s8 = .int .i64 (k : Int) ∧ pre.length = k ∧ zs = pre ++ r ∧
    Own wr w0.heap.size 3 A6 k c6 (pre.map Lv.pl) ∧ Own wr w0.heap.size 3 A7 k c7 (List.replicate k b) ∧ Apart A6 A7 ∧ Below w0.heap.size w0 wr

set_option maxHeartbeats 2000000 in
theorem walk (a0 : Option Addr) (len0 cap0 : Nat) (z0 : List Int) (a1 : Bool) (w : World) (w0 : IsRow .i64 w a0 len0 cap0 z0) :
    Calls Try.prog 7 #[.slice a0 len0 cap0, .bool a1] w fun e w' => e = .returned (.bool true) ∧ Below w.heap.size w w' := by
  have h := Ints.of_row w0
  clear w0
  have hcap := h.cap
  by_cases hlong : 200 < len0
  · have hl : decide (200 < len0) = true := by simpa using hlong
    have HL := Lib.hid hl
    clear h hl hlong
    go_enter Try.func7, Try.ntmps7
    go_wp2_with (go_at_call 8; refine (long_any _ _ _ true HL.out _).mono ?_; rintro e w1 ⟨rfl, rfl⟩)
    go_ret
    exact ⟨rfl, Below.refl _ _⟩
  · have hl : decide (200 < len0) = false := by simpa using hlong
    have HL := Lib.hid hl
    have hle : len0 ≤ 200 := by omega
    obtain ⟨zs, hzs⟩ : ∃ zs, zs = z0.take len0 := ⟨_, rfl⟩
    rw [← hzs] at h
    clear hl hlong hzs
    have hll := h.length
    rcases a1 with _ | _
    · go_enter Try.func7, Try.ntmps7
      go_wp2_with (first
        | (go_at_call 8; refine (long_any _ _ _ false HL.out _).mono ?_; rintro e w1 ⟨rfl, rfl⟩))
      go_loopw [6, 7, 8] (fun s6 s7 s8 wr => PlainRel w 0 zs s6 s7 s8 wr) (fun _ _ i _ => len0 - (intOf i).toNat)
      case atStart => exact ⟨0, [], zs, none, none, 0, 0, rfl, rfl, rfl, rfl, rfl, Own.nil_ _ _ _, Own.nil_ _ _ _, Apart.none_left _, Below.refl _ _⟩
      case round =>
        obtain ⟨k, pre, r, A6, A7, c6, c7, rfl, rfl, rfl, hk, hz, h6, h7, hap, hbel⟩ := hrel
        have hs := hbel.size
        rcases r with _ | ⟨x, r⟩
        · have hge : len0 ≤ k := by rw [hz] at hll; simp at hll; omega
          have hle : k ≤ len0 := by rw [hz] at hll; simp at hll; omega
          have hzp : zs = pre := by rw [hz]; simp
          have HZ := Lib.hid hzp
          have HK := Lib.hid hk
          have H6 := Lib.hid h6
          have H7 := Lib.hid h7
          clear hz hk h6 h7 hll
          go_wp2_with fail
          refine (levels_any _ A6 k c6 (pre.map Lv.pl) 0 _ (by exact H6.out.ints) (Nat.le_refl _) (by omega) (by omega) (by omega)).mono ?_
          rintro e w1 ⟨A1, c1, A2, c2, rfl, h1, h2, hb1⟩
          rw [Lv.levels_calm _ _ (fun c hc => by simp at hc; obtain ⟨y, _, rfl⟩ := hc; exact Lv.pl_calm y), List.length_map, HK.out] at h1
          rw [Lv.classes_calm _ _ (fun c hc => by simp at hc; obtain ⟨y, _, rfl⟩ := hc; exact Lv.pl_calm y)] at h2
          have h6i := (H6.out.below hb1 (Nat.le_refl _)).ints
          have h7i := (H7.out.below hb1 (Nat.le_refl _)).ints
          have hbb := hbel.trans (hb1.mono hs)
          go_wp2_with fail
          refine (same_any A1 A7 _ c1 _ c7 _ _ _ h1.ints h7i).mono ?_
          rintro e w3 ⟨rfl, q, rfl⟩
          go_wp2_with fail
          refine (same_any A2 A6 _ c2 _ c6 _ _ _ (h2.ints.drewN q) (h6i.drewN q)).mono ?_
          rintro e w3 ⟨rfl, q2, rfl⟩
          go_wp2_with fail
          have hd : Lv.depth 0 (pre.map Lv.pl) = 0 := Lv.depth_calm _ _ (fun c hc => by simp at hc; obtain ⟨y, _, rfl⟩ := hc; exact Lv.pl_calm y)
          have HD := Lib.hid hd
          have hsz1 := hbb.size
          clear h1 h2 h7i hd
          refine (depth_any w1.heap.size A6 k c6 (pre.map Lv.pl) 0 _ (by exact h6i) (by exact Nat.le_refl _) (by omega) (by omega) (by omega)).mono ?_
          rw [HD.out]
          rintro e w4 ⟨rfl, hb4⟩
          go_wp2
          go_ret
          exact ⟨rfl, (below_drewN hbb _).trans (hb4.mono (by simpa using hsz1))⟩
        · have hlt : k < len0 := by rw [hz] at hll; simp at hll; omega
          obtain ⟨b, of, rfl, hbb, hcx⟩ := (h.below hbel).get (k := k) (x := x) (by rw [hz, ← hk]; simp)
          have HZ := Lib.hid hz
          have HK := Lib.hid hk
          clear hz hk hll
          have h7a := h7.alloc (.cells #[.int .i64 (Lv.pl x)] 3)
          go_wp2_with (first
            | (go_at_call 17; refine (plain_any x _).mono ?_; rintro e w2 ⟨rfl, rfl⟩)
            | (at_builtin; refine wpList_append_ints _ rfl (.tmp 20) (.tmp 26) 22 rfl w.heap.size 3 Try.underlying22 Try.infoInt A6 k c6 (pre.map Lv.pl) rfl (h6.alloc _) (wr.heap.size + 1) (some ⟨wr.heap.size, 0, none⟩) 1 1 [(Lv.pl x)] rfl (Ints.lit_at _ [(Lv.pl x)] _ _ (by omega) rfl rfl (by simp)) (by omega) (by simp; omega) ?_; intro A6n c6n w6 h66 hg6 ho6; have h76 := h7a.kept hg6 hap.symm; have hap6 := (hap.symm.grow h7a ho6).symm; have hb6 := below_append (hbel.alloc hs (.cells #[.int .i64 (Lv.pl x)] 3)) (by simp; omega) hg6 (h6.alloc _) (Nat.le_refl _); have hs6 := hb6.size)
            | (at_builtin; refine wpList_append_ints _ rfl (.tmp 28) (.tmp 30) 22 rfl w.heap.size 3 Try.underlying22 Try.infoInt A7 k c7 (List.replicate k 0) rfl (h76.alloc _) (w6.heap.size + 1) (some ⟨w6.heap.size, 0, none⟩) 1 1 [0] rfl (Ints.lit_at _ [0] _ _ (by omega) rfl rfl (by simp)) (by omega) (by simp; omega) ?_; intro A7n c7n w7 h77 hg7 ho7))
          go_roundw
          case rel =>
            have h67 := (h66.alloc (.cells #[.int .i64 0] 3)).kept hg7 hap6
            have hap7 := hap6.grow (h66.alloc (.cells #[.int .i64 0] 3)) ho7
            have hb7 := below_append (hb6.alloc hs6 (.cells #[.int .i64 0] 3)) (by simp; omega) hg7 (h76.alloc _) (Nat.le_refl _)
            exact ⟨k + 1, pre ++ [x], r, A6n, A7n, c6n, c7n, rfl, rfl, by go_num, by simp [HK.out], by simp [HZ.out], by simpa using h67, by rw [List.replicate_succ']; exact h77, hap7, hb7⟩
          case measure => simp [intOf]; omega
    · go_enter Try.func7, Try.ntmps7
      go_wp2_with (first
        | (go_at_call 8; refine (long_any _ _ _ false HL.out _).mono ?_; rintro e w1 ⟨rfl, rfl⟩))
      go_loopw [6, 7, 8] (fun s6 s7 s8 wr => PlainRel w 1 zs s6 s7 s8 wr) (fun _ _ i _ => len0 - (intOf i).toNat)
      case atStart => exact ⟨0, [], zs, none, none, 0, 0, rfl, rfl, rfl, rfl, rfl, Own.nil_ _ _ _, Own.nil_ _ _ _, Apart.none_left _, Below.refl _ _⟩
      case round =>
        obtain ⟨k, pre, r, A6, A7, c6, c7, rfl, rfl, rfl, hk, hz, h6, h7, hap, hbel⟩ := hrel
        have hs := hbel.size
        rcases r with _ | ⟨x, r⟩
        · have hge : len0 ≤ k := by rw [hz] at hll; simp at hll; omega
          have hle : k ≤ len0 := by rw [hz] at hll; simp at hll; omega
          have hzp : zs = pre := by rw [hz]; simp
          have HZ := Lib.hid hzp
          have HK := Lib.hid hk
          have H6 := Lib.hid h6
          have H7 := Lib.hid h7
          clear hz hk h6 h7 hll
          go_wp2_with fail
          refine (levels_any _ A6 k c6 (pre.map Lv.pl) 1 _ (by exact H6.out.ints) (Nat.le_refl _) (by omega) (by omega) (by omega)).mono ?_
          rintro e w1 ⟨A1, c1, A2, c2, rfl, h1, h2, hb1⟩
          rw [Lv.levels_calm _ _ (fun c hc => by simp at hc; obtain ⟨y, _, rfl⟩ := hc; exact Lv.pl_calm y), List.length_map, HK.out] at h1
          rw [Lv.classes_calm _ _ (fun c hc => by simp at hc; obtain ⟨y, _, rfl⟩ := hc; exact Lv.pl_calm y)] at h2
          have h6i := (H6.out.below hb1 (Nat.le_refl _)).ints
          have h7i := (H7.out.below hb1 (Nat.le_refl _)).ints
          have hbb := hbel.trans (hb1.mono hs)
          go_wp2_with fail
          refine (same_any A1 A7 _ c1 _ c7 _ _ _ h1.ints h7i).mono ?_
          rintro e w3 ⟨rfl, q, rfl⟩
          go_wp2_with fail
          refine (same_any A2 A6 _ c2 _ c6 _ _ _ (h2.ints.drewN q) (h6i.drewN q)).mono ?_
          rintro e w3 ⟨rfl, q2, rfl⟩
          go_wp2_with fail
          have hd : Lv.depth 1 (pre.map Lv.pl) = 1 := Lv.depth_calm _ _ (fun c hc => by simp at hc; obtain ⟨y, _, rfl⟩ := hc; exact Lv.pl_calm y)
          have HD := Lib.hid hd
          have hsz1 := hbb.size
          clear h1 h2 h7i hd
          refine (depth_any w1.heap.size A6 k c6 (pre.map Lv.pl) 1 _ (by exact h6i) (by exact Nat.le_refl _) (by omega) (by omega) (by omega)).mono ?_
          rw [HD.out]
          rintro e w4 ⟨rfl, hb4⟩
          go_wp2
          go_ret
          exact ⟨rfl, (below_drewN hbb _).trans (hb4.mono (by simpa using hsz1))⟩
        · have hlt : k < len0 := by rw [hz] at hll; simp at hll; omega
          obtain ⟨b, of, rfl, hbb, hcx⟩ := (h.below hbel).get (k := k) (x := x) (by rw [hz, ← hk]; simp)
          have HZ := Lib.hid hz
          have HK := Lib.hid hk
          clear hz hk hll
          have h7a := h7.alloc (.cells #[.int .i64 (Lv.pl x)] 3)
          go_wp2_with (first
            | (go_at_call 17; refine (plain_any x _).mono ?_; rintro e w2 ⟨rfl, rfl⟩)
            | (at_builtin; refine wpList_append_ints _ rfl (.tmp 20) (.tmp 26) 22 rfl w.heap.size 3 Try.underlying22 Try.infoInt A6 k c6 (pre.map Lv.pl) rfl (h6.alloc _) (wr.heap.size + 1) (some ⟨wr.heap.size, 0, none⟩) 1 1 [(Lv.pl x)] rfl (Ints.lit_at _ [(Lv.pl x)] _ _ (by omega) rfl rfl (by simp)) (by omega) (by simp; omega) ?_; intro A6n c6n w6 h66 hg6 ho6; have h76 := h7a.kept hg6 hap.symm; have hap6 := (hap.symm.grow h7a ho6).symm; have hb6 := below_append (hbel.alloc hs (.cells #[.int .i64 (Lv.pl x)] 3)) (by simp; omega) hg6 (h6.alloc _) (Nat.le_refl _); have hs6 := hb6.size)
            | (at_builtin; refine wpList_append_ints _ rfl (.tmp 28) (.tmp 30) 22 rfl w.heap.size 3 Try.underlying22 Try.infoInt A7 k c7 (List.replicate k 1) rfl (h76.alloc _) (w6.heap.size + 1) (some ⟨w6.heap.size, 0, none⟩) 1 1 [1] rfl (Ints.lit_at _ [1] _ _ (by omega) rfl rfl (by simp)) (by omega) (by simp; omega) ?_; intro A7n c7n w7 h77 hg7 ho7))
          go_roundw
          case rel =>
            have h67 := (h66.alloc (.cells #[.int .i64 1] 3)).kept hg7 hap6
            have hap7 := hap6.grow (h66.alloc (.cells #[.int .i64 1] 3)) ho7
            have hb7 := below_append (hb6.alloc hs6 (.cells #[.int .i64 1] 3)) (by simp; omega) hg7 (h76.alloc _) (Nat.le_refl _)
            exact ⟨k + 1, pre ++ [x], r, A6n, A7n, c6n, c7n, rfl, rfl, by go_num, by simp [HK.out], by simp [HZ.out], by simpa using h67, by rw [List.replicate_succ']; exact h77, hap7, hb7⟩
          case measure => simp [intOf]; omega

set_option maxRecDepth 100000 in
theorem lifted (os : Os) (started : os.Started) (H : Type) (enc : TypeId × Value → H) :
    ReturnsInHanded {} Try.checked os 7 .any (Rows.explicitPlainSpec.pre6 enc Try.prog Try.f7 Rows.explicitPlainRow.domain false) (Rows.explicitPlainSpec.post enc Try.prog Try.f7 false true false false) := by
  refine returnsInHanded_of_change (C := Try.checked) own started (by kernel_rfl) Try.func7
    (ChangeSpec.witness6 (enc := enc) (C := Try.checked) false ⟨#[], #[.slice none 0 0, .bool false], []⟩ 8 (by kernel_rfl) (by kernel_rfl) (by kernel_rfl) (by kernel_rfl)) ?_
  intro W base args ds gs before hval0 hW hcnd _
  have hval : ∀ (j : Nat) t v, Try.f7.params[j]? = some t → args[j]? = some v → Value.okWide Try.prog W .any base t v := hval0
  have hW' := hW
  obtain ⟨p, q, hA0, hV, rfl, hfz, hnd⟩ := hW
  have hA : DataW.TrodAll enc Try.prog W 0 (fun _ => true) true Try.f7.params.toList args.toList ds p := hA0
  rw [Try.params7] at hA hval
  obtain ⟨v0, vs0, d0, ds0, p0, q0, hargs, rfl, rfl, h0, r0⟩ := trodAll_cons hA
  obtain ⟨v1, vs1, d1, ds1, p1, q1, rfl, rfl, rfl, h1, r1⟩ := trodAll_cons r0
  obtain ⟨rfl, rfl, rfl⟩ := trodAll_nil r1
  obtain rfl : args = #[v0, v1] := by cases args; simp_all
  obtain ⟨rfl, rfl⟩ := trodVars_none hV
  obtain ⟨a0, len0, cap0, rfl⟩ := okWide_slice Try.underlying22 (hval 0 22 v0 rfl rfl)
  have k0 := h0
  have lt0 : ∀ x ∈ p0, x.block < W.heap.size := by obtain ⟨m, hm⟩ := k0; exact DataW.trod_lt m _ _ _ hm
  obtain ⟨z0, w0⟩ : ∃ zs, IsRow .i64 W a0 len0 cap0 zs := by
    obtain ⟨fuel, hf⟩ := h0
    rcases open_ints Try.underlying22 Try.underlying3 (by kernel_rfl) hf with ⟨hcs, _⟩ | ⟨x, l, c, zs, hcs, _, hl, hm, hz, _, hcell, hwz⟩
    · simp [Value.cells] at hcs
      obtain ⟨rfl, rfl, rfl⟩ := hcs
      exact ⟨[], .inl ⟨rfl, rfl, rfl, rfl⟩⟩
    · simp [Value.cells] at hcs
      obtain ⟨rfl, rfl, rfl⟩ := hcs
      exact ⟨zs, .inr ⟨_, rfl, hl, hm, by simpa using hz, hcell, hwz⟩⟩
  obtain ⟨a1, rfl, rfl, rfl⟩ := open_bool Try.underlying4 (hval 1 4 v1 rfl rfl) h1
  clear hA0 hval0
  refine (walk a0 len0 cap0 z0 a1 W w0).mono fun e W' ⟨he, bel⟩ => ?_
  subst he
  exact ⟨_, rfl, _, _, _, [], _, [], hW', trodAll_mk1 (shut_bool Try.underlying4 _), (trodAll_cons_mk (Below.trod laidOut (by kernel_rfl) (of_decide_eq_true (by kernel_rfl)) k0 bel lt0) (trodAll_cons_mk (shut_bool Try.underlying4 _) trodAll_mk0)), rfl, bel.frame _, fun h => by cases h⟩

theorem over : Rows.explicitPlainRow.holds Try.pinned (OpenSpec.ofChange Rows.explicitPlainSpec) :=
  OpenClaim.holds_of_wide 7 Try.f7 rfl rfl rfl rfl rfl rfl rfl ⟨rfl, rfl, rfl, rfl, rfl⟩ rfl rfl rfl rfl rfl (by kernel_rfl) Try.func7 (by kernel_rfl)
    (of_decide_eq_true (by kernel_rfl)) (by unfold Func.isWrapper; first | (rw [if_pos (by decide +kernel)]; kernel_rfl) | (rw [if_neg (by decide +kernel)]; exact ⟨rfl, rfl⟩))
    (fun os started H enc _ => lifted os started H enc)

theorem proved : Rows.ExplicitPlainSaid := over
#print axioms proved
end Go.Proofs.Ythcgdlcpgklhbaa.explicitPlain
