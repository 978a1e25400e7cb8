/- The law WeakParts answers true at every input, and changes nothing that was there. No condition. -/
import Derived.Test.YtnjpngecgeofmaaRows
import Derived.Test.YtnjpngecgeofmaaWeakG
import Derived.WalkKit
import Derived.ProofKit
import Derived.OpenShut
import Derived.ShutString
import Derived.ChangeOld
import Derived.Below
namespace Go.Proofs.Ytnjpngecgeofmaa.weakParts
open Go.ChangeShapes Go.WideShapes Go.ChangeAt Go.RowKit
open Go.ChangeMaps (open_string shut_string)
set_option linter.unusedVariables false

theorem own : ownKnob Try.prog.godebug = none := by kernel_rfl
theorem laidOut : laidOutB Try.prog = true := by kernel_rfl

def IsRow (k : IntKind) (w : World) (a : Option Addr) (len cap : Nat) (zs : List Int) : Prop :=
  (a = none ∧ len = 0 ∧ cap = 0 ∧ zs = []) ∨
  ∃ x, a = some x ∧ len ≤ cap ∧ cap ≤ maxLen ∧ zs.length = cap ∧ (∀ i, i < zs.length → w.cell? (x.add i) = some (.int k (zs.getD i 0))) ∧ ∀ n ∈ zs, (Lit.int k n).wf = true

theorem below_append {w0 w w' : World} {B base : Nat} {e : TypeId} {A : Option Addr} {n c : Nat} {xs : List Int} (h : Below B w0 w) (hB : B ≤ w.heap.size) (hg : w.grownBy w' (Value.slice A n c).ownBlock) (ho : Own w base e A n c xs) (hb : B ≤ base) : Below B w0 w' :=
  h.grown hg hB fun k hk => Nat.le_trans hb (Own.block ho k hk).1

set_option maxHeartbeats 4000000 in
theorem walk (a0 : Option Addr) (len0 cap0 : Nat) (z0 : List Int) (a1 : Option Addr) (len1 cap1 : Nat) (z1 : List Int) (a2 : Bool) (a3 : Int) (w : World) (w0 : IsRow .i64 w a0 len0 cap0 z0) (w1 : IsRow .i64 w a1 len1 cap1 z1) (w3 : (Lit.int .i64 a3).wf = true) :
    Calls Try.prog 4 #[.slice a0 len0 cap0, .slice a1 len1 cap1, .bool a2, .int .i64 a3] w fun e w' => e = .returned (.bool true) ∧ Below w.heap.size w w' := by
  have hx := Ints.of_row w0
  have hy := Ints.of_row w1
  clear w0 w1 w3
  obtain ⟨xs, hxs⟩ : ∃ xs, xs = z0.take len0 := ⟨_, rfl⟩
  obtain ⟨ys, hys⟩ : ∃ ys, ys = z1.take len1 := ⟨_, rfl⟩
  rw [← hxs] at hx
  rw [← hys] at hy
  clear hxs hys
  have hcx := hx.cap
  have hcy := hy.cap
  by_cases h1 : 150 < len0
  · clear hx hy
    go_enter Try.func4, Try.ntmps4
    go_wp2_with (go_at_call 6; refine (alive_any _).mono ?_; rintro e w1 ⟨rfl, hbel⟩)
    go_ret
    exact ⟨rfl, hbel⟩
  by_cases h2 : 150 < len1
  · have h1' : len0 ≤ 150 := by omega
    clear h1 hx hy
    go_enter Try.func4, Try.ntmps4
    go_wp2_with (go_at_call 6; refine (alive_any _).mono ?_; rintro e w1 ⟨rfl, hbel⟩)
    go_ret
    exact ⟨rfl, hbel⟩
  have h1' : len0 ≤ 150 := by omega
  have h2' : len1 ≤ 150 := by omega
  clear h1 h2
  have hd1 : decide ((150 : Int) < (len0 : Int)) = false := by simp; omega
  have hd2 : decide ((150 : Int) < (len1 : Int)) = false := by simp; omega
  rcases a2 with _ | _
  · have hlit : Own (w.alloc (.cells #[] 3)) w.heap.size 3 (some ⟨w.heap.size, 0, none⟩) 0 0 [] := Own.lit w [] #[] 3 (Nat.le_refl _) (by decide) rfl rfl
    have hba : Below w.heap.size w (w.alloc (.cells #[] 3)) := (Below.refl _ _).alloc (Nat.le_refl _) _
    have hxa := hx.below hba
    go_enter Try.func4, Try.ntmps4
    go_wp2_with (first
      | (at_builtin; refine wpList_append_ints _ rfl (.tmp 23) (.tmp 24) 22 rfl w.heap.size 3 Try.underlying22 Try.infoInt (some ⟨w.heap.size, 0, none⟩) 0 0 [] rfl hlit w.heap.size a0 len0 cap0 xs rfl hxa (by omega) (by first | omega | (simp; omega) | simp) ?_; intro A1 c1 w1 ho1 hg1 _; simp only [Nat.zero_add, List.nil_append] at ho1; have hb1 := below_append hba (by simp) hg1 hlit (Nat.le_refl _); have hs1 := hb1.size; have hb1a := hb1.alloc hb1.size (.cells #[.int .i64 2] 3))
      | (at_builtin; refine wpList_append_ints _ rfl (.tmp 25) (.tmp 27) 22 rfl w.heap.size 3 Try.underlying22 Try.infoInt A1 len0 c1 xs rfl (ho1.alloc _) (w1.heap.size + 1) (some ⟨w1.heap.size, 0, none⟩) 1 1 [2] rfl (Ints.lit_at w1 [2] _ _ (by omega) rfl rfl rfl) (by omega) (by first | omega | (simp; omega) | simp) ?_; intro A2 c2 w2 ho2 hg2 _; have hb2 := below_append hb1a (by have := hb1.size; simp; omega) hg2 (ho1.alloc _) (Nat.le_refl _); have hs2 := hb2.size; have hy2 := hy.below hb2)
      | (at_builtin; refine wpList_append_ints _ rfl (.tmp 28) (.tmp 29) 22 rfl w.heap.size 3 Try.underlying22 Try.infoInt A2 (len0 + 1) c2 (xs ++ [2]) rfl ho2 w.heap.size a1 len1 cap1 ys rfl hy2 (by omega) (by first | omega | (simp; omega) | simp) ?_; intro A3 c3 w3 ho3 hg3 _; have hb3 := below_append hb2 hb2.size hg3 ho2 (Nat.le_refl _)))
    clear hlit hba hxa ho1 hg1 hb1 hb1a ho2 hg2 hy2 hb2 hg3
    rw [List.append_assoc, List.singleton_append] at ho3
    refine (weak_any _ A3 _ c3 _ a3 _ ho3.ints (Nat.le_refl _) (by omega)).mono ?_
    rintro e w4 ⟨A4, c4, rfl, ho4, hb4⟩
    have hb4' := hb3.trans (hb4.mono hb3.size)
    have hl4 := ho4.ints
    clear ho3 hb3 hb4 ho4
    have hlit4 : Own (w4.alloc (.cells #[] 3)) w4.heap.size 3 (some ⟨w4.heap.size, 0, none⟩) 0 0 [] := Own.lit w4 [] #[] 3 (Nat.le_refl _) (by decide) rfl rfl
    have hx4 := hx.below (hb4'.alloc hb4'.size (.cells #[] 3))
    have hs4 := hb4'.size
    go_wp2_with fail
    refine (weak_any _ a0 len0 cap0 xs a3 _ hx4 (by simp; omega) (by omega)).mono ?_
    rintro e w5 ⟨A5, c5, rfl, ho5, hb5⟩
    have ho5i := ho5.ints
    have hl5 := hlit4.below hb5 (Nat.le_refl _)
    have hb5' : Below w4.heap.size w4 w5 := ((Below.refl _ _).alloc (Nat.le_refl _) _).trans (hb5.mono (by simp))
    clear ho5 hb5 hlit4 hx4
    have hs5 := hb5'.size
    go_wp2_with (first
      | (at_builtin; refine wpList_append_ints _ rfl (.tmp 34) (.tmp 37) 22 rfl w4.heap.size 3 Try.underlying22 Try.infoInt (some ⟨w4.heap.size, 0, none⟩) 0 0 [] rfl hl5 w5.heap.size A5 len0 c5 (Wk.weak a3 xs) rfl ho5i (by omega) (by first | omega | (simp; omega) | simp) ?_; intro A6 c6 w6 ho6 hg6 _; simp only [Nat.zero_add, List.nil_append] at ho6; have hb6 := below_append hb5' (by have := hb5'.size; omega) hg6 hl5 (Nat.le_refl _); have hs6 := hb6.size; have hb6a := hb6.alloc hb6.size (.cells #[.int .i64 2] 3))
      | (at_builtin; refine wpList_append_ints _ rfl (.tmp 38) (.tmp 40) 22 rfl w4.heap.size 3 Try.underlying22 Try.infoInt A6 len0 c6 (Wk.weak a3 xs) rfl (ho6.alloc _) (w6.heap.size + 1) (some ⟨w6.heap.size, 0, none⟩) 1 1 [2] rfl (Ints.lit_at w6 [2] _ _ (by omega) rfl rfl rfl) (by omega) (by first | omega | (simp; omega) | simp) ?_; intro A7 c7 w7 ho7 hg7 _; have hb7 := below_append hb6a (by have := hb6.size; simp; omega) hg7 (ho6.alloc _) (Nat.le_refl _))
      | fail)
    clear hl5 ho5i hb5' ho6 hg6 hb6 hb6a hg7
    have hy7 := hy.below (hb4'.trans (hb7.mono hs4))
    refine (weak_any _ a1 len1 cap1 ys 2 _ hy7 (by have := hb7.size; omega) (by omega)).mono ?_
    rintro e w8 ⟨A8, c8, rfl, ho8, hb8⟩
    have ho8i := ho8.ints
    have ho7' := ho7.below hb8 (Nat.le_refl _)
    have hb8' := hb7.trans (hb8.mono hb7.size)
    clear ho7 ho8 hb8 hy7
    have hs8 := hb8'.size
    go_wp2_with (first
      | (at_builtin; refine wpList_append_ints _ rfl (.tmp 41) (.tmp 44) 22 rfl w4.heap.size 3 Try.underlying22 Try.infoInt A7 (len0 + 1) c7 (Wk.weak a3 xs ++ [2]) rfl ho7' w8.heap.size A8 len1 c8 (Wk.weak 2 ys) rfl ho8i (by omega) (by first | omega | (simp; omega) | simp) ?_; intro A9 c9 w9 ho9 hg9 _; have hb9 := below_append hb8' hb8'.size hg9 ho7' (Nat.le_refl _))
      | fail)
    clear hb7 hb8' ho7' ho8i hg9
    rw [List.append_assoc, List.singleton_append, ← Wk.weak_app xs ys a3 2 (by omega)] at ho9
    have hl9 := hl4.below hb9
    have hw9 := ho9.ints
    have hb9' := hb4'.trans (hb9.mono hs4)
    have hs9 := hb9.size
    clear ho9 hl4 hb9 hb4'
    refine (numbers_same A4 A9 _ c4 w4.heap.size c9 w9.heap.size _ _ hl9 hw9).mono ?_
    rintro e wq ⟨rfl, q9, rfl⟩
    go_wp2_with fail
    refine (weak_any _ A4 _ c4 _ a3 _ (hl9.drewN q9) (by simpa using hs9) (by omega)).mono ?_
    rintro e w10 ⟨A10, c10, rfl, ho10, hb10⟩
    have hl10 := (hl9.drewN q9).below (hb10.mono (by simpa using hs9))
    have hb10' := (below_drewN hb9' q9).trans (hb10.mono (by have := hb9'.size; simpa using this))
    rw [Wk.weak_twice] at ho10
    have hw10 := ho10.ints
    clear ho10 hb10 hl9 hw9 hb9'
    go_wp2_with fail
    refine (numbers_same A10 A4 _ c10 w10.heap.size c4 w4.heap.size _ _ hw10 hl10).mono ?_
    rintro e wq2 ⟨rfl, q10, rfl⟩
    go_wp2_with (go_at_call 6; refine (alive_any _).mono ?_; rintro e w11 ⟨rfl, hbel⟩)
    go_ret
    exact ⟨rfl, (below_drewN hb10' q10).trans (hbel.mono (by have := hb10'.size; simpa using this))⟩
  · have hlit : Own (w.alloc (.cells #[] 3)) w.heap.size 3 (some ⟨w.heap.size, 0, none⟩) 0 0 [] := Own.lit w [] #[] 3 (Nat.le_refl _) (by decide) rfl rfl
    have hba : Below w.heap.size w (w.alloc (.cells #[] 3)) := (Below.refl _ _).alloc (Nat.le_refl _) _
    have hxa := hx.below hba
    go_enter Try.func4, Try.ntmps4
    go_wp2_with (first
      | (at_builtin; refine wpList_append_ints _ rfl (.tmp 23) (.tmp 24) 22 rfl w.heap.size 3 Try.underlying22 Try.infoInt (some ⟨w.heap.size, 0, none⟩) 0 0 [] rfl hlit w.heap.size a0 len0 cap0 xs rfl hxa (by omega) (by first | omega | (simp; omega) | simp) ?_; intro A1 c1 w1 ho1 hg1 _; simp only [Nat.zero_add, List.nil_append] at ho1; have hb1 := below_append hba (by simp) hg1 hlit (Nat.le_refl _); have hs1 := hb1.size; have hb1a := hb1.alloc hb1.size (.cells #[.int .i64 1] 3))
      | (at_builtin; refine wpList_append_ints _ rfl (.tmp 25) (.tmp 27) 22 rfl w.heap.size 3 Try.underlying22 Try.infoInt A1 len0 c1 xs rfl (ho1.alloc _) (w1.heap.size + 1) (some ⟨w1.heap.size, 0, none⟩) 1 1 [1] rfl (Ints.lit_at w1 [1] _ _ (by omega) rfl rfl rfl) (by omega) (by first | omega | (simp; omega) | simp) ?_; intro A2 c2 w2 ho2 hg2 _; have hb2 := below_append hb1a (by have := hb1.size; simp; omega) hg2 (ho1.alloc _) (Nat.le_refl _); have hs2 := hb2.size; have hy2 := hy.below hb2)
      | (at_builtin; refine wpList_append_ints _ rfl (.tmp 28) (.tmp 29) 22 rfl w.heap.size 3 Try.underlying22 Try.infoInt A2 (len0 + 1) c2 (xs ++ [1]) rfl ho2 w.heap.size a1 len1 cap1 ys rfl hy2 (by omega) (by first | omega | (simp; omega) | simp) ?_; intro A3 c3 w3 ho3 hg3 _; have hb3 := below_append hb2 hb2.size hg3 ho2 (Nat.le_refl _)))
    clear hlit hba hxa ho1 hg1 hb1 hb1a ho2 hg2 hy2 hb2 hg3
    rw [List.append_assoc, List.singleton_append] at ho3
    refine (weak_any _ A3 _ c3 _ a3 _ ho3.ints (Nat.le_refl _) (by omega)).mono ?_
    rintro e w4 ⟨A4, c4, rfl, ho4, hb4⟩
    have hb4' := hb3.trans (hb4.mono hb3.size)
    have hl4 := ho4.ints
    clear ho3 hb3 hb4 ho4
    have hlit4 : Own (w4.alloc (.cells #[] 3)) w4.heap.size 3 (some ⟨w4.heap.size, 0, none⟩) 0 0 [] := Own.lit w4 [] #[] 3 (Nat.le_refl _) (by decide) rfl rfl
    have hx4 := hx.below (hb4'.alloc hb4'.size (.cells #[] 3))
    have hs4 := hb4'.size
    go_wp2_with fail
    refine (weak_any _ a0 len0 cap0 xs a3 _ hx4 (by simp; omega) (by omega)).mono ?_
    rintro e w5 ⟨A5, c5, rfl, ho5, hb5⟩
    have ho5i := ho5.ints
    have hl5 := hlit4.below hb5 (Nat.le_refl _)
    have hb5' : Below w4.heap.size w4 w5 := ((Below.refl _ _).alloc (Nat.le_refl _) _).trans (hb5.mono (by simp))
    clear ho5 hb5 hlit4 hx4
    have hs5 := hb5'.size
    go_wp2_with (first
      | (at_builtin; refine wpList_append_ints _ rfl (.tmp 34) (.tmp 37) 22 rfl w4.heap.size 3 Try.underlying22 Try.infoInt (some ⟨w4.heap.size, 0, none⟩) 0 0 [] rfl hl5 w5.heap.size A5 len0 c5 (Wk.weak a3 xs) rfl ho5i (by omega) (by first | omega | (simp; omega) | simp) ?_; intro A6 c6 w6 ho6 hg6 _; simp only [Nat.zero_add, List.nil_append] at ho6; have hb6 := below_append hb5' (by have := hb5'.size; omega) hg6 hl5 (Nat.le_refl _); have hs6 := hb6.size; have hb6a := hb6.alloc hb6.size (.cells #[.int .i64 1] 3))
      | (at_builtin; refine wpList_append_ints _ rfl (.tmp 38) (.tmp 40) 22 rfl w4.heap.size 3 Try.underlying22 Try.infoInt A6 len0 c6 (Wk.weak a3 xs) rfl (ho6.alloc _) (w6.heap.size + 1) (some ⟨w6.heap.size, 0, none⟩) 1 1 [1] rfl (Ints.lit_at w6 [1] _ _ (by omega) rfl rfl rfl) (by omega) (by first | omega | (simp; omega) | simp) ?_; intro A7 c7 w7 ho7 hg7 _; have hb7 := below_append hb6a (by have := hb6.size; simp; omega) hg7 (ho6.alloc _) (Nat.le_refl _))
      | fail)
    clear hl5 ho5i hb5' ho6 hg6 hb6 hb6a hg7
    have hy7 := hy.below (hb4'.trans (hb7.mono hs4))
    refine (weak_any _ a1 len1 cap1 ys 1 _ hy7 (by have := hb7.size; omega) (by omega)).mono ?_
    rintro e w8 ⟨A8, c8, rfl, ho8, hb8⟩
    have ho8i := ho8.ints
    have ho7' := ho7.below hb8 (Nat.le_refl _)
    have hb8' := hb7.trans (hb8.mono hb7.size)
    clear ho7 ho8 hb8 hy7
    have hs8 := hb8'.size
    go_wp2_with (first
      | (at_builtin; refine wpList_append_ints _ rfl (.tmp 41) (.tmp 44) 22 rfl w4.heap.size 3 Try.underlying22 Try.infoInt A7 (len0 + 1) c7 (Wk.weak a3 xs ++ [1]) rfl ho7' w8.heap.size A8 len1 c8 (Wk.weak 1 ys) rfl ho8i (by omega) (by first | omega | (simp; omega) | simp) ?_; intro A9 c9 w9 ho9 hg9 _; have hb9 := below_append hb8' hb8'.size hg9 ho7' (Nat.le_refl _))
      | fail)
    clear hb7 hb8' ho7' ho8i hg9
    rw [List.append_assoc, List.singleton_append, ← Wk.weak_app xs ys a3 1 (by omega)] at ho9
    have hl9 := hl4.below hb9
    have hw9 := ho9.ints
    have hb9' := hb4'.trans (hb9.mono hs4)
    have hs9 := hb9.size
    clear ho9 hl4 hb9 hb4'
    refine (numbers_same A4 A9 _ c4 w4.heap.size c9 w9.heap.size _ _ hl9 hw9).mono ?_
    rintro e wq ⟨rfl, q9, rfl⟩
    go_wp2_with fail
    refine (weak_any _ A4 _ c4 _ a3 _ (hl9.drewN q9) (by simpa using hs9) (by omega)).mono ?_
    rintro e w10 ⟨A10, c10, rfl, ho10, hb10⟩
    have hl10 := (hl9.drewN q9).below (hb10.mono (by simpa using hs9))
    have hb10' := (below_drewN hb9' q9).trans (hb10.mono (by have := hb9'.size; simpa using this))
    rw [Wk.weak_twice] at ho10
    have hw10 := ho10.ints
    clear ho10 hb10 hl9 hw9 hb9'
    go_wp2_with fail
    refine (numbers_same A10 A4 _ c10 w10.heap.size c4 w4.heap.size _ _ hw10 hl10).mono ?_
    rintro e wq2 ⟨rfl, q10, rfl⟩
    go_wp2_with (go_at_call 6; refine (alive_any _).mono ?_; rintro e w11 ⟨rfl, hbel⟩)
    go_ret
    exact ⟨rfl, (below_drewN hb10' q10).trans (hbel.mono (by have := hb10'.size; simpa using this))⟩

set_option maxRecDepth 100000 in
theorem lifted (os : Os) (started : os.Started) (H : Type) (enc : TypeId × Value → H) :
    ReturnsInHanded {} Try.checked os 4 .any (Rows.weakPartsSpec.pre6 enc Try.prog Try.f4 Rows.weakPartsRow.domain false) (Rows.weakPartsSpec.post enc Try.prog Try.f4 false true false false) := by
  refine returnsInHanded_of_change (C := Try.checked) own started (by kernel_rfl) Try.func4
    (ChangeSpec.witness6 (enc := enc) (C := Try.checked) false ⟨#[], #[.slice none 0 0, .slice none 0 0, .bool false, .int .i64 0], []⟩ 8 (by kernel_rfl) (by kernel_rfl) (by kernel_rfl) (by kernel_rfl)) ?_
  intro W base args ds gs before hval0 hW hcnd _
  have hval : ∀ (j : Nat) t v, Try.f4.params[j]? = some t → args[j]? = some v → Value.okWide Try.prog W .any base t v := hval0
  have hW' := hW
  obtain ⟨p, q, hA0, hV, rfl, hfz, hnd⟩ := hW
  have hA : DataW.TrodAll enc Try.prog W 0 (fun _ => true) true Try.f4.params.toList args.toList ds p := hA0
  rw [Try.params4] at hA hval
  obtain ⟨v0, vs0, d0, ds0, p0, q0, hargs, rfl, rfl, h0, r0⟩ := trodAll_cons hA
  obtain ⟨v1, vs1, d1, ds1, p1, q1, rfl, rfl, rfl, h1, r1⟩ := trodAll_cons r0
  obtain ⟨v2, vs2, d2, ds2, p2, q2, rfl, rfl, rfl, h2, r2⟩ := trodAll_cons r1
  obtain ⟨v3, vs3, d3, ds3, p3, q3, rfl, rfl, rfl, h3, r3⟩ := trodAll_cons r2
  obtain ⟨rfl, rfl, rfl⟩ := trodAll_nil r3
  obtain rfl : args = #[v0, v1, v2, v3] := by cases args; simp_all
  obtain ⟨rfl, rfl⟩ := trodVars_none hV
  obtain ⟨a0, len0, cap0, rfl⟩ := okWide_slice Try.underlying22 (hval 0 22 v0 rfl rfl)
  have k0 := h0
  have lt0 : ∀ x ∈ p0, x.block < W.heap.size := by obtain ⟨m, hm⟩ := k0; exact DataW.trod_lt m _ _ _ hm
  obtain ⟨z0, w0⟩ : ∃ zs, IsRow .i64 W a0 len0 cap0 zs := by
    obtain ⟨fuel, hf⟩ := h0
    rcases open_ints Try.underlying22 Try.underlying3 (by kernel_rfl) hf with ⟨hcs, _⟩ | ⟨x, l, c, zs, hcs, _, hl, hm, hz, _, hcell, hwz⟩
    · simp [Value.cells] at hcs
      obtain ⟨rfl, rfl, rfl⟩ := hcs
      exact ⟨[], .inl ⟨rfl, rfl, rfl, rfl⟩⟩
    · simp [Value.cells] at hcs
      obtain ⟨rfl, rfl, rfl⟩ := hcs
      exact ⟨zs, .inr ⟨_, rfl, hl, hm, by simpa using hz, hcell, hwz⟩⟩
  obtain ⟨a1, len1, cap1, rfl⟩ := okWide_slice Try.underlying22 (hval 1 22 v1 rfl rfl)
  have k1 := h1
  have lt1 : ∀ x ∈ p1, x.block < W.heap.size := by obtain ⟨m, hm⟩ := k1; exact DataW.trod_lt m _ _ _ hm
  obtain ⟨z1, w1⟩ : ∃ zs, IsRow .i64 W a1 len1 cap1 zs := by
    obtain ⟨fuel, hf⟩ := h1
    rcases open_ints Try.underlying22 Try.underlying3 (by kernel_rfl) hf with ⟨hcs, _⟩ | ⟨x, l, c, zs, hcs, _, hl, hm, hz, _, hcell, hwz⟩
    · simp [Value.cells] at hcs
      obtain ⟨rfl, rfl, rfl⟩ := hcs
      exact ⟨[], .inl ⟨rfl, rfl, rfl, rfl⟩⟩
    · simp [Value.cells] at hcs
      obtain ⟨rfl, rfl, rfl⟩ := hcs
      exact ⟨zs, .inr ⟨_, rfl, hl, hm, by simpa using hz, hcell, hwz⟩⟩
  obtain ⟨a2, rfl, rfl, rfl⟩ := open_bool Try.underlying4 (hval 2 4 v2 rfl rfl) h2
  obtain ⟨a3, rfl, rfl, rfl, w3⟩ := open_int Try.underlying3 (hval 3 3 v3 rfl rfl) h3
  clear hA0 hval0
  refine (walk a0 len0 cap0 z0 a1 len1 cap1 z1 a2 a3 W w0 w1 w3).mono fun e W' ⟨he, bel⟩ => ?_
  subst he
  exact ⟨_, rfl, _, _, _, [], _, [], hW', trodAll_mk1 (shut_bool Try.underlying4 _), (trodAll_cons_mk (Below.trod laidOut (by kernel_rfl) (of_decide_eq_true (by kernel_rfl)) k0 bel lt0) (trodAll_cons_mk (Below.trod laidOut (by kernel_rfl) (of_decide_eq_true (by kernel_rfl)) k1 bel lt1) (trodAll_cons_mk (shut_bool Try.underlying4 _) (trodAll_cons_mk (shut_int Try.underlying3 w3) trodAll_mk0)))), rfl, bel.frame _, fun h => by cases h⟩

theorem over : Rows.weakPartsRow.holds Try.pinned (OpenSpec.ofChange Rows.weakPartsSpec) :=
  OpenClaim.holds_of_wide 4 Try.f4 rfl rfl rfl rfl rfl rfl rfl ⟨rfl, rfl, rfl, rfl, rfl⟩ rfl rfl rfl rfl rfl (by kernel_rfl) Try.func4 (by kernel_rfl)
    (of_decide_eq_true (by kernel_rfl)) (by unfold Func.isWrapper; first | (rw [if_pos (by decide +kernel)]; kernel_rfl) | (rw [if_neg (by decide +kernel)]; exact ⟨rfl, rfl⟩))
    (fun os started H enc _ => lifted os started H enc)

theorem proved : Rows.WeakPartsSaid := over
#print axioms proved
end Go.Proofs.Ytnjpngecgeofmaa.weakParts
