/- Joined: MerP MerA RepR. -/
import Derived.Test.YtngdolmmaiogiaaJ09

/- What buffer.Merge does, plainly. No condition. Printed by wip/tools. -/
namespace Go.Proofs.Ytngdolmmaiogiaa
open Go.RowKit

/-- the least cluster -/
def lsB : Int → List Gl → Int
  | m, [] => m
  | m, g :: r => lsB (min m g.cl) r
def leastB : List Gl → Int
  | [] => 0
  | g :: r => lsB g.cl (g :: r)
/-- how far a cluster goes back from a place, how far on -/
def mgF (gs : List Gl) : Nat → Nat
  | 0 => 0
  | f + 1 => if (gs.getD f zGl).cl = (gs.getD (f + 1) zGl).cl then mgF gs f else f + 1
def mgT (gs : List Gl) : Nat → Nat → Nat
  | 0, t => t
  | k + 1, t => if (gs.getD t zGl).cl = (gs.getD (t - 1) zGl).cl then mgT gs k (t + 1) else t
def mergeB (gs : List Gl) (p e : Nat) : List Gl := stage gs (mgF gs p) (mgT gs (gs.length - e) e) (leastB ((gs.drop p).take (e - p)))
theorem lsB_step {m : Int} {gs : List Gl} {k : Nat} {g : Gl} (h : gs[k]? = some g) : lsB m (gs.drop k) = lsB (min m g.cl) (gs.drop (k + 1)) := by
  have hl : k < gs.length := by
    rcases Nat.lt_or_ge k gs.length with h1 | h1
    · exact h1
    · rw [List.getElem?_eq_none h1] at h; cases h
  rw [List.getElem?_eq_getElem hl] at h
  cases h
  rw [List.drop_eq_getElem_cons hl]
  rfl
theorem mgF_le (gs : List Gl) : ∀ f, mgF gs f ≤ f
  | 0 => Nat.le_refl _
  | f + 1 => by
    unfold mgF
    split
    · have := mgF_le gs f; omega
    · exact Nat.le_refl _
theorem mgT_ge (gs : List Gl) : ∀ k t, t ≤ mgT gs k t
  | 0, t => Nat.le_refl _
  | k + 1, t => by
    unfold mgT
    split
    · have := mgT_ge gs k (t + 1); omega
    · exact Nat.le_refl _
theorem mgT_le (gs : List Gl) : ∀ k t, mgT gs k t ≤ t + k
  | 0, t => Nat.le_refl _
  | k + 1, t => by
    unfold mgT
    split
    · have := mgT_le gs k (t + 1); omega
    · omega
/-- the tests of the two loops -/
def tF (gs : List Gl) (f : Nat) : Bool := decide (0 < f) && decide ((gs.getD (f - 1) zGl).cl = (gs.getD f zGl).cl)
def tT (gs : List Gl) (t : Nat) : Bool := decide (t < gs.length) && decide ((gs.getD t zGl).cl = (gs.getD (t - 1) zGl).cl)
theorem mgF_go {gs : List Gl} {f : Nat} (h : tF gs f = true) : 0 < f ∧ mgF gs f = mgF gs (f - 1) := by
  unfold tF at h
  simp only [Bool.and_eq_true, decide_eq_true_eq] at h
  obtain ⟨f, rfl⟩ : ∃ k, f = k + 1 := ⟨f - 1, by omega⟩
  refine ⟨h.1, ?_⟩
  have h2 : (gs.getD f zGl).cl = (gs.getD (f + 1) zGl).cl := h.2
  show (if (gs.getD f zGl).cl = (gs.getD (f + 1) zGl).cl then mgF gs f else f + 1) = mgF gs f
  rw [if_pos h2]
theorem mgF_stop {gs : List Gl} {f : Nat} (h : tF gs f = false) : mgF gs f = f := by
  rcases f with _ | f
  · rfl
  · unfold tF at h
    have h2 : ¬ (gs.getD f zGl).cl = (gs.getD (f + 1) zGl).cl := by
      intro h3
      simp only [Nat.add_sub_cancel, h3] at h
      simp at h
    show (if (gs.getD f zGl).cl = (gs.getD (f + 1) zGl).cl then mgF gs f else f + 1) = f + 1
    rw [if_neg h2]
theorem mgT_go {gs : List Gl} {t : Nat} (h : tT gs t = true) : t < gs.length ∧ mgT gs (gs.length - t) t = mgT gs (gs.length - (t + 1)) (t + 1) := by
  unfold tT at h
  simp only [Bool.and_eq_true, decide_eq_true_eq] at h
  refine ⟨h.1, ?_⟩
  obtain ⟨k, hk⟩ : ∃ k, gs.length - t = k + 1 := ⟨gs.length - t - 1, by omega⟩
  rw [hk, show gs.length - (t + 1) = k by omega]
  show (if (gs.getD t zGl).cl = (gs.getD (t - 1) zGl).cl then mgT gs k (t + 1) else t) = _
  rw [if_pos h.2]
theorem mgT_stop {gs : List Gl} {t : Nat} (h : tT gs t = false) : mgT gs (gs.length - t) t = t := by
  cases hk : gs.length - t with
  | zero => rfl
  | succ k =>
    unfold tT at h
    have h2 : ¬ (gs.getD t zGl).cl = (gs.getD (t - 1) zGl).cl := by
      intro h3
      have h4 : t < gs.length := by omega
      rw [decide_eq_true h4, decide_eq_true h3] at h
      cases h
    show (if (gs.getD t zGl).cl = (gs.getD (t - 1) zGl).cl then mgT gs k (t + 1) else t) = t
    rw [if_neg h2]

end Go.Proofs.Ytngdolmmaiogiaa

/- The walks of buffer.least and stretch. Condition: the buffer reads as one. Printed by wip/tools. -/
namespace Go.Proofs.Ytngdolmmaiogiaa
open Go.RowKit

set_option maxRecDepth 100000 in
set_option maxHeartbeats 4000000 in
theorem leastN_any (B : Nat) (A : Option Addr) (n c : Nat) (gs : List Gl) (w : World) (h : GlsR w B A n c gs) (hn : 0 < n) :
    Calls Try.prog 74 #[.slice A n c] w (fun e w' => e = .returned (.int .i64 (leastB gs)) ∧ Below w.heap.size w w') := by
  have hcap := h.cap
  have hlen := h.length
  have HI := Lib.hid h
  clear h
  obtain ⟨b, o, g0, rfl, hbb, hg0, z0, z1, -⟩ := HI.out.at_ (k := 0) hn
  have u1 := up_fact (show w.cell? ⟨b, o + 1, none⟩ = _ from by have h0 := z1; simpa using h0)
  obtain ⟨tot, htot⟩ : ∃ z, z = leastB gs := ⟨_, rfl⟩
  rw [← htot]
  have HTOT := Lib.hid (show lsB g0.cl gs = tot by
    rw [htot]
    cases gs with
    | nil => simp at hlen; omega
    | cons a r => cases hg0; rfl)
  clear htot z0 z1 hg0
  have hA0 := Below.refl w.heap.size w
  go_enter Try.func74, Try.ntmps74
  go_wp2_with fail
  go_loopw [3, 12] (fun v3 v wr => ∃ (k : Nat) (m : Int), v3 = .int .i64 m ∧ v = .int .i64 (k : Int) ∧ k ≤ n ∧ lsB m (gs.drop k) = tot ∧ Below w.heap.size w wr) (fun _ v _ => n - (intOf v).toNat)
  case atStart => exact ⟨0, g0.cl, rfl, rfl, Nat.zero_le _, HTOT.out, hA0⟩
  case round =>
    clear hA0
    obtain ⟨k, m, rfl, rfl, hk, htr, hA⟩ := hrel
    have HTR := Lib.hid htr
    clear htr
    by_cases hlt : k < n
    · have zl : decide ((k : Int) < (n : Int)) = true := by simp; omega
      obtain ⟨b', o', g, e', hbb', hg, c0, c1, c2, c3, c4, c5, c6, c7, c8, c9⟩ := HI.out.at_ hlt
      cases e'
      have y0 := up_fact c0
      have y1 := up_fact c1
      have y2 := up_fact c2
      have y3 := up_fact c3
      have y4 := up_fact c4
      have y5 := up_fact c5
      have y6 := up_fact c6
      have y7 := up_fact c7
      have y8 := up_fact c8
      have y9 := up_fact c9
      have HG := Lib.hid hg
      clear c0 c1 c2 c3 c4 c5 c6 c7 c8 c9 hg
      go_upto_region 5 with (fail)
      obtain ⟨w3, hw3⟩ : ∃ z, z = wr.alloc (.cells #[.int .i64 g.id, .int .i64 g.cl, .int .i64 g.ad, .int .i64 g.dx, .int .i64 g.dy, .int .i64 g.tw, .int .i64 g.hg, .int .i64 g.li, .int .i64 g.co, .int .i64 g.ma] 38) := ⟨_, rfl⟩
      obtain ⟨bx, hbx⟩ : ∃ z, z = wr.heap.size := ⟨_, rfl⟩
      rw [← hw3, ← hbx]
      have hA3 := (show Below w.heap.size w w3 by rw [hw3]; exact hA.alloc hA.size _)
      have hX : w3.heap[bx]? = some (.cells #[.int .i64 g.id, .int .i64 g.cl, .int .i64 g.ad, .int .i64 g.dx, .int .i64 g.dy, .int .i64 g.tw, .int .i64 g.hg, .int .i64 g.li, .int .i64 g.co, .int .i64 g.ma] 38 (0, 0)) := by rw [hw3, hbx]; exact heap_alloc_new _ _
      have xf1 := up_fact (show w3.cell? ⟨bx, 1, none⟩ = some (.int .i64 g.cl) by rw [cell_of_row _ _ 1 _ _ _ hX]; rfl)
      have hC := Below.refl w3.heap.size w3
      clear hX hw3 hbx
      rcases Int.lt_trichotomy g.cl m with hgm | hgm | hgm
      · have t1 : decide (g.cl < m) = true := by simp; omega
        have t2 : decide (m < g.cl) = false := by simp; omega
        have t3 : decide (m ≤ g.cl) = false := by simp; omega
        have t4 : min m g.cl = g.cl := by omega
        have t5 : ¬ m ≤ g.cl := by omega
        have t6 : ¬ m < g.cl := by omega
        go_wp2_with fail
        go_roundw
        case rel => exact ⟨k + 1, g.cl, rfl, by go_num, by omega, by rw [← HTR.out, lsB_step HG.out]; congr 1; omega, hA3⟩
        case measure => simp [intOf] <;> omega
      · have t4 : min g.cl g.cl = g.cl := Int.min_self _
        rw [← hgm]
        have HGM := Lib.hid hgm
        clear hgm
        go_wp2_with fail
        go_roundw
        case rel => exact ⟨k + 1, m, by rw [HGM.out], by go_num, by omega, by rw [← HTR.out, lsB_step HG.out]; congr 1; have := HGM.out; omega, hA3⟩
        case measure => simp [intOf] <;> omega
      · have t1 : decide (g.cl < m) = false := by simp; omega
        have t2 : decide (m < g.cl) = true := by simp; omega
        have t3 : decide (m ≤ g.cl) = true := by simp; omega
        have t4 : min m g.cl = m := by omega
        have t5 : ¬ g.cl ≤ m := by omega
        have t6 : ¬ g.cl < m := by omega
        go_wp2_with fail
        go_roundw
        case rel => exact ⟨k + 1, m, rfl, by go_num, by omega, by rw [← HTR.out, lsB_step HG.out]; congr 1; omega, hA3⟩
        case measure => simp [intOf] <;> omega
    · have hkn : k = gs.length := by omega
      have HEND := Lib.hid (show m = tot by have := HTR.out; rw [hkn, List.drop_length] at this; exact this)
      have zl : decide ((k : Int) < (n : Int)) = false := by simp; omega
      go_wp2_with fail
      go_ret
      rw [← HEND.out]
      exact ⟨rfl, hA⟩

set_option maxRecDepth 100000 in
set_option maxHeartbeats 4000000 in
theorem stretch_any (A : Option Addr) (n c p e0 : Nat) (w : World) (h1 : p ≤ e0) (h2 : e0 ≤ n) :
    Calls Try.prog 79 #[.slice A n c, .int .i64 (p : Int), .int .i64 (e0 : Int)] w (fun e w' => e = .returned (.bool true) ∧ Below w.heap.size w w') := by
  have z0 : decide (0 ≤ (p : Int)) = true := by simp
  have z1 : decide ((p : Int) ≤ (e0 : Int)) = true := by simp; omega
  have z2 : decide ((e0 : Int) ≤ (n : Int)) = true := by simp; omega
  have z3 : decide (p ≤ e0) = true := by simp; omega
  have z4 : decide (e0 ≤ n) = true := by simp; omega
  have hA0 := Below.refl w.heap.size w
  go_enter Try.func79, Try.ntmps79
  go_wp2_with fail
  go_ret
  exact ⟨rfl, hA0⟩

end Go.Proofs.Ytngdolmmaiogiaa

/- A little of what RepB needs. No condition. -/
namespace Go.Proofs.Ytngdolmmaiogiaa
open Go.RowKit

theorem putG_snoc (g : Gl) (ids : List Int) (j : Nat) (h : j < ids.length) : putG g (ids.take (j + 1)) = putG g (ids.take j) ++ [putOne g (ids.getD j 0)] := by
  unfold putG
  rw [← take_succ_getD h, List.map_append]
  rfl
theorem RetGls.n {w w' : World} {base n : Nat} {gs : List Gl} {e : Ending} (h : RetGls w base gs e w') (hn : gs.length = n) : ∃ A c, e = .returned (.slice A n c) ∧ GRow w' base A n c gs ∧ Below base w w' := by
  subst hn
  exact h

end Go.Proofs.Ytngdolmmaiogiaa
