/- The walks of least (both), Glyphs2 and row. Condition: at most a thousand glyphs. Printed by wip/tools/g27t.py. -/
import Derived.Test.YtbjeflblhjfagaaBufB
namespace Go.Proofs.Ytbjeflblhjfagaa
open Go.RowKit

set_option maxRecDepth 100000 in
set_option maxHeartbeats 4000000 in
theorem least_any (B : Nat) (A : Option Addr) (c : Nat) (g : Gl) (w : World) (h : GlsR w B A 1 c [g]) :
    Calls Try.prog 38 #[.slice A 1 c] w (fun e w' => e = .returned (.int .i64 g.cl) ∧ Below w.heap.size w w') := by
  have hcap := h.cap
  have HI := Lib.hid h
  clear h
  obtain ⟨b, o, g', rfl, hbb, hg', c0, c1, c2, c3', c4, c5, c6, c7, c8, c9⟩ := HI.out.at_ (k := 0) (by omega)
  obtain rfl : g = g' := by simpa using hg'
  simp only [Nat.zero_mul, Nat.add_zero] at c0 c1 c2 c3' c4 c5 c6 c7 c8 c9
  have y0 := up_fact c0
  have y1 := up_fact c1
  have y2 := up_fact c2
  have y3 := up_fact c3'
  have y4 := up_fact c4
  have y5 := up_fact c5
  have y6 := up_fact c6
  have y7 := up_fact c7
  have y8 := up_fact c8
  have y9 := up_fact c9
  have hA0 := Below.refl w.heap.size w
  have hmin : min g.cl g.cl = g.cl := Int.min_self _
  clear c0 c1 c2 c3' c4 c5 c6 c7 c8 c9 hg'
  go_enter Try.func38, Try.ntmps38
  go_wp2_with fail
  go_loopw [3, 12] (fun v3 v wr => ∃ k : Nat, v3 = .int .i64 g.cl ∧ v = .int .i64 (k : Int) ∧ k ≤ 1 ∧ Below w.heap.size w wr) (fun _ v _ => 1 - (intOf v).toNat)
  case atStart => exact ⟨0, rfl, rfl, by omega, Below.refl _ _⟩
  case round =>
    obtain ⟨k, rfl, rfl, hk, hA⟩ := hrel
    by_cases hlt : k < 1
    · obtain rfl : k = 0 := by omega
      have hz : decide (((0 : Nat) : Int) < 1) = true := by simp
      go_upto_region 5 with (fail)
      obtain ⟨w3, hw3⟩ : ∃ z, z = wr.alloc (.cells #[.int .i64 g.id, .int .i64 g.cl, .int .i64 g.ad, .int .i64 g.dx, .int .i64 g.dy, .int .i64 g.tw, .int .i64 g.hg, .int .i64 g.li, .int .i64 g.co, .int .i64 g.ma] 49) := ⟨_, rfl⟩
      obtain ⟨bx, hbx⟩ : ∃ z, z = wr.heap.size := ⟨_, rfl⟩
      rw [← hw3, ← hbx]
      have hA3 := (show Below w.heap.size w w3 by rw [hw3]; exact hA.alloc hA.size _)
      have hX : w3.heap[bx]? = some (.cells #[.int .i64 g.id, .int .i64 g.cl, .int .i64 g.ad, .int .i64 g.dx, .int .i64 g.dy, .int .i64 g.tw, .int .i64 g.hg, .int .i64 g.li, .int .i64 g.co, .int .i64 g.ma] 49 (0, 0)) := by rw [hw3, hbx]; exact heap_alloc_new _ _
      have xf1 := up_fact (show w3.cell? ⟨bx, 1, none⟩ = some (.int .i64 g.cl) by rw [cell_of_row _ _ 1 _ _ _ hX]; rfl)
      have hC := Below.refl w3.heap.size w3
      clear hX hw3 hbx
      go_wp2_with fail
      go_roundw
      case rel => exact ⟨1, rfl, by go_num, by omega, hA3⟩
      case measure => simp [intOf]
    · obtain rfl : k = 1 := by omega
      have hz : decide (((1 : Nat) : Int) < 1) = false := by simp
      go_wp2_with fail
      go_ret
      exact ⟨rfl, hA⟩

set_option maxRecDepth 100000 in
set_option maxHeartbeats 4000000 in
theorem rleast_any (B : Nat) (A : Option Addr) (c : Nat) (g : Gl) (w : World) (h : GlsR w B A 1 c [g]) :
    Calls Try.prog 42 #[.slice A 1 c] w (fun e w' => e = .returned (.int .i64 g.cl) ∧ Below w.heap.size w w') := by
  have hcap := h.cap
  obtain ⟨b, o, g', rfl, hbb, hg', _, c1, _⟩ := h.at_ (k := 0) (by omega)
  obtain rfl : g = g' := by simpa using hg'
  simp only [Nat.zero_mul, Nat.add_zero] at c1
  have y1 := up_fact c1
  clear c1 hg' h
  have hA0 := Below.refl w.heap.size w
  go_enter Try.func42, Try.ntmps42
  go_wp2_with fail
  go_loopw [3, 4] (fun v3 v wr => v3 = .int .i64 g.cl ∧ v = .int .i64 1 ∧ Below w.heap.size w wr) (fun _ _ _ => 0)
  case atStart => exact ⟨rfl, rfl, Below.refl _ _⟩
  case round =>
    obtain ⟨rfl, rfl, hA⟩ := hrel
    go_wp2_with fail
    go_ret
    exact ⟨rfl, hA⟩

set_option maxRecDepth 100000 in
set_option maxHeartbeats 4000000 in
theorem glyphs2_any (B B2 : Nat) (A A2 : Option Addr) (n c c2 : Nat) (gs : List Gl) (w : World) (h : GlsR w B A n c gs) (h2 : GlsR w B2 A2 n c2 gs) :
    Calls Try.prog 16 #[.slice A n c, .slice A2 n c2] w (fun e w' => e = .returned (.bool true) ∧ Below w.heap.size w w') := by
  have hcap := h.cap
  have hcap2 := h2.cap
  have HI := Lib.hid h
  have HI2 := Lib.hid h2
  clear h h2
  have hnn : ((n : Int) != (n : Int)) = false := by simp
  go_enter Try.func16, Try.ntmps16
  go_wp2_with fail
  go_loopw [5] (fun v wr => ∃ k : Nat, v = .int .i64 (k : Int) ∧ k ≤ n ∧ Below w.heap.size w wr) (fun v _ => n - (intOf v).toNat)
  case atStart => exact ⟨0, rfl, Nat.zero_le _, Below.refl _ _⟩
  case round =>
    obtain ⟨k, rfl, hk, hA⟩ := hrel
    by_cases hlt : k < n
    · obtain ⟨b, o, g, rfl, hbb, hg, c0, c1, c2, c3', c4, c5, c6, c7, c8, c9⟩ := HI.out.at_ hlt
      obtain ⟨b2, o2, g2, rfl, hbb2, hg2, d0, d1, d2, d3, d4, d5, d6, d7, d8, d9⟩ := HI2.out.at_ hlt
      rw [hg] at hg2
      cases hg2
      have y0 := up_fact c0
      have y1 := up_fact c1
      have y2 := up_fact c2
      have y3 := up_fact c3'
      have y4 := up_fact c4
      have y5 := up_fact c5
      have y6 := up_fact c6
      have y7 := up_fact c7
      have y8 := up_fact c8
      have y9 := up_fact c9
      have z0 := up_fact d0
      have z1 := up_fact d1
      have z2 := up_fact d2
      have z3 := up_fact d3
      have z4 := up_fact d4
      have z5 := up_fact d5
      have z6 := up_fact d6
      have z7 := up_fact d7
      have z8 := up_fact d8
      have z9 := up_fact d9
      have q0 : (g.id == g.id) = true := by simp
      have q1 : (g.cl == g.cl) = true := by simp
      have q2 : (g.ad == g.ad) = true := by simp
      have q3 : (g.dx == g.dx) = true := by simp
      have q4 : (g.dy == g.dy) = true := by simp
      have q5 : (g.tw == g.tw) = true := by simp
      have q6 : (g.hg == g.hg) = true := by simp
      have q7 : (g.li == g.li) = true := by simp
      have q8 : (g.co == g.co) = true := by simp
      have q9 : (g.ma == g.ma) = true := by simp
      clear c0 c1 c2 c3' c4 c5 c6 c7 c8 c9 d0 d1 d2 d3 d4 d5 d6 d7 d8 d9 hg
      go_upto_region 6 with (fail)
      have hU0 := bup hA
      refine wp_region_up wr.heap.size (by kernel_rfl) (by kernel_rfl) ?_
      repeat (go_big_quiet_step (fail))
      refine wpQuiet_nil (up_all fun w2 hb2 => ?_)
      have hA := bgo hA hb2
      clear hb2 hU0
      go_wp2_with fail
      go_roundw
      case rel => exact ⟨k + 1, by go_num, by omega, hA⟩
      case measure => simp [intOf] <;> omega
    · have hz : decide ((k : Int) < (n : Int)) = false := by simp; omega
      go_wp2_with fail
      go_ret
      exact ⟨rfl, hA⟩

def rowAt : Nat → List Int → List Gl
  | _, [] => []
  | k, x :: r => freshG x (k : Int) :: rowAt (k + 1) r
/-- a buffer of glyphs, each a cluster -/
def rowG (zs : List Int) : List Gl := rowAt 0 zs
theorem rowAt_length : ∀ (k : Nat) (zs : List Int), (rowAt k zs).length = zs.length
  | _, [] => rfl
  | k, x :: r => by simp [rowAt, rowAt_length (k + 1) r]
theorem rowG_length (zs : List Int) : (rowG zs).length = zs.length := rowAt_length 0 zs
theorem rowAt_snoc : ∀ (k : Nat) (zs : List Int) (x : Int), rowAt k (zs ++ [x]) = rowAt k zs ++ [freshG x ((k + zs.length : Nat) : Int)]
  | k, [], x => by simp [rowAt]
  | k, y :: r, x => by
    simp only [List.cons_append, rowAt, rowAt_snoc (k + 1) r x, List.length_cons]
    rw [show k + 1 + r.length = k + (r.length + 1) by omega]
theorem rowG_snoc (zs : List Int) (x : Int) : rowG (zs ++ [x]) = rowG zs ++ [freshG x (zs.length : Int)] := by
  have := rowAt_snoc 0 zs x
  rw [Nat.zero_add] at this
  exact this

set_option maxRecDepth 100000 in
set_option maxHeartbeats 4000000 in
theorem row_any (B : Nat) (A : Option Addr) (n c : Nat) (zs : List Int) (w : World) (h : Ints w B A n c zs) (hn : n ≤ 1000) :
    Calls Try.prog 20 #[.slice A n c] w (RetGls w w.heap.size (rowG zs)) := by
  have hl := h.length
  have hcap := h.cap
  have HI := Lib.hid h
  have HL := Lib.hid hl
  clear h hl
  go_enter Try.func20, Try.ntmps20
  go_wp2_with fail
  go_loopw [3, 4] (fun v3 v wr => ∃ (k : Nat) (A3 : Option Addr) (c3 : Nat), v3 = .slice A3 k c3 ∧ v = .int .i64 (k : Int) ∧ k ≤ n ∧ Hid (GRow wr w.heap.size A3 k c3 (rowG (zs.take k))) ∧ Below w.heap.size w wr) (fun _ v _ => n - (intOf v).toNat)
  case atStart => exact ⟨0, none, 0, rfl, rfl, Nat.zero_le _, GRow.nil_ _ _, Below.refl _ _⟩
  case round =>
    obtain ⟨k, A3, c3, rfl, rfl, hk, HO, hA⟩ := hrel
    have hcap3 := HO.out.cap
    by_cases hlt : k < n
    · obtain ⟨b, o, rfl, hbb, hc⟩ := HI.out.getD hlt
      obtain ⟨x, hx⟩ : ∃ x, x = zs.getD k 0 := ⟨_, rfl⟩
      rw [← hx] at hc
      have y0 := up_fact hc
      have HX := Lib.hid hx
      have hsz := hA.size
      clear hc hx
      go_wp2_with (first
        | (at_builtin; refine wpList_append_gls _ rfl (.tmp 11) (.tmp 18) 42 rfl w.heap.size _ Try.underlying42 infoGl rfl A3 k c3 (rowG (zs.take k)) rfl (HO.out.alloc _) (wr.heap.size + 1) (some ⟨wr.heap.size, 0, none⟩) 1 1 [freshG x (k : Int)] rfl (GlsR.lit wr (freshG x (k : Int))) (by omega) (by simp; omega) ?_; intro A4 c4 w4 ho4 hg4 _ _))
      have hA4 := gl_below (hA.alloc hsz (.cells #[.int .i64 (freshG x (k : Int)).id, .int .i64 (freshG x (k : Int)).cl, .int .i64 (freshG x (k : Int)).ad, .int .i64 (freshG x (k : Int)).dx, .int .i64 (freshG x (k : Int)).dy, .int .i64 (freshG x (k : Int)).tw, .int .i64 (freshG x (k : Int)).hg, .int .i64 (freshG x (k : Int)).li, .int .i64 (freshG x (k : Int)).co, .int .i64 (freshG x (k : Int)).ma] 49)) (by simp; omega) hg4 (HO.out.alloc _) (Nat.le_refl _)
      have HO4 := Lib.hid (show GRow w4 w.heap.size A4 (k + 1) c4 (rowG (zs.take (k + 1))) by
        have hkl : k < zs.length := by rw [HL.out]; exact hlt
        rw [← take_succ_getD hkl, rowG_snoc, List.length_take, Nat.min_eq_left (by omega), ← HX.out]
        exact ho4)
      clear ho4 hg4
      go_roundw
      case rel => exact ⟨k + 1, A4, c4, rfl, by go_num, by omega, HO4, hA4⟩
      case measure => simp [intOf] <;> omega
    · obtain rfl : k = n := by omega
      have hz : ¬ k < k := Nat.lt_irrefl _
      go_wp2_with fail
      go_ret
      have hn := HL.out
      subst hn
      have h9 := HO.out
      rw [List.take_of_length_le (Nat.le_refl _)] at h9
      have hrl := rowG_length zs
      exact ⟨A3, c3, by rw [hrl]; rfl, by rw [hrl]; exact h9, hA⟩

end Go.Proofs.Ytbjeflblhjfagaa
