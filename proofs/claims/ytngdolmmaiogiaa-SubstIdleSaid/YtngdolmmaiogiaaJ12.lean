/- Joined: RepB. -/
import Derived.Test.YtngdolmmaiogiaaJ10
import Derived.Test.YtngdolmmaiogiaaJ11
import Derived.Deep.RegionHeld3
import Derived.BigRegion

/- The walk of buffer.Replace of one glyph. Condition: at most a thousand glyphs, a hundred put in. Printed by wip/tools/g27v.py. -/
namespace Go.Proofs.Ytngdolmmaiogiaa
open Go.RowKit

theorem own_ne {A3 : Option Addr} {n c bf : Nat} (h : ∀ a, A3 = some a → a.block ≠ bf) : some bf ≠ (Value.slice A3 n c).ownBlock := by
  rcases A3 with _ | a
  · simp [Value.ownBlock]
  · have := h a rfl
    simp [Value.ownBlock]
    omega
theorem nb_next {A3 A4 : Option Addr} {n c n' c' bf s : Nat} (hat : (Value.slice A4 n' c').ownBlock = (Value.slice A3 n c).ownBlock ∨ (Value.slice A4 n' c').ownBlock = some s) (h : ∀ a, A3 = some a → a.block ≠ bf) (hbf : bf < s) : ∀ a, A4 = some a → a.block ≠ bf := by
  rintro a rfl
  rcases hat with hb | hb
  · rcases A3 with _ | a3
    · simp [Value.ownBlock] at hb
    · simp [Value.ownBlock] at hb
      rw [hb]; exact h a3 rfl
  · simp [Value.ownBlock] at hb
    omega
theorem infoGl' : ∃ i, Try.prog.info? 38 = some i ∧ i.zero = some (.agg #[.int .i64 0, .int .i64 0, .int .i64 0, .int .i64 0, .int .i64 0, .int .i64 0, .int .i64 0, .int .i64 0, .int .i64 0, .int .i64 0]) ∧ i.size = 10 ∧ i.bytes = 80 := info_parts infoGl
theorem GRow.kept {w w' : World} {base : Nat} {A A2 : Option Addr} {n c n2 c2 : Nat} {gs : List Gl} (h : GRow w base A n c gs) (hg : w.grownBy w' (Value.slice A2 n2 c2).ownBlock) (hap : ∀ a a2, A = some a → A2 = some a2 → a.block ≠ a2.block) : GRow w' base A n c gs := by
  refine ⟨h.1, World.ownsRow.kept h.2 hg ?_⟩
  rcases A with _ | a
  · exact .inl rfl
  · refine .inr ?_
    rcases A2 with _ | a2
    · simp [Value.ownBlock]
    · have := hap a a2 rfl rfl
      simpa [Value.ownBlock] using this
theorem GRow.apart {w : World} {base : Nat} {A A2 A' : Option Addr} {n c n2 c2 n' c' : Nat} {gs : List Gl} (h : GRow w base A n c gs) (hap : ∀ a a2, A = some a → A2 = some a2 → a.block ≠ a2.block)
    (hb : (Value.slice A' n' c').ownBlock = (Value.slice A2 n2 c2).ownBlock ∨ (Value.slice A' n' c').ownBlock = some w.heap.size) : ∀ a a2, A = some a → A' = some a2 → a.block ≠ a2.block := by
  rintro a a2 rfl rfl
  rcases hb with hb | hb
  · rcases A2 with _ | a3
    · simp [Value.ownBlock] at hb
    · simp [Value.ownBlock] at hb
      rw [hb]; exact hap a a3 rfl rfl
  · simp [Value.ownBlock] at hb
    have := (h.block a.block (by simp [Value.ownBlock])).2
    omega
set_option maxRecDepth 100000 in
set_option maxHeartbeats 4000000 in
theorem leastx_any (B : Nat) (A : Option Addr) (c : Nat) (g : Gl) (w : World) (h : GlsR w B A 1 c [g]) :
    Calls Try.prog 74 #[.slice A 1 c] w (fun e w' => e = .returned (.int .i64 g.cl) ∧ w' = w.alloc (.cells #[.int .i64 g.id, .int .i64 g.cl, .int .i64 g.ad, .int .i64 g.dx, .int .i64 g.dy, .int .i64 g.tw, .int .i64 g.hg, .int .i64 g.li, .int .i64 g.co, .int .i64 g.ma] 38)) := by
  have hcap := h.cap
  have HI := Lib.hid h
  clear h
  obtain ⟨b, o, g', rfl, hbb, hg', c0, c1, c2, c3', c4, c5, c6, c7, c8, c9⟩ := HI.out.at_ (k := 0) (by omega)
  obtain rfl : g = g' := by simpa using hg'
  simp only [Nat.zero_mul, Nat.add_zero] at c0 c1 c2 c3' c4 c5 c6 c7 c8 c9
  have hmin : min g.cl g.cl = g.cl := Int.min_self _
  clear hg'
  go_enter Try.func74, Try.ntmps74
  go_wp2_with fail
  go_loopw [3, 12] (fun v3 v wr => ∃ k : Nat, v3 = .int .i64 g.cl ∧ v = .int .i64 (k : Int) ∧ k ≤ 1 ∧ Hid (k = 0 → wr = w) ∧ Hid (k = 1 → wr = w.alloc (.cells #[.int .i64 g.id, .int .i64 g.cl, .int .i64 g.ad, .int .i64 g.dx, .int .i64 g.dy, .int .i64 g.tw, .int .i64 g.hg, .int .i64 g.li, .int .i64 g.co, .int .i64 g.ma] 38))) (fun _ v _ => 1 - (intOf v).toNat)
  case atStart => exact ⟨0, rfl, rfl, by omega, fun _ => rfl, fun h => by cases h⟩
  case round =>
    obtain ⟨k, rfl, rfl, hk, h0, h1⟩ := hrel
    by_cases hlt : k < 1
    · obtain rfl : k = 0 := by omega
      have hw := h0.out rfl
      subst hw
      have hz : decide (((0 : Nat) : Int) < 1) = true := by simp
      go_upto_region 5 with (fail)
      obtain ⟨w3, hw3⟩ : ∃ z, z = wr.alloc (.cells #[.int .i64 g.id, .int .i64 g.cl, .int .i64 g.ad, .int .i64 g.dx, .int .i64 g.dy, .int .i64 g.tw, .int .i64 g.hg, .int .i64 g.li, .int .i64 g.co, .int .i64 g.ma] 38) := ⟨_, rfl⟩
      obtain ⟨bx, hbx⟩ : ∃ z, z = wr.heap.size := ⟨_, rfl⟩
      rw [← hw3, ← hbx]
      have hX : w3.heap[bx]? = some (.cells #[.int .i64 g.id, .int .i64 g.cl, .int .i64 g.ad, .int .i64 g.dx, .int .i64 g.dy, .int .i64 g.tw, .int .i64 g.hg, .int .i64 g.li, .int .i64 g.co, .int .i64 g.ma] 38 (0, 0)) := by rw [hw3, hbx]; exact heap_alloc_new _ _
      have xf1 := (show w3.cell? ⟨bx, 1, none⟩ = some (.int .i64 g.cl) by rw [cell_of_row _ _ 1 _ _ _ hX]; rfl)
      have HW3 := Lib.hid hw3
      clear hX hw3 hbx
      go_wp2_with fail
      go_roundw
      case rel => exact ⟨1, rfl, by go_num, by omega, (fun h => by cases h), fun _ => HW3.out⟩
      case measure => simp [intOf]
    · obtain rfl : k = 1 := by omega
      have hz : decide (((1 : Nat) : Int) < 1) = false := by simp
      go_wp2_with fail
      go_ret
      exact ⟨rfl, h1.out (by first | rfl | trivial)⟩

set_option maxRecDepth 100000 in
set_option maxHeartbeats 4000000 in
theorem breplace_any (B B2 p n c m ci : Nat) (A Ai : Option Addr) (gs : List Gl) (ids : List Int) (w : World) (h : GlsR w B A n c gs) (hid : Ints w B2 Ai m ci ids) (hp : p < n) (hn : n ≤ 100000) (hm : m ≤ 100) (hB : B ≤ w.heap.size) :
    Calls Try.prog 60 #[.slice A n c, .int .i64 (p : Int), .int .i64 1, .slice Ai m ci] w (RetGls w w.heap.size (repG gs p ids)) := by
  obtain ⟨b, o, g, rfl, hbb, hg, c0, c1, c2, c3', c4, c5, c6, c7, c8', c9⟩ := h.at_ hp
  have hcap := h.cap
  have hcapi := hid.cap
  have y0 := up_fact c0
  have y1 := up_fact c1
  have y2 := up_fact c2
  have y3 := up_fact c3'
  have y4 := up_fact c4
  have y5 := up_fact c5
  have y6 := up_fact c6
  have y7 := up_fact c7
  have y8 := up_fact c8'
  have y9 := up_fact c9
  have HI := Lib.hid h
  have HID := Lib.hid hid
  have HGL := Lib.hid h.length
  have HIL := Lib.hid hid.length
  have HONE := Lib.hid (h.one hp hg)
  have HFRONT := Lib.hid (h.front (k := p) (by omega))
  have HG := Lib.hid hg
  have hA := Below.refl w.heap.size w
  have hlp : (gs.take p).length = p := by rw [List.length_take, h.length]; omega
  have HLP := Lib.hid hlp
  clear h hid hg hlp c0 c1 c2 c3' c4 c5 c6 c7 c8' c9
  have q1 : decide ((p : Int) < 0) = false := by simp
  have q2 : decide ((n : Int) < (p : Int)) = false := by simp; omega
  have q2' : decide (n < p) = false := by simp; omega
  have hw1 : IntKind.i64.wrap ((n : Int) - (p : Int)) = ((n - p : Nat) : Int) := by rw [IntKind.wrap_i64]; omega
  have q3 : decide (((n - p : Nat) : Int) < 1) = false := by simp; omega
  have q3' : decide (n - p < 1) = false := by simp; omega
  have hw2 : IntKind.i64.wrap ((p : Int) + 1) = (p : Int) + 1 := by rw [IntKind.wrap_i64]; omega
  have ht1 : ((p : Int) + 1).toNat = p + 1 := by omega
  have hb0 : (0 : Int) ≤ (p : Int) + 1 := by omega
  have hb1 : (p : Int) ≤ (p : Int) + 1 := by omega
  have hb2 : (p : Int) + 1 ≤ (c : Int) := by omega
  have hb3 : (p : Int) + 1 ≤ (n : Int) := by omega
  have hb4 : (p : Int) ≤ (c : Int) := by omega
  have hcp : ¬ (c = p) := by omega
  have hc00 : ¬ (c = 0) := by omega
  go_enter Try.func60, Try.ntmps60
  go_upto_region 4 with (go_at_call 21; refine ((gclone_any B _ _ _ gs _ HI.out hB (by omega)).mono (fun _ _ h => h.n HGL.out)).mono ?_; rintro e w1 ⟨Ao, co, rfl, ho, hb⟩; have HO1 := Lib.hid ho; have hA := bgo hA hb; clear hb ho)
  have x0 := y0 _ hA
  have x1 := y1 _ hA
  have x2 := y2 _ hA
  have x3 := y3 _ hA
  have x4 := y4 _ hA
  have x5 := y5 _ hA
  have x6 := y6 _ hA
  have x7 := y7 _ hA
  have x8 := y8 _ hA
  have x9 := y9 _ hA
  have hAB := hA.mono hB
  go_cut [10, 11] (fun v10 v11 W => ∃ bf : Nat, v10 = .pointer (some ⟨bf, 0, none⟩) ∧ v11 = .int .i64 g.cl ∧ Hid (W.heap[bf]? = some (.cells #[.int .i64 g.id, .int .i64 g.cl, .int .i64 g.ad, .int .i64 g.dx, .int .i64 g.dy, .int .i64 g.tw, .int .i64 g.hg, .int .i64 g.li, .int .i64 g.co, .int .i64 g.ma] 38 (0, 0))) ∧ w.heap.size ≤ bf ∧ Hid (∀ a, Ao = some a → a.block < bf) ∧ Hid (GRow W w.heap.size Ao n co gs) ∧ Below w.heap.size w W)
  case first =>
    have HAB := Lib.hid hAB
    have HSZ1 := Lib.hid hA.size
    have HBS := Lib.hid (show B ≤ w1.heap.size by have := hA.size; omega)
    have HBL := Lib.hid (show b < w1.heap.size by have := hA.size; omega)
    have HFA := Lib.hid (show (((w1.alloc (.cells #[.int .i64 g.id, .int .i64 g.cl, .int .i64 g.ad, .int .i64 g.dx, .int .i64 g.dy, .int .i64 g.tw, .int .i64 g.hg, .int .i64 g.li, .int .i64 g.co, .int .i64 g.ma] 38)).alloc (.cells #[.int .i64 g.id, .int .i64 g.cl, .int .i64 g.ad, .int .i64 g.dx, .int .i64 g.dy, .int .i64 g.tw, .int .i64 g.hg, .int .i64 g.li, .int .i64 g.co, .int .i64 g.ma] 38)).drew).heap[w1.heap.size]? = some (.cells #[.int .i64 g.id, .int .i64 g.cl, .int .i64 g.ad, .int .i64 g.dx, .int .i64 g.dy, .int .i64 g.tw, .int .i64 g.hg, .int .i64 g.li, .int .i64 g.co, .int .i64 g.ma] 38 (0, 0)) ∧ (((w1.alloc (.cells #[.int .i64 g.id, .int .i64 g.cl, .int .i64 g.ad, .int .i64 g.dx, .int .i64 g.dy, .int .i64 g.tw, .int .i64 g.hg, .int .i64 g.li, .int .i64 g.co, .int .i64 g.ma] 38)).alloc (.cells #[.int .i64 g.id, .int .i64 g.cl, .int .i64 g.ad, .int .i64 g.dx, .int .i64 g.dy, .int .i64 g.tw, .int .i64 g.hg, .int .i64 g.li, .int .i64 g.co, .int .i64 g.ma] 38)).drew).heap[w1.heap.size + 1]? = some (.cells #[.int .i64 g.id, .int .i64 g.cl, .int .i64 g.ad, .int .i64 g.dx, .int .i64 g.dy, .int .i64 g.tw, .int .i64 g.hg, .int .i64 g.li, .int .i64 g.co, .int .i64 g.ma] 38 (0, 0)) from ⟨(heap_alloc_old _ _ (by simp)).trans (heap_alloc_new _ _), by have h9 := heap_alloc_new (w1.alloc (.cells #[.int .i64 g.id, .int .i64 g.cl, .int .i64 g.ad, .int .i64 g.dx, .int .i64 g.dy, .int .i64 g.tw, .int .i64 g.hg, .int .i64 g.li, .int .i64 g.co, .int .i64 g.ma] 38)) (.cells #[.int .i64 g.id, .int .i64 g.cl, .int .i64 g.ad, .int .i64 g.dx, .int .i64 g.dy, .int .i64 g.tw, .int .i64 g.hg, .int .i64 g.li, .int .i64 g.co, .int .i64 g.ma] 38); rw [show (w1.alloc (.cells #[.int .i64 g.id, .int .i64 g.cl, .int .i64 g.ad, .int .i64 g.dx, .int .i64 g.dy, .int .i64 g.tw, .int .i64 g.hg, .int .i64 g.li, .int .i64 g.co, .int .i64 g.ma] 38)).heap.size = w1.heap.size + 1 by simp] at h9; exact h9⟩)
    have HFB := Lib.hid (show ∀ a, Ao = some a → a.block < w1.heap.size from fun a ha => (HO1.out.block a.block (by rw [ha]; rfl)).2)
    have HFC := Lib.hid (show Below w.heap.size w (((w1.alloc (.cells #[.int .i64 g.id, .int .i64 g.cl, .int .i64 g.ad, .int .i64 g.dx, .int .i64 g.dy, .int .i64 g.tw, .int .i64 g.hg, .int .i64 g.li, .int .i64 g.co, .int .i64 g.ma] 38)).alloc (.cells #[.int .i64 g.id, .int .i64 g.cl, .int .i64 g.ad, .int .i64 g.dx, .int .i64 g.dy, .int .i64 g.tw, .int .i64 g.hg, .int .i64 g.li, .int .i64 g.co, .int .i64 g.ma] 38)).drew) from ((hA.alloc hA.size _).alloc (by simp; have := hA.size; omega) _).drew)
    clear y0 y1 y2 y3 y4 y5 y6 y7 y8 y9
    go_region_held3 (fun W => W.cell? ⟨b, o + p * 10, none⟩ = some (.int .i64 g.id) ∧ W.cell? ⟨b, o + p * 10 + 1, none⟩ = some (.int .i64 g.cl) ∧ W.cell? ⟨b, o + p * 10 + 2, none⟩ = some (.int .i64 g.ad) ∧ W.cell? ⟨b, o + p * 10 + 3, none⟩ = some (.int .i64 g.dx) ∧ W.cell? ⟨b, o + p * 10 + 4, none⟩ = some (.int .i64 g.dy) ∧ W.cell? ⟨b, o + p * 10 + 5, none⟩ = some (.int .i64 g.tw) ∧ W.cell? ⟨b, o + p * 10 + 6, none⟩ = some (.int .i64 g.hg) ∧ W.cell? ⟨b, o + p * 10 + 7, none⟩ = some (.int .i64 g.li) ∧ W.cell? ⟨b, o + p * 10 + 8, none⟩ = some (.int .i64 g.co) ∧ W.cell? ⟨b, o + p * 10 + 9, none⟩ = some (.int .i64 g.ma)) (first | exact ⟨x0, x1, x2, x3, x4, x5, x6, x7, x8, x9⟩ | exact ⟨(((Below.refl _ _).alloc (Nat.le_refl _) _).cell (p := ⟨b, _, none⟩) (by first | exact HBL.out | (simp; have := HBL.out; omega))).trans x0, (((Below.refl _ _).alloc (Nat.le_refl _) _).cell (p := ⟨b, _, none⟩) (by first | exact HBL.out | (simp; have := HBL.out; omega))).trans x1, (((Below.refl _ _).alloc (Nat.le_refl _) _).cell (p := ⟨b, _, none⟩) (by first | exact HBL.out | (simp; have := HBL.out; omega))).trans x2, (((Below.refl _ _).alloc (Nat.le_refl _) _).cell (p := ⟨b, _, none⟩) (by first | exact HBL.out | (simp; have := HBL.out; omega))).trans x3, (((Below.refl _ _).alloc (Nat.le_refl _) _).cell (p := ⟨b, _, none⟩) (by first | exact HBL.out | (simp; have := HBL.out; omega))).trans x4, (((Below.refl _ _).alloc (Nat.le_refl _) _).cell (p := ⟨b, _, none⟩) (by first | exact HBL.out | (simp; have := HBL.out; omega))).trans x5, (((Below.refl _ _).alloc (Nat.le_refl _) _).cell (p := ⟨b, _, none⟩) (by first | exact HBL.out | (simp; have := HBL.out; omega))).trans x6, (((Below.refl _ _).alloc (Nat.le_refl _) _).cell (p := ⟨b, _, none⟩) (by first | exact HBL.out | (simp; have := HBL.out; omega))).trans x7, (((Below.refl _ _).alloc (Nat.le_refl _) _).cell (p := ⟨b, _, none⟩) (by first | exact HBL.out | (simp; have := HBL.out; omega))).trans x8, (((Below.refl _ _).alloc (Nat.le_refl _) _).cell (p := ⟨b, _, none⟩) (by first | exact HBL.out | (simp; have := HBL.out; omega))).trans x9⟩ | exact ⟨(((Below.refl _ _).alloc (Nat.le_refl _) _).cell (p := ⟨b, _, none⟩) (by first | exact HBL.out | (simp; have := HBL.out; omega))).trans ((((Below.refl _ _).alloc (Nat.le_refl _) _).cell (p := ⟨b, _, none⟩) (by first | exact HBL.out | (simp; have := HBL.out; omega))).trans x0), (((Below.refl _ _).alloc (Nat.le_refl _) _).cell (p := ⟨b, _, none⟩) (by first | exact HBL.out | (simp; have := HBL.out; omega))).trans ((((Below.refl _ _).alloc (Nat.le_refl _) _).cell (p := ⟨b, _, none⟩) (by first | exact HBL.out | (simp; have := HBL.out; omega))).trans x1), (((Below.refl _ _).alloc (Nat.le_refl _) _).cell (p := ⟨b, _, none⟩) (by first | exact HBL.out | (simp; have := HBL.out; omega))).trans ((((Below.refl _ _).alloc (Nat.le_refl _) _).cell (p := ⟨b, _, none⟩) (by first | exact HBL.out | (simp; have := HBL.out; omega))).trans x2), (((Below.refl _ _).alloc (Nat.le_refl _) _).cell (p := ⟨b, _, none⟩) (by first | exact HBL.out | (simp; have := HBL.out; omega))).trans ((((Below.refl _ _).alloc (Nat.le_refl _) _).cell (p := ⟨b, _, none⟩) (by first | exact HBL.out | (simp; have := HBL.out; omega))).trans x3), (((Below.refl _ _).alloc (Nat.le_refl _) _).cell (p := ⟨b, _, none⟩) (by first | exact HBL.out | (simp; have := HBL.out; omega))).trans ((((Below.refl _ _).alloc (Nat.le_refl _) _).cell (p := ⟨b, _, none⟩) (by first | exact HBL.out | (simp; have := HBL.out; omega))).trans x4), (((Below.refl _ _).alloc (Nat.le_refl _) _).cell (p := ⟨b, _, none⟩) (by first | exact HBL.out | (simp; have := HBL.out; omega))).trans ((((Below.refl _ _).alloc (Nat.le_refl _) _).cell (p := ⟨b, _, none⟩) (by first | exact HBL.out | (simp; have := HBL.out; omega))).trans x5), (((Below.refl _ _).alloc (Nat.le_refl _) _).cell (p := ⟨b, _, none⟩) (by first | exact HBL.out | (simp; have := HBL.out; omega))).trans ((((Below.refl _ _).alloc (Nat.le_refl _) _).cell (p := ⟨b, _, none⟩) (by first | exact HBL.out | (simp; have := HBL.out; omega))).trans x6), (((Below.refl _ _).alloc (Nat.le_refl _) _).cell (p := ⟨b, _, none⟩) (by first | exact HBL.out | (simp; have := HBL.out; omega))).trans ((((Below.refl _ _).alloc (Nat.le_refl _) _).cell (p := ⟨b, _, none⟩) (by first | exact HBL.out | (simp; have := HBL.out; omega))).trans x7), (((Below.refl _ _).alloc (Nat.le_refl _) _).cell (p := ⟨b, _, none⟩) (by first | exact HBL.out | (simp; have := HBL.out; omega))).trans ((((Below.refl _ _).alloc (Nat.le_refl _) _).cell (p := ⟨b, _, none⟩) (by first | exact HBL.out | (simp; have := HBL.out; omega))).trans x8), (((Below.refl _ _).alloc (Nat.le_refl _) _).cell (p := ⟨b, _, none⟩) (by first | exact HBL.out | (simp; have := HBL.out; omega))).trans ((((Below.refl _ _).alloc (Nat.le_refl _) _).cell (p := ⟨b, _, none⟩) (by first | exact HBL.out | (simp; have := HBL.out; omega))).trans x9)⟩ | go_keep)
      (first
      | (go_at_call 74; refine (leastx_any B _ _ g _ (HONE.out.below (by first | exact HAB.out.drew | exact HAB.out.alloc HBS.out _ | exact HAB.out.drew.alloc HBS.out _ | exact (HAB.out.alloc HBS.out _).drew))).mono ?_; rintro e w2 ⟨rfl, rfl⟩))
    all_goals
      go_wp2_with fail
      go_meet
      first
        | exact ⟨w1.heap.size, rfl, rfl, HFA.out.1, HSZ1.out, HFB.out, (HO1.out.alloc _).alloc _, HFC.out⟩
        | exact ⟨w1.heap.size + 1, rfl, rfl, HFA.out.2, by have := HSZ1.out; omega, (fun a ha => Nat.lt_succ_of_lt (HFB.out a ha)), (HO1.out.alloc _).alloc _, HFC.out⟩
  obtain ⟨bf, rfl, rfl, HBF, hbf, HFAR, HO, hA⟩ := hcut
  clear x0 x1 x2 x3 x4 x5 x6 x7 x8 x9 hAB
  have hcapo := HO.out.cap
  obtain ⟨ig, hig1, hig2, hig3, hig4⟩ := infoGl'
  have HIG4 := Lib.hid hig4
  clear hig4
  go_upto_region 6 with (refine wpList_make_own _ rfl _ (.tmp 53) 30 rfl wc.heap.size 38 ig _ 10 Try.underlying30 hig1 hig2 hig3 .i64 .i64 _ m rfl rfl rfl (by rw [HIG4.out]; omega) (by unfold maxLen; omega) (Nat.le_refl _) ?_; intro w3 hr3 hg3)
  have HP3 := Lib.hid (show GRow w3 w.heap.size (some ⟨wc.heap.size, 0, none⟩) 0 m [] from GRow.more ⟨rfl, hr3⟩ hA.size)
  have HO3 := Lib.hid (HO.out.kept (A2 := none) (n2 := 0) (c2 := 0) hg3 (fun _ _ _ h => by cases h))
  have hA3 := hA.grown hg3 hA.size (by intro k hk; cases hk)
  have hbfl : bf < wc.heap.size := (Array.getElem?_eq_some_iff.1 HBF.out).1
  have HBF3 := Lib.hid ((hg3.block bf hbfl (by simp)).trans HBF.out)
  have HAP3 := Lib.hid (show ∀ a a2, Ao = some a → some (⟨wc.heap.size, 0, none⟩ : Addr) = some a2 → a.block ≠ a2.block from fun a a2 h1 h2 => by
    cases h2
    have := (HO.out.block a.block (by rw [h1]; rfl)).2
    show a.block ≠ wc.heap.size
    omega)
  have HNB3 := Lib.hid (show ∀ a, some (⟨wc.heap.size, 0, none⟩ : Addr) = some a → a.block ≠ bf from fun a h => by cases h; show wc.heap.size ≠ bf; omega)
  clear hr3 hg3 HO HBF hig1 hig2 hig3
  go_wp2_with fail
  go_loopw [12, 57] (fun v12 v wr => ∃ (j : Nat) (A3 : Option Addr) (c3 : Nat), v12 = .slice A3 j c3 ∧ v = .int .i64 (j : Int) ∧ j ≤ m ∧ Hid (GRow wr w.heap.size A3 j c3 (putG g (ids.take j))) ∧ Hid (GRow wr w.heap.size Ao n co gs) ∧ Hid (∀ a a2, Ao = some a → A3 = some a2 → a.block ≠ a2.block) ∧ Hid (∀ a, A3 = some a → a.block ≠ bf) ∧ Hid (wr.heap[bf]? = some (.cells #[.int .i64 g.id, .int .i64 g.cl, .int .i64 g.ad, .int .i64 g.dx, .int .i64 g.dy, .int .i64 g.tw, .int .i64 g.hg, .int .i64 g.li, .int .i64 g.co, .int .i64 g.ma] 38 (0, 0))) ∧ Below w.heap.size w wr) (fun _ v _ => m - (intOf v).toNat)
  case atStart => exact ⟨0, _, _, rfl, rfl, Nat.zero_le _, (show GRow _ _ _ _ _ (putG g (ids.take 0)) by rw [List.take_zero]; exact HP3.out), HO3, HAP3, HNB3, HBF3, hA3⟩
  case round =>
    clear hA hA3 hbfl
    obtain ⟨j, A3, c3, rfl, rfl, hj, HP, HO, HAP, HNB, HBF, hA⟩ := hrel
    have hcap3 := HP.out.cap
    by_cases hlj : j < m
    · obtain ⟨b6, o6, rfl, hbb6, hcy⟩ := HID.out.getD hlj
      obtain ⟨x, hx⟩ : ∃ x, x = ids.getD j 0 := ⟨_, rfl⟩
      rw [← hx] at hcy
      have z6 := up_fact hcy
      have HX := Lib.hid hx
      clear hcy hx
      go_upto_region 10 with (go_at_call 75; refine (fresh_any x g.cl _).mono ?_; rintro e w9 ⟨rfl, hb⟩; have hA9 := bgo hA hb; have HP9 := Lib.hid (HP.out.below hb (Nat.le_refl _)); have HO9 := Lib.hid (HO.out.below hb (Nat.le_refl _)); have HBF9 := Lib.hid ((hb.block bf (Array.getElem?_eq_some_iff.1 HBF.out).1).trans HBF.out); clear hb)
      obtain ⟨w4, hw4⟩ : ∃ z, z = w9.alloc (.cells #[.int .i64 x, .int .i64 g.cl, .int .i64 0, .int .i64 0, .int .i64 0, .int .i64 (-1), .int .i64 (-1), .int .i64 0, .int .i64 0, .int .i64 0] 38) := ⟨_, rfl⟩
      obtain ⟨bx, hbx⟩ : ∃ z, z = w9.heap.size := ⟨_, rfl⟩
      rw [← hw4, ← hbx]
      have hX4 : w4.heap[bx]? = some (.cells #[.int .i64 x, .int .i64 g.cl, .int .i64 0, .int .i64 0, .int .i64 0, .int .i64 (-1), .int .i64 (-1), .int .i64 0, .int .i64 0, .int .i64 0] 38 (0, 0)) := by rw [hw4, hbx]; exact heap_alloc_new _ _
      have hA4 : Below w.heap.size w w4 := by rw [hw4]; exact hA9.alloc hA9.size _
      have hbw : w.heap.size ≤ bx := by rw [hbx]; exact hA9.size
      have HP4 : Hid (GRow w4 w.heap.size A3 j c3 (putG g (ids.take j))) := by rw [hw4]; exact HP9.out.alloc _
      have HO4 : Hid (GRow w4 w.heap.size Ao n co gs) := by rw [hw4]; exact HO9.out.alloc _
      have hbf9 : bf < w9.heap.size := (Array.getElem?_eq_some_iff.1 HBF9.out).1
      have hB4 : w4.heap[bf]? = some (.cells #[.int .i64 g.id, .int .i64 g.cl, .int .i64 g.ad, .int .i64 g.dx, .int .i64 g.dy, .int .i64 g.tw, .int .i64 g.hg, .int .i64 g.li, .int .i64 g.co, .int .i64 g.ma] 38 (0, 0)) := by rw [hw4]; exact (heap_alloc_old _ _ hbf9).trans HBF9.out
      have hbfx : bf ≠ bx := by omega
      have HF1 := Lib.hid (show ∀ a, A3 = some a → a.block ≠ bx from fun a ha => by
        have h1 := (HP9.out.block a.block (by rw [ha]; rfl)).2
        omega)
      have HF2 := Lib.hid (show ∀ a, Ao = some a → a.block ≠ bx from fun a ha => by
        have h1 := (HO9.out.block a.block (by rw [ha]; rfl)).2
        omega)
      have xf7 := (show w4.cell? ⟨bx, 7, none⟩ = some (.int .i64 0) by rw [cell_of_row _ _ 7 _ _ _ hX4]; rfl)
      have xf8 := (show w4.cell? ⟨bx, 8, none⟩ = some (.int .i64 0) by rw [cell_of_row _ _ 8 _ _ _ hX4]; rfl)
      have xf9 := (show w4.cell? ⟨bx, 9, none⟩ = some (.int .i64 0) by rw [cell_of_row _ _ 9 _ _ _ hX4]; rfl)
      have fr7 := (show w4.frozen? ⟨bx, 7, none⟩ = false from frozen_of_row _ _ _ _ _ hX4)
      have fr8 := (show w4.frozen? ⟨bx, 8, none⟩ = false from frozen_of_row _ _ _ _ _ hX4)
      have fr9 := (show w4.frozen? ⟨bx, 9, none⟩ = false from frozen_of_row _ _ _ _ _ hX4)
      have xb7 := (show w4.cell? ⟨bf, 7, none⟩ = some (.int .i64 g.li) by rw [cell_of_row _ _ 7 _ _ _ hB4]; rfl)
      have xb8 := (show w4.cell? ⟨bf, 8, none⟩ = some (.int .i64 g.co) by rw [cell_of_row _ _ 8 _ _ _ hB4]; rfl)
      have xb9 := (show w4.cell? ⟨bf, 9, none⟩ = some (.int .i64 g.ma) by rw [cell_of_row _ _ 9 _ _ _ hB4]; rfl)
      have HX4 := Lib.hid hX4
      have HB4 := Lib.hid hB4
      have HA4 := Lib.hid hA4
      clear hw4 hbx hX4 hB4 hA4 hA9 HP9 HO9 HBF9 HP HO HBF hA
      go_cut [15] (fun v W => v = .pointer (some ⟨bx, 0, none⟩) ∧ Hid (W.heap[bx]? = some (.cells #[.int .i64 x, .int .i64 g.cl, .int .i64 0, .int .i64 0, .int .i64 0, .int .i64 (-1), .int .i64 (-1), .int .i64 g.li, .int .i64 g.co, .int .i64 g.ma] 38 (0, 0))) ∧ Hid (W.heap[bf]? = some (.cells #[.int .i64 g.id, .int .i64 g.cl, .int .i64 g.ad, .int .i64 g.dx, .int .i64 g.dy, .int .i64 g.tw, .int .i64 g.hg, .int .i64 g.li, .int .i64 g.co, .int .i64 g.ma] 38 (0, 0))) ∧ Hid (GRow W w.heap.size A3 j c3 (putG g (ids.take j))) ∧ Hid (GRow W w.heap.size Ao n co gs) ∧ Below w.heap.size w W)
      case first =>
        go_region
        all_goals
          go_wp2_with fail
          go_meet
          exact ⟨rfl, heap_setCell_same _ bx 8 _ _ _ (heap_setCell_same _ bx 7 _ _ _ (heap_setCell_same _ bx 9 _ _ _ HX4.out)), (Below.heap_setCell _ _ _ _ hbfx).trans ((Below.heap_setCell _ _ _ _ hbfx).trans ((Below.heap_setCell _ _ _ _ hbfx).trans HB4.out)), ((HP4.out.far HF1.out _).far HF1.out _).far HF1.out _, ((HO4.out.far HF2.out _).far HF2.out _).far HF2.out _, (((HA4.out.setCell (p := ⟨bx, 9, none⟩) hbw _).setCell (p := ⟨bx, 7, none⟩) hbw _).setCell (p := ⟨bx, 8, none⟩) hbw _).drew⟩
      obtain ⟨rfl, HX7, HB7, HP7, HO7, hA7⟩ := hcut
      clear xf7 xf8 xf9 fr7 fr8 fr9 xb7 xb8 xb9 HX4 HB4 HP4 HO4 HA4
      have xg0 := (show wc.cell? ⟨bx, 0, none⟩ = some (.int .i64 x) by rw [cell_of_row _ _ 0 _ _ _ HX7.out]; rfl)
      have xg1 := (show wc.cell? ⟨bx, 1, none⟩ = some (.int .i64 g.cl) by rw [cell_of_row _ _ 1 _ _ _ HX7.out]; rfl)
      have xg2 := (show wc.cell? ⟨bx, 2, none⟩ = some (.int .i64 0) by rw [cell_of_row _ _ 2 _ _ _ HX7.out]; rfl)
      have xg3 := (show wc.cell? ⟨bx, 3, none⟩ = some (.int .i64 0) by rw [cell_of_row _ _ 3 _ _ _ HX7.out]; rfl)
      have xg4 := (show wc.cell? ⟨bx, 4, none⟩ = some (.int .i64 0) by rw [cell_of_row _ _ 4 _ _ _ HX7.out]; rfl)
      have xg5 := (show wc.cell? ⟨bx, 5, none⟩ = some (.int .i64 (-1)) by rw [cell_of_row _ _ 5 _ _ _ HX7.out]; rfl)
      have xg6 := (show wc.cell? ⟨bx, 6, none⟩ = some (.int .i64 (-1)) by rw [cell_of_row _ _ 6 _ _ _ HX7.out]; rfl)
      have xg7 := (show wc.cell? ⟨bx, 7, none⟩ = some (.int .i64 g.li) by rw [cell_of_row _ _ 7 _ _ _ HX7.out]; rfl)
      have xg8 := (show wc.cell? ⟨bx, 8, none⟩ = some (.int .i64 g.co) by rw [cell_of_row _ _ 8 _ _ _ HX7.out]; rfl)
      have xg9 := (show wc.cell? ⟨bx, 9, none⟩ = some (.int .i64 g.ma) by rw [cell_of_row _ _ 9 _ _ _ HX7.out]; rfl)
      have hsz7 := hA7.size
      have hbf7 : bf < wc.heap.size := (Array.getElem?_eq_some_iff.1 HB7.out).1
      go_wp2_with (first
        | (at_builtin; refine wpList_append_gls _ rfl (.tmp 73) (.tmp 75) 30 rfl w.heap.size _ Try.underlying30 infoGl rfl A3 j c3 (putG g (ids.take j)) rfl (HP7.out.alloc _) (wc.heap.size + 1) (some ⟨wc.heap.size, 0, none⟩) 1 1 [putOne g x] rfl (GlsR.lit wc (putOne g x)) (by omega) (by simp; omega) ?_; intro A4 c4 w8 ho4 hg4 hat4 _))
      have hA8 := gl_below (hA7.alloc hsz7 (.cells #[.int .i64 (putOne g x).id, .int .i64 (putOne g x).cl, .int .i64 (putOne g x).ad, .int .i64 (putOne g x).dx, .int .i64 (putOne g x).dy, .int .i64 (putOne g x).tw, .int .i64 (putOne g x).hg, .int .i64 (putOne g x).li, .int .i64 (putOne g x).co, .int .i64 (putOne g x).ma] 38)) (by simp; omega) hg4 (HP7.out.alloc _) (Nat.le_refl _)
      have HO8 := Lib.hid ((HO7.out.alloc (.cells #[.int .i64 (putOne g x).id, .int .i64 (putOne g x).cl, .int .i64 (putOne g x).ad, .int .i64 (putOne g x).dx, .int .i64 (putOne g x).dy, .int .i64 (putOne g x).tw, .int .i64 (putOne g x).hg, .int .i64 (putOne g x).li, .int .i64 (putOne g x).co, .int .i64 (putOne g x).ma] 38)).kept hg4 HAP.out)
      have HAP8 := Lib.hid ((HO7.out.alloc (.cells #[.int .i64 (putOne g x).id, .int .i64 (putOne g x).cl, .int .i64 (putOne g x).ad, .int .i64 (putOne g x).dx, .int .i64 (putOne g x).dy, .int .i64 (putOne g x).tw, .int .i64 (putOne g x).hg, .int .i64 (putOne g x).li, .int .i64 (putOne g x).co, .int .i64 (putOne g x).ma] 38)).apart HAP.out hat4)
      have HNB8 := Lib.hid (nb_next hat4 HNB.out (by simp; omega))
      have HBF8 := Lib.hid ((hg4.block bf (by simp; omega) (own_ne HNB.out)).trans ((heap_alloc_old _ _ hbf7).trans HB7.out))
      have HP8 := Lib.hid (show GRow w8 w.heap.size A4 (j + 1) c4 (putG g (ids.take (j + 1))) by
        rw [putG_snoc g ids j (by rw [HIL.out]; exact hlj), ← HX.out]
        exact ho4)
      clear ho4 hg4 hat4
      go_roundw
      case rel => exact ⟨j + 1, A4, c4, rfl, by go_num, by omega, HP8, HO8, HAP8, HNB8, HBF8, hA8⟩
      case measure => simp [intOf] <;> omega
    · obtain rfl : j = m := by omega
      have hz : ¬ j < j := Nat.lt_irrefl _
      have hszr := hA.size
      have HIDS := Lib.hid (show ids.take j = ids from List.take_of_length_le (Nat.le_of_eq HIL.out))
      have HPI := Lib.hid (show GRow wr w.heap.size A3 j c3 (putG g ids) by have h9 := HP.out; rw [HIDS.out] at h9; exact h9)
      obtain ⟨L2, hL2⟩ : ∃ z, z = n + j - 1 := ⟨_, rfl⟩
      have HLL := Lib.hid hL2
      have hlo : (gs.take p ++ putG g ids ++ gs.drop (p + 1)).length = L2 := by
        have h9 := HGL.out
        have h10 := HIL.out
        have h11 : (putG g ids).length = ids.length := List.length_map _
        rw [List.length_append, List.length_append, List.length_take, List.length_drop, h11]
        omega
      have HLO := Lib.hid hlo
      clear hL2 hlo HP
      go_upto_region 14 with (go_at_call 76; refine ((replace_any wr w.heap.size n co p j c3 Ao A3 gs (putG g ids) HO.out HPI.out (fun a2 h2 g9 h9 e9 => HAP.out _ _ h9 h2 e9.symm) hp hn hm hszr).mono (fun _ _ h => h.n HLO.out)).mono ?_; rintro e w8 ⟨A8, c8, rfl, ho8, hb8⟩)
      have hA8 := hA.trans hb8
      obtain ⟨out, hout⟩ : ∃ z, z = outG gs p g ids := ⟨_, rfl⟩
      have HOUT := Lib.hid hout
      have HO8 := Lib.hid (show GRow w8 w.heap.size A8 L2 c8 out by rw [hout]; exact ho8)
      have hcap8 := HO8.out.cap
      clear ho8 hb8 hout HO HPI
      by_cases hm0 : j = 0
      · subst hm0
        have HREP := Lib.hid (show repG gs p ids = fixG out p g.cl by rw [repG_of HG.out, if_pos HIL.out, HOUT.out])
        by_cases hpl : p < L2
        · obtain ⟨b7, g7, e7, hb71, _, hg7, hc7, _⟩ := HO8.out.at_ hpl
          subst e7
          have HG7 := Lib.hid hg7
          clear hg7
          by_cases hlt7 : g.cl < g7.cl
          · have s1 : decide (g.cl < g7.cl) = true := by simpa using hlt7
            have HLT := Lib.hid hlt7
            clear hlt7
            go_wp2_with fail
            go_loopw [17] (fun v wr => ∃ j : Nat, v = .int .i64 (j : Int) ∧ p ≤ j ∧ j ≤ L2 ∧ Hid (GRow wr w.heap.size (some ⟨b7, 0, none⟩) L2 c8 (stage out p j g.cl)) ∧ Hid (∀ t x, p ≤ t → t < j → out[t]? = some x → x.cl = g7.cl) ∧ Below w.heap.size w wr) (fun v _ => L2 - (intOf v).toNat)
            case atStart => exact ⟨p, rfl, Nat.le_refl _, by omega, (show GRow _ _ _ _ _ (stage out p p g.cl) by rw [stage_start]; exact HO8.out), (fun t x h1 h2 => by omega), hA8⟩
            case round =>
              obtain ⟨j, rfl, hj1, hj2, HOJ, HALL, hA9⟩ := hrel
              have HOL := Lib.hid (HO8.out.1)
              by_cases hlj : j < L2
              · have hjo : j < out.length := by rw [HOL.out]; exact hlj
                obtain ⟨b9, g9, e9, hb91, _, hg9, hc9, hf9⟩ := HOJ.out.at_ hlj
                cases e9
                have hgo : g9 = out[j] := by
                  rw [stage_at hj1 hjo, List.getElem?_append_right (by rw [stage_prefix hj1 hjo]; exact Nat.le_refl _), stage_prefix hj1 hjo, Nat.sub_self] at hg9
                  rw [List.getElem?_cons_zero] at hg9
                  exact (Option.some.inj hg9).symm
                have HGO := Lib.hid hgo
                clear hgo hg9
                by_cases hxw : g9.cl = g7.cl
                · have r1 : (g9.cl == g7.cl) = true := by simpa using hxw
                  have HXW := Lib.hid hxw
                  have hput := GRow.put (k := j) (b := b7) (by rw [← stage_at hj1 hjo]; exact HOJ.out) (stage_prefix hj1 hjo) g.cl
                  rw [stage_next hj1 hjo] at hput
                  have HPUT := Lib.hid hput
                  have hA10 := hA9.setCell (p := ⟨b7, j * 10 + 1, none⟩) hb91 (.int .i64 g.cl)
                  clear hxw hput
                  go_wp2_with fail
                  go_roundw
                  case rel => exact ⟨j + 1, by go_num, by omega, by omega, HPUT, (fun t x h1 h2 h3 => by
                    rcases Nat.lt_or_ge t j with h4 | h4
                    · exact HALL.out t x h1 h4 h3
                    · have : t = j := by omega
                      subst this
                      rw [List.getElem?_eq_getElem hjo] at h3
                      cases h3
                      rw [← HGO.out]; exact HXW.out), hA10⟩
                  case measure => simp [intOf] <;> omega
                · have r1 : (g9.cl == g7.cl) = false := by simpa using hxw
                  have HXW := Lib.hid hxw
                  clear hxw
                  go_wp2_with fail
                  go_ret
                  have hse := stage_end (c := g.cl) HG7.out rfl HLT.out hj1 HALL.out (fun x h3 => by
                    rw [List.getElem?_eq_getElem hjo] at h3
                    cases h3
                    rw [← HGO.out]; exact HXW.out)
                  have hlen : (repG gs p ids).length = L2 := by rw [HREP.out, hse, stage_length hj1 (Nat.le_of_lt hjo)]; exact HOL.out
                  exact ⟨_, _, by rw [hlen]; rfl, by rw [hlen, HREP.out, hse]; exact HOJ.out, hA9⟩
              · obtain rfl : j = L2 := by omega
                have hz9 : ¬ j < j := Nat.lt_irrefl _
                go_wp2_with fail
                go_ret
                have hse := stage_end (c := g.cl) HG7.out rfl HLT.out hj1 HALL.out (fun x h3 => by rw [List.getElem?_eq_none (by rw [HOL.out]; exact Nat.le_refl _)] at h3; cases h3)
                have hlen : (repG gs p ids).length = j := by rw [HREP.out, hse, stage_length hj1 (by rw [HOL.out]; exact Nat.le_refl _)]; exact HOL.out
                exact ⟨_, _, by rw [hlen]; rfl, by rw [hlen, HREP.out, hse]; exact HOJ.out, hA9⟩
          · have s1 : decide (g.cl < g7.cl) = false := by simpa using hlt7
            have HLT := Lib.hid hlt7
            clear hlt7
            go_wp2_with fail
            go_ret
            have hrr : repG gs p ids = out := by rw [HREP.out, fixG_no HG7.out (by have := HLT.out; omega)]
            have hlen : (repG gs p ids).length = L2 := by rw [hrr]; exact HO8.out.1
            exact ⟨_, _, by rw [hlen]; rfl, by rw [hlen, hrr]; exact HO8.out, hA8⟩
        · have s0 : decide ((p : Int) < (L2 : Int)) = false := by simp; omega
          have s00 : decide (p < L2) = false := by simp; omega
          have HPL := Lib.hid hpl
          clear hpl
          go_wp2_with fail
          go_ret
          have hrr : repG gs p ids = out := by rw [HREP.out, fixG_none (by rw [HO8.out.1]; have := HPL.out; omega)]
          have hlen : (repG gs p ids).length = L2 := by rw [hrr]; exact HO8.out.1
          exact ⟨_, _, by rw [hlen]; rfl, by rw [hlen, hrr]; exact HO8.out, hA8⟩
      · have s0 : ((j : Int) == 0) = false := by simp; omega
        have s00 : (j == 0) = false := by simpa using hm0
        have HM0 := Lib.hid hm0
        clear hm0
        go_wp2_with fail
        go_ret
        have hrr : repG gs p ids = out := by rw [repG_of HG.out, if_neg (by rw [HIL.out]; exact HM0.out), HOUT.out]
        have hlen : (repG gs p ids).length = L2 := by rw [hrr]; exact HO8.out.1
        exact ⟨_, _, by rw [hlen]; rfl, by rw [hlen, hrr]; exact HO8.out, hA8⟩

end Go.Proofs.Ytngdolmmaiogiaa
