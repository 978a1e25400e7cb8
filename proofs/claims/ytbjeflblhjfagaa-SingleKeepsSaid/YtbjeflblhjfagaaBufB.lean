/- The walks of Clone, copied, Copy, fresh, Fresh at buffers of glyphs. Condition: at most a thousand glyphs. Printed by wip/tools/g27s.py. -/
import Derived.Test.YtbjeflblhjfagaaBufA
import Derived.Test.YtbjeflblhjfagaaRetG
import Derived.Laws.Rows
namespace Go.Proofs.Ytbjeflblhjfagaa
open Go.RowKit

theorem GRow.empty (w : World) : GRow (w.alloc (.cells #[] 49)) w.heap.size (some ⟨w.heap.size, 0, none⟩) 0 0 [] :=
  GRow.of_block (cur := []) (heap_alloc_new w _) (Nat.le_refl _) rfl (Nat.le_refl _) (by unfold maxLen; omega) rfl rfl
theorem GlsR.lit (w : World) (g : Gl) : GlsR (w.alloc (.cells #[.int .i64 g.id, .int .i64 g.cl, .int .i64 g.ad, .int .i64 g.dx, .int .i64 g.dy, .int .i64 g.tw, .int .i64 g.hg, .int .i64 g.li, .int .i64 g.co, .int .i64 g.ma] 49)) (w.heap.size + 1) (some ⟨w.heap.size, 0, none⟩) 1 1 [g] :=
  ⟨rfl, Nat.le_refl _, (by unfold maxLen; omega), (fun e => by cases e), fun _ => ⟨w.heap.size, 0, rfl, by omega, fun j v hj => by
    rw [Nat.zero_add, cell_of_row _ _ j _ _ _ (heap_alloc_new w _)]
    simpa [glCells, Gl.cells] using hj⟩⟩
/-- a glyph laid anew -/
def freshG (id cl : Int) : Gl := ⟨id, cl, 0, 0, 0, -1, -1, 0, 0, 0⟩
theorem take_succ_get {gs : List Gl} {k : Nat} {g : Gl} (h : gs[k]? = some g) : gs.take k ++ [g] = gs.take (k + 1) := by
  have hk := (List.getElem?_eq_some_iff.1 h).1
  have he := (List.getElem?_eq_some_iff.1 h).2
  rw [List.take_succ_eq_append_getElem hk, he]

set_option maxRecDepth 100000 in
set_option maxHeartbeats 1000000 in
theorem gclone_any (B : Nat) (A : Option Addr) (n c : Nat) (gs : List Gl) (w : World) (h : GlsR w B A n c gs) (hB : B ≤ w.heap.size) (hn : n ≤ 1000) :
    Calls Try.prog 27 #[.slice A n c] w (RetGls w w.heap.size gs) := by
  have hl := h.length
  have HI := Lib.hid h
  have HL := Lib.hid hl
  by_cases hnil : A = none
  · subst hnil
    obtain ⟨rfl, rfl⟩ := h.2.2.2.1 rfl
    obtain rfl : gs = [] := List.eq_nil_of_length_eq_zero hl
    clear h hl
    have he : ∀ w : World, (binOp .eql 42 (.slice none 0 0) (.slice none 0 0)).run Try.prog w = .ok (.bool true) w := fun _ => rfl
    go_enter Try.func27, Try.ntmps27
    go_wp2_with fail
    go_ret
    exact ⟨none, 0, rfl, GRow.nil_ _ _, Below.refl _ _⟩
  · obtain ⟨a, rfl⟩ : ∃ a, A = some a := by cases A with | none => exact absurd rfl hnil | some a => exact ⟨a, rfl⟩
    clear h hl hnil
    have he : ∀ w : World, (binOp .eql 42 (.slice (some a) n c) (.slice none 0 0)).run Try.prog w = .ok (.bool false) w := fun _ => rfl
    go_enter Try.func27, Try.ntmps27
    go_wp2_with (first
      | (at_builtin; refine wpList_append_gls _ rfl (.tmp 5) (.tmp 6) 42 rfl w.heap.size _ Try.underlying42 infoGl rfl (some ⟨w.heap.size, 0, none⟩) 0 0 [] rfl (GRow.empty w) B (some a) n c gs rfl (HI.out.below ((Below.refl _ _).alloc hB _)) (by omega) (by simp) ?_; intro A3 c3 w3 ho3 hg3 _ _))
    have hb3 : Below w.heap.size w w3 := gl_below ((Below.refl _ _).alloc (Nat.le_refl _) _) (by simp) hg3 (GRow.empty w) (Nat.le_refl _)
    go_ret
    rw [Nat.zero_add, List.nil_append] at ho3
    have hn := HL.out
    subst hn
    exact ⟨A3, c3, rfl, ho3, hb3⟩

set_option maxRecDepth 100000 in
set_option maxHeartbeats 4000000 in
theorem copied_any (B : Nat) (A : Option Addr) (n c : Nat) (gs : List Gl) (w : World) (h : GlsR w B A n c gs) (hn : n ≤ 1000) :
    Calls Try.prog 41 #[.slice A n c] w (RetGls w w.heap.size gs) := by
  have hl := h.length
  have HI := Lib.hid h
  have HL := Lib.hid hl
  clear h hl
  go_enter Try.func41, Try.ntmps41
  go_wp2_with (first
    | (at_builtin; refine wpList_append_gls _ rfl (.tmp 4) (.tmp 5) 42 rfl w.heap.size _ Try.underlying42 infoGl rfl none 0 0 [] rfl (GRow.nil_ w w.heap.size) B A n c gs rfl HI.out (by omega) (Nat.le_refl _) ?_; intro A3 c3 w3 ho3 hg3 _ _))
  have hb3 : Below w.heap.size w w3 := gl_below (Below.refl _ _) (Nat.le_refl _) hg3 (GRow.nil_ w w.heap.size) (Nat.le_refl _)
  go_ret
  rw [Nat.zero_add, List.nil_append] at ho3
  have hn := HL.out
  subst hn
  exact ⟨A3, c3, rfl, ho3, hb3⟩

set_option maxRecDepth 100000 in
set_option maxHeartbeats 4000000 in
theorem gcopy_any (B : Nat) (A : Option Addr) (n c : Nat) (gs : List Gl) (w : World) (h : GlsR w B A n c gs) (hn : n ≤ 1000) :
    Calls Try.prog 28 #[.slice A n c] w (RetGls w w.heap.size gs) := by
  have hl := h.length
  have hcap := h.cap
  have HI := Lib.hid h
  have HL := Lib.hid hl
  clear h hl
  go_enter Try.func28, Try.ntmps28
  go_wp2_with fail
  go_loopw [3, 4] (fun v3 v wr => ∃ (k : Nat) (A3 : Option Addr) (c3 : Nat), v3 = .slice A3 k c3 ∧ v = .int .i64 (k : Int) ∧ k ≤ n ∧ Hid (GRow wr w.heap.size A3 k c3 (gs.take k)) ∧ Below w.heap.size w wr) (fun _ v _ => n - (intOf v).toNat)
  case atStart => exact ⟨0, none, 0, rfl, rfl, Nat.zero_le _, GRow.nil_ _ _, Below.refl _ _⟩
  case round =>
    obtain ⟨k, A3, c3, rfl, rfl, hk, HO, hA⟩ := hrel
    have hcap3 := HO.out.cap
    by_cases hlt : k < n
    · obtain ⟨b, o, g, rfl, hbb, hg, c0, c1, c2, c3', c4, c5, c6, c7, c8, c9⟩ := HI.out.at_ hlt
      have y0 := up_fact c0
      have y1 := up_fact c1
      have y2 := up_fact c2
      have y3 := up_fact c3'
      have y4 := up_fact c4
      have y5 := up_fact c5
      have y6 := up_fact c6
      have y7 := up_fact c7
      have y8 := up_fact c8
      have y9 := up_fact c9
      have HG := Lib.hid hg
      have hsz := hA.size
      clear c0 c1 c2 c3' c4 c5 c6 c7 c8 c9 hg
      go_wp2_with (first
        | (at_builtin; refine wpList_append_gls _ rfl (.tmp 11) (.tmp 16) 42 rfl w.heap.size _ Try.underlying42 infoGl rfl A3 k c3 (gs.take k) rfl (HO.out.alloc _) (wr.heap.size + 1) (some ⟨wr.heap.size, 0, none⟩) 1 1 [g] rfl (GlsR.lit wr g) (by omega) (by simp; omega) ?_; intro A4 c4 w4 ho4 hg4 _ _))
      have hA4 := gl_below (hA.alloc hsz (.cells #[.int .i64 g.id, .int .i64 g.cl, .int .i64 g.ad, .int .i64 g.dx, .int .i64 g.dy, .int .i64 g.tw, .int .i64 g.hg, .int .i64 g.li, .int .i64 g.co, .int .i64 g.ma] 49)) (by simp; omega) hg4 (HO.out.alloc _) (Nat.le_refl _)
      have HO4 := Lib.hid (show GRow w4 w.heap.size A4 (k + 1) c4 (gs.take (k + 1)) by rw [← take_succ_get HG.out]; exact ho4)
      clear ho4 hg4
      go_roundw
      case rel => exact ⟨k + 1, A4, c4, rfl, by go_num, by omega, HO4, hA4⟩
      case measure => simp [intOf] <;> omega
    · obtain rfl : k = n := by omega
      have hz : ¬ k < k := Nat.lt_irrefl _
      go_wp2_with fail
      go_ret
      have hn := HL.out
      subst hn
      have h9 := HO.out
      rw [List.take_of_length_le (Nat.le_refl _)] at h9
      exact ⟨A3, c3, rfl, h9, hA⟩

set_option maxRecDepth 100000 in
set_option maxHeartbeats 4000000 in
theorem fresh_any (id cl : Int) (w : World) :
    Calls Try.prog 39 #[.int .i64 id, .int .i64 cl] w (fun e w' => e = .returned (.agg #[.int .i64 id, .int .i64 cl, .int .i64 0, .int .i64 0, .int .i64 0, .int .i64 (-1), .int .i64 (-1), .int .i64 0, .int .i64 0, .int .i64 0]) ∧ Below w.heap.size w w') := by
  go_enter Try.func39, Try.ntmps39
  go_wp2_with fail
  (try simp only [Exit.inBlock, Exit.then])
  refine bodyPost_ret (results_cell_row rfl _ _ w.heap.size 49 #[.int .i64 id, .int .i64 cl, .int .i64 0, .int .i64 0, .int .i64 0, .int .i64 (-1), .int .i64 (-1), .int .i64 0, .int .i64 0, .int .i64 0] (0, 0) _ rfl (heap_alloc_new _ _) Try.underlying49 rfl sizeGl) rfl ?_
  exact ⟨rfl, (Below.refl _ _).alloc (Nat.le_refl _) _⟩

set_option maxRecDepth 100000 in
set_option maxHeartbeats 4000000 in
theorem rfresh_any (id cl : Int) (w : World) :
    Calls Try.prog 43 #[.int .i64 id, .int .i64 cl] w (fun e w' => e = .returned (.agg #[.int .i64 id, .int .i64 cl, .int .i64 0, .int .i64 0, .int .i64 0, .int .i64 (-1), .int .i64 (-1), .int .i64 0, .int .i64 0, .int .i64 0]) ∧ Below w.heap.size w w') := by
  go_enter Try.func43, Try.ntmps43
  go_wp2_with fail
  (try simp only [Exit.inBlock, Exit.then])
  refine bodyPost_ret (results_cell_row rfl _ _ w.heap.size 49 #[.int .i64 id, .int .i64 cl, .int .i64 0, .int .i64 0, .int .i64 0, .int .i64 (-1), .int .i64 (-1), .int .i64 0, .int .i64 0, .int .i64 0] (0, 0) _ rfl (heap_alloc_new _ _) Try.underlying49 rfl sizeGl) rfl ?_
  exact ⟨rfl, (Below.refl _ _).alloc (Nat.le_refl _) _⟩

end Go.Proofs.Ytbjeflblhjfagaa
