/- The walk of the reference's isolate: the state behind it. Conditions: the state is in order and not great. -/
import Derived.Test.YtojcphfonbdlpaaRefC
namespace Go.Proofs.Ytojcphfonbdlpaa
open Go.RowKit

set_option maxHeartbeats 2000000 in
theorem risol_any (base k : Nat) (s : Lv.S) (o : Bool) (A : Option Addr) (n c : Nat) (w : World) (h : Stk w base 49 A n c s.stk) (hbase : base ≤ w.heap.size) (hok : Lv.Ok k s) (hk : k ≤ 1000) :
    Calls Try.prog 24 #[.agg #[.slice A n c, .int .i64 (s.iso : Int), .int .i64 (s.emb : Int), .int .i64 (s.val : Int)], .bool o] w (RetRS base w (Lv.isol s o)) := by
  have hcap := h.cap
  have HS := Lib.hid h
  have HK := Lib.hid hok
  have htop := hok.top
  have hW0 : Below w.heap.size w ((w.alloc (.cells #[.slice A n c, .int .i64 (s.iso : Int), .int .i64 (s.emb : Int), .int .i64 (s.val : Int)] 46)).alloc (.cells #[.slice none 0 0, .int .i64 0, .int .i64 0, .int .i64 0] 46)) := ((Below.refl _ _).alloc (Nat.le_refl _) _).alloc (by simp) _
  have hs1 := h.below hW0 (Nat.le_refl _)
  have hf0 := rfld0
  have bx0 : ((w.alloc (.cells #[.slice A n c, .int .i64 (s.iso : Int), .int .i64 (s.emb : Int), .int .i64 (s.val : Int)] 46)).alloc (.cells #[.slice none 0 0, .int .i64 0, .int .i64 0, .int .i64 0] 46)).heap[w.heap.size]? = some (.cells #[.slice A n c, .int .i64 (s.iso : Int), .int .i64 (s.emb : Int), .int .i64 (s.val : Int)] 46 (0, 0)) := (Below.heap_alloc _ _ _ (by simp)).trans (heap_alloc_new w _)
  have rs0 : ((w.alloc (.cells #[.slice A n c, .int .i64 (s.iso : Int), .int .i64 (s.emb : Int), .int .i64 (s.val : Int)] 46)).alloc (.cells #[.slice none 0 0, .int .i64 0, .int .i64 0, .int .i64 0] 46)).heap[w.heap.size + 1]? = some (.cells #[.slice none 0 0, .int .i64 0, .int .i64 0, .int .i64 0] 46 (0, 0)) := by
    have := heap_alloc_new (w.alloc (.cells #[.slice A n c, .int .i64 (s.iso : Int), .int .i64 (s.emb : Int), .int .i64 (s.val : Int)] 46)) (.cells #[.slice none 0 0, .int .i64 0, .int .i64 0, .int .i64 0] 46)
    simpa using this
  have BX0 := Lib.hid bx0
  have RS0 := Lib.hid rs0
  clear bx0 rs0
  have hi1 := hok.2.2.2.1
  have hi2 := hok.2.2.2.2.1
  have hi3 : s.val ≤ s.stk.length := by rw [← hok.2.1]; exact List.length_filter_le _ _
  have hi4 := hok.2.2.2.2.2
  have hst : s.stk.length = n := h.1
  have HN := Lib.hid hst
  have hvn : s.val ≤ 1000002 := by omega
  have hn0 : n ≤ 1002 := by omega
  have he : Lv.isol s o = if Lv.room s (Lv.nx (Lv.top s).lv o) then { s with val := s.val + 1, stk := ⟨Lv.nx (Lv.top s).lv o, 0, true⟩ :: s.stk } else { s with iso := s.iso + 1 } := rfl
  rw [he]
  rcases hr : Lv.room s (Lv.nx (Lv.top s).lv o) with _ | _
  · rw [if_neg (by simp)]
    have hiso : s.iso ≤ 1000 := by omega
    have HR := Lib.hid hr
    clear h hok hr he hi1 hi2 hi3 hi4 hst
    go_enter Try.func24, Try.ntmps24
    go_wp2_with fail
    refine (rlast_any base k s A n c _ _ _ _ hs1 HK.out (by omega)).mono ?_
    rintro e w1 ⟨rfl, hb1⟩
    have BX1 := Lib.hid ((hb1.block w.heap.size (by simp <;> omega)).trans BX0.out)
    have RS1 := Lib.hid ((hb1.block (w.heap.size + 1) (by simp <;> omega)).trans RS0.out)
    obtain ⟨p0, p1, p2, p3, f0, f1, f2, f3⟩ := blk4 BX1.out
    have hs1z := hb1.size
    simp at hs1z
    have hs2 := hs1.below hb1 (Nat.le_refl _)
    have hfin1 := hW0.trans (hb1.mono (by simp; omega))
    clear hs1
    go_wp2_with fail
    refine (rnext_any (Lv.top s).lv o htop.1 (by omega) _).mono ?_
    rintro e w2 ⟨rfl, rfl⟩
    go_wp2_with fail
    refine (rroom_any s A n c _ (Lv.nx (Lv.top s).lv o) false HR.out _).mono ?_
    rintro e w3 ⟨rfl, hb3⟩
    clear p0 p1 p2 p3 f0 f1 f2 f3
    have BX3 := Lib.hid ((hb3.block w.heap.size (by omega)).trans BX1.out)
    have RS3 := Lib.hid ((hb3.block (w.heap.size + 1) (by omega)).trans RS1.out)
    obtain ⟨p0, p1, p2, p3, f0, f1, f2, f3⟩ := blk4 BX3.out
    obtain ⟨r0, r1, r2, r3, g0, g1, g2, g3⟩ := blk4 RS3.out
    have hs3z := hb3.size
    have hs3 := hs2.below hb3 (Nat.le_refl _)
    have hfin3 := hfin1.trans (hb3.mono (by omega))
    clear hs2
    go_wp2_with fail
    refine bodyPost_ret (v := .agg #[.slice A n c, .int .i64 ((s.iso : Int) + 1), .int .i64 (s.emb : Int), .int .i64 (s.val : Int)]) (by simp only [results, Try.results24]; go_simp) rfl ?_
    have hfin := hfin3
    exact RetRS.keep (s := { s with iso := s.iso + 1 }) HS.out (by simp) rfl rfl (by repeat (first | refine Below.setCell ?_ (by simp) _ | exact hfin))
  · rw [if_pos rfl]
    have HR := Lib.hid hr
    clear h hok hr he hi1 hi2 hi3 hi4 hst
    go_enter Try.func24, Try.ntmps24
    go_wp2_with fail
    refine (rlast_any base k s A n c _ _ _ _ hs1 HK.out (by omega)).mono ?_
    rintro e w1 ⟨rfl, hb1⟩
    have BX1 := Lib.hid ((hb1.block w.heap.size (by simp <;> omega)).trans BX0.out)
    have RS1 := Lib.hid ((hb1.block (w.heap.size + 1) (by simp <;> omega)).trans RS0.out)
    obtain ⟨p0, p1, p2, p3, f0, f1, f2, f3⟩ := blk4 BX1.out
    have hs1z := hb1.size
    simp at hs1z
    have hs2 := hs1.below hb1 (Nat.le_refl _)
    have hfin1 := hW0.trans (hb1.mono (by simp; omega))
    clear hs1
    go_wp2_with fail
    refine (rnext_any (Lv.top s).lv o htop.1 (by omega) _).mono ?_
    rintro e w2 ⟨rfl, rfl⟩
    go_wp2_with fail
    refine (rroom_any s A n c _ (Lv.nx (Lv.top s).lv o) true HR.out _).mono ?_
    rintro e w3 ⟨rfl, hb3⟩
    clear p0 p1 p2 p3 f0 f1 f2 f3
    have BX3 := Lib.hid ((hb3.block w.heap.size (by omega)).trans BX1.out)
    have RS3 := Lib.hid ((hb3.block (w.heap.size + 1) (by omega)).trans RS1.out)
    obtain ⟨p0, p1, p2, p3, f0, f1, f2, f3⟩ := blk4 BX3.out
    obtain ⟨r0, r1, r2, r3, g0, g1, g2, g3⟩ := blk4 RS3.out
    have hs3z := hb3.size
    have hs3 := hs2.below hb3 (Nat.le_refl _)
    have hfin3 := hfin1.trans (hb3.mono (by omega))
    clear hs2
    go_wp2_with fail
    refine (radd_any base s.stk A n c ⟨Lv.nx (Lv.top s).lv o, 0, true⟩ _ (?_) (by omega)).mono ?_
    · exact HS.out.below (hfin3.setCell (p := ⟨w.heap.size, 3, none⟩) (Nat.le_refl _) _) (Nat.le_refl _)
    rintro e w4 ⟨A4, c4, rfl, hs4, hb4⟩
    clear p0 p1 p2 p3 f0 f1 f2 f3 r0 r1 r2 r3 g0 g1 g2 g3
    have hss : (w3.setCell ⟨w.heap.size, 3, none⟩ (.int .i64 ((s.val : Int) + 1))).heap.size = w3.heap.size := by simp [World.setCell]
    have hss1 : w3.heap.size ≤ (w3.setCell ⟨w.heap.size, 3, none⟩ (.int .i64 ((s.val : Int) + 1))).heap.size := by omega
    clear hss
    obtain ⟨p0, p1, p2, p3, f0, f1, f2, f3⟩ := blk4 ((hb4.block w.heap.size (by omega)).trans (heap_setCell_same w3 w.heap.size 3 _ _ _ BX3.out))
    obtain ⟨r0, r1, r2, r3, g0, g1, g2, g3⟩ := blk4 ((hb4.block (w.heap.size + 1) (by omega)).trans ((heap_setCell_other w3 ⟨w.heap.size, 3, none⟩ (w.heap.size + 1) _ (by simp)).trans RS3.out))
    have hs4z := hb4.size
    have hfin := (hfin3.setCell (p := ⟨w.heap.size, 3, none⟩) (Nat.le_refl _) _).trans (hb4.mono (by omega))
    clear hs3
    go_wp2_with fail
    refine bodyPost_ret (v := .agg #[.slice A4 (s.stk.length + 1) c4, .int .i64 (s.iso : Int), .int .i64 (s.emb : Int), .int .i64 ((s.val : Int) + 1)]) (by simp only [results, Try.results24]; go_simp) rfl ?_
    refine RetRS.of (s := { s with val := s.val + 1, stk := ⟨Lv.nx (Lv.top s).lv o, 0, true⟩ :: s.stk }) ?_ rfl rfl (by simp) (by repeat (first | refine Below.setCell ?_ (by simp) _ | exact hfin))
    simp only [List.length_cons] at hs4
    have hs5 := hs4.more (base' := w.heap.size + 2) (by omega)
    refine Stk.more (base := w.heap.size + 2) ?_ (by omega)
    repeat (first | refine Stk.set_below ?_ (by simp) _ | exact hs5)


end Go.Proofs.Ytojcphfonbdlpaa
