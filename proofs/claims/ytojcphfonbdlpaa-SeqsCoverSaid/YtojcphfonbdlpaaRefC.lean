/- The walks of the reference's begin and embed: the state behind each. Conditions: the state is in order and not great. -/
import Derived.Test.YtojcphfonbdlpaaRefB
namespace Go.Proofs.Ytojcphfonbdlpaa
open Go.RowKit

/-- What a call leaves that hands back a state and turns nothing that was there. -/
def RetRS (base : Nat) (w : World) (s : Lv.S) (e : Ending) (w' : World) : Prop := ∃ v, e = .returned v ∧ RS w' base v s ∧ Below w.heap.size w w'

theorem RetRS.of {base : Nat} {w w' : World} {s : Lv.S} {A : Option Addr} {n c : Nat} {i e v : Int} (h : Stk w' base 49 A n c s.stk) (hi : i = (s.iso : Int)) (he : e = (s.emb : Int)) (hv : v = (s.val : Int)) (hb : Below w.heap.size w w') :
    RetRS base w s (.returned (.agg #[.slice A n c, .int .i64 i, .int .i64 e, .int .i64 v])) w' := ⟨_, rfl, ⟨A, n, c, by rw [hi, he, hv], h⟩, hb⟩
theorem RetRS.keep {base : Nat} {w w' : World} {s : Lv.S} {A : Option Addr} {n c : Nat} {i e v : Int} (h : Stk w base 49 A n c s.stk) (hi : i = (s.iso : Int)) (he : e = (s.emb : Int)) (hv : v = (s.val : Int)) (hb : Below w.heap.size w w') :
    RetRS base w s (.returned (.agg #[.slice A n c, .int .i64 i, .int .i64 e, .int .i64 v])) w' := RetRS.of (h.below hb (Nat.le_refl _)) hi he hv hb

set_option maxHeartbeats 400000 in
theorem rbegin_any (base : Nat) (b : Int) (w : World) (hbase : base ≤ w.heap.size) :
    Calls Try.prog 19 #[.int .i64 b] w (RetRS base w (Lv.begin0 b)) := by
  go_enter Try.func19, Try.ntmps19
  go_wp2_with fail
  refine bodyPost_ret (v := .agg #[.slice (some ⟨w.heap.size + 1, 0, none⟩) 1 1, .int .i64 0, .int .i64 0, .int .i64 0]) (by simp only [results, Try.results19]; go_simp) rfl ?_
  exact RetRS.of (s := Lv.begin0 b) (Stk.one_at _ base _ ⟨b, 0, false⟩ (by simp) (by simp; omega)) rfl rfl rfl (((Below.refl _ _).alloc (Nat.le_refl _) _).alloc (by simp) _)

set_option maxHeartbeats 2000000 in
theorem rembed_any (base k : Nat) (s : Lv.S) (x : Int) (hx : x = 15 ∨ x = 16 ∨ x = 17 ∨ x = 18) (A : Option Addr) (n c : Nat) (w : World) (h : Stk w base 49 A n c s.stk) (hbase : base ≤ w.heap.size) (hok : Lv.Ok k s) (hk : k ≤ 1000) :
    Calls Try.prog 23 #[.agg #[.slice A n c, .int .i64 (s.iso : Int), .int .i64 (s.emb : Int), .int .i64 (s.val : Int)], .int .i64 x] w (RetRS base w (Lv.embed s x)) := by
  have hcap := h.cap
  have HS := Lib.hid h
  have HK := Lib.hid hok
  have htop := hok.top
  have hW0 : Below w.heap.size w ((w.alloc (.cells #[.slice A n c, .int .i64 (s.iso : Int), .int .i64 (s.emb : Int), .int .i64 (s.val : Int)] 46)).alloc (.cells #[.slice none 0 0, .int .i64 0, .int .i64 0, .int .i64 0] 46)) := ((Below.refl _ _).alloc (Nat.le_refl _) _).alloc (by simp) _
  have hs1 := h.below hW0 (Nat.le_refl _)
  have hf0 := rfld0
  have bx0 : ((w.alloc (.cells #[.slice A n c, .int .i64 (s.iso : Int), .int .i64 (s.emb : Int), .int .i64 (s.val : Int)] 46)).alloc (.cells #[.slice none 0 0, .int .i64 0, .int .i64 0, .int .i64 0] 46)).heap[w.heap.size]? = some (.cells #[.slice A n c, .int .i64 (s.iso : Int), .int .i64 (s.emb : Int), .int .i64 (s.val : Int)] 46 (0, 0)) := (Below.heap_alloc _ _ _ (by simp)).trans (heap_alloc_new w _)
  have rs0 : ((w.alloc (.cells #[.slice A n c, .int .i64 (s.iso : Int), .int .i64 (s.emb : Int), .int .i64 (s.val : Int)] 46)).alloc (.cells #[.slice none 0 0, .int .i64 0, .int .i64 0, .int .i64 0] 46)).heap[w.heap.size + 1]? = some (.cells #[.slice none 0 0, .int .i64 0, .int .i64 0, .int .i64 0] 46 (0, 0)) := by
    have := heap_alloc_new (w.alloc (.cells #[.slice A n c, .int .i64 (s.iso : Int), .int .i64 (s.emb : Int), .int .i64 (s.val : Int)] 46)) (.cells #[.slice none 0 0, .int .i64 0, .int .i64 0, .int .i64 0] 46)
    simpa using this
  have BX0 := Lib.hid bx0
  have RS0 := Lib.hid rs0
  clear bx0 rs0
  have hi1 := hok.2.2.2.1
  have hi2 := hok.2.2.2.2.1
  have hi3 : s.val ≤ s.stk.length := by rw [← hok.2.1]; exact List.length_filter_le _ _
  have hi4 := hok.2.2.2.2.2
  have hst : s.stk.length = n := h.1
  have HN := Lib.hid hst
  have hvn : s.val ≤ 1000002 := by omega
  have hn0 : n ≤ 1002 := by omega
  rcases hx with rfl | rfl | rfl | rfl
  · have he : Lv.embed s 15 = if Lv.room s (Lv.nx (Lv.top s).lv false) then { s with stk := ⟨Lv.nx (Lv.top s).lv false, 0, false⟩ :: s.stk } else if s.iso = 0 then { s with emb := s.emb + 1 } else s := rfl
    rw [he]
    rcases hr : Lv.room s (Lv.nx (Lv.top s).lv false) with _ | _
    · by_cases hi : s.iso = 0
      · have hib : ((s.iso : Int) == 0) = true := by simp [hi]
        rw [if_neg (by simp), if_pos hi]
        have hemb : s.emb ≤ 1000001 := by omega
        clear hi
        have HR := Lib.hid hr
        clear h hok hr he hi1 hi2 hi3 hi4 hst
        go_enter Try.func23, Try.ntmps23
        go_wp2_with fail
        refine (rlast_any base k s A n c _ _ _ _ hs1 HK.out (by omega)).mono ?_
        rintro e w1 ⟨rfl, hb1⟩
        have BX1 := Lib.hid ((hb1.block w.heap.size (by simp <;> omega)).trans BX0.out)
        have RS1 := Lib.hid ((hb1.block (w.heap.size + 1) (by simp <;> omega)).trans RS0.out)
        obtain ⟨p0, p1, p2, p3, f0, f1, f2, f3⟩ := blk4 BX1.out
        have hs1z := hb1.size
        simp at hs1z
        have hs2 := hs1.below hb1 (Nat.le_refl _)
        have hfin1 := hW0.trans (hb1.mono (by simp; omega))
        clear hs1
        go_wp2_with fail
        refine (rnext_any (Lv.top s).lv false htop.1 (by omega) _).mono ?_
        rintro e w2 ⟨rfl, rfl⟩
        go_wp2_with fail
        refine (rroom_any s A n c _ (Lv.nx (Lv.top s).lv false) false HR.out _).mono ?_
        rintro e w3 ⟨rfl, hb3⟩
        clear p0 p1 p2 p3 f0 f1 f2 f3
        have BX3 := Lib.hid ((hb3.block w.heap.size (by omega)).trans BX1.out)
        have RS3 := Lib.hid ((hb3.block (w.heap.size + 1) (by omega)).trans RS1.out)
        obtain ⟨p0, p1, p2, p3, f0, f1, f2, f3⟩ := blk4 BX3.out
        obtain ⟨r0, r1, r2, r3, g0, g1, g2, g3⟩ := blk4 RS3.out
        have hs3z := hb3.size
        have hs3 := hs2.below hb3 (Nat.le_refl _)
        have hfin3 := hfin1.trans (hb3.mono (by omega))
        clear hs2
        go_wp2_with fail
        refine bodyPost_ret (v := .agg #[.slice A n c, .int .i64 (s.iso : Int), .int .i64 ((s.emb : Int) + 1), .int .i64 (s.val : Int)]) (by simp only [results, Try.results23]; go_simp) rfl ?_
        have hfin := hfin3
        exact RetRS.keep (s := { s with emb := s.emb + 1 }) HS.out rfl (by simp) rfl (by repeat (first | refine Below.setCell ?_ (by simp) _ | exact hfin))
      · have hib : ((s.iso : Int) == 0) = false := by simp [hi]
        rw [if_neg (by simp), if_neg hi]
        clear hi
        have HR := Lib.hid hr
        clear h hok hr he hi1 hi2 hi3 hi4 hst
        go_enter Try.func23, Try.ntmps23
        go_wp2_with fail
        refine (rlast_any base k s A n c _ _ _ _ hs1 HK.out (by omega)).mono ?_
        rintro e w1 ⟨rfl, hb1⟩
        have BX1 := Lib.hid ((hb1.block w.heap.size (by simp <;> omega)).trans BX0.out)
        have RS1 := Lib.hid ((hb1.block (w.heap.size + 1) (by simp <;> omega)).trans RS0.out)
        obtain ⟨p0, p1, p2, p3, f0, f1, f2, f3⟩ := blk4 BX1.out
        have hs1z := hb1.size
        simp at hs1z
        have hs2 := hs1.below hb1 (Nat.le_refl _)
        have hfin1 := hW0.trans (hb1.mono (by simp; omega))
        clear hs1
        go_wp2_with fail
        refine (rnext_any (Lv.top s).lv false htop.1 (by omega) _).mono ?_
        rintro e w2 ⟨rfl, rfl⟩
        go_wp2_with fail
        refine (rroom_any s A n c _ (Lv.nx (Lv.top s).lv false) false HR.out _).mono ?_
        rintro e w3 ⟨rfl, hb3⟩
        clear p0 p1 p2 p3 f0 f1 f2 f3
        have BX3 := Lib.hid ((hb3.block w.heap.size (by omega)).trans BX1.out)
        have RS3 := Lib.hid ((hb3.block (w.heap.size + 1) (by omega)).trans RS1.out)
        obtain ⟨p0, p1, p2, p3, f0, f1, f2, f3⟩ := blk4 BX3.out
        obtain ⟨r0, r1, r2, r3, g0, g1, g2, g3⟩ := blk4 RS3.out
        have hs3z := hb3.size
        have hs3 := hs2.below hb3 (Nat.le_refl _)
        have hfin3 := hfin1.trans (hb3.mono (by omega))
        clear hs2
        go_wp2_with fail
        refine bodyPost_ret (v := .agg #[.slice A n c, .int .i64 (s.iso : Int), .int .i64 (s.emb : Int), .int .i64 (s.val : Int)]) (by simp only [results, Try.results23]; go_simp) rfl ?_
        have hfin := hfin3
        exact RetRS.keep (s := s) HS.out rfl rfl rfl (by repeat (first | refine Below.setCell ?_ (by simp) _ | exact hfin))
    · rw [if_pos rfl]
      have HR := Lib.hid hr
      clear h hok hr he hi1 hi2 hi3 hi4 hst
      go_enter Try.func23, Try.ntmps23
      go_wp2_with fail
      refine (rlast_any base k s A n c _ _ _ _ hs1 HK.out (by omega)).mono ?_
      rintro e w1 ⟨rfl, hb1⟩
      have BX1 := Lib.hid ((hb1.block w.heap.size (by simp <;> omega)).trans BX0.out)
      have RS1 := Lib.hid ((hb1.block (w.heap.size + 1) (by simp <;> omega)).trans RS0.out)
      obtain ⟨p0, p1, p2, p3, f0, f1, f2, f3⟩ := blk4 BX1.out
      have hs1z := hb1.size
      simp at hs1z
      have hs2 := hs1.below hb1 (Nat.le_refl _)
      have hfin1 := hW0.trans (hb1.mono (by simp; omega))
      clear hs1
      go_wp2_with fail
      refine (rnext_any (Lv.top s).lv false htop.1 (by omega) _).mono ?_
      rintro e w2 ⟨rfl, rfl⟩
      go_wp2_with fail
      refine (rroom_any s A n c _ (Lv.nx (Lv.top s).lv false) true HR.out _).mono ?_
      rintro e w3 ⟨rfl, hb3⟩
      clear p0 p1 p2 p3 f0 f1 f2 f3
      have BX3 := Lib.hid ((hb3.block w.heap.size (by omega)).trans BX1.out)
      have RS3 := Lib.hid ((hb3.block (w.heap.size + 1) (by omega)).trans RS1.out)
      obtain ⟨p0, p1, p2, p3, f0, f1, f2, f3⟩ := blk4 BX3.out
      obtain ⟨r0, r1, r2, r3, g0, g1, g2, g3⟩ := blk4 RS3.out
      have hs3z := hb3.size
      have hs3 := hs2.below hb3 (Nat.le_refl _)
      have hfin3 := hfin1.trans (hb3.mono (by omega))
      clear hs2
      go_wp2_with fail
      refine (radd_any base s.stk A n c ⟨Lv.nx (Lv.top s).lv false, 0, false⟩ _ (?_) (by omega)).mono ?_
      · exact hs3
      rintro e w4 ⟨A4, c4, rfl, hs4, hb4⟩
      clear p0 p1 p2 p3 f0 f1 f2 f3 r0 r1 r2 r3 g0 g1 g2 g3
      obtain ⟨p0, p1, p2, p3, f0, f1, f2, f3⟩ := blk4 ((hb4.block w.heap.size (by omega)).trans BX3.out)
      obtain ⟨r0, r1, r2, r3, g0, g1, g2, g3⟩ := blk4 ((hb4.block (w.heap.size + 1) (by omega)).trans RS3.out)
      have hs4z := hb4.size
      have hfin := hfin3.trans (hb4.mono (by omega))
      clear hs3
      go_wp2_with fail
      refine bodyPost_ret (v := .agg #[.slice A4 (s.stk.length + 1) c4, .int .i64 (s.iso : Int), .int .i64 (s.emb : Int), .int .i64 (s.val : Int)]) (by simp only [results, Try.results23]; go_simp) rfl ?_
      refine RetRS.of (s := { s with stk := ⟨Lv.nx (Lv.top s).lv false, 0, false⟩ :: s.stk }) ?_ rfl rfl rfl (by repeat (first | refine Below.setCell ?_ (by simp) _ | exact hfin))
      simp only [List.length_cons] at hs4
      have hs5 := hs4.more (base' := w.heap.size + 2) (by omega)
      refine Stk.more (base := w.heap.size + 2) ?_ (by omega)
      repeat (first | refine Stk.set_below ?_ (by simp) _ | exact hs5)
  · have he : Lv.embed s 16 = if Lv.room s (Lv.nx (Lv.top s).lv false) then { s with stk := ⟨Lv.nx (Lv.top s).lv false, 1, false⟩ :: s.stk } else if s.iso = 0 then { s with emb := s.emb + 1 } else s := rfl
    rw [he]
    rcases hr : Lv.room s (Lv.nx (Lv.top s).lv false) with _ | _
    · by_cases hi : s.iso = 0
      · have hib : ((s.iso : Int) == 0) = true := by simp [hi]
        rw [if_neg (by simp), if_pos hi]
        have hemb : s.emb ≤ 1000001 := by omega
        clear hi
        have HR := Lib.hid hr
        clear h hok hr he hi1 hi2 hi3 hi4 hst
        go_enter Try.func23, Try.ntmps23
        go_wp2_with fail
        refine (rlast_any base k s A n c _ _ _ _ hs1 HK.out (by omega)).mono ?_
        rintro e w1 ⟨rfl, hb1⟩
        have BX1 := Lib.hid ((hb1.block w.heap.size (by simp <;> omega)).trans BX0.out)
        have RS1 := Lib.hid ((hb1.block (w.heap.size + 1) (by simp <;> omega)).trans RS0.out)
        obtain ⟨p0, p1, p2, p3, f0, f1, f2, f3⟩ := blk4 BX1.out
        have hs1z := hb1.size
        simp at hs1z
        have hs2 := hs1.below hb1 (Nat.le_refl _)
        have hfin1 := hW0.trans (hb1.mono (by simp; omega))
        clear hs1
        go_wp2_with fail
        refine (rnext_any (Lv.top s).lv false htop.1 (by omega) _).mono ?_
        rintro e w2 ⟨rfl, rfl⟩
        go_wp2_with fail
        refine (rroom_any s A n c _ (Lv.nx (Lv.top s).lv false) false HR.out _).mono ?_
        rintro e w3 ⟨rfl, hb3⟩
        clear p0 p1 p2 p3 f0 f1 f2 f3
        have BX3 := Lib.hid ((hb3.block w.heap.size (by omega)).trans BX1.out)
        have RS3 := Lib.hid ((hb3.block (w.heap.size + 1) (by omega)).trans RS1.out)
        obtain ⟨p0, p1, p2, p3, f0, f1, f2, f3⟩ := blk4 BX3.out
        obtain ⟨r0, r1, r2, r3, g0, g1, g2, g3⟩ := blk4 RS3.out
        have hs3z := hb3.size
        have hs3 := hs2.below hb3 (Nat.le_refl _)
        have hfin3 := hfin1.trans (hb3.mono (by omega))
        clear hs2
        go_wp2_with fail
        refine bodyPost_ret (v := .agg #[.slice A n c, .int .i64 (s.iso : Int), .int .i64 ((s.emb : Int) + 1), .int .i64 (s.val : Int)]) (by simp only [results, Try.results23]; go_simp) rfl ?_
        have hfin := hfin3
        exact RetRS.keep (s := { s with emb := s.emb + 1 }) HS.out rfl (by simp) rfl (by repeat (first | refine Below.setCell ?_ (by simp) _ | exact hfin))
      · have hib : ((s.iso : Int) == 0) = false := by simp [hi]
        rw [if_neg (by simp), if_neg hi]
        clear hi
        have HR := Lib.hid hr
        clear h hok hr he hi1 hi2 hi3 hi4 hst
        go_enter Try.func23, Try.ntmps23
        go_wp2_with fail
        refine (rlast_any base k s A n c _ _ _ _ hs1 HK.out (by omega)).mono ?_
        rintro e w1 ⟨rfl, hb1⟩
        have BX1 := Lib.hid ((hb1.block w.heap.size (by simp <;> omega)).trans BX0.out)
        have RS1 := Lib.hid ((hb1.block (w.heap.size + 1) (by simp <;> omega)).trans RS0.out)
        obtain ⟨p0, p1, p2, p3, f0, f1, f2, f3⟩ := blk4 BX1.out
        have hs1z := hb1.size
        simp at hs1z
        have hs2 := hs1.below hb1 (Nat.le_refl _)
        have hfin1 := hW0.trans (hb1.mono (by simp; omega))
        clear hs1
        go_wp2_with fail
        refine (rnext_any (Lv.top s).lv false htop.1 (by omega) _).mono ?_
        rintro e w2 ⟨rfl, rfl⟩
        go_wp2_with fail
        refine (rroom_any s A n c _ (Lv.nx (Lv.top s).lv false) false HR.out _).mono ?_
        rintro e w3 ⟨rfl, hb3⟩
        clear p0 p1 p2 p3 f0 f1 f2 f3
        have BX3 := Lib.hid ((hb3.block w.heap.size (by omega)).trans BX1.out)
        have RS3 := Lib.hid ((hb3.block (w.heap.size + 1) (by omega)).trans RS1.out)
        obtain ⟨p0, p1, p2, p3, f0, f1, f2, f3⟩ := blk4 BX3.out
        obtain ⟨r0, r1, r2, r3, g0, g1, g2, g3⟩ := blk4 RS3.out
        have hs3z := hb3.size
        have hs3 := hs2.below hb3 (Nat.le_refl _)
        have hfin3 := hfin1.trans (hb3.mono (by omega))
        clear hs2
        go_wp2_with fail
        refine bodyPost_ret (v := .agg #[.slice A n c, .int .i64 (s.iso : Int), .int .i64 (s.emb : Int), .int .i64 (s.val : Int)]) (by simp only [results, Try.results23]; go_simp) rfl ?_
        have hfin := hfin3
        exact RetRS.keep (s := s) HS.out rfl rfl rfl (by repeat (first | refine Below.setCell ?_ (by simp) _ | exact hfin))
    · rw [if_pos rfl]
      have HR := Lib.hid hr
      clear h hok hr he hi1 hi2 hi3 hi4 hst
      go_enter Try.func23, Try.ntmps23
      go_wp2_with fail
      refine (rlast_any base k s A n c _ _ _ _ hs1 HK.out (by omega)).mono ?_
      rintro e w1 ⟨rfl, hb1⟩
      have BX1 := Lib.hid ((hb1.block w.heap.size (by simp <;> omega)).trans BX0.out)
      have RS1 := Lib.hid ((hb1.block (w.heap.size + 1) (by simp <;> omega)).trans RS0.out)
      obtain ⟨p0, p1, p2, p3, f0, f1, f2, f3⟩ := blk4 BX1.out
      have hs1z := hb1.size
      simp at hs1z
      have hs2 := hs1.below hb1 (Nat.le_refl _)
      have hfin1 := hW0.trans (hb1.mono (by simp; omega))
      clear hs1
      go_wp2_with fail
      refine (rnext_any (Lv.top s).lv false htop.1 (by omega) _).mono ?_
      rintro e w2 ⟨rfl, rfl⟩
      go_wp2_with fail
      refine (rroom_any s A n c _ (Lv.nx (Lv.top s).lv false) true HR.out _).mono ?_
      rintro e w3 ⟨rfl, hb3⟩
      clear p0 p1 p2 p3 f0 f1 f2 f3
      have BX3 := Lib.hid ((hb3.block w.heap.size (by omega)).trans BX1.out)
      have RS3 := Lib.hid ((hb3.block (w.heap.size + 1) (by omega)).trans RS1.out)
      obtain ⟨p0, p1, p2, p3, f0, f1, f2, f3⟩ := blk4 BX3.out
      obtain ⟨r0, r1, r2, r3, g0, g1, g2, g3⟩ := blk4 RS3.out
      have hs3z := hb3.size
      have hs3 := hs2.below hb3 (Nat.le_refl _)
      have hfin3 := hfin1.trans (hb3.mono (by omega))
      clear hs2
      go_wp2_with fail
      refine (radd_any base s.stk A n c ⟨Lv.nx (Lv.top s).lv false, 1, false⟩ _ (?_) (by omega)).mono ?_
      · exact hs3
      rintro e w4 ⟨A4, c4, rfl, hs4, hb4⟩
      clear p0 p1 p2 p3 f0 f1 f2 f3 r0 r1 r2 r3 g0 g1 g2 g3
      obtain ⟨p0, p1, p2, p3, f0, f1, f2, f3⟩ := blk4 ((hb4.block w.heap.size (by omega)).trans BX3.out)
      obtain ⟨r0, r1, r2, r3, g0, g1, g2, g3⟩ := blk4 ((hb4.block (w.heap.size + 1) (by omega)).trans RS3.out)
      have hs4z := hb4.size
      have hfin := hfin3.trans (hb4.mono (by omega))
      clear hs3
      go_wp2_with fail
      refine bodyPost_ret (v := .agg #[.slice A4 (s.stk.length + 1) c4, .int .i64 (s.iso : Int), .int .i64 (s.emb : Int), .int .i64 (s.val : Int)]) (by simp only [results, Try.results23]; go_simp) rfl ?_
      refine RetRS.of (s := { s with stk := ⟨Lv.nx (Lv.top s).lv false, 1, false⟩ :: s.stk }) ?_ rfl rfl rfl (by repeat (first | refine Below.setCell ?_ (by simp) _ | exact hfin))
      simp only [List.length_cons] at hs4
      have hs5 := hs4.more (base' := w.heap.size + 2) (by omega)
      refine Stk.more (base := w.heap.size + 2) ?_ (by omega)
      repeat (first | refine Stk.set_below ?_ (by simp) _ | exact hs5)
  · have he : Lv.embed s 17 = if Lv.room s (Lv.nx (Lv.top s).lv true) then { s with stk := ⟨Lv.nx (Lv.top s).lv true, 0, false⟩ :: s.stk } else if s.iso = 0 then { s with emb := s.emb + 1 } else s := rfl
    rw [he]
    rcases hr : Lv.room s (Lv.nx (Lv.top s).lv true) with _ | _
    · by_cases hi : s.iso = 0
      · have hib : ((s.iso : Int) == 0) = true := by simp [hi]
        rw [if_neg (by simp), if_pos hi]
        have hemb : s.emb ≤ 1000001 := by omega
        clear hi
        have HR := Lib.hid hr
        clear h hok hr he hi1 hi2 hi3 hi4 hst
        go_enter Try.func23, Try.ntmps23
        go_wp2_with fail
        refine (rlast_any base k s A n c _ _ _ _ hs1 HK.out (by omega)).mono ?_
        rintro e w1 ⟨rfl, hb1⟩
        have BX1 := Lib.hid ((hb1.block w.heap.size (by simp <;> omega)).trans BX0.out)
        have RS1 := Lib.hid ((hb1.block (w.heap.size + 1) (by simp <;> omega)).trans RS0.out)
        obtain ⟨p0, p1, p2, p3, f0, f1, f2, f3⟩ := blk4 BX1.out
        have hs1z := hb1.size
        simp at hs1z
        have hs2 := hs1.below hb1 (Nat.le_refl _)
        have hfin1 := hW0.trans (hb1.mono (by simp; omega))
        clear hs1
        go_wp2_with fail
        refine (rnext_any (Lv.top s).lv true htop.1 (by omega) _).mono ?_
        rintro e w2 ⟨rfl, rfl⟩
        go_wp2_with fail
        refine (rroom_any s A n c _ (Lv.nx (Lv.top s).lv true) false HR.out _).mono ?_
        rintro e w3 ⟨rfl, hb3⟩
        clear p0 p1 p2 p3 f0 f1 f2 f3
        have BX3 := Lib.hid ((hb3.block w.heap.size (by omega)).trans BX1.out)
        have RS3 := Lib.hid ((hb3.block (w.heap.size + 1) (by omega)).trans RS1.out)
        obtain ⟨p0, p1, p2, p3, f0, f1, f2, f3⟩ := blk4 BX3.out
        obtain ⟨r0, r1, r2, r3, g0, g1, g2, g3⟩ := blk4 RS3.out
        have hs3z := hb3.size
        have hs3 := hs2.below hb3 (Nat.le_refl _)
        have hfin3 := hfin1.trans (hb3.mono (by omega))
        clear hs2
        go_wp2_with fail
        refine bodyPost_ret (v := .agg #[.slice A n c, .int .i64 (s.iso : Int), .int .i64 ((s.emb : Int) + 1), .int .i64 (s.val : Int)]) (by simp only [results, Try.results23]; go_simp) rfl ?_
        have hfin := hfin3
        exact RetRS.keep (s := { s with emb := s.emb + 1 }) HS.out rfl (by simp) rfl (by repeat (first | refine Below.setCell ?_ (by simp) _ | exact hfin))
      · have hib : ((s.iso : Int) == 0) = false := by simp [hi]
        rw [if_neg (by simp), if_neg hi]
        clear hi
        have HR := Lib.hid hr
        clear h hok hr he hi1 hi2 hi3 hi4 hst
        go_enter Try.func23, Try.ntmps23
        go_wp2_with fail
        refine (rlast_any base k s A n c _ _ _ _ hs1 HK.out (by omega)).mono ?_
        rintro e w1 ⟨rfl, hb1⟩
        have BX1 := Lib.hid ((hb1.block w.heap.size (by simp <;> omega)).trans BX0.out)
        have RS1 := Lib.hid ((hb1.block (w.heap.size + 1) (by simp <;> omega)).trans RS0.out)
        obtain ⟨p0, p1, p2, p3, f0, f1, f2, f3⟩ := blk4 BX1.out
        have hs1z := hb1.size
        simp at hs1z
        have hs2 := hs1.below hb1 (Nat.le_refl _)
        have hfin1 := hW0.trans (hb1.mono (by simp; omega))
        clear hs1
        go_wp2_with fail
        refine (rnext_any (Lv.top s).lv true htop.1 (by omega) _).mono ?_
        rintro e w2 ⟨rfl, rfl⟩
        go_wp2_with fail
        refine (rroom_any s A n c _ (Lv.nx (Lv.top s).lv true) false HR.out _).mono ?_
        rintro e w3 ⟨rfl, hb3⟩
        clear p0 p1 p2 p3 f0 f1 f2 f3
        have BX3 := Lib.hid ((hb3.block w.heap.size (by omega)).trans BX1.out)
        have RS3 := Lib.hid ((hb3.block (w.heap.size + 1) (by omega)).trans RS1.out)
        obtain ⟨p0, p1, p2, p3, f0, f1, f2, f3⟩ := blk4 BX3.out
        obtain ⟨r0, r1, r2, r3, g0, g1, g2, g3⟩ := blk4 RS3.out
        have hs3z := hb3.size
        have hs3 := hs2.below hb3 (Nat.le_refl _)
        have hfin3 := hfin1.trans (hb3.mono (by omega))
        clear hs2
        go_wp2_with fail
        refine bodyPost_ret (v := .agg #[.slice A n c, .int .i64 (s.iso : Int), .int .i64 (s.emb : Int), .int .i64 (s.val : Int)]) (by simp only [results, Try.results23]; go_simp) rfl ?_
        have hfin := hfin3
        exact RetRS.keep (s := s) HS.out rfl rfl rfl (by repeat (first | refine Below.setCell ?_ (by simp) _ | exact hfin))
    · rw [if_pos rfl]
      have HR := Lib.hid hr
      clear h hok hr he hi1 hi2 hi3 hi4 hst
      go_enter Try.func23, Try.ntmps23
      go_wp2_with fail
      refine (rlast_any base k s A n c _ _ _ _ hs1 HK.out (by omega)).mono ?_
      rintro e w1 ⟨rfl, hb1⟩
      have BX1 := Lib.hid ((hb1.block w.heap.size (by simp <;> omega)).trans BX0.out)
      have RS1 := Lib.hid ((hb1.block (w.heap.size + 1) (by simp <;> omega)).trans RS0.out)
      obtain ⟨p0, p1, p2, p3, f0, f1, f2, f3⟩ := blk4 BX1.out
      have hs1z := hb1.size
      simp at hs1z
      have hs2 := hs1.below hb1 (Nat.le_refl _)
      have hfin1 := hW0.trans (hb1.mono (by simp; omega))
      clear hs1
      go_wp2_with fail
      refine (rnext_any (Lv.top s).lv true htop.1 (by omega) _).mono ?_
      rintro e w2 ⟨rfl, rfl⟩
      go_wp2_with fail
      refine (rroom_any s A n c _ (Lv.nx (Lv.top s).lv true) true HR.out _).mono ?_
      rintro e w3 ⟨rfl, hb3⟩
      clear p0 p1 p2 p3 f0 f1 f2 f3
      have BX3 := Lib.hid ((hb3.block w.heap.size (by omega)).trans BX1.out)
      have RS3 := Lib.hid ((hb3.block (w.heap.size + 1) (by omega)).trans RS1.out)
      obtain ⟨p0, p1, p2, p3, f0, f1, f2, f3⟩ := blk4 BX3.out
      obtain ⟨r0, r1, r2, r3, g0, g1, g2, g3⟩ := blk4 RS3.out
      have hs3z := hb3.size
      have hs3 := hs2.below hb3 (Nat.le_refl _)
      have hfin3 := hfin1.trans (hb3.mono (by omega))
      clear hs2
      go_wp2_with fail
      refine (radd_any base s.stk A n c ⟨Lv.nx (Lv.top s).lv true, 0, false⟩ _ (?_) (by omega)).mono ?_
      · exact hs3
      rintro e w4 ⟨A4, c4, rfl, hs4, hb4⟩
      clear p0 p1 p2 p3 f0 f1 f2 f3 r0 r1 r2 r3 g0 g1 g2 g3
      obtain ⟨p0, p1, p2, p3, f0, f1, f2, f3⟩ := blk4 ((hb4.block w.heap.size (by omega)).trans BX3.out)
      obtain ⟨r0, r1, r2, r3, g0, g1, g2, g3⟩ := blk4 ((hb4.block (w.heap.size + 1) (by omega)).trans RS3.out)
      have hs4z := hb4.size
      have hfin := hfin3.trans (hb4.mono (by omega))
      clear hs3
      go_wp2_with fail
      refine bodyPost_ret (v := .agg #[.slice A4 (s.stk.length + 1) c4, .int .i64 (s.iso : Int), .int .i64 (s.emb : Int), .int .i64 (s.val : Int)]) (by simp only [results, Try.results23]; go_simp) rfl ?_
      refine RetRS.of (s := { s with stk := ⟨Lv.nx (Lv.top s).lv true, 0, false⟩ :: s.stk }) ?_ rfl rfl rfl (by repeat (first | refine Below.setCell ?_ (by simp) _ | exact hfin))
      simp only [List.length_cons] at hs4
      have hs5 := hs4.more (base' := w.heap.size + 2) (by omega)
      refine Stk.more (base := w.heap.size + 2) ?_ (by omega)
      repeat (first | refine Stk.set_below ?_ (by simp) _ | exact hs5)
  · have he : Lv.embed s 18 = if Lv.room s (Lv.nx (Lv.top s).lv true) then { s with stk := ⟨Lv.nx (Lv.top s).lv true, 2, false⟩ :: s.stk } else if s.iso = 0 then { s with emb := s.emb + 1 } else s := rfl
    rw [he]
    rcases hr : Lv.room s (Lv.nx (Lv.top s).lv true) with _ | _
    · by_cases hi : s.iso = 0
      · have hib : ((s.iso : Int) == 0) = true := by simp [hi]
        rw [if_neg (by simp), if_pos hi]
        have hemb : s.emb ≤ 1000001 := by omega
        clear hi
        have HR := Lib.hid hr
        clear h hok hr he hi1 hi2 hi3 hi4 hst
        go_enter Try.func23, Try.ntmps23
        go_wp2_with fail
        refine (rlast_any base k s A n c _ _ _ _ hs1 HK.out (by omega)).mono ?_
        rintro e w1 ⟨rfl, hb1⟩
        have BX1 := Lib.hid ((hb1.block w.heap.size (by simp <;> omega)).trans BX0.out)
        have RS1 := Lib.hid ((hb1.block (w.heap.size + 1) (by simp <;> omega)).trans RS0.out)
        obtain ⟨p0, p1, p2, p3, f0, f1, f2, f3⟩ := blk4 BX1.out
        have hs1z := hb1.size
        simp at hs1z
        have hs2 := hs1.below hb1 (Nat.le_refl _)
        have hfin1 := hW0.trans (hb1.mono (by simp; omega))
        clear hs1
        go_wp2_with fail
        refine (rnext_any (Lv.top s).lv true htop.1 (by omega) _).mono ?_
        rintro e w2 ⟨rfl, rfl⟩
        go_wp2_with fail
        refine (rroom_any s A n c _ (Lv.nx (Lv.top s).lv true) false HR.out _).mono ?_
        rintro e w3 ⟨rfl, hb3⟩
        clear p0 p1 p2 p3 f0 f1 f2 f3
        have BX3 := Lib.hid ((hb3.block w.heap.size (by omega)).trans BX1.out)
        have RS3 := Lib.hid ((hb3.block (w.heap.size + 1) (by omega)).trans RS1.out)
        obtain ⟨p0, p1, p2, p3, f0, f1, f2, f3⟩ := blk4 BX3.out
        obtain ⟨r0, r1, r2, r3, g0, g1, g2, g3⟩ := blk4 RS3.out
        have hs3z := hb3.size
        have hs3 := hs2.below hb3 (Nat.le_refl _)
        have hfin3 := hfin1.trans (hb3.mono (by omega))
        clear hs2
        go_wp2_with fail
        refine bodyPost_ret (v := .agg #[.slice A n c, .int .i64 (s.iso : Int), .int .i64 ((s.emb : Int) + 1), .int .i64 (s.val : Int)]) (by simp only [results, Try.results23]; go_simp) rfl ?_
        have hfin := hfin3
        exact RetRS.keep (s := { s with emb := s.emb + 1 }) HS.out rfl (by simp) rfl (by repeat (first | refine Below.setCell ?_ (by simp) _ | exact hfin))
      · have hib : ((s.iso : Int) == 0) = false := by simp [hi]
        rw [if_neg (by simp), if_neg hi]
        clear hi
        have HR := Lib.hid hr
        clear h hok hr he hi1 hi2 hi3 hi4 hst
        go_enter Try.func23, Try.ntmps23
        go_wp2_with fail
        refine (rlast_any base k s A n c _ _ _ _ hs1 HK.out (by omega)).mono ?_
        rintro e w1 ⟨rfl, hb1⟩
        have BX1 := Lib.hid ((hb1.block w.heap.size (by simp <;> omega)).trans BX0.out)
        have RS1 := Lib.hid ((hb1.block (w.heap.size + 1) (by simp <;> omega)).trans RS0.out)
        obtain ⟨p0, p1, p2, p3, f0, f1, f2, f3⟩ := blk4 BX1.out
        have hs1z := hb1.size
        simp at hs1z
        have hs2 := hs1.below hb1 (Nat.le_refl _)
        have hfin1 := hW0.trans (hb1.mono (by simp; omega))
        clear hs1
        go_wp2_with fail
        refine (rnext_any (Lv.top s).lv true htop.1 (by omega) _).mono ?_
        rintro e w2 ⟨rfl, rfl⟩
        go_wp2_with fail
        refine (rroom_any s A n c _ (Lv.nx (Lv.top s).lv true) false HR.out _).mono ?_
        rintro e w3 ⟨rfl, hb3⟩
        clear p0 p1 p2 p3 f0 f1 f2 f3
        have BX3 := Lib.hid ((hb3.block w.heap.size (by omega)).trans BX1.out)
        have RS3 := Lib.hid ((hb3.block (w.heap.size + 1) (by omega)).trans RS1.out)
        obtain ⟨p0, p1, p2, p3, f0, f1, f2, f3⟩ := blk4 BX3.out
        obtain ⟨r0, r1, r2, r3, g0, g1, g2, g3⟩ := blk4 RS3.out
        have hs3z := hb3.size
        have hs3 := hs2.below hb3 (Nat.le_refl _)
        have hfin3 := hfin1.trans (hb3.mono (by omega))
        clear hs2
        go_wp2_with fail
        refine bodyPost_ret (v := .agg #[.slice A n c, .int .i64 (s.iso : Int), .int .i64 (s.emb : Int), .int .i64 (s.val : Int)]) (by simp only [results, Try.results23]; go_simp) rfl ?_
        have hfin := hfin3
        exact RetRS.keep (s := s) HS.out rfl rfl rfl (by repeat (first | refine Below.setCell ?_ (by simp) _ | exact hfin))
    · rw [if_pos rfl]
      have HR := Lib.hid hr
      clear h hok hr he hi1 hi2 hi3 hi4 hst
      go_enter Try.func23, Try.ntmps23
      go_wp2_with fail
      refine (rlast_any base k s A n c _ _ _ _ hs1 HK.out (by omega)).mono ?_
      rintro e w1 ⟨rfl, hb1⟩
      have BX1 := Lib.hid ((hb1.block w.heap.size (by simp <;> omega)).trans BX0.out)
      have RS1 := Lib.hid ((hb1.block (w.heap.size + 1) (by simp <;> omega)).trans RS0.out)
      obtain ⟨p0, p1, p2, p3, f0, f1, f2, f3⟩ := blk4 BX1.out
      have hs1z := hb1.size
      simp at hs1z
      have hs2 := hs1.below hb1 (Nat.le_refl _)
      have hfin1 := hW0.trans (hb1.mono (by simp; omega))
      clear hs1
      go_wp2_with fail
      refine (rnext_any (Lv.top s).lv true htop.1 (by omega) _).mono ?_
      rintro e w2 ⟨rfl, rfl⟩
      go_wp2_with fail
      refine (rroom_any s A n c _ (Lv.nx (Lv.top s).lv true) true HR.out _).mono ?_
      rintro e w3 ⟨rfl, hb3⟩
      clear p0 p1 p2 p3 f0 f1 f2 f3
      have BX3 := Lib.hid ((hb3.block w.heap.size (by omega)).trans BX1.out)
      have RS3 := Lib.hid ((hb3.block (w.heap.size + 1) (by omega)).trans RS1.out)
      obtain ⟨p0, p1, p2, p3, f0, f1, f2, f3⟩ := blk4 BX3.out
      obtain ⟨r0, r1, r2, r3, g0, g1, g2, g3⟩ := blk4 RS3.out
      have hs3z := hb3.size
      have hs3 := hs2.below hb3 (Nat.le_refl _)
      have hfin3 := hfin1.trans (hb3.mono (by omega))
      clear hs2
      go_wp2_with fail
      refine (radd_any base s.stk A n c ⟨Lv.nx (Lv.top s).lv true, 2, false⟩ _ (?_) (by omega)).mono ?_
      · exact hs3
      rintro e w4 ⟨A4, c4, rfl, hs4, hb4⟩
      clear p0 p1 p2 p3 f0 f1 f2 f3 r0 r1 r2 r3 g0 g1 g2 g3
      obtain ⟨p0, p1, p2, p3, f0, f1, f2, f3⟩ := blk4 ((hb4.block w.heap.size (by omega)).trans BX3.out)
      obtain ⟨r0, r1, r2, r3, g0, g1, g2, g3⟩ := blk4 ((hb4.block (w.heap.size + 1) (by omega)).trans RS3.out)
      have hs4z := hb4.size
      have hfin := hfin3.trans (hb4.mono (by omega))
      clear hs3
      go_wp2_with fail
      refine bodyPost_ret (v := .agg #[.slice A4 (s.stk.length + 1) c4, .int .i64 (s.iso : Int), .int .i64 (s.emb : Int), .int .i64 (s.val : Int)]) (by simp only [results, Try.results23]; go_simp) rfl ?_
      refine RetRS.of (s := { s with stk := ⟨Lv.nx (Lv.top s).lv true, 2, false⟩ :: s.stk }) ?_ rfl rfl rfl (by repeat (first | refine Below.setCell ?_ (by simp) _ | exact hfin))
      simp only [List.length_cons] at hs4
      have hs5 := hs4.more (base' := w.heap.size + 2) (by omega)
      refine Stk.more (base := w.heap.size + 2) ?_ (by omega)
      repeat (first | refine Stk.set_below ?_ (by simp) _ | exact hs5)

end Go.Proofs.Ytojcphfonbdlpaa
