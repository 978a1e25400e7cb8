/- The walk of the reference's Of. No condition. -/
import Derived.Test.YtbpaogmnaodcaaaDoorRefQ
namespace Go.Proofs.YtbpaogmnaodcaaaDoor
open Go.RowKit

/-- What the reference's Of leaves, in the literal's own spelling. -/
def RetOf (w : World) (b p : Int) (o : Bool) (e : Ending) (w' : World) : Prop :=
  ∃ c k s j d m : Int, e = .returned (.agg #[.int .i64 b, .int .i64 c, .int .i64 k, .int .i64 s, .int .i64 j, .int .i64 d, .int .i32 m, .int .i32 p, .bool o]) ∧ Below w.heap.size w w'
theorem pick_bi2 (r : Int) {x : Sign × Bool} (h : pick (refA ++ refB) r = x) : biOf r = x.1.bi ∧ paOf r = x.1.pa ∧ opOf r = x.1.op := by
  obtain ⟨h1, h2, h3⟩ := pick_bi r
  rw [h] at h1 h2 h3
  exact ⟨h1.symm, h2.symm, h3.symm⟩

theorem pick_none2 {l : List Sign} {r : Int} {s : Sign} (h : pick l r = (s, false)) : s = restS := by
  have := pick_false (l := l) (r := r) (by rw [h])
  rw [h] at this
  exact congrArg Prod.fst this

set_option maxRecDepth 100000 in
set_option maxHeartbeats 4000000 in
theorem rof_any (r : Int) (w : World) : Calls Tryd.prog 22 #[.int .i32 r] w (RetOf w (biOf r) (paOf r) (opOf r)) := by
  have HZ := Lib.hid (heap_alloc_new w (.cells #[.int .i64 0, .int .i64 0, .int .i64 0, .int .i64 0, .int .i64 0, .int .i64 0, .int .i32 0, .int .i32 0, .bool false] 31))
  have HB := Lib.hid ((Below.refl w.heap.size w).alloc (Nat.le_refl _) (.cells #[.int .i64 0, .int .i64 0, .int .i64 0, .int .i64 0, .int .i64 0, .int .i64 0, .int .i32 0, .int .i32 0, .bool false] 31))
  have HS : w.heap.size < (w.alloc (.cells #[.int .i64 0, .int .i64 0, .int .i64 0, .int .i64 0, .int .i64 0, .int .i64 0, .int .i32 0, .int .i32 0, .bool false] 31)).heap.size := by simp
  obtain ⟨g, hg⟩ : ∃ g : Bool, g = ((decide ((44032 : Int) ≤ r) && decide (r ≤ 55203)) && ((wrap32 (r - 44032)).tmod 28 == 0)) := ⟨_, rfl⟩
  have HG := Lib.hid hg
  clear hg
  rcases hA : pick refA r with ⟨s, ok⟩
  have HC := Lib.hid (show ∀ W, Calls Tryd.prog 33 #[.int .i32 r] W (RetRow W s ok) from fun W => (part0_any r W).mono fun e w' h => h.row hA)
  unfold RetRow at HC
  rcases ok with _ | _
  · rcases hB : pick refB r with ⟨s2, ok2⟩
    have HC2 := Lib.hid (show ∀ W, Calls Tryd.prog 34 #[.int .i32 r] W (RetRow W s2 ok2) from fun W => (part1_any r W).mono fun e w' h => h.row hB)
    unfold RetRow at HC2
    obtain ⟨e1, e2, e3⟩ := pick_bi2 r (x := (s2, ok2)) (by rw [pick_append, hA, if_neg Bool.false_ne_true]; exact hB)
    rw [e1, e2, e3]
    have HF := Lib.hid (show ok2 = false → s2 = restS from fun h => by subst h; have := pick_none2 hB; exact this)
    clear hA hB e1 e2 e3
    go_enter Tryd.func22, Tryd.ntmps22
    go_upto_region 1 with (fail)
    generalize w.alloc (.cells #[.int .i64 0, .int .i64 0, .int .i64 0, .int .i64 0, .int .i64 0, .int .i64 0, .int .i32 0, .int .i32 0, .bool false] 31) = w1 at *
    go_upto_region 7 with (go_at_call 33; refine (HC.out _).mono ?_; rintro e w2 ⟨rfl, hb⟩)
    have hs := hb.size
    have HZ2 := Lib.hid (show (w2.alloc (.cells #[.int .i64 s.bi, .int .i64 s.cl, .int .i64 s.br, .int .i64 s.sc, .int .i64 s.jn, .int .i64 s.wd, .int .i32 s.mi, .int .i32 s.pa, .bool s.op] 31)).heap[w.heap.size]? = some (.cells #[.int .i64 0, .int .i64 0, .int .i64 0, .int .i64 0, .int .i64 0, .int .i64 0, .int .i32 0, .int .i32 0, .bool false] 31 (0, 0)) from (heap_alloc_old _ _ (by omega)).trans ((hb.block w.heap.size (by omega)).trans HZ.out))
    have HB2 := Lib.hid ((HB.out.trans (hb.mono (by omega))).alloc (by omega) (.cells #[.int .i64 s.bi, .int .i64 s.cl, .int .i64 s.br, .int .i64 s.sc, .int .i64 s.jn, .int .i64 s.wd, .int .i32 s.mi, .int .i32 s.pa, .bool s.op] 31))
    have HS2 : w.heap.size < (w2.alloc (.cells #[.int .i64 s.bi, .int .i64 s.cl, .int .i64 s.br, .int .i64 s.sc, .int .i64 s.jn, .int .i64 s.wd, .int .i32 s.mi, .int .i32 s.pa, .bool s.op] 31)).heap.size := by simp; omega
    clear hb HC HZ HB HS hs
    have HZ := HZ2
    have HB := HB2
    have HS := HS2
    clear HZ2 HB2 HS2
    generalize w2.alloc (.cells #[.int .i64 s.bi, .int .i64 s.cl, .int .i64 s.br, .int .i64 s.sc, .int .i64 s.jn, .int .i64 s.wd, .int .i32 s.mi, .int .i32 s.pa, .bool s.op] 31) = w4 at *
    rcases ok2 with _ | _
    · have hF := HF.out rfl
      subst hF
      clear HF
      go_upto_region 13 with (go_at_call 34; refine (HC2.out _).mono ?_; rintro e w5 ⟨rfl, hb⟩)
      have hs := hb.size
      have HZ2 := Lib.hid (show (w5.alloc (.cells #[.int .i64 restS.bi, .int .i64 restS.cl, .int .i64 restS.br, .int .i64 restS.sc, .int .i64 restS.jn, .int .i64 restS.wd, .int .i32 restS.mi, .int .i32 restS.pa, .bool restS.op] 31)).heap[w.heap.size]? = some (.cells #[.int .i64 0, .int .i64 0, .int .i64 0, .int .i64 0, .int .i64 0, .int .i64 0, .int .i32 0, .int .i32 0, .bool false] 31 (0, 0)) from (heap_alloc_old _ _ (by omega)).trans ((hb.block w.heap.size (by omega)).trans HZ.out))
      have HB2 := Lib.hid ((HB.out.trans (hb.mono (by omega))).alloc (by omega) (.cells #[.int .i64 restS.bi, .int .i64 restS.cl, .int .i64 restS.br, .int .i64 restS.sc, .int .i64 restS.jn, .int .i64 restS.wd, .int .i32 restS.mi, .int .i32 restS.pa, .bool restS.op] 31))
      have HS2 : w.heap.size < (w5.alloc (.cells #[.int .i64 restS.bi, .int .i64 restS.cl, .int .i64 restS.br, .int .i64 restS.sc, .int .i64 restS.jn, .int .i64 restS.wd, .int .i32 restS.mi, .int .i32 restS.pa, .bool restS.op] 31)).heap.size := by simp; omega
      clear hb HC2 HZ HB HS hs
      generalize w5.alloc (.cells #[.int .i64 restS.bi, .int .i64 restS.cl, .int .i64 restS.br, .int .i64 restS.sc, .int .i64 restS.jn, .int .i64 restS.wd, .int .i32 restS.mi, .int .i32 restS.pa, .bool restS.op] 31) = w6 at *
      go_wp2_with (first
        | (go_at_call 35; refine (refRest_any _).mono ?_; rintro e x2 ⟨rfl, hb⟩; have HZ3 := Lib.hid ((hb.block w.heap.size (by omega)).trans HZ2.out); have HB3 := Lib.hid (HB2.out.trans (hb.mono (by omega))); clear hb)
        | (refine wpList_store_row rfl 31 _ _ rfl w.heap.size (propV 1 0 0 0 0 0 0 0 false) rfl rfl 31 (propV 0 0 0 0 0 0 0 0 false) HZ3.out sizeProp rfl (propV_one _ _ _ _ _ _ _ _ _) ?_))
      (try simp only [Exit.inBlock, Exit.then])
      refine bodyPost_ret (results_cell_row rfl _ _ w.heap.size 31 (propV 1 0 0 0 0 0 0 0 false) (0, 0) _ rfl (setRow_heap _ _ (propV 0 0 0 0 0 0 0 0 false) _ _ _ HZ3.out) Tryd.underlying31 rfl sizeProp) rfl ?_
      exact ⟨0, 0, 0, 0, 0, 0, rfl, below_setRow HB3.out (Nat.le_refl _) _⟩
    · clear HF
      go_upto_region 9 with (go_at_call 34; refine (HC2.out _).mono ?_; rintro e w2 ⟨rfl, hb⟩)
      have hs := hb.size
      have HZ2 := Lib.hid (show (w2.alloc (.cells #[.int .i64 s2.bi, .int .i64 s2.cl, .int .i64 s2.br, .int .i64 s2.sc, .int .i64 s2.jn, .int .i64 s2.wd, .int .i32 s2.mi, .int .i32 s2.pa, .bool s2.op] 31)).heap[w.heap.size]? = some (.cells #[.int .i64 0, .int .i64 0, .int .i64 0, .int .i64 0, .int .i64 0, .int .i64 0, .int .i32 0, .int .i32 0, .bool false] 31 (0, 0)) from (heap_alloc_old _ _ (by omega)).trans ((hb.block w.heap.size (by omega)).trans HZ.out))
      have HB2 := Lib.hid ((HB.out.trans (hb.mono (by omega))).alloc (by omega) (.cells #[.int .i64 s2.bi, .int .i64 s2.cl, .int .i64 s2.br, .int .i64 s2.sc, .int .i64 s2.jn, .int .i64 s2.wd, .int .i32 s2.mi, .int .i32 s2.pa, .bool s2.op] 31))
      have HB1 := Lib.hid (HB.out.trans (hb.mono (by omega)))
      have HZ1 := Lib.hid ((hb.block w.heap.size (by omega)).trans HZ.out)
      have hs3 : w.heap.size < w2.heap.size := by omega
      clear hb HZ HB HS hs
      generalize hw3 : w2.alloc (.cells #[.int .i64 s2.bi, .int .i64 s2.cl, .int .i64 s2.br, .int .i64 s2.sc, .int .i64 s2.jn, .int .i64 s2.wd, .int .i32 s2.mi, .int .i32 s2.pa, .bool s2.op] 31) = w3
      have HW3 := Lib.hid hw3
      clear hw3
      go_cut [45] (fun c W => c = .bool g ∧ W = w3)
      case first =>
        by_cases h1 : (44032 : Int) ≤ r
        · have d1 : decide ((44032 : Int) ≤ r) = true := by simpa using h1
          by_cases h2 : r ≤ 55203
          · have d2 : decide (r ≤ 55203) = true := by simpa using h2
            clear h1 h2
            go_wp2_with fail
            all_goals
              go_meet
              refine ⟨?_, rfl⟩
              rw [HG.out, d1, d2]
              simp_all
          · have d2 : decide (r ≤ 55203) = false := by simpa using h2
            clear h1 h2
            go_wp2_with fail
            go_meet
            exact ⟨by rw [HG.out, d1, d2]; rfl, rfl⟩
        · have d1 : decide ((44032 : Int) ≤ r) = false := by simpa using h1
          clear h1
          go_wp2_with fail
          go_meet
          exact ⟨by rw [HG.out, d1]; rfl, rfl⟩
      obtain ⟨hc1, hc2⟩ := hcut
      subst hc1
      have hc3 := hc2.trans HW3.out.symm
      clear hc2
      subst hc3
      rcases g with _ | _
      · go_wp2_with (refine wpList_store_row rfl 31 _ _ rfl w.heap.size (propV s2.bi s2.cl s2.br s2.sc s2.jn s2.wd s2.mi s2.pa s2.op) rfl rfl 31 (propV 0 0 0 0 0 0 0 0 false) ((heap_alloc_old _ _ (by omega)).trans HZ1.out) sizeProp rfl (propV_one _ _ _ _ _ _ _ _ _) ?_)
        (try simp only [Exit.inBlock, Exit.then])
        refine bodyPost_ret (results_cell_row rfl _ _ w.heap.size 31 (propV s2.bi s2.cl s2.br s2.sc s2.jn s2.wd s2.mi s2.pa s2.op) (0, 0) _ rfl (setRow_heap _ _ (propV 0 0 0 0 0 0 0 0 false) _ _ _ ((heap_alloc_old _ _ (by omega)).trans HZ1.out)) Tryd.underlying31 rfl sizeProp) rfl ?_
        exact ⟨s2.cl, s2.br, s2.sc, s2.jn, s2.wd, s2.mi, rfl, below_setRow (HB1.out.alloc (by omega) _) (Nat.le_refl _) _⟩
      · go_wp2_with (refine wpList_store_row rfl 31 _ _ rfl w.heap.size (propV s2.bi 12 33 s2.sc s2.jn s2.wd s2.mi s2.pa s2.op) rfl rfl 31 (propV 0 0 0 0 0 0 0 0 false) ((heap_alloc_old _ _ (by omega)).trans HZ1.out) sizeProp rfl (propV_one _ _ _ _ _ _ _ _ _) ?_)
        (try simp only [Exit.inBlock, Exit.then])
        refine bodyPost_ret (results_cell_row rfl _ _ w.heap.size 31 (propV s2.bi 12 33 s2.sc s2.jn s2.wd s2.mi s2.pa s2.op) (0, 0) _ rfl (setRow_heap _ _ (propV 0 0 0 0 0 0 0 0 false) _ _ _ ((heap_alloc_old _ _ (by omega)).trans HZ1.out)) Tryd.underlying31 rfl sizeProp) rfl ?_
        exact ⟨12, 33, s2.sc, s2.jn, s2.wd, s2.mi, rfl, below_setRow (HB1.out.alloc (by omega) _) (Nat.le_refl _) _⟩
  · obtain ⟨e1, e2, e3⟩ := pick_bi2 r (x := (s, true)) (by rw [pick_append, hA, if_pos rfl])
    rw [e1, e2, e3]
    clear hA e1 e2 e3
    go_enter Tryd.func22, Tryd.ntmps22
    go_upto_region 1 with (fail)
    generalize w.alloc (.cells #[.int .i64 0, .int .i64 0, .int .i64 0, .int .i64 0, .int .i64 0, .int .i64 0, .int .i32 0, .int .i32 0, .bool false] 31) = w1 at *
    go_upto_region 3 with (go_at_call 33; refine (HC.out _).mono ?_; rintro e w2 ⟨rfl, hb⟩)
    have hs := hb.size
    have HZ2 := Lib.hid (show (w2.alloc (.cells #[.int .i64 s.bi, .int .i64 s.cl, .int .i64 s.br, .int .i64 s.sc, .int .i64 s.jn, .int .i64 s.wd, .int .i32 s.mi, .int .i32 s.pa, .bool s.op] 31)).heap[w.heap.size]? = some (.cells #[.int .i64 0, .int .i64 0, .int .i64 0, .int .i64 0, .int .i64 0, .int .i64 0, .int .i32 0, .int .i32 0, .bool false] 31 (0, 0)) from (heap_alloc_old _ _ (by omega)).trans ((hb.block w.heap.size (by omega)).trans HZ.out))
    have HB2 := Lib.hid ((HB.out.trans (hb.mono (by omega))).alloc (by omega) (.cells #[.int .i64 s.bi, .int .i64 s.cl, .int .i64 s.br, .int .i64 s.sc, .int .i64 s.jn, .int .i64 s.wd, .int .i32 s.mi, .int .i32 s.pa, .bool s.op] 31))
    have HB1 := Lib.hid (HB.out.trans (hb.mono (by omega)))
    have HZ1 := Lib.hid ((hb.block w.heap.size (by omega)).trans HZ.out)
    have hs3 : w.heap.size < w2.heap.size := by omega
    clear hb HZ HB HS hs
    generalize hw3 : w2.alloc (.cells #[.int .i64 s.bi, .int .i64 s.cl, .int .i64 s.br, .int .i64 s.sc, .int .i64 s.jn, .int .i64 s.wd, .int .i32 s.mi, .int .i32 s.pa, .bool s.op] 31) = w3
    have HW3 := Lib.hid hw3
    clear hw3
    go_cut [24] (fun c W => c = .bool g ∧ W = w3)
    case first =>
      by_cases h1 : (44032 : Int) ≤ r
      · have d1 : decide ((44032 : Int) ≤ r) = true := by simpa using h1
        by_cases h2 : r ≤ 55203
        · have d2 : decide (r ≤ 55203) = true := by simpa using h2
          clear h1 h2
          go_wp2_with fail
          all_goals
            go_meet
            refine ⟨?_, rfl⟩
            rw [HG.out, d1, d2]
            simp_all
        · have d2 : decide (r ≤ 55203) = false := by simpa using h2
          clear h1 h2
          go_wp2_with fail
          go_meet
          exact ⟨by rw [HG.out, d1, d2]; rfl, rfl⟩
      · have d1 : decide ((44032 : Int) ≤ r) = false := by simpa using h1
        clear h1
        go_wp2_with fail
        go_meet
        exact ⟨by rw [HG.out, d1]; rfl, rfl⟩
    obtain ⟨hc1, hc2⟩ := hcut
    subst hc1
    have hc3 := hc2.trans HW3.out.symm
    clear hc2
    subst hc3
    rcases g with _ | _
    · go_wp2_with (refine wpList_store_row rfl 31 _ _ rfl w.heap.size (propV s.bi s.cl s.br s.sc s.jn s.wd s.mi s.pa s.op) rfl rfl 31 (propV 0 0 0 0 0 0 0 0 false) ((heap_alloc_old _ _ (by omega)).trans HZ1.out) sizeProp rfl (propV_one _ _ _ _ _ _ _ _ _) ?_)
      (try simp only [Exit.inBlock, Exit.then])
      refine bodyPost_ret (results_cell_row rfl _ _ w.heap.size 31 (propV s.bi s.cl s.br s.sc s.jn s.wd s.mi s.pa s.op) (0, 0) _ rfl (setRow_heap _ _ (propV 0 0 0 0 0 0 0 0 false) _ _ _ ((heap_alloc_old _ _ (by omega)).trans HZ1.out)) Tryd.underlying31 rfl sizeProp) rfl ?_
      exact ⟨s.cl, s.br, s.sc, s.jn, s.wd, s.mi, rfl, below_setRow (HB1.out.alloc (by omega) _) (Nat.le_refl _) _⟩
    · go_wp2_with (refine wpList_store_row rfl 31 _ _ rfl w.heap.size (propV s.bi 12 33 s.sc s.jn s.wd s.mi s.pa s.op) rfl rfl 31 (propV 0 0 0 0 0 0 0 0 false) ((heap_alloc_old _ _ (by omega)).trans HZ1.out) sizeProp rfl (propV_one _ _ _ _ _ _ _ _ _) ?_)
      (try simp only [Exit.inBlock, Exit.then])
      refine bodyPost_ret (results_cell_row rfl _ _ w.heap.size 31 (propV s.bi 12 33 s.sc s.jn s.wd s.mi s.pa s.op) (0, 0) _ rfl (setRow_heap _ _ (propV 0 0 0 0 0 0 0 0 false) _ _ _ ((heap_alloc_old _ _ (by omega)).trans HZ1.out)) Tryd.underlying31 rfl sizeProp) rfl ?_
      exact ⟨12, 33, s.sc, s.jn, s.wd, s.mi, rfl, below_setRow (HB1.out.alloc (by omega) _) (Nat.le_refl _) _⟩

end Go.Proofs.YtbpaogmnaodcaaaDoor
