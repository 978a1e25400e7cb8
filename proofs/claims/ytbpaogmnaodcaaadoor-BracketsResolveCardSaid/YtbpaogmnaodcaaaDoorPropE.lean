/- The walk of props.Of: of a sign's properties, the three that brackets ask for. Condition: the table of last signs lies as laid. -/
import Derived.Test.YtbpaogmnaodcaaaDoorPropD
namespace Go.Proofs.YtbpaogmnaodcaaaDoor
open Go.RowKit

theorem propV_one (b c k s j d m p : Int) (o : Bool) : (propV b c k s j d m p o).all (·.oneCell') = true := by
  rw [Array.all_eq_true_iff_forall_mem]
  intro v hv
  simp [propV] at hv
  rcases hv with rfl | rfl | rfl | rfl | rfl | rfl | rfl | rfl | rfl <;> rfl
def biOf (r : Int) : Int := if (found r).2 = true then (found r).1.bi else 1
def paOf (r : Int) : Int := if (found r).2 = true then (found r).1.pa else 0
def opOf (r : Int) : Bool := if (found r).2 = true then (found r).1.op else false
/-- What a call leaves that tells a sign's properties: its class, its pair, whether it opens; the others are whatever. -/
def RetProp (w : World) (r : Int) (e : Ending) (w' : World) : Prop :=
  ∃ c k s j d m : Int, e = .returned (.agg (propV (biOf r) c k s j d m (paOf r) (opOf r))) ∧ Below w.heap.size w w'

set_option maxHeartbeats 2000000 in
theorem propOf_any (r : Int) (w : World) (h : Lasts w) : Calls Tryd.prog 13 #[.int .i32 r] w (RetProp w r) := by
  have hpos := h.pos
  have HL := Lib.hid h
  clear h
  have hfi := fun w (h : Lasts w) => find_any r w h
  unfold RetProp
  rcases hf : found r with ⟨x, ok⟩
  rw [hf] at hfi
  simp only at hfi
  have HFI := Lib.hid hfi
  rcases ok with _ | _
  · have e1 : biOf r = 1 := by unfold biOf; rw [hf]; rfl
    have e2 : paOf r = 0 := by unfold paOf; rw [hf]; rfl
    have e3 : opOf r = false := by unfold opOf; rw [hf]; rfl
    rw [e1, e2, e3]
    clear hf hfi e1 e2 e3
    unfold Sign.cells rowV at HFI
    go_enter Tryd.func13, Tryd.ntmps13
    go_wp2_with (first
      | (go_at_call 25; refine (HFI.out _ (HL.out.below ((Below.refl _ _).alloc (Nat.le_refl _) _) hpos)).mono ?_; rintro e w1 ⟨rfl, hb1⟩)
      | (go_at_call 26; refine (rest_any _).mono ?_; rintro e w2 ⟨rfl, hb2⟩; have HZ2 := Lib.hid (show w2.heap[w.heap.size]? = some (.cells (propV 0 0 0 0 0 0 0 0 false) 31 (0, 0)) from ((hb2.block w.heap.size (by have := hb1.size; simp at this ⊢; omega)).trans ((heap_alloc_old _ _ (by have := hb1.size; simp at this; omega)).trans ((hb1.block w.heap.size (by simp)).trans (heap_alloc_new _ _))))))
      | (refine wpList_store_row rfl 31 _ _ rfl w.heap.size (propV 1 0 0 0 0 0 0 0 false) rfl rfl 31 (propV 0 0 0 0 0 0 0 0 false) HZ2.out sizeProp rfl (propV_one _ _ _ _ _ _ _ _ _) ?_))
    (try simp only [Exit.inBlock, Exit.then])
    refine bodyPost_ret (results_cell_row rfl _ _ w.heap.size 31 (propV 1 0 0 0 0 0 0 0 false) (0, 0) _ rfl (setRow_heap _ _ (propV 0 0 0 0 0 0 0 0 false) _ _ _ HZ2.out) Tryd.underlying31 rfl sizeProp) rfl ?_
    refine ⟨0, 0, 0, 0, 0, 0, rfl, below_setRow ?_ (Nat.le_refl _) _⟩
    have hA := ((Below.refl w.heap.size w).alloc (Nat.le_refl _) (.cells (propV 0 0 0 0 0 0 0 0 false) 31)).trans (hb1.mono (by simp))
    have hs := hb1.size
    simp at hs
    exact (hA.alloc (by omega) _).trans (hb2.mono (by simp; omega))
  · have e1 : biOf r = x.bi := by unfold biOf; rw [hf]; rfl
    have e2 : paOf r = x.pa := by unfold paOf; rw [hf]; rfl
    have e3 : opOf r = x.op := by unfold opOf; rw [hf]; rfl
    rw [e1, e2, e3]
    clear hf hfi e1 e2 e3
    unfold Sign.cells rowV at HFI
    go_enter Tryd.func13, Tryd.ntmps13
    go_upto_region 4 with (first
      | (go_at_call 25; refine (HFI.out _ (HL.out.below ((Below.refl _ _).alloc (Nat.le_refl _) _) hpos)).mono ?_; rintro e w1 ⟨rfl, hb1⟩))
    have hs := hb1.size
    simp at hs
    have hA := Lib.hid (((Below.refl w.heap.size w).alloc (Nat.le_refl _) (.cells (propV 0 0 0 0 0 0 0 0 false) 31)).trans (hb1.mono (by simp)))
    have HZ := Lib.hid (show w1.heap[w.heap.size]? = some (.cells (propV 0 0 0 0 0 0 0 0 false) 31 (0, 0)) from (hb1.block w.heap.size (by simp)).trans (heap_alloc_new _ _))
    by_cases hcl : x.cl = 13
    · rw [hcl]
      have d1 : ((13 : Int) == 13) = true := by simp
      clear hcl
      by_cases hrem : (wrap32 (r - x.fr)).tmod 28 = 0
      · have d2 : ((wrap32 (r - x.fr)).tmod 28 == 0) = true := by simpa using hrem
        go_wp2_with (first
          | (refine wpList_store_row rfl 31 _ _ rfl w.heap.size (propV x.bi 12 33 x.sc x.jn x.wd x.mi x.pa x.op) rfl rfl 31 (propV 0 0 0 0 0 0 0 0 false) ((heap_alloc_old _ _ (by omega)).trans HZ.out) sizeProp rfl (propV_one _ _ _ _ _ _ _ _ _) ?_))
        (try simp only [Exit.inBlock, Exit.then])
        refine bodyPost_ret (results_cell_row rfl _ _ w.heap.size 31 (propV x.bi 12 33 x.sc x.jn x.wd x.mi x.pa x.op) (0, 0) _ rfl (setRow_heap _ _ (propV 0 0 0 0 0 0 0 0 false) _ _ _ ((heap_alloc_old _ _ (by omega)).trans HZ.out)) Tryd.underlying31 rfl sizeProp) rfl ?_
        exact ⟨12, 33, x.sc, x.jn, x.wd, x.mi, rfl, below_setRow (hA.out.alloc (by omega) _) (Nat.le_refl _) _⟩
      · have d2 : ((wrap32 (r - x.fr)).tmod 28 == 0) = false := by simpa using hrem
        go_wp2_with (first
          | (refine wpList_store_row rfl 31 _ _ rfl w.heap.size (propV x.bi 13 x.br x.sc x.jn x.wd x.mi x.pa x.op) rfl rfl 31 (propV 0 0 0 0 0 0 0 0 false) ((heap_alloc_old _ _ (by omega)).trans HZ.out) sizeProp rfl (propV_one _ _ _ _ _ _ _ _ _) ?_))
        (try simp only [Exit.inBlock, Exit.then])
        refine bodyPost_ret (results_cell_row rfl _ _ w.heap.size 31 (propV x.bi 13 x.br x.sc x.jn x.wd x.mi x.pa x.op) (0, 0) _ rfl (setRow_heap _ _ (propV 0 0 0 0 0 0 0 0 false) _ _ _ ((heap_alloc_old _ _ (by omega)).trans HZ.out)) Tryd.underlying31 rfl sizeProp) rfl ?_
        exact ⟨13, x.br, x.sc, x.jn, x.wd, x.mi, rfl, below_setRow (hA.out.alloc (by omega) _) (Nat.le_refl _) _⟩
    · have d1 : (x.cl == 13) = false := by simpa using hcl
      clear hcl
      go_wp2_with (first
        | (refine wpList_store_row rfl 31 _ _ rfl w.heap.size (propV x.bi x.cl x.br x.sc x.jn x.wd x.mi x.pa x.op) rfl rfl 31 (propV 0 0 0 0 0 0 0 0 false) ((heap_alloc_old _ _ (by omega)).trans HZ.out) sizeProp rfl (propV_one _ _ _ _ _ _ _ _ _) ?_))
      (try simp only [Exit.inBlock, Exit.then])
      refine bodyPost_ret (results_cell_row rfl _ _ w.heap.size 31 (propV x.bi x.cl x.br x.sc x.jn x.wd x.mi x.pa x.op) (0, 0) _ rfl (setRow_heap _ _ (propV 0 0 0 0 0 0 0 0 false) _ _ _ ((heap_alloc_old _ _ (by omega)).trans HZ.out)) Tryd.underlying31 rfl sizeProp) rfl ?_
      exact ⟨x.cl, x.br, x.sc, x.jn, x.wd, x.mi, rfl, below_setRow (hA.out.alloc (by omega) _) (Nat.le_refl _) _⟩

end Go.Proofs.YtbpaogmnaodcaaaDoor
