/- The walks of the reference's table functions of0 to of14: printed by wip/tools/genRefOf.py. No condition. -/
import Derived.Test.YtbpaogmnaodcaaaDoorRefG
namespace Go.Proofs.YtbpaogmnaodcaaaDoor
open Go.RowKit

set_option maxRecDepth 100000 in
set_option maxHeartbeats 1000000 in
theorem rtab0_any (r : Int) (w : World) : Calls Tryd.prog 51 #[.int .i32 r] w (RetPick w (pick ref0 r)) := by
  have HZ := heap_alloc_new w (.cells (propV 0 0 0 0 0 0 0 0 false) 31)
  obtain ⟨tot, htot⟩ : ∃ z, z = pick ref0 r := ⟨_, rfl⟩
  rw [← htot]
  unfold ref0 at htot
  go_enter Tryd.func51, Tryd.ntmps51
  refine start_step (N := 131) rfl rfl rfl (by decide) ?_
  intro a hf
  refine row_step hf (by decide) (by decide) HZ (fun ht a' w2 h1 h2 h3 h4 h5 => (by rw [htot.trans (pick_yes ht)]; exact tab_ret rfl h1 h2 h3 h4 h5)) ?_
  clear hf a
  intro ht a hf
  replace htot := htot.trans (pick_no ht)
  clear ht
  refine row_step hf (by decide) (by decide) HZ (fun ht a' w2 h1 h2 h3 h4 h5 => (by rw [htot.trans (pick_yes ht)]; exact tab_ret rfl h1 h2 h3 h4 h5)) ?_
  clear hf a
  intro ht a hf
  replace htot := htot.trans (pick_no ht)
  clear ht
  refine row_step hf (by decide) (by decide) HZ (fun ht a' w2 h1 h2 h3 h4 h5 => (by rw [htot.trans (pick_yes ht)]; exact tab_ret rfl h1 h2 h3 h4 h5)) ?_
  clear hf a
  intro ht a hf
  replace htot := htot.trans (pick_no ht)
  clear ht
  refine row_step hf (by decide) (by decide) HZ (fun ht a' w2 h1 h2 h3 h4 h5 => (by rw [htot.trans (pick_yes ht)]; exact tab_ret rfl h1 h2 h3 h4 h5)) ?_
  clear hf a
  intro ht a hf
  replace htot := htot.trans (pick_no ht)
  clear ht
  refine row_step hf (by decide) (by decide) HZ (fun ht a' w2 h1 h2 h3 h4 h5 => (by rw [htot.trans (pick_yes ht)]; exact tab_ret rfl h1 h2 h3 h4 h5)) ?_
  clear hf a
  intro ht a hf
  replace htot := htot.trans (pick_no ht)
  clear ht
  refine row_step hf (by decide) (by decide) HZ (fun ht a' w2 h1 h2 h3 h4 h5 => (by rw [htot.trans (pick_yes ht)]; exact tab_ret rfl h1 h2 h3 h4 h5)) ?_
  clear hf a
  intro ht a hf
  replace htot := htot.trans (pick_no ht)
  clear ht
  refine row_step hf (by decide) (by decide) HZ (fun ht a' w2 h1 h2 h3 h4 h5 => (by rw [htot.trans (pick_yes ht)]; exact tab_ret rfl h1 h2 h3 h4 h5)) ?_
  clear hf a
  intro ht a hf
  replace htot := htot.trans (pick_no ht)
  clear ht
  refine row_step hf (by decide) (by decide) HZ (fun ht a' w2 h1 h2 h3 h4 h5 => (by rw [htot.trans (pick_yes ht)]; exact tab_ret rfl h1 h2 h3 h4 h5)) ?_
  clear hf a
  intro ht a hf
  replace htot := htot.trans (pick_no ht)
  clear ht
  refine row_step hf (by decide) (by decide) HZ (fun ht a' w2 h1 h2 h3 h4 h5 => (by rw [htot.trans (pick_yes ht)]; exact tab_ret rfl h1 h2 h3 h4 h5)) ?_
  clear hf a
  intro ht a hf
  replace htot := htot.trans (pick_no ht)
  clear ht
  refine row_step hf (by decide) (by decide) HZ (fun ht a' w2 h1 h2 h3 h4 h5 => (by rw [htot.trans (pick_yes ht)]; exact tab_ret rfl h1 h2 h3 h4 h5)) ?_
  clear hf a
  intro ht a hf
  replace htot := htot.trans (pick_no ht)
  clear ht
  refine row_step hf (by decide) (by decide) HZ (fun ht a' w2 h1 h2 h3 h4 h5 => (by rw [htot.trans (pick_yes ht)]; exact tab_ret rfl h1 h2 h3 h4 h5)) ?_
  clear hf a
  intro ht a hf
  replace htot := htot.trans (pick_no ht)
  clear ht
  refine row_step hf (by decide) (by decide) HZ (fun ht a' w2 h1 h2 h3 h4 h5 => (by rw [htot.trans (pick_yes ht)]; exact tab_ret rfl h1 h2 h3 h4 h5)) ?_
  clear hf a
  intro ht a hf
  replace htot := htot.trans (pick_no ht)
  clear ht
  refine row_step hf (by decide) (by decide) HZ (fun ht a' w2 h1 h2 h3 h4 h5 => (by rw [htot.trans (pick_yes ht)]; exact tab_ret rfl h1 h2 h3 h4 h5)) ?_
  clear hf a
  intro ht a hf
  replace htot := htot.trans (pick_no ht)
  clear ht
  refine row_step hf (by decide) (by decide) HZ (fun ht a' w2 h1 h2 h3 h4 h5 => (by rw [htot.trans (pick_yes ht)]; exact tab_ret rfl h1 h2 h3 h4 h5)) ?_
  clear hf a
  intro ht a hf
  replace htot := htot.trans (pick_no ht)
  clear ht
  refine row_step hf (by decide) (by decide) HZ (fun ht a' w2 h1 h2 h3 h4 h5 => (by rw [htot.trans (pick_yes ht)]; exact tab_ret rfl h1 h2 h3 h4 h5)) ?_
  clear hf a
  intro ht a hf
  replace htot := htot.trans (pick_no ht)
  clear ht
  refine row_step hf (by decide) (by decide) HZ (fun ht a' w2 h1 h2 h3 h4 h5 => (by rw [htot.trans (pick_yes ht)]; exact tab_ret rfl h1 h2 h3 h4 h5)) ?_
  clear hf a
  intro ht a hf
  replace htot := htot.trans (pick_no ht)
  clear ht
  refine row_step hf (by decide) (by decide) HZ (fun ht a' w2 h1 h2 h3 h4 h5 => (by rw [htot.trans (pick_yes ht)]; exact tab_ret rfl h1 h2 h3 h4 h5)) ?_
  clear hf a
  intro ht a hf
  replace htot := htot.trans (pick_no ht)
  clear ht
  refine row_step hf (by decide) (by decide) HZ (fun ht a' w2 h1 h2 h3 h4 h5 => (by rw [htot.trans (pick_yes ht)]; exact tab_ret rfl h1 h2 h3 h4 h5)) ?_
  clear hf a
  intro ht a hf
  replace htot := htot.trans (pick_no ht)
  clear ht
  refine end_step hf (by decide) (by decide) HZ (fun a' w2 h1 h2 h3 h4 h5 => ?_)
  rw [htot]
  exact tab_ret (x := (restS, false)) rfl h1 h2 h3 h4 h5

set_option maxRecDepth 100000 in
set_option maxHeartbeats 1000000 in
theorem rtab1_any (r : Int) (w : World) : Calls Tryd.prog 52 #[.int .i32 r] w (RetPick w (pick ref1 r)) := by
  have HZ := heap_alloc_new w (.cells (propV 0 0 0 0 0 0 0 0 false) 31)
  obtain ⟨tot, htot⟩ : ∃ z, z = pick ref1 r := ⟨_, rfl⟩
  rw [← htot]
  unfold ref1 at htot
  go_enter Tryd.func52, Tryd.ntmps52
  refine start_step (N := 131) rfl rfl rfl (by decide) ?_
  intro a hf
  refine row_step hf (by decide) (by decide) HZ (fun ht a' w2 h1 h2 h3 h4 h5 => (by rw [htot.trans (pick_yes ht)]; exact tab_ret rfl h1 h2 h3 h4 h5)) ?_
  clear hf a
  intro ht a hf
  replace htot := htot.trans (pick_no ht)
  clear ht
  refine row_step hf (by decide) (by decide) HZ (fun ht a' w2 h1 h2 h3 h4 h5 => (by rw [htot.trans (pick_yes ht)]; exact tab_ret rfl h1 h2 h3 h4 h5)) ?_
  clear hf a
  intro ht a hf
  replace htot := htot.trans (pick_no ht)
  clear ht
  refine row_step hf (by decide) (by decide) HZ (fun ht a' w2 h1 h2 h3 h4 h5 => (by rw [htot.trans (pick_yes ht)]; exact tab_ret rfl h1 h2 h3 h4 h5)) ?_
  clear hf a
  intro ht a hf
  replace htot := htot.trans (pick_no ht)
  clear ht
  refine row_step hf (by decide) (by decide) HZ (fun ht a' w2 h1 h2 h3 h4 h5 => (by rw [htot.trans (pick_yes ht)]; exact tab_ret rfl h1 h2 h3 h4 h5)) ?_
  clear hf a
  intro ht a hf
  replace htot := htot.trans (pick_no ht)
  clear ht
  refine row_step hf (by decide) (by decide) HZ (fun ht a' w2 h1 h2 h3 h4 h5 => (by rw [htot.trans (pick_yes ht)]; exact tab_ret rfl h1 h2 h3 h4 h5)) ?_
  clear hf a
  intro ht a hf
  replace htot := htot.trans (pick_no ht)
  clear ht
  refine row_step hf (by decide) (by decide) HZ (fun ht a' w2 h1 h2 h3 h4 h5 => (by rw [htot.trans (pick_yes ht)]; exact tab_ret rfl h1 h2 h3 h4 h5)) ?_
  clear hf a
  intro ht a hf
  replace htot := htot.trans (pick_no ht)
  clear ht
  refine row_step hf (by decide) (by decide) HZ (fun ht a' w2 h1 h2 h3 h4 h5 => (by rw [htot.trans (pick_yes ht)]; exact tab_ret rfl h1 h2 h3 h4 h5)) ?_
  clear hf a
  intro ht a hf
  replace htot := htot.trans (pick_no ht)
  clear ht
  refine row_step hf (by decide) (by decide) HZ (fun ht a' w2 h1 h2 h3 h4 h5 => (by rw [htot.trans (pick_yes ht)]; exact tab_ret rfl h1 h2 h3 h4 h5)) ?_
  clear hf a
  intro ht a hf
  replace htot := htot.trans (pick_no ht)
  clear ht
  refine row_step hf (by decide) (by decide) HZ (fun ht a' w2 h1 h2 h3 h4 h5 => (by rw [htot.trans (pick_yes ht)]; exact tab_ret rfl h1 h2 h3 h4 h5)) ?_
  clear hf a
  intro ht a hf
  replace htot := htot.trans (pick_no ht)
  clear ht
  refine row_step hf (by decide) (by decide) HZ (fun ht a' w2 h1 h2 h3 h4 h5 => (by rw [htot.trans (pick_yes ht)]; exact tab_ret rfl h1 h2 h3 h4 h5)) ?_
  clear hf a
  intro ht a hf
  replace htot := htot.trans (pick_no ht)
  clear ht
  refine row_step hf (by decide) (by decide) HZ (fun ht a' w2 h1 h2 h3 h4 h5 => (by rw [htot.trans (pick_yes ht)]; exact tab_ret rfl h1 h2 h3 h4 h5)) ?_
  clear hf a
  intro ht a hf
  replace htot := htot.trans (pick_no ht)
  clear ht
  refine row_step hf (by decide) (by decide) HZ (fun ht a' w2 h1 h2 h3 h4 h5 => (by rw [htot.trans (pick_yes ht)]; exact tab_ret rfl h1 h2 h3 h4 h5)) ?_
  clear hf a
  intro ht a hf
  replace htot := htot.trans (pick_no ht)
  clear ht
  refine row_step hf (by decide) (by decide) HZ (fun ht a' w2 h1 h2 h3 h4 h5 => (by rw [htot.trans (pick_yes ht)]; exact tab_ret rfl h1 h2 h3 h4 h5)) ?_
  clear hf a
  intro ht a hf
  replace htot := htot.trans (pick_no ht)
  clear ht
  refine row_step hf (by decide) (by decide) HZ (fun ht a' w2 h1 h2 h3 h4 h5 => (by rw [htot.trans (pick_yes ht)]; exact tab_ret rfl h1 h2 h3 h4 h5)) ?_
  clear hf a
  intro ht a hf
  replace htot := htot.trans (pick_no ht)
  clear ht
  refine row_step hf (by decide) (by decide) HZ (fun ht a' w2 h1 h2 h3 h4 h5 => (by rw [htot.trans (pick_yes ht)]; exact tab_ret rfl h1 h2 h3 h4 h5)) ?_
  clear hf a
  intro ht a hf
  replace htot := htot.trans (pick_no ht)
  clear ht
  refine row_step hf (by decide) (by decide) HZ (fun ht a' w2 h1 h2 h3 h4 h5 => (by rw [htot.trans (pick_yes ht)]; exact tab_ret rfl h1 h2 h3 h4 h5)) ?_
  clear hf a
  intro ht a hf
  replace htot := htot.trans (pick_no ht)
  clear ht
  refine row_step hf (by decide) (by decide) HZ (fun ht a' w2 h1 h2 h3 h4 h5 => (by rw [htot.trans (pick_yes ht)]; exact tab_ret rfl h1 h2 h3 h4 h5)) ?_
  clear hf a
  intro ht a hf
  replace htot := htot.trans (pick_no ht)
  clear ht
  refine row_step hf (by decide) (by decide) HZ (fun ht a' w2 h1 h2 h3 h4 h5 => (by rw [htot.trans (pick_yes ht)]; exact tab_ret rfl h1 h2 h3 h4 h5)) ?_
  clear hf a
  intro ht a hf
  replace htot := htot.trans (pick_no ht)
  clear ht
  refine end_step hf (by decide) (by decide) HZ (fun a' w2 h1 h2 h3 h4 h5 => ?_)
  rw [htot]
  exact tab_ret (x := (restS, false)) rfl h1 h2 h3 h4 h5

set_option maxRecDepth 100000 in
set_option maxHeartbeats 1000000 in
theorem rtab2_any (r : Int) (w : World) : Calls Tryd.prog 53 #[.int .i32 r] w (RetPick w (pick ref2 r)) := by
  have HZ := heap_alloc_new w (.cells (propV 0 0 0 0 0 0 0 0 false) 31)
  obtain ⟨tot, htot⟩ : ∃ z, z = pick ref2 r := ⟨_, rfl⟩
  rw [← htot]
  unfold ref2 at htot
  go_enter Tryd.func53, Tryd.ntmps53
  refine start_step (N := 131) rfl rfl rfl (by decide) ?_
  intro a hf
  refine row_step hf (by decide) (by decide) HZ (fun ht a' w2 h1 h2 h3 h4 h5 => (by rw [htot.trans (pick_yes ht)]; exact tab_ret rfl h1 h2 h3 h4 h5)) ?_
  clear hf a
  intro ht a hf
  replace htot := htot.trans (pick_no ht)
  clear ht
  refine row_step hf (by decide) (by decide) HZ (fun ht a' w2 h1 h2 h3 h4 h5 => (by rw [htot.trans (pick_yes ht)]; exact tab_ret rfl h1 h2 h3 h4 h5)) ?_
  clear hf a
  intro ht a hf
  replace htot := htot.trans (pick_no ht)
  clear ht
  refine row_step hf (by decide) (by decide) HZ (fun ht a' w2 h1 h2 h3 h4 h5 => (by rw [htot.trans (pick_yes ht)]; exact tab_ret rfl h1 h2 h3 h4 h5)) ?_
  clear hf a
  intro ht a hf
  replace htot := htot.trans (pick_no ht)
  clear ht
  refine row_step hf (by decide) (by decide) HZ (fun ht a' w2 h1 h2 h3 h4 h5 => (by rw [htot.trans (pick_yes ht)]; exact tab_ret rfl h1 h2 h3 h4 h5)) ?_
  clear hf a
  intro ht a hf
  replace htot := htot.trans (pick_no ht)
  clear ht
  refine row_step hf (by decide) (by decide) HZ (fun ht a' w2 h1 h2 h3 h4 h5 => (by rw [htot.trans (pick_yes ht)]; exact tab_ret rfl h1 h2 h3 h4 h5)) ?_
  clear hf a
  intro ht a hf
  replace htot := htot.trans (pick_no ht)
  clear ht
  refine row_step hf (by decide) (by decide) HZ (fun ht a' w2 h1 h2 h3 h4 h5 => (by rw [htot.trans (pick_yes ht)]; exact tab_ret rfl h1 h2 h3 h4 h5)) ?_
  clear hf a
  intro ht a hf
  replace htot := htot.trans (pick_no ht)
  clear ht
  refine row_step hf (by decide) (by decide) HZ (fun ht a' w2 h1 h2 h3 h4 h5 => (by rw [htot.trans (pick_yes ht)]; exact tab_ret rfl h1 h2 h3 h4 h5)) ?_
  clear hf a
  intro ht a hf
  replace htot := htot.trans (pick_no ht)
  clear ht
  refine row_step hf (by decide) (by decide) HZ (fun ht a' w2 h1 h2 h3 h4 h5 => (by rw [htot.trans (pick_yes ht)]; exact tab_ret rfl h1 h2 h3 h4 h5)) ?_
  clear hf a
  intro ht a hf
  replace htot := htot.trans (pick_no ht)
  clear ht
  refine row_step hf (by decide) (by decide) HZ (fun ht a' w2 h1 h2 h3 h4 h5 => (by rw [htot.trans (pick_yes ht)]; exact tab_ret rfl h1 h2 h3 h4 h5)) ?_
  clear hf a
  intro ht a hf
  replace htot := htot.trans (pick_no ht)
  clear ht
  refine row_step hf (by decide) (by decide) HZ (fun ht a' w2 h1 h2 h3 h4 h5 => (by rw [htot.trans (pick_yes ht)]; exact tab_ret rfl h1 h2 h3 h4 h5)) ?_
  clear hf a
  intro ht a hf
  replace htot := htot.trans (pick_no ht)
  clear ht
  refine row_step hf (by decide) (by decide) HZ (fun ht a' w2 h1 h2 h3 h4 h5 => (by rw [htot.trans (pick_yes ht)]; exact tab_ret rfl h1 h2 h3 h4 h5)) ?_
  clear hf a
  intro ht a hf
  replace htot := htot.trans (pick_no ht)
  clear ht
  refine row_step hf (by decide) (by decide) HZ (fun ht a' w2 h1 h2 h3 h4 h5 => (by rw [htot.trans (pick_yes ht)]; exact tab_ret rfl h1 h2 h3 h4 h5)) ?_
  clear hf a
  intro ht a hf
  replace htot := htot.trans (pick_no ht)
  clear ht
  refine row_step hf (by decide) (by decide) HZ (fun ht a' w2 h1 h2 h3 h4 h5 => (by rw [htot.trans (pick_yes ht)]; exact tab_ret rfl h1 h2 h3 h4 h5)) ?_
  clear hf a
  intro ht a hf
  replace htot := htot.trans (pick_no ht)
  clear ht
  refine row_step hf (by decide) (by decide) HZ (fun ht a' w2 h1 h2 h3 h4 h5 => (by rw [htot.trans (pick_yes ht)]; exact tab_ret rfl h1 h2 h3 h4 h5)) ?_
  clear hf a
  intro ht a hf
  replace htot := htot.trans (pick_no ht)
  clear ht
  refine row_step hf (by decide) (by decide) HZ (fun ht a' w2 h1 h2 h3 h4 h5 => (by rw [htot.trans (pick_yes ht)]; exact tab_ret rfl h1 h2 h3 h4 h5)) ?_
  clear hf a
  intro ht a hf
  replace htot := htot.trans (pick_no ht)
  clear ht
  refine row_step hf (by decide) (by decide) HZ (fun ht a' w2 h1 h2 h3 h4 h5 => (by rw [htot.trans (pick_yes ht)]; exact tab_ret rfl h1 h2 h3 h4 h5)) ?_
  clear hf a
  intro ht a hf
  replace htot := htot.trans (pick_no ht)
  clear ht
  refine row_step hf (by decide) (by decide) HZ (fun ht a' w2 h1 h2 h3 h4 h5 => (by rw [htot.trans (pick_yes ht)]; exact tab_ret rfl h1 h2 h3 h4 h5)) ?_
  clear hf a
  intro ht a hf
  replace htot := htot.trans (pick_no ht)
  clear ht
  refine row_step hf (by decide) (by decide) HZ (fun ht a' w2 h1 h2 h3 h4 h5 => (by rw [htot.trans (pick_yes ht)]; exact tab_ret rfl h1 h2 h3 h4 h5)) ?_
  clear hf a
  intro ht a hf
  replace htot := htot.trans (pick_no ht)
  clear ht
  refine end_step hf (by decide) (by decide) HZ (fun a' w2 h1 h2 h3 h4 h5 => ?_)
  rw [htot]
  exact tab_ret (x := (restS, false)) rfl h1 h2 h3 h4 h5

set_option maxRecDepth 100000 in
set_option maxHeartbeats 1000000 in
theorem rtab3_any (r : Int) (w : World) : Calls Tryd.prog 54 #[.int .i32 r] w (RetPick w (pick ref3 r)) := by
  have HZ := heap_alloc_new w (.cells (propV 0 0 0 0 0 0 0 0 false) 31)
  obtain ⟨tot, htot⟩ : ∃ z, z = pick ref3 r := ⟨_, rfl⟩
  rw [← htot]
  unfold ref3 at htot
  go_enter Tryd.func54, Tryd.ntmps54
  refine start_step (N := 131) rfl rfl rfl (by decide) ?_
  intro a hf
  refine row_step hf (by decide) (by decide) HZ (fun ht a' w2 h1 h2 h3 h4 h5 => (by rw [htot.trans (pick_yes ht)]; exact tab_ret rfl h1 h2 h3 h4 h5)) ?_
  clear hf a
  intro ht a hf
  replace htot := htot.trans (pick_no ht)
  clear ht
  refine row_step hf (by decide) (by decide) HZ (fun ht a' w2 h1 h2 h3 h4 h5 => (by rw [htot.trans (pick_yes ht)]; exact tab_ret rfl h1 h2 h3 h4 h5)) ?_
  clear hf a
  intro ht a hf
  replace htot := htot.trans (pick_no ht)
  clear ht
  refine row_step hf (by decide) (by decide) HZ (fun ht a' w2 h1 h2 h3 h4 h5 => (by rw [htot.trans (pick_yes ht)]; exact tab_ret rfl h1 h2 h3 h4 h5)) ?_
  clear hf a
  intro ht a hf
  replace htot := htot.trans (pick_no ht)
  clear ht
  refine row_step hf (by decide) (by decide) HZ (fun ht a' w2 h1 h2 h3 h4 h5 => (by rw [htot.trans (pick_yes ht)]; exact tab_ret rfl h1 h2 h3 h4 h5)) ?_
  clear hf a
  intro ht a hf
  replace htot := htot.trans (pick_no ht)
  clear ht
  refine row_step hf (by decide) (by decide) HZ (fun ht a' w2 h1 h2 h3 h4 h5 => (by rw [htot.trans (pick_yes ht)]; exact tab_ret rfl h1 h2 h3 h4 h5)) ?_
  clear hf a
  intro ht a hf
  replace htot := htot.trans (pick_no ht)
  clear ht
  refine row_step hf (by decide) (by decide) HZ (fun ht a' w2 h1 h2 h3 h4 h5 => (by rw [htot.trans (pick_yes ht)]; exact tab_ret rfl h1 h2 h3 h4 h5)) ?_
  clear hf a
  intro ht a hf
  replace htot := htot.trans (pick_no ht)
  clear ht
  refine row_step hf (by decide) (by decide) HZ (fun ht a' w2 h1 h2 h3 h4 h5 => (by rw [htot.trans (pick_yes ht)]; exact tab_ret rfl h1 h2 h3 h4 h5)) ?_
  clear hf a
  intro ht a hf
  replace htot := htot.trans (pick_no ht)
  clear ht
  refine row_step hf (by decide) (by decide) HZ (fun ht a' w2 h1 h2 h3 h4 h5 => (by rw [htot.trans (pick_yes ht)]; exact tab_ret rfl h1 h2 h3 h4 h5)) ?_
  clear hf a
  intro ht a hf
  replace htot := htot.trans (pick_no ht)
  clear ht
  refine row_step hf (by decide) (by decide) HZ (fun ht a' w2 h1 h2 h3 h4 h5 => (by rw [htot.trans (pick_yes ht)]; exact tab_ret rfl h1 h2 h3 h4 h5)) ?_
  clear hf a
  intro ht a hf
  replace htot := htot.trans (pick_no ht)
  clear ht
  refine row_step hf (by decide) (by decide) HZ (fun ht a' w2 h1 h2 h3 h4 h5 => (by rw [htot.trans (pick_yes ht)]; exact tab_ret rfl h1 h2 h3 h4 h5)) ?_
  clear hf a
  intro ht a hf
  replace htot := htot.trans (pick_no ht)
  clear ht
  refine row_step hf (by decide) (by decide) HZ (fun ht a' w2 h1 h2 h3 h4 h5 => (by rw [htot.trans (pick_yes ht)]; exact tab_ret rfl h1 h2 h3 h4 h5)) ?_
  clear hf a
  intro ht a hf
  replace htot := htot.trans (pick_no ht)
  clear ht
  refine row_step hf (by decide) (by decide) HZ (fun ht a' w2 h1 h2 h3 h4 h5 => (by rw [htot.trans (pick_yes ht)]; exact tab_ret rfl h1 h2 h3 h4 h5)) ?_
  clear hf a
  intro ht a hf
  replace htot := htot.trans (pick_no ht)
  clear ht
  refine row_step hf (by decide) (by decide) HZ (fun ht a' w2 h1 h2 h3 h4 h5 => (by rw [htot.trans (pick_yes ht)]; exact tab_ret rfl h1 h2 h3 h4 h5)) ?_
  clear hf a
  intro ht a hf
  replace htot := htot.trans (pick_no ht)
  clear ht
  refine row_step hf (by decide) (by decide) HZ (fun ht a' w2 h1 h2 h3 h4 h5 => (by rw [htot.trans (pick_yes ht)]; exact tab_ret rfl h1 h2 h3 h4 h5)) ?_
  clear hf a
  intro ht a hf
  replace htot := htot.trans (pick_no ht)
  clear ht
  refine row_step hf (by decide) (by decide) HZ (fun ht a' w2 h1 h2 h3 h4 h5 => (by rw [htot.trans (pick_yes ht)]; exact tab_ret rfl h1 h2 h3 h4 h5)) ?_
  clear hf a
  intro ht a hf
  replace htot := htot.trans (pick_no ht)
  clear ht
  refine row_step hf (by decide) (by decide) HZ (fun ht a' w2 h1 h2 h3 h4 h5 => (by rw [htot.trans (pick_yes ht)]; exact tab_ret rfl h1 h2 h3 h4 h5)) ?_
  clear hf a
  intro ht a hf
  replace htot := htot.trans (pick_no ht)
  clear ht
  refine row_step hf (by decide) (by decide) HZ (fun ht a' w2 h1 h2 h3 h4 h5 => (by rw [htot.trans (pick_yes ht)]; exact tab_ret rfl h1 h2 h3 h4 h5)) ?_
  clear hf a
  intro ht a hf
  replace htot := htot.trans (pick_no ht)
  clear ht
  refine row_step hf (by decide) (by decide) HZ (fun ht a' w2 h1 h2 h3 h4 h5 => (by rw [htot.trans (pick_yes ht)]; exact tab_ret rfl h1 h2 h3 h4 h5)) ?_
  clear hf a
  intro ht a hf
  replace htot := htot.trans (pick_no ht)
  clear ht
  refine end_step hf (by decide) (by decide) HZ (fun a' w2 h1 h2 h3 h4 h5 => ?_)
  rw [htot]
  exact tab_ret (x := (restS, false)) rfl h1 h2 h3 h4 h5

set_option maxRecDepth 100000 in
set_option maxHeartbeats 1000000 in
theorem rtab4_any (r : Int) (w : World) : Calls Tryd.prog 55 #[.int .i32 r] w (RetPick w (pick ref4 r)) := by
  have HZ := heap_alloc_new w (.cells (propV 0 0 0 0 0 0 0 0 false) 31)
  obtain ⟨tot, htot⟩ : ∃ z, z = pick ref4 r := ⟨_, rfl⟩
  rw [← htot]
  unfold ref4 at htot
  go_enter Tryd.func55, Tryd.ntmps55
  refine start_step (N := 131) rfl rfl rfl (by decide) ?_
  intro a hf
  refine row_step hf (by decide) (by decide) HZ (fun ht a' w2 h1 h2 h3 h4 h5 => (by rw [htot.trans (pick_yes ht)]; exact tab_ret rfl h1 h2 h3 h4 h5)) ?_
  clear hf a
  intro ht a hf
  replace htot := htot.trans (pick_no ht)
  clear ht
  refine row_step hf (by decide) (by decide) HZ (fun ht a' w2 h1 h2 h3 h4 h5 => (by rw [htot.trans (pick_yes ht)]; exact tab_ret rfl h1 h2 h3 h4 h5)) ?_
  clear hf a
  intro ht a hf
  replace htot := htot.trans (pick_no ht)
  clear ht
  refine row_step hf (by decide) (by decide) HZ (fun ht a' w2 h1 h2 h3 h4 h5 => (by rw [htot.trans (pick_yes ht)]; exact tab_ret rfl h1 h2 h3 h4 h5)) ?_
  clear hf a
  intro ht a hf
  replace htot := htot.trans (pick_no ht)
  clear ht
  refine row_step hf (by decide) (by decide) HZ (fun ht a' w2 h1 h2 h3 h4 h5 => (by rw [htot.trans (pick_yes ht)]; exact tab_ret rfl h1 h2 h3 h4 h5)) ?_
  clear hf a
  intro ht a hf
  replace htot := htot.trans (pick_no ht)
  clear ht
  refine row_step hf (by decide) (by decide) HZ (fun ht a' w2 h1 h2 h3 h4 h5 => (by rw [htot.trans (pick_yes ht)]; exact tab_ret rfl h1 h2 h3 h4 h5)) ?_
  clear hf a
  intro ht a hf
  replace htot := htot.trans (pick_no ht)
  clear ht
  refine row_step hf (by decide) (by decide) HZ (fun ht a' w2 h1 h2 h3 h4 h5 => (by rw [htot.trans (pick_yes ht)]; exact tab_ret rfl h1 h2 h3 h4 h5)) ?_
  clear hf a
  intro ht a hf
  replace htot := htot.trans (pick_no ht)
  clear ht
  refine row_step hf (by decide) (by decide) HZ (fun ht a' w2 h1 h2 h3 h4 h5 => (by rw [htot.trans (pick_yes ht)]; exact tab_ret rfl h1 h2 h3 h4 h5)) ?_
  clear hf a
  intro ht a hf
  replace htot := htot.trans (pick_no ht)
  clear ht
  refine row_step hf (by decide) (by decide) HZ (fun ht a' w2 h1 h2 h3 h4 h5 => (by rw [htot.trans (pick_yes ht)]; exact tab_ret rfl h1 h2 h3 h4 h5)) ?_
  clear hf a
  intro ht a hf
  replace htot := htot.trans (pick_no ht)
  clear ht
  refine row_step hf (by decide) (by decide) HZ (fun ht a' w2 h1 h2 h3 h4 h5 => (by rw [htot.trans (pick_yes ht)]; exact tab_ret rfl h1 h2 h3 h4 h5)) ?_
  clear hf a
  intro ht a hf
  replace htot := htot.trans (pick_no ht)
  clear ht
  refine row_step hf (by decide) (by decide) HZ (fun ht a' w2 h1 h2 h3 h4 h5 => (by rw [htot.trans (pick_yes ht)]; exact tab_ret rfl h1 h2 h3 h4 h5)) ?_
  clear hf a
  intro ht a hf
  replace htot := htot.trans (pick_no ht)
  clear ht
  refine row_step hf (by decide) (by decide) HZ (fun ht a' w2 h1 h2 h3 h4 h5 => (by rw [htot.trans (pick_yes ht)]; exact tab_ret rfl h1 h2 h3 h4 h5)) ?_
  clear hf a
  intro ht a hf
  replace htot := htot.trans (pick_no ht)
  clear ht
  refine row_step hf (by decide) (by decide) HZ (fun ht a' w2 h1 h2 h3 h4 h5 => (by rw [htot.trans (pick_yes ht)]; exact tab_ret rfl h1 h2 h3 h4 h5)) ?_
  clear hf a
  intro ht a hf
  replace htot := htot.trans (pick_no ht)
  clear ht
  refine row_step hf (by decide) (by decide) HZ (fun ht a' w2 h1 h2 h3 h4 h5 => (by rw [htot.trans (pick_yes ht)]; exact tab_ret rfl h1 h2 h3 h4 h5)) ?_
  clear hf a
  intro ht a hf
  replace htot := htot.trans (pick_no ht)
  clear ht
  refine row_step hf (by decide) (by decide) HZ (fun ht a' w2 h1 h2 h3 h4 h5 => (by rw [htot.trans (pick_yes ht)]; exact tab_ret rfl h1 h2 h3 h4 h5)) ?_
  clear hf a
  intro ht a hf
  replace htot := htot.trans (pick_no ht)
  clear ht
  refine row_step hf (by decide) (by decide) HZ (fun ht a' w2 h1 h2 h3 h4 h5 => (by rw [htot.trans (pick_yes ht)]; exact tab_ret rfl h1 h2 h3 h4 h5)) ?_
  clear hf a
  intro ht a hf
  replace htot := htot.trans (pick_no ht)
  clear ht
  refine row_step hf (by decide) (by decide) HZ (fun ht a' w2 h1 h2 h3 h4 h5 => (by rw [htot.trans (pick_yes ht)]; exact tab_ret rfl h1 h2 h3 h4 h5)) ?_
  clear hf a
  intro ht a hf
  replace htot := htot.trans (pick_no ht)
  clear ht
  refine row_step hf (by decide) (by decide) HZ (fun ht a' w2 h1 h2 h3 h4 h5 => (by rw [htot.trans (pick_yes ht)]; exact tab_ret rfl h1 h2 h3 h4 h5)) ?_
  clear hf a
  intro ht a hf
  replace htot := htot.trans (pick_no ht)
  clear ht
  refine row_step hf (by decide) (by decide) HZ (fun ht a' w2 h1 h2 h3 h4 h5 => (by rw [htot.trans (pick_yes ht)]; exact tab_ret rfl h1 h2 h3 h4 h5)) ?_
  clear hf a
  intro ht a hf
  replace htot := htot.trans (pick_no ht)
  clear ht
  refine end_step hf (by decide) (by decide) HZ (fun a' w2 h1 h2 h3 h4 h5 => ?_)
  rw [htot]
  exact tab_ret (x := (restS, false)) rfl h1 h2 h3 h4 h5

set_option maxRecDepth 100000 in
set_option maxHeartbeats 1000000 in
theorem rtab5_any (r : Int) (w : World) : Calls Tryd.prog 56 #[.int .i32 r] w (RetPick w (pick ref5 r)) := by
  have HZ := heap_alloc_new w (.cells (propV 0 0 0 0 0 0 0 0 false) 31)
  obtain ⟨tot, htot⟩ : ∃ z, z = pick ref5 r := ⟨_, rfl⟩
  rw [← htot]
  unfold ref5 at htot
  go_enter Tryd.func56, Tryd.ntmps56
  refine start_step (N := 131) rfl rfl rfl (by decide) ?_
  intro a hf
  refine row_step hf (by decide) (by decide) HZ (fun ht a' w2 h1 h2 h3 h4 h5 => (by rw [htot.trans (pick_yes ht)]; exact tab_ret rfl h1 h2 h3 h4 h5)) ?_
  clear hf a
  intro ht a hf
  replace htot := htot.trans (pick_no ht)
  clear ht
  refine row_step hf (by decide) (by decide) HZ (fun ht a' w2 h1 h2 h3 h4 h5 => (by rw [htot.trans (pick_yes ht)]; exact tab_ret rfl h1 h2 h3 h4 h5)) ?_
  clear hf a
  intro ht a hf
  replace htot := htot.trans (pick_no ht)
  clear ht
  refine row_step hf (by decide) (by decide) HZ (fun ht a' w2 h1 h2 h3 h4 h5 => (by rw [htot.trans (pick_yes ht)]; exact tab_ret rfl h1 h2 h3 h4 h5)) ?_
  clear hf a
  intro ht a hf
  replace htot := htot.trans (pick_no ht)
  clear ht
  refine row_step hf (by decide) (by decide) HZ (fun ht a' w2 h1 h2 h3 h4 h5 => (by rw [htot.trans (pick_yes ht)]; exact tab_ret rfl h1 h2 h3 h4 h5)) ?_
  clear hf a
  intro ht a hf
  replace htot := htot.trans (pick_no ht)
  clear ht
  refine row_step hf (by decide) (by decide) HZ (fun ht a' w2 h1 h2 h3 h4 h5 => (by rw [htot.trans (pick_yes ht)]; exact tab_ret rfl h1 h2 h3 h4 h5)) ?_
  clear hf a
  intro ht a hf
  replace htot := htot.trans (pick_no ht)
  clear ht
  refine row_step hf (by decide) (by decide) HZ (fun ht a' w2 h1 h2 h3 h4 h5 => (by rw [htot.trans (pick_yes ht)]; exact tab_ret rfl h1 h2 h3 h4 h5)) ?_
  clear hf a
  intro ht a hf
  replace htot := htot.trans (pick_no ht)
  clear ht
  refine row_step hf (by decide) (by decide) HZ (fun ht a' w2 h1 h2 h3 h4 h5 => (by rw [htot.trans (pick_yes ht)]; exact tab_ret rfl h1 h2 h3 h4 h5)) ?_
  clear hf a
  intro ht a hf
  replace htot := htot.trans (pick_no ht)
  clear ht
  refine row_step hf (by decide) (by decide) HZ (fun ht a' w2 h1 h2 h3 h4 h5 => (by rw [htot.trans (pick_yes ht)]; exact tab_ret rfl h1 h2 h3 h4 h5)) ?_
  clear hf a
  intro ht a hf
  replace htot := htot.trans (pick_no ht)
  clear ht
  refine row_step hf (by decide) (by decide) HZ (fun ht a' w2 h1 h2 h3 h4 h5 => (by rw [htot.trans (pick_yes ht)]; exact tab_ret rfl h1 h2 h3 h4 h5)) ?_
  clear hf a
  intro ht a hf
  replace htot := htot.trans (pick_no ht)
  clear ht
  refine row_step hf (by decide) (by decide) HZ (fun ht a' w2 h1 h2 h3 h4 h5 => (by rw [htot.trans (pick_yes ht)]; exact tab_ret rfl h1 h2 h3 h4 h5)) ?_
  clear hf a
  intro ht a hf
  replace htot := htot.trans (pick_no ht)
  clear ht
  refine row_step hf (by decide) (by decide) HZ (fun ht a' w2 h1 h2 h3 h4 h5 => (by rw [htot.trans (pick_yes ht)]; exact tab_ret rfl h1 h2 h3 h4 h5)) ?_
  clear hf a
  intro ht a hf
  replace htot := htot.trans (pick_no ht)
  clear ht
  refine row_step hf (by decide) (by decide) HZ (fun ht a' w2 h1 h2 h3 h4 h5 => (by rw [htot.trans (pick_yes ht)]; exact tab_ret rfl h1 h2 h3 h4 h5)) ?_
  clear hf a
  intro ht a hf
  replace htot := htot.trans (pick_no ht)
  clear ht
  refine row_step hf (by decide) (by decide) HZ (fun ht a' w2 h1 h2 h3 h4 h5 => (by rw [htot.trans (pick_yes ht)]; exact tab_ret rfl h1 h2 h3 h4 h5)) ?_
  clear hf a
  intro ht a hf
  replace htot := htot.trans (pick_no ht)
  clear ht
  refine row_step hf (by decide) (by decide) HZ (fun ht a' w2 h1 h2 h3 h4 h5 => (by rw [htot.trans (pick_yes ht)]; exact tab_ret rfl h1 h2 h3 h4 h5)) ?_
  clear hf a
  intro ht a hf
  replace htot := htot.trans (pick_no ht)
  clear ht
  refine row_step hf (by decide) (by decide) HZ (fun ht a' w2 h1 h2 h3 h4 h5 => (by rw [htot.trans (pick_yes ht)]; exact tab_ret rfl h1 h2 h3 h4 h5)) ?_
  clear hf a
  intro ht a hf
  replace htot := htot.trans (pick_no ht)
  clear ht
  refine row_step hf (by decide) (by decide) HZ (fun ht a' w2 h1 h2 h3 h4 h5 => (by rw [htot.trans (pick_yes ht)]; exact tab_ret rfl h1 h2 h3 h4 h5)) ?_
  clear hf a
  intro ht a hf
  replace htot := htot.trans (pick_no ht)
  clear ht
  refine row_step hf (by decide) (by decide) HZ (fun ht a' w2 h1 h2 h3 h4 h5 => (by rw [htot.trans (pick_yes ht)]; exact tab_ret rfl h1 h2 h3 h4 h5)) ?_
  clear hf a
  intro ht a hf
  replace htot := htot.trans (pick_no ht)
  clear ht
  refine row_step hf (by decide) (by decide) HZ (fun ht a' w2 h1 h2 h3 h4 h5 => (by rw [htot.trans (pick_yes ht)]; exact tab_ret rfl h1 h2 h3 h4 h5)) ?_
  clear hf a
  intro ht a hf
  replace htot := htot.trans (pick_no ht)
  clear ht
  refine end_step hf (by decide) (by decide) HZ (fun a' w2 h1 h2 h3 h4 h5 => ?_)
  rw [htot]
  exact tab_ret (x := (restS, false)) rfl h1 h2 h3 h4 h5

set_option maxRecDepth 100000 in
set_option maxHeartbeats 1000000 in
theorem rtab6_any (r : Int) (w : World) : Calls Tryd.prog 57 #[.int .i32 r] w (RetPick w (pick ref6 r)) := by
  have HZ := heap_alloc_new w (.cells (propV 0 0 0 0 0 0 0 0 false) 31)
  obtain ⟨tot, htot⟩ : ∃ z, z = pick ref6 r := ⟨_, rfl⟩
  rw [← htot]
  unfold ref6 at htot
  go_enter Tryd.func57, Tryd.ntmps57
  refine start_step (N := 131) rfl rfl rfl (by decide) ?_
  intro a hf
  refine row_step hf (by decide) (by decide) HZ (fun ht a' w2 h1 h2 h3 h4 h5 => (by rw [htot.trans (pick_yes ht)]; exact tab_ret rfl h1 h2 h3 h4 h5)) ?_
  clear hf a
  intro ht a hf
  replace htot := htot.trans (pick_no ht)
  clear ht
  refine row_step hf (by decide) (by decide) HZ (fun ht a' w2 h1 h2 h3 h4 h5 => (by rw [htot.trans (pick_yes ht)]; exact tab_ret rfl h1 h2 h3 h4 h5)) ?_
  clear hf a
  intro ht a hf
  replace htot := htot.trans (pick_no ht)
  clear ht
  refine row_step hf (by decide) (by decide) HZ (fun ht a' w2 h1 h2 h3 h4 h5 => (by rw [htot.trans (pick_yes ht)]; exact tab_ret rfl h1 h2 h3 h4 h5)) ?_
  clear hf a
  intro ht a hf
  replace htot := htot.trans (pick_no ht)
  clear ht
  refine row_step hf (by decide) (by decide) HZ (fun ht a' w2 h1 h2 h3 h4 h5 => (by rw [htot.trans (pick_yes ht)]; exact tab_ret rfl h1 h2 h3 h4 h5)) ?_
  clear hf a
  intro ht a hf
  replace htot := htot.trans (pick_no ht)
  clear ht
  refine row_step hf (by decide) (by decide) HZ (fun ht a' w2 h1 h2 h3 h4 h5 => (by rw [htot.trans (pick_yes ht)]; exact tab_ret rfl h1 h2 h3 h4 h5)) ?_
  clear hf a
  intro ht a hf
  replace htot := htot.trans (pick_no ht)
  clear ht
  refine row_step hf (by decide) (by decide) HZ (fun ht a' w2 h1 h2 h3 h4 h5 => (by rw [htot.trans (pick_yes ht)]; exact tab_ret rfl h1 h2 h3 h4 h5)) ?_
  clear hf a
  intro ht a hf
  replace htot := htot.trans (pick_no ht)
  clear ht
  refine row_step hf (by decide) (by decide) HZ (fun ht a' w2 h1 h2 h3 h4 h5 => (by rw [htot.trans (pick_yes ht)]; exact tab_ret rfl h1 h2 h3 h4 h5)) ?_
  clear hf a
  intro ht a hf
  replace htot := htot.trans (pick_no ht)
  clear ht
  refine row_step hf (by decide) (by decide) HZ (fun ht a' w2 h1 h2 h3 h4 h5 => (by rw [htot.trans (pick_yes ht)]; exact tab_ret rfl h1 h2 h3 h4 h5)) ?_
  clear hf a
  intro ht a hf
  replace htot := htot.trans (pick_no ht)
  clear ht
  refine row_step hf (by decide) (by decide) HZ (fun ht a' w2 h1 h2 h3 h4 h5 => (by rw [htot.trans (pick_yes ht)]; exact tab_ret rfl h1 h2 h3 h4 h5)) ?_
  clear hf a
  intro ht a hf
  replace htot := htot.trans (pick_no ht)
  clear ht
  refine row_step hf (by decide) (by decide) HZ (fun ht a' w2 h1 h2 h3 h4 h5 => (by rw [htot.trans (pick_yes ht)]; exact tab_ret rfl h1 h2 h3 h4 h5)) ?_
  clear hf a
  intro ht a hf
  replace htot := htot.trans (pick_no ht)
  clear ht
  refine row_step hf (by decide) (by decide) HZ (fun ht a' w2 h1 h2 h3 h4 h5 => (by rw [htot.trans (pick_yes ht)]; exact tab_ret rfl h1 h2 h3 h4 h5)) ?_
  clear hf a
  intro ht a hf
  replace htot := htot.trans (pick_no ht)
  clear ht
  refine row_step hf (by decide) (by decide) HZ (fun ht a' w2 h1 h2 h3 h4 h5 => (by rw [htot.trans (pick_yes ht)]; exact tab_ret rfl h1 h2 h3 h4 h5)) ?_
  clear hf a
  intro ht a hf
  replace htot := htot.trans (pick_no ht)
  clear ht
  refine row_step hf (by decide) (by decide) HZ (fun ht a' w2 h1 h2 h3 h4 h5 => (by rw [htot.trans (pick_yes ht)]; exact tab_ret rfl h1 h2 h3 h4 h5)) ?_
  clear hf a
  intro ht a hf
  replace htot := htot.trans (pick_no ht)
  clear ht
  refine row_step hf (by decide) (by decide) HZ (fun ht a' w2 h1 h2 h3 h4 h5 => (by rw [htot.trans (pick_yes ht)]; exact tab_ret rfl h1 h2 h3 h4 h5)) ?_
  clear hf a
  intro ht a hf
  replace htot := htot.trans (pick_no ht)
  clear ht
  refine row_step hf (by decide) (by decide) HZ (fun ht a' w2 h1 h2 h3 h4 h5 => (by rw [htot.trans (pick_yes ht)]; exact tab_ret rfl h1 h2 h3 h4 h5)) ?_
  clear hf a
  intro ht a hf
  replace htot := htot.trans (pick_no ht)
  clear ht
  refine row_step hf (by decide) (by decide) HZ (fun ht a' w2 h1 h2 h3 h4 h5 => (by rw [htot.trans (pick_yes ht)]; exact tab_ret rfl h1 h2 h3 h4 h5)) ?_
  clear hf a
  intro ht a hf
  replace htot := htot.trans (pick_no ht)
  clear ht
  refine row_step hf (by decide) (by decide) HZ (fun ht a' w2 h1 h2 h3 h4 h5 => (by rw [htot.trans (pick_yes ht)]; exact tab_ret rfl h1 h2 h3 h4 h5)) ?_
  clear hf a
  intro ht a hf
  replace htot := htot.trans (pick_no ht)
  clear ht
  refine row_step hf (by decide) (by decide) HZ (fun ht a' w2 h1 h2 h3 h4 h5 => (by rw [htot.trans (pick_yes ht)]; exact tab_ret rfl h1 h2 h3 h4 h5)) ?_
  clear hf a
  intro ht a hf
  replace htot := htot.trans (pick_no ht)
  clear ht
  refine end_step hf (by decide) (by decide) HZ (fun a' w2 h1 h2 h3 h4 h5 => ?_)
  rw [htot]
  exact tab_ret (x := (restS, false)) rfl h1 h2 h3 h4 h5

set_option maxRecDepth 100000 in
set_option maxHeartbeats 1000000 in
theorem rtab7_any (r : Int) (w : World) : Calls Tryd.prog 58 #[.int .i32 r] w (RetPick w (pick ref7 r)) := by
  have HZ := heap_alloc_new w (.cells (propV 0 0 0 0 0 0 0 0 false) 31)
  obtain ⟨tot, htot⟩ : ∃ z, z = pick ref7 r := ⟨_, rfl⟩
  rw [← htot]
  unfold ref7 at htot
  go_enter Tryd.func58, Tryd.ntmps58
  refine start_step (N := 131) rfl rfl rfl (by decide) ?_
  intro a hf
  refine row_step hf (by decide) (by decide) HZ (fun ht a' w2 h1 h2 h3 h4 h5 => (by rw [htot.trans (pick_yes ht)]; exact tab_ret rfl h1 h2 h3 h4 h5)) ?_
  clear hf a
  intro ht a hf
  replace htot := htot.trans (pick_no ht)
  clear ht
  refine row_step hf (by decide) (by decide) HZ (fun ht a' w2 h1 h2 h3 h4 h5 => (by rw [htot.trans (pick_yes ht)]; exact tab_ret rfl h1 h2 h3 h4 h5)) ?_
  clear hf a
  intro ht a hf
  replace htot := htot.trans (pick_no ht)
  clear ht
  refine row_step hf (by decide) (by decide) HZ (fun ht a' w2 h1 h2 h3 h4 h5 => (by rw [htot.trans (pick_yes ht)]; exact tab_ret rfl h1 h2 h3 h4 h5)) ?_
  clear hf a
  intro ht a hf
  replace htot := htot.trans (pick_no ht)
  clear ht
  refine row_step hf (by decide) (by decide) HZ (fun ht a' w2 h1 h2 h3 h4 h5 => (by rw [htot.trans (pick_yes ht)]; exact tab_ret rfl h1 h2 h3 h4 h5)) ?_
  clear hf a
  intro ht a hf
  replace htot := htot.trans (pick_no ht)
  clear ht
  refine row_step hf (by decide) (by decide) HZ (fun ht a' w2 h1 h2 h3 h4 h5 => (by rw [htot.trans (pick_yes ht)]; exact tab_ret rfl h1 h2 h3 h4 h5)) ?_
  clear hf a
  intro ht a hf
  replace htot := htot.trans (pick_no ht)
  clear ht
  refine row_step hf (by decide) (by decide) HZ (fun ht a' w2 h1 h2 h3 h4 h5 => (by rw [htot.trans (pick_yes ht)]; exact tab_ret rfl h1 h2 h3 h4 h5)) ?_
  clear hf a
  intro ht a hf
  replace htot := htot.trans (pick_no ht)
  clear ht
  refine row_step hf (by decide) (by decide) HZ (fun ht a' w2 h1 h2 h3 h4 h5 => (by rw [htot.trans (pick_yes ht)]; exact tab_ret rfl h1 h2 h3 h4 h5)) ?_
  clear hf a
  intro ht a hf
  replace htot := htot.trans (pick_no ht)
  clear ht
  refine row_step hf (by decide) (by decide) HZ (fun ht a' w2 h1 h2 h3 h4 h5 => (by rw [htot.trans (pick_yes ht)]; exact tab_ret rfl h1 h2 h3 h4 h5)) ?_
  clear hf a
  intro ht a hf
  replace htot := htot.trans (pick_no ht)
  clear ht
  refine row_step hf (by decide) (by decide) HZ (fun ht a' w2 h1 h2 h3 h4 h5 => (by rw [htot.trans (pick_yes ht)]; exact tab_ret rfl h1 h2 h3 h4 h5)) ?_
  clear hf a
  intro ht a hf
  replace htot := htot.trans (pick_no ht)
  clear ht
  refine row_step hf (by decide) (by decide) HZ (fun ht a' w2 h1 h2 h3 h4 h5 => (by rw [htot.trans (pick_yes ht)]; exact tab_ret rfl h1 h2 h3 h4 h5)) ?_
  clear hf a
  intro ht a hf
  replace htot := htot.trans (pick_no ht)
  clear ht
  refine row_step hf (by decide) (by decide) HZ (fun ht a' w2 h1 h2 h3 h4 h5 => (by rw [htot.trans (pick_yes ht)]; exact tab_ret rfl h1 h2 h3 h4 h5)) ?_
  clear hf a
  intro ht a hf
  replace htot := htot.trans (pick_no ht)
  clear ht
  refine row_step hf (by decide) (by decide) HZ (fun ht a' w2 h1 h2 h3 h4 h5 => (by rw [htot.trans (pick_yes ht)]; exact tab_ret rfl h1 h2 h3 h4 h5)) ?_
  clear hf a
  intro ht a hf
  replace htot := htot.trans (pick_no ht)
  clear ht
  refine row_step hf (by decide) (by decide) HZ (fun ht a' w2 h1 h2 h3 h4 h5 => (by rw [htot.trans (pick_yes ht)]; exact tab_ret rfl h1 h2 h3 h4 h5)) ?_
  clear hf a
  intro ht a hf
  replace htot := htot.trans (pick_no ht)
  clear ht
  refine row_step hf (by decide) (by decide) HZ (fun ht a' w2 h1 h2 h3 h4 h5 => (by rw [htot.trans (pick_yes ht)]; exact tab_ret rfl h1 h2 h3 h4 h5)) ?_
  clear hf a
  intro ht a hf
  replace htot := htot.trans (pick_no ht)
  clear ht
  refine row_step hf (by decide) (by decide) HZ (fun ht a' w2 h1 h2 h3 h4 h5 => (by rw [htot.trans (pick_yes ht)]; exact tab_ret rfl h1 h2 h3 h4 h5)) ?_
  clear hf a
  intro ht a hf
  replace htot := htot.trans (pick_no ht)
  clear ht
  refine row_step hf (by decide) (by decide) HZ (fun ht a' w2 h1 h2 h3 h4 h5 => (by rw [htot.trans (pick_yes ht)]; exact tab_ret rfl h1 h2 h3 h4 h5)) ?_
  clear hf a
  intro ht a hf
  replace htot := htot.trans (pick_no ht)
  clear ht
  refine row_step hf (by decide) (by decide) HZ (fun ht a' w2 h1 h2 h3 h4 h5 => (by rw [htot.trans (pick_yes ht)]; exact tab_ret rfl h1 h2 h3 h4 h5)) ?_
  clear hf a
  intro ht a hf
  replace htot := htot.trans (pick_no ht)
  clear ht
  refine row_step hf (by decide) (by decide) HZ (fun ht a' w2 h1 h2 h3 h4 h5 => (by rw [htot.trans (pick_yes ht)]; exact tab_ret rfl h1 h2 h3 h4 h5)) ?_
  clear hf a
  intro ht a hf
  replace htot := htot.trans (pick_no ht)
  clear ht
  refine end_step hf (by decide) (by decide) HZ (fun a' w2 h1 h2 h3 h4 h5 => ?_)
  rw [htot]
  exact tab_ret (x := (restS, false)) rfl h1 h2 h3 h4 h5

set_option maxRecDepth 100000 in
set_option maxHeartbeats 1000000 in
theorem rtab8_any (r : Int) (w : World) : Calls Tryd.prog 59 #[.int .i32 r] w (RetPick w (pick ref8 r)) := by
  have HZ := heap_alloc_new w (.cells (propV 0 0 0 0 0 0 0 0 false) 31)
  obtain ⟨tot, htot⟩ : ∃ z, z = pick ref8 r := ⟨_, rfl⟩
  rw [← htot]
  unfold ref8 at htot
  go_enter Tryd.func59, Tryd.ntmps59
  refine start_step (N := 131) rfl rfl rfl (by decide) ?_
  intro a hf
  refine row_step hf (by decide) (by decide) HZ (fun ht a' w2 h1 h2 h3 h4 h5 => (by rw [htot.trans (pick_yes ht)]; exact tab_ret rfl h1 h2 h3 h4 h5)) ?_
  clear hf a
  intro ht a hf
  replace htot := htot.trans (pick_no ht)
  clear ht
  refine row_step hf (by decide) (by decide) HZ (fun ht a' w2 h1 h2 h3 h4 h5 => (by rw [htot.trans (pick_yes ht)]; exact tab_ret rfl h1 h2 h3 h4 h5)) ?_
  clear hf a
  intro ht a hf
  replace htot := htot.trans (pick_no ht)
  clear ht
  refine row_step hf (by decide) (by decide) HZ (fun ht a' w2 h1 h2 h3 h4 h5 => (by rw [htot.trans (pick_yes ht)]; exact tab_ret rfl h1 h2 h3 h4 h5)) ?_
  clear hf a
  intro ht a hf
  replace htot := htot.trans (pick_no ht)
  clear ht
  refine row_step hf (by decide) (by decide) HZ (fun ht a' w2 h1 h2 h3 h4 h5 => (by rw [htot.trans (pick_yes ht)]; exact tab_ret rfl h1 h2 h3 h4 h5)) ?_
  clear hf a
  intro ht a hf
  replace htot := htot.trans (pick_no ht)
  clear ht
  refine row_step hf (by decide) (by decide) HZ (fun ht a' w2 h1 h2 h3 h4 h5 => (by rw [htot.trans (pick_yes ht)]; exact tab_ret rfl h1 h2 h3 h4 h5)) ?_
  clear hf a
  intro ht a hf
  replace htot := htot.trans (pick_no ht)
  clear ht
  refine row_step hf (by decide) (by decide) HZ (fun ht a' w2 h1 h2 h3 h4 h5 => (by rw [htot.trans (pick_yes ht)]; exact tab_ret rfl h1 h2 h3 h4 h5)) ?_
  clear hf a
  intro ht a hf
  replace htot := htot.trans (pick_no ht)
  clear ht
  refine row_step hf (by decide) (by decide) HZ (fun ht a' w2 h1 h2 h3 h4 h5 => (by rw [htot.trans (pick_yes ht)]; exact tab_ret rfl h1 h2 h3 h4 h5)) ?_
  clear hf a
  intro ht a hf
  replace htot := htot.trans (pick_no ht)
  clear ht
  refine row_step hf (by decide) (by decide) HZ (fun ht a' w2 h1 h2 h3 h4 h5 => (by rw [htot.trans (pick_yes ht)]; exact tab_ret rfl h1 h2 h3 h4 h5)) ?_
  clear hf a
  intro ht a hf
  replace htot := htot.trans (pick_no ht)
  clear ht
  refine row_step hf (by decide) (by decide) HZ (fun ht a' w2 h1 h2 h3 h4 h5 => (by rw [htot.trans (pick_yes ht)]; exact tab_ret rfl h1 h2 h3 h4 h5)) ?_
  clear hf a
  intro ht a hf
  replace htot := htot.trans (pick_no ht)
  clear ht
  refine row_step hf (by decide) (by decide) HZ (fun ht a' w2 h1 h2 h3 h4 h5 => (by rw [htot.trans (pick_yes ht)]; exact tab_ret rfl h1 h2 h3 h4 h5)) ?_
  clear hf a
  intro ht a hf
  replace htot := htot.trans (pick_no ht)
  clear ht
  refine row_step hf (by decide) (by decide) HZ (fun ht a' w2 h1 h2 h3 h4 h5 => (by rw [htot.trans (pick_yes ht)]; exact tab_ret rfl h1 h2 h3 h4 h5)) ?_
  clear hf a
  intro ht a hf
  replace htot := htot.trans (pick_no ht)
  clear ht
  refine row_step hf (by decide) (by decide) HZ (fun ht a' w2 h1 h2 h3 h4 h5 => (by rw [htot.trans (pick_yes ht)]; exact tab_ret rfl h1 h2 h3 h4 h5)) ?_
  clear hf a
  intro ht a hf
  replace htot := htot.trans (pick_no ht)
  clear ht
  refine row_step hf (by decide) (by decide) HZ (fun ht a' w2 h1 h2 h3 h4 h5 => (by rw [htot.trans (pick_yes ht)]; exact tab_ret rfl h1 h2 h3 h4 h5)) ?_
  clear hf a
  intro ht a hf
  replace htot := htot.trans (pick_no ht)
  clear ht
  refine row_step hf (by decide) (by decide) HZ (fun ht a' w2 h1 h2 h3 h4 h5 => (by rw [htot.trans (pick_yes ht)]; exact tab_ret rfl h1 h2 h3 h4 h5)) ?_
  clear hf a
  intro ht a hf
  replace htot := htot.trans (pick_no ht)
  clear ht
  refine row_step hf (by decide) (by decide) HZ (fun ht a' w2 h1 h2 h3 h4 h5 => (by rw [htot.trans (pick_yes ht)]; exact tab_ret rfl h1 h2 h3 h4 h5)) ?_
  clear hf a
  intro ht a hf
  replace htot := htot.trans (pick_no ht)
  clear ht
  refine row_step hf (by decide) (by decide) HZ (fun ht a' w2 h1 h2 h3 h4 h5 => (by rw [htot.trans (pick_yes ht)]; exact tab_ret rfl h1 h2 h3 h4 h5)) ?_
  clear hf a
  intro ht a hf
  replace htot := htot.trans (pick_no ht)
  clear ht
  refine row_step hf (by decide) (by decide) HZ (fun ht a' w2 h1 h2 h3 h4 h5 => (by rw [htot.trans (pick_yes ht)]; exact tab_ret rfl h1 h2 h3 h4 h5)) ?_
  clear hf a
  intro ht a hf
  replace htot := htot.trans (pick_no ht)
  clear ht
  refine row_step hf (by decide) (by decide) HZ (fun ht a' w2 h1 h2 h3 h4 h5 => (by rw [htot.trans (pick_yes ht)]; exact tab_ret rfl h1 h2 h3 h4 h5)) ?_
  clear hf a
  intro ht a hf
  replace htot := htot.trans (pick_no ht)
  clear ht
  refine end_step hf (by decide) (by decide) HZ (fun a' w2 h1 h2 h3 h4 h5 => ?_)
  rw [htot]
  exact tab_ret (x := (restS, false)) rfl h1 h2 h3 h4 h5

set_option maxRecDepth 100000 in
set_option maxHeartbeats 1000000 in
theorem rtab9_any (r : Int) (w : World) : Calls Tryd.prog 60 #[.int .i32 r] w (RetPick w (pick ref9 r)) := by
  have HZ := heap_alloc_new w (.cells (propV 0 0 0 0 0 0 0 0 false) 31)
  obtain ⟨tot, htot⟩ : ∃ z, z = pick ref9 r := ⟨_, rfl⟩
  rw [← htot]
  unfold ref9 at htot
  go_enter Tryd.func60, Tryd.ntmps60
  refine start_step (N := 131) rfl rfl rfl (by decide) ?_
  intro a hf
  refine row_step hf (by decide) (by decide) HZ (fun ht a' w2 h1 h2 h3 h4 h5 => (by rw [htot.trans (pick_yes ht)]; exact tab_ret rfl h1 h2 h3 h4 h5)) ?_
  clear hf a
  intro ht a hf
  replace htot := htot.trans (pick_no ht)
  clear ht
  refine row_step hf (by decide) (by decide) HZ (fun ht a' w2 h1 h2 h3 h4 h5 => (by rw [htot.trans (pick_yes ht)]; exact tab_ret rfl h1 h2 h3 h4 h5)) ?_
  clear hf a
  intro ht a hf
  replace htot := htot.trans (pick_no ht)
  clear ht
  refine row_step hf (by decide) (by decide) HZ (fun ht a' w2 h1 h2 h3 h4 h5 => (by rw [htot.trans (pick_yes ht)]; exact tab_ret rfl h1 h2 h3 h4 h5)) ?_
  clear hf a
  intro ht a hf
  replace htot := htot.trans (pick_no ht)
  clear ht
  refine row_step hf (by decide) (by decide) HZ (fun ht a' w2 h1 h2 h3 h4 h5 => (by rw [htot.trans (pick_yes ht)]; exact tab_ret rfl h1 h2 h3 h4 h5)) ?_
  clear hf a
  intro ht a hf
  replace htot := htot.trans (pick_no ht)
  clear ht
  refine row_step hf (by decide) (by decide) HZ (fun ht a' w2 h1 h2 h3 h4 h5 => (by rw [htot.trans (pick_yes ht)]; exact tab_ret rfl h1 h2 h3 h4 h5)) ?_
  clear hf a
  intro ht a hf
  replace htot := htot.trans (pick_no ht)
  clear ht
  refine row_step hf (by decide) (by decide) HZ (fun ht a' w2 h1 h2 h3 h4 h5 => (by rw [htot.trans (pick_yes ht)]; exact tab_ret rfl h1 h2 h3 h4 h5)) ?_
  clear hf a
  intro ht a hf
  replace htot := htot.trans (pick_no ht)
  clear ht
  refine row_step hf (by decide) (by decide) HZ (fun ht a' w2 h1 h2 h3 h4 h5 => (by rw [htot.trans (pick_yes ht)]; exact tab_ret rfl h1 h2 h3 h4 h5)) ?_
  clear hf a
  intro ht a hf
  replace htot := htot.trans (pick_no ht)
  clear ht
  refine row_step hf (by decide) (by decide) HZ (fun ht a' w2 h1 h2 h3 h4 h5 => (by rw [htot.trans (pick_yes ht)]; exact tab_ret rfl h1 h2 h3 h4 h5)) ?_
  clear hf a
  intro ht a hf
  replace htot := htot.trans (pick_no ht)
  clear ht
  refine row_step hf (by decide) (by decide) HZ (fun ht a' w2 h1 h2 h3 h4 h5 => (by rw [htot.trans (pick_yes ht)]; exact tab_ret rfl h1 h2 h3 h4 h5)) ?_
  clear hf a
  intro ht a hf
  replace htot := htot.trans (pick_no ht)
  clear ht
  refine row_step hf (by decide) (by decide) HZ (fun ht a' w2 h1 h2 h3 h4 h5 => (by rw [htot.trans (pick_yes ht)]; exact tab_ret rfl h1 h2 h3 h4 h5)) ?_
  clear hf a
  intro ht a hf
  replace htot := htot.trans (pick_no ht)
  clear ht
  refine row_step hf (by decide) (by decide) HZ (fun ht a' w2 h1 h2 h3 h4 h5 => (by rw [htot.trans (pick_yes ht)]; exact tab_ret rfl h1 h2 h3 h4 h5)) ?_
  clear hf a
  intro ht a hf
  replace htot := htot.trans (pick_no ht)
  clear ht
  refine row_step hf (by decide) (by decide) HZ (fun ht a' w2 h1 h2 h3 h4 h5 => (by rw [htot.trans (pick_yes ht)]; exact tab_ret rfl h1 h2 h3 h4 h5)) ?_
  clear hf a
  intro ht a hf
  replace htot := htot.trans (pick_no ht)
  clear ht
  refine row_step hf (by decide) (by decide) HZ (fun ht a' w2 h1 h2 h3 h4 h5 => (by rw [htot.trans (pick_yes ht)]; exact tab_ret rfl h1 h2 h3 h4 h5)) ?_
  clear hf a
  intro ht a hf
  replace htot := htot.trans (pick_no ht)
  clear ht
  refine row_step hf (by decide) (by decide) HZ (fun ht a' w2 h1 h2 h3 h4 h5 => (by rw [htot.trans (pick_yes ht)]; exact tab_ret rfl h1 h2 h3 h4 h5)) ?_
  clear hf a
  intro ht a hf
  replace htot := htot.trans (pick_no ht)
  clear ht
  refine row_step hf (by decide) (by decide) HZ (fun ht a' w2 h1 h2 h3 h4 h5 => (by rw [htot.trans (pick_yes ht)]; exact tab_ret rfl h1 h2 h3 h4 h5)) ?_
  clear hf a
  intro ht a hf
  replace htot := htot.trans (pick_no ht)
  clear ht
  refine row_step hf (by decide) (by decide) HZ (fun ht a' w2 h1 h2 h3 h4 h5 => (by rw [htot.trans (pick_yes ht)]; exact tab_ret rfl h1 h2 h3 h4 h5)) ?_
  clear hf a
  intro ht a hf
  replace htot := htot.trans (pick_no ht)
  clear ht
  refine row_step hf (by decide) (by decide) HZ (fun ht a' w2 h1 h2 h3 h4 h5 => (by rw [htot.trans (pick_yes ht)]; exact tab_ret rfl h1 h2 h3 h4 h5)) ?_
  clear hf a
  intro ht a hf
  replace htot := htot.trans (pick_no ht)
  clear ht
  refine row_step hf (by decide) (by decide) HZ (fun ht a' w2 h1 h2 h3 h4 h5 => (by rw [htot.trans (pick_yes ht)]; exact tab_ret rfl h1 h2 h3 h4 h5)) ?_
  clear hf a
  intro ht a hf
  replace htot := htot.trans (pick_no ht)
  clear ht
  refine end_step hf (by decide) (by decide) HZ (fun a' w2 h1 h2 h3 h4 h5 => ?_)
  rw [htot]
  exact tab_ret (x := (restS, false)) rfl h1 h2 h3 h4 h5

set_option maxRecDepth 100000 in
set_option maxHeartbeats 1000000 in
theorem rtab10_any (r : Int) (w : World) : Calls Tryd.prog 61 #[.int .i32 r] w (RetPick w (pick ref10 r)) := by
  have HZ := heap_alloc_new w (.cells (propV 0 0 0 0 0 0 0 0 false) 31)
  obtain ⟨tot, htot⟩ : ∃ z, z = pick ref10 r := ⟨_, rfl⟩
  rw [← htot]
  unfold ref10 at htot
  go_enter Tryd.func61, Tryd.ntmps61
  refine start_step (N := 131) rfl rfl rfl (by decide) ?_
  intro a hf
  refine row_step hf (by decide) (by decide) HZ (fun ht a' w2 h1 h2 h3 h4 h5 => (by rw [htot.trans (pick_yes ht)]; exact tab_ret rfl h1 h2 h3 h4 h5)) ?_
  clear hf a
  intro ht a hf
  replace htot := htot.trans (pick_no ht)
  clear ht
  refine row_step hf (by decide) (by decide) HZ (fun ht a' w2 h1 h2 h3 h4 h5 => (by rw [htot.trans (pick_yes ht)]; exact tab_ret rfl h1 h2 h3 h4 h5)) ?_
  clear hf a
  intro ht a hf
  replace htot := htot.trans (pick_no ht)
  clear ht
  refine row_step hf (by decide) (by decide) HZ (fun ht a' w2 h1 h2 h3 h4 h5 => (by rw [htot.trans (pick_yes ht)]; exact tab_ret rfl h1 h2 h3 h4 h5)) ?_
  clear hf a
  intro ht a hf
  replace htot := htot.trans (pick_no ht)
  clear ht
  refine row_step hf (by decide) (by decide) HZ (fun ht a' w2 h1 h2 h3 h4 h5 => (by rw [htot.trans (pick_yes ht)]; exact tab_ret rfl h1 h2 h3 h4 h5)) ?_
  clear hf a
  intro ht a hf
  replace htot := htot.trans (pick_no ht)
  clear ht
  refine row_step hf (by decide) (by decide) HZ (fun ht a' w2 h1 h2 h3 h4 h5 => (by rw [htot.trans (pick_yes ht)]; exact tab_ret rfl h1 h2 h3 h4 h5)) ?_
  clear hf a
  intro ht a hf
  replace htot := htot.trans (pick_no ht)
  clear ht
  refine row_step hf (by decide) (by decide) HZ (fun ht a' w2 h1 h2 h3 h4 h5 => (by rw [htot.trans (pick_yes ht)]; exact tab_ret rfl h1 h2 h3 h4 h5)) ?_
  clear hf a
  intro ht a hf
  replace htot := htot.trans (pick_no ht)
  clear ht
  refine row_step hf (by decide) (by decide) HZ (fun ht a' w2 h1 h2 h3 h4 h5 => (by rw [htot.trans (pick_yes ht)]; exact tab_ret rfl h1 h2 h3 h4 h5)) ?_
  clear hf a
  intro ht a hf
  replace htot := htot.trans (pick_no ht)
  clear ht
  refine row_step hf (by decide) (by decide) HZ (fun ht a' w2 h1 h2 h3 h4 h5 => (by rw [htot.trans (pick_yes ht)]; exact tab_ret rfl h1 h2 h3 h4 h5)) ?_
  clear hf a
  intro ht a hf
  replace htot := htot.trans (pick_no ht)
  clear ht
  refine row_step hf (by decide) (by decide) HZ (fun ht a' w2 h1 h2 h3 h4 h5 => (by rw [htot.trans (pick_yes ht)]; exact tab_ret rfl h1 h2 h3 h4 h5)) ?_
  clear hf a
  intro ht a hf
  replace htot := htot.trans (pick_no ht)
  clear ht
  refine row_step hf (by decide) (by decide) HZ (fun ht a' w2 h1 h2 h3 h4 h5 => (by rw [htot.trans (pick_yes ht)]; exact tab_ret rfl h1 h2 h3 h4 h5)) ?_
  clear hf a
  intro ht a hf
  replace htot := htot.trans (pick_no ht)
  clear ht
  refine row_step hf (by decide) (by decide) HZ (fun ht a' w2 h1 h2 h3 h4 h5 => (by rw [htot.trans (pick_yes ht)]; exact tab_ret rfl h1 h2 h3 h4 h5)) ?_
  clear hf a
  intro ht a hf
  replace htot := htot.trans (pick_no ht)
  clear ht
  refine row_step hf (by decide) (by decide) HZ (fun ht a' w2 h1 h2 h3 h4 h5 => (by rw [htot.trans (pick_yes ht)]; exact tab_ret rfl h1 h2 h3 h4 h5)) ?_
  clear hf a
  intro ht a hf
  replace htot := htot.trans (pick_no ht)
  clear ht
  refine row_step hf (by decide) (by decide) HZ (fun ht a' w2 h1 h2 h3 h4 h5 => (by rw [htot.trans (pick_yes ht)]; exact tab_ret rfl h1 h2 h3 h4 h5)) ?_
  clear hf a
  intro ht a hf
  replace htot := htot.trans (pick_no ht)
  clear ht
  refine row_step hf (by decide) (by decide) HZ (fun ht a' w2 h1 h2 h3 h4 h5 => (by rw [htot.trans (pick_yes ht)]; exact tab_ret rfl h1 h2 h3 h4 h5)) ?_
  clear hf a
  intro ht a hf
  replace htot := htot.trans (pick_no ht)
  clear ht
  refine row_step hf (by decide) (by decide) HZ (fun ht a' w2 h1 h2 h3 h4 h5 => (by rw [htot.trans (pick_yes ht)]; exact tab_ret rfl h1 h2 h3 h4 h5)) ?_
  clear hf a
  intro ht a hf
  replace htot := htot.trans (pick_no ht)
  clear ht
  refine row_step hf (by decide) (by decide) HZ (fun ht a' w2 h1 h2 h3 h4 h5 => (by rw [htot.trans (pick_yes ht)]; exact tab_ret rfl h1 h2 h3 h4 h5)) ?_
  clear hf a
  intro ht a hf
  replace htot := htot.trans (pick_no ht)
  clear ht
  refine row_step hf (by decide) (by decide) HZ (fun ht a' w2 h1 h2 h3 h4 h5 => (by rw [htot.trans (pick_yes ht)]; exact tab_ret rfl h1 h2 h3 h4 h5)) ?_
  clear hf a
  intro ht a hf
  replace htot := htot.trans (pick_no ht)
  clear ht
  refine row_step hf (by decide) (by decide) HZ (fun ht a' w2 h1 h2 h3 h4 h5 => (by rw [htot.trans (pick_yes ht)]; exact tab_ret rfl h1 h2 h3 h4 h5)) ?_
  clear hf a
  intro ht a hf
  replace htot := htot.trans (pick_no ht)
  clear ht
  refine end_step hf (by decide) (by decide) HZ (fun a' w2 h1 h2 h3 h4 h5 => ?_)
  rw [htot]
  exact tab_ret (x := (restS, false)) rfl h1 h2 h3 h4 h5

set_option maxRecDepth 100000 in
set_option maxHeartbeats 1000000 in
theorem rtab11_any (r : Int) (w : World) : Calls Tryd.prog 62 #[.int .i32 r] w (RetPick w (pick ref11 r)) := by
  have HZ := heap_alloc_new w (.cells (propV 0 0 0 0 0 0 0 0 false) 31)
  obtain ⟨tot, htot⟩ : ∃ z, z = pick ref11 r := ⟨_, rfl⟩
  rw [← htot]
  unfold ref11 at htot
  go_enter Tryd.func62, Tryd.ntmps62
  refine start_step (N := 131) rfl rfl rfl (by decide) ?_
  intro a hf
  refine row_step hf (by decide) (by decide) HZ (fun ht a' w2 h1 h2 h3 h4 h5 => (by rw [htot.trans (pick_yes ht)]; exact tab_ret rfl h1 h2 h3 h4 h5)) ?_
  clear hf a
  intro ht a hf
  replace htot := htot.trans (pick_no ht)
  clear ht
  refine row_step hf (by decide) (by decide) HZ (fun ht a' w2 h1 h2 h3 h4 h5 => (by rw [htot.trans (pick_yes ht)]; exact tab_ret rfl h1 h2 h3 h4 h5)) ?_
  clear hf a
  intro ht a hf
  replace htot := htot.trans (pick_no ht)
  clear ht
  refine row_step hf (by decide) (by decide) HZ (fun ht a' w2 h1 h2 h3 h4 h5 => (by rw [htot.trans (pick_yes ht)]; exact tab_ret rfl h1 h2 h3 h4 h5)) ?_
  clear hf a
  intro ht a hf
  replace htot := htot.trans (pick_no ht)
  clear ht
  refine row_step hf (by decide) (by decide) HZ (fun ht a' w2 h1 h2 h3 h4 h5 => (by rw [htot.trans (pick_yes ht)]; exact tab_ret rfl h1 h2 h3 h4 h5)) ?_
  clear hf a
  intro ht a hf
  replace htot := htot.trans (pick_no ht)
  clear ht
  refine row_step hf (by decide) (by decide) HZ (fun ht a' w2 h1 h2 h3 h4 h5 => (by rw [htot.trans (pick_yes ht)]; exact tab_ret rfl h1 h2 h3 h4 h5)) ?_
  clear hf a
  intro ht a hf
  replace htot := htot.trans (pick_no ht)
  clear ht
  refine row_step hf (by decide) (by decide) HZ (fun ht a' w2 h1 h2 h3 h4 h5 => (by rw [htot.trans (pick_yes ht)]; exact tab_ret rfl h1 h2 h3 h4 h5)) ?_
  clear hf a
  intro ht a hf
  replace htot := htot.trans (pick_no ht)
  clear ht
  refine row_step hf (by decide) (by decide) HZ (fun ht a' w2 h1 h2 h3 h4 h5 => (by rw [htot.trans (pick_yes ht)]; exact tab_ret rfl h1 h2 h3 h4 h5)) ?_
  clear hf a
  intro ht a hf
  replace htot := htot.trans (pick_no ht)
  clear ht
  refine row_step hf (by decide) (by decide) HZ (fun ht a' w2 h1 h2 h3 h4 h5 => (by rw [htot.trans (pick_yes ht)]; exact tab_ret rfl h1 h2 h3 h4 h5)) ?_
  clear hf a
  intro ht a hf
  replace htot := htot.trans (pick_no ht)
  clear ht
  refine row_step hf (by decide) (by decide) HZ (fun ht a' w2 h1 h2 h3 h4 h5 => (by rw [htot.trans (pick_yes ht)]; exact tab_ret rfl h1 h2 h3 h4 h5)) ?_
  clear hf a
  intro ht a hf
  replace htot := htot.trans (pick_no ht)
  clear ht
  refine row_step hf (by decide) (by decide) HZ (fun ht a' w2 h1 h2 h3 h4 h5 => (by rw [htot.trans (pick_yes ht)]; exact tab_ret rfl h1 h2 h3 h4 h5)) ?_
  clear hf a
  intro ht a hf
  replace htot := htot.trans (pick_no ht)
  clear ht
  refine row_step hf (by decide) (by decide) HZ (fun ht a' w2 h1 h2 h3 h4 h5 => (by rw [htot.trans (pick_yes ht)]; exact tab_ret rfl h1 h2 h3 h4 h5)) ?_
  clear hf a
  intro ht a hf
  replace htot := htot.trans (pick_no ht)
  clear ht
  refine row_step hf (by decide) (by decide) HZ (fun ht a' w2 h1 h2 h3 h4 h5 => (by rw [htot.trans (pick_yes ht)]; exact tab_ret rfl h1 h2 h3 h4 h5)) ?_
  clear hf a
  intro ht a hf
  replace htot := htot.trans (pick_no ht)
  clear ht
  refine row_step hf (by decide) (by decide) HZ (fun ht a' w2 h1 h2 h3 h4 h5 => (by rw [htot.trans (pick_yes ht)]; exact tab_ret rfl h1 h2 h3 h4 h5)) ?_
  clear hf a
  intro ht a hf
  replace htot := htot.trans (pick_no ht)
  clear ht
  refine row_step hf (by decide) (by decide) HZ (fun ht a' w2 h1 h2 h3 h4 h5 => (by rw [htot.trans (pick_yes ht)]; exact tab_ret rfl h1 h2 h3 h4 h5)) ?_
  clear hf a
  intro ht a hf
  replace htot := htot.trans (pick_no ht)
  clear ht
  refine row_step hf (by decide) (by decide) HZ (fun ht a' w2 h1 h2 h3 h4 h5 => (by rw [htot.trans (pick_yes ht)]; exact tab_ret rfl h1 h2 h3 h4 h5)) ?_
  clear hf a
  intro ht a hf
  replace htot := htot.trans (pick_no ht)
  clear ht
  refine row_step hf (by decide) (by decide) HZ (fun ht a' w2 h1 h2 h3 h4 h5 => (by rw [htot.trans (pick_yes ht)]; exact tab_ret rfl h1 h2 h3 h4 h5)) ?_
  clear hf a
  intro ht a hf
  replace htot := htot.trans (pick_no ht)
  clear ht
  refine row_step hf (by decide) (by decide) HZ (fun ht a' w2 h1 h2 h3 h4 h5 => (by rw [htot.trans (pick_yes ht)]; exact tab_ret rfl h1 h2 h3 h4 h5)) ?_
  clear hf a
  intro ht a hf
  replace htot := htot.trans (pick_no ht)
  clear ht
  refine row_step hf (by decide) (by decide) HZ (fun ht a' w2 h1 h2 h3 h4 h5 => (by rw [htot.trans (pick_yes ht)]; exact tab_ret rfl h1 h2 h3 h4 h5)) ?_
  clear hf a
  intro ht a hf
  replace htot := htot.trans (pick_no ht)
  clear ht
  refine end_step hf (by decide) (by decide) HZ (fun a' w2 h1 h2 h3 h4 h5 => ?_)
  rw [htot]
  exact tab_ret (x := (restS, false)) rfl h1 h2 h3 h4 h5

set_option maxRecDepth 100000 in
set_option maxHeartbeats 1000000 in
theorem rtab12_any (r : Int) (w : World) : Calls Tryd.prog 63 #[.int .i32 r] w (RetPick w (pick ref12 r)) := by
  have HZ := heap_alloc_new w (.cells (propV 0 0 0 0 0 0 0 0 false) 31)
  obtain ⟨tot, htot⟩ : ∃ z, z = pick ref12 r := ⟨_, rfl⟩
  rw [← htot]
  unfold ref12 at htot
  go_enter Tryd.func63, Tryd.ntmps63
  refine start_step (N := 131) rfl rfl rfl (by decide) ?_
  intro a hf
  refine row_step hf (by decide) (by decide) HZ (fun ht a' w2 h1 h2 h3 h4 h5 => (by rw [htot.trans (pick_yes ht)]; exact tab_ret rfl h1 h2 h3 h4 h5)) ?_
  clear hf a
  intro ht a hf
  replace htot := htot.trans (pick_no ht)
  clear ht
  refine row_step hf (by decide) (by decide) HZ (fun ht a' w2 h1 h2 h3 h4 h5 => (by rw [htot.trans (pick_yes ht)]; exact tab_ret rfl h1 h2 h3 h4 h5)) ?_
  clear hf a
  intro ht a hf
  replace htot := htot.trans (pick_no ht)
  clear ht
  refine row_step hf (by decide) (by decide) HZ (fun ht a' w2 h1 h2 h3 h4 h5 => (by rw [htot.trans (pick_yes ht)]; exact tab_ret rfl h1 h2 h3 h4 h5)) ?_
  clear hf a
  intro ht a hf
  replace htot := htot.trans (pick_no ht)
  clear ht
  refine row_step hf (by decide) (by decide) HZ (fun ht a' w2 h1 h2 h3 h4 h5 => (by rw [htot.trans (pick_yes ht)]; exact tab_ret rfl h1 h2 h3 h4 h5)) ?_
  clear hf a
  intro ht a hf
  replace htot := htot.trans (pick_no ht)
  clear ht
  refine row_step hf (by decide) (by decide) HZ (fun ht a' w2 h1 h2 h3 h4 h5 => (by rw [htot.trans (pick_yes ht)]; exact tab_ret rfl h1 h2 h3 h4 h5)) ?_
  clear hf a
  intro ht a hf
  replace htot := htot.trans (pick_no ht)
  clear ht
  refine row_step hf (by decide) (by decide) HZ (fun ht a' w2 h1 h2 h3 h4 h5 => (by rw [htot.trans (pick_yes ht)]; exact tab_ret rfl h1 h2 h3 h4 h5)) ?_
  clear hf a
  intro ht a hf
  replace htot := htot.trans (pick_no ht)
  clear ht
  refine row_step hf (by decide) (by decide) HZ (fun ht a' w2 h1 h2 h3 h4 h5 => (by rw [htot.trans (pick_yes ht)]; exact tab_ret rfl h1 h2 h3 h4 h5)) ?_
  clear hf a
  intro ht a hf
  replace htot := htot.trans (pick_no ht)
  clear ht
  refine row_step hf (by decide) (by decide) HZ (fun ht a' w2 h1 h2 h3 h4 h5 => (by rw [htot.trans (pick_yes ht)]; exact tab_ret rfl h1 h2 h3 h4 h5)) ?_
  clear hf a
  intro ht a hf
  replace htot := htot.trans (pick_no ht)
  clear ht
  refine row_step hf (by decide) (by decide) HZ (fun ht a' w2 h1 h2 h3 h4 h5 => (by rw [htot.trans (pick_yes ht)]; exact tab_ret rfl h1 h2 h3 h4 h5)) ?_
  clear hf a
  intro ht a hf
  replace htot := htot.trans (pick_no ht)
  clear ht
  refine row_step hf (by decide) (by decide) HZ (fun ht a' w2 h1 h2 h3 h4 h5 => (by rw [htot.trans (pick_yes ht)]; exact tab_ret rfl h1 h2 h3 h4 h5)) ?_
  clear hf a
  intro ht a hf
  replace htot := htot.trans (pick_no ht)
  clear ht
  refine row_step hf (by decide) (by decide) HZ (fun ht a' w2 h1 h2 h3 h4 h5 => (by rw [htot.trans (pick_yes ht)]; exact tab_ret rfl h1 h2 h3 h4 h5)) ?_
  clear hf a
  intro ht a hf
  replace htot := htot.trans (pick_no ht)
  clear ht
  refine row_step hf (by decide) (by decide) HZ (fun ht a' w2 h1 h2 h3 h4 h5 => (by rw [htot.trans (pick_yes ht)]; exact tab_ret rfl h1 h2 h3 h4 h5)) ?_
  clear hf a
  intro ht a hf
  replace htot := htot.trans (pick_no ht)
  clear ht
  refine row_step hf (by decide) (by decide) HZ (fun ht a' w2 h1 h2 h3 h4 h5 => (by rw [htot.trans (pick_yes ht)]; exact tab_ret rfl h1 h2 h3 h4 h5)) ?_
  clear hf a
  intro ht a hf
  replace htot := htot.trans (pick_no ht)
  clear ht
  refine row_step hf (by decide) (by decide) HZ (fun ht a' w2 h1 h2 h3 h4 h5 => (by rw [htot.trans (pick_yes ht)]; exact tab_ret rfl h1 h2 h3 h4 h5)) ?_
  clear hf a
  intro ht a hf
  replace htot := htot.trans (pick_no ht)
  clear ht
  refine row_step hf (by decide) (by decide) HZ (fun ht a' w2 h1 h2 h3 h4 h5 => (by rw [htot.trans (pick_yes ht)]; exact tab_ret rfl h1 h2 h3 h4 h5)) ?_
  clear hf a
  intro ht a hf
  replace htot := htot.trans (pick_no ht)
  clear ht
  refine row_step hf (by decide) (by decide) HZ (fun ht a' w2 h1 h2 h3 h4 h5 => (by rw [htot.trans (pick_yes ht)]; exact tab_ret rfl h1 h2 h3 h4 h5)) ?_
  clear hf a
  intro ht a hf
  replace htot := htot.trans (pick_no ht)
  clear ht
  refine row_step hf (by decide) (by decide) HZ (fun ht a' w2 h1 h2 h3 h4 h5 => (by rw [htot.trans (pick_yes ht)]; exact tab_ret rfl h1 h2 h3 h4 h5)) ?_
  clear hf a
  intro ht a hf
  replace htot := htot.trans (pick_no ht)
  clear ht
  refine row_step hf (by decide) (by decide) HZ (fun ht a' w2 h1 h2 h3 h4 h5 => (by rw [htot.trans (pick_yes ht)]; exact tab_ret rfl h1 h2 h3 h4 h5)) ?_
  clear hf a
  intro ht a hf
  replace htot := htot.trans (pick_no ht)
  clear ht
  refine end_step hf (by decide) (by decide) HZ (fun a' w2 h1 h2 h3 h4 h5 => ?_)
  rw [htot]
  exact tab_ret (x := (restS, false)) rfl h1 h2 h3 h4 h5

set_option maxRecDepth 100000 in
set_option maxHeartbeats 1000000 in
theorem rtab13_any (r : Int) (w : World) : Calls Tryd.prog 64 #[.int .i32 r] w (RetPick w (pick ref13 r)) := by
  have HZ := heap_alloc_new w (.cells (propV 0 0 0 0 0 0 0 0 false) 31)
  obtain ⟨tot, htot⟩ : ∃ z, z = pick ref13 r := ⟨_, rfl⟩
  rw [← htot]
  unfold ref13 at htot
  go_enter Tryd.func64, Tryd.ntmps64
  refine start_step (N := 131) rfl rfl rfl (by decide) ?_
  intro a hf
  refine row_step hf (by decide) (by decide) HZ (fun ht a' w2 h1 h2 h3 h4 h5 => (by rw [htot.trans (pick_yes ht)]; exact tab_ret rfl h1 h2 h3 h4 h5)) ?_
  clear hf a
  intro ht a hf
  replace htot := htot.trans (pick_no ht)
  clear ht
  refine row_step hf (by decide) (by decide) HZ (fun ht a' w2 h1 h2 h3 h4 h5 => (by rw [htot.trans (pick_yes ht)]; exact tab_ret rfl h1 h2 h3 h4 h5)) ?_
  clear hf a
  intro ht a hf
  replace htot := htot.trans (pick_no ht)
  clear ht
  refine row_step hf (by decide) (by decide) HZ (fun ht a' w2 h1 h2 h3 h4 h5 => (by rw [htot.trans (pick_yes ht)]; exact tab_ret rfl h1 h2 h3 h4 h5)) ?_
  clear hf a
  intro ht a hf
  replace htot := htot.trans (pick_no ht)
  clear ht
  refine row_step hf (by decide) (by decide) HZ (fun ht a' w2 h1 h2 h3 h4 h5 => (by rw [htot.trans (pick_yes ht)]; exact tab_ret rfl h1 h2 h3 h4 h5)) ?_
  clear hf a
  intro ht a hf
  replace htot := htot.trans (pick_no ht)
  clear ht
  refine row_step hf (by decide) (by decide) HZ (fun ht a' w2 h1 h2 h3 h4 h5 => (by rw [htot.trans (pick_yes ht)]; exact tab_ret rfl h1 h2 h3 h4 h5)) ?_
  clear hf a
  intro ht a hf
  replace htot := htot.trans (pick_no ht)
  clear ht
  refine row_step hf (by decide) (by decide) HZ (fun ht a' w2 h1 h2 h3 h4 h5 => (by rw [htot.trans (pick_yes ht)]; exact tab_ret rfl h1 h2 h3 h4 h5)) ?_
  clear hf a
  intro ht a hf
  replace htot := htot.trans (pick_no ht)
  clear ht
  refine row_step hf (by decide) (by decide) HZ (fun ht a' w2 h1 h2 h3 h4 h5 => (by rw [htot.trans (pick_yes ht)]; exact tab_ret rfl h1 h2 h3 h4 h5)) ?_
  clear hf a
  intro ht a hf
  replace htot := htot.trans (pick_no ht)
  clear ht
  refine row_step hf (by decide) (by decide) HZ (fun ht a' w2 h1 h2 h3 h4 h5 => (by rw [htot.trans (pick_yes ht)]; exact tab_ret rfl h1 h2 h3 h4 h5)) ?_
  clear hf a
  intro ht a hf
  replace htot := htot.trans (pick_no ht)
  clear ht
  refine row_step hf (by decide) (by decide) HZ (fun ht a' w2 h1 h2 h3 h4 h5 => (by rw [htot.trans (pick_yes ht)]; exact tab_ret rfl h1 h2 h3 h4 h5)) ?_
  clear hf a
  intro ht a hf
  replace htot := htot.trans (pick_no ht)
  clear ht
  refine row_step hf (by decide) (by decide) HZ (fun ht a' w2 h1 h2 h3 h4 h5 => (by rw [htot.trans (pick_yes ht)]; exact tab_ret rfl h1 h2 h3 h4 h5)) ?_
  clear hf a
  intro ht a hf
  replace htot := htot.trans (pick_no ht)
  clear ht
  refine row_step hf (by decide) (by decide) HZ (fun ht a' w2 h1 h2 h3 h4 h5 => (by rw [htot.trans (pick_yes ht)]; exact tab_ret rfl h1 h2 h3 h4 h5)) ?_
  clear hf a
  intro ht a hf
  replace htot := htot.trans (pick_no ht)
  clear ht
  refine row_step hf (by decide) (by decide) HZ (fun ht a' w2 h1 h2 h3 h4 h5 => (by rw [htot.trans (pick_yes ht)]; exact tab_ret rfl h1 h2 h3 h4 h5)) ?_
  clear hf a
  intro ht a hf
  replace htot := htot.trans (pick_no ht)
  clear ht
  refine row_step hf (by decide) (by decide) HZ (fun ht a' w2 h1 h2 h3 h4 h5 => (by rw [htot.trans (pick_yes ht)]; exact tab_ret rfl h1 h2 h3 h4 h5)) ?_
  clear hf a
  intro ht a hf
  replace htot := htot.trans (pick_no ht)
  clear ht
  refine row_step hf (by decide) (by decide) HZ (fun ht a' w2 h1 h2 h3 h4 h5 => (by rw [htot.trans (pick_yes ht)]; exact tab_ret rfl h1 h2 h3 h4 h5)) ?_
  clear hf a
  intro ht a hf
  replace htot := htot.trans (pick_no ht)
  clear ht
  refine row_step hf (by decide) (by decide) HZ (fun ht a' w2 h1 h2 h3 h4 h5 => (by rw [htot.trans (pick_yes ht)]; exact tab_ret rfl h1 h2 h3 h4 h5)) ?_
  clear hf a
  intro ht a hf
  replace htot := htot.trans (pick_no ht)
  clear ht
  refine row_step hf (by decide) (by decide) HZ (fun ht a' w2 h1 h2 h3 h4 h5 => (by rw [htot.trans (pick_yes ht)]; exact tab_ret rfl h1 h2 h3 h4 h5)) ?_
  clear hf a
  intro ht a hf
  replace htot := htot.trans (pick_no ht)
  clear ht
  refine row_step hf (by decide) (by decide) HZ (fun ht a' w2 h1 h2 h3 h4 h5 => (by rw [htot.trans (pick_yes ht)]; exact tab_ret rfl h1 h2 h3 h4 h5)) ?_
  clear hf a
  intro ht a hf
  replace htot := htot.trans (pick_no ht)
  clear ht
  refine row_step hf (by decide) (by decide) HZ (fun ht a' w2 h1 h2 h3 h4 h5 => (by rw [htot.trans (pick_yes ht)]; exact tab_ret rfl h1 h2 h3 h4 h5)) ?_
  clear hf a
  intro ht a hf
  replace htot := htot.trans (pick_no ht)
  clear ht
  refine end_step hf (by decide) (by decide) HZ (fun a' w2 h1 h2 h3 h4 h5 => ?_)
  rw [htot]
  exact tab_ret (x := (restS, false)) rfl h1 h2 h3 h4 h5

set_option maxRecDepth 100000 in
set_option maxHeartbeats 1000000 in
theorem rtab14_any (r : Int) (w : World) : Calls Tryd.prog 65 #[.int .i32 r] w (RetPick w (pick ref14 r)) := by
  have HZ := heap_alloc_new w (.cells (propV 0 0 0 0 0 0 0 0 false) 31)
  obtain ⟨tot, htot⟩ : ∃ z, z = pick ref14 r := ⟨_, rfl⟩
  rw [← htot]
  unfold ref14 at htot
  go_enter Tryd.func65, Tryd.ntmps65
  refine start_step (N := 61) rfl rfl rfl (by decide) ?_
  intro a hf
  refine row_step hf (by decide) (by decide) HZ (fun ht a' w2 h1 h2 h3 h4 h5 => (by rw [htot.trans (pick_yes ht)]; exact tab_ret rfl h1 h2 h3 h4 h5)) ?_
  clear hf a
  intro ht a hf
  replace htot := htot.trans (pick_no ht)
  clear ht
  refine row_step hf (by decide) (by decide) HZ (fun ht a' w2 h1 h2 h3 h4 h5 => (by rw [htot.trans (pick_yes ht)]; exact tab_ret rfl h1 h2 h3 h4 h5)) ?_
  clear hf a
  intro ht a hf
  replace htot := htot.trans (pick_no ht)
  clear ht
  refine row_step hf (by decide) (by decide) HZ (fun ht a' w2 h1 h2 h3 h4 h5 => (by rw [htot.trans (pick_yes ht)]; exact tab_ret rfl h1 h2 h3 h4 h5)) ?_
  clear hf a
  intro ht a hf
  replace htot := htot.trans (pick_no ht)
  clear ht
  refine row_step hf (by decide) (by decide) HZ (fun ht a' w2 h1 h2 h3 h4 h5 => (by rw [htot.trans (pick_yes ht)]; exact tab_ret rfl h1 h2 h3 h4 h5)) ?_
  clear hf a
  intro ht a hf
  replace htot := htot.trans (pick_no ht)
  clear ht
  refine row_step hf (by decide) (by decide) HZ (fun ht a' w2 h1 h2 h3 h4 h5 => (by rw [htot.trans (pick_yes ht)]; exact tab_ret rfl h1 h2 h3 h4 h5)) ?_
  clear hf a
  intro ht a hf
  replace htot := htot.trans (pick_no ht)
  clear ht
  refine row_step hf (by decide) (by decide) HZ (fun ht a' w2 h1 h2 h3 h4 h5 => (by rw [htot.trans (pick_yes ht)]; exact tab_ret rfl h1 h2 h3 h4 h5)) ?_
  clear hf a
  intro ht a hf
  replace htot := htot.trans (pick_no ht)
  clear ht
  refine row_step hf (by decide) (by decide) HZ (fun ht a' w2 h1 h2 h3 h4 h5 => (by rw [htot.trans (pick_yes ht)]; exact tab_ret rfl h1 h2 h3 h4 h5)) ?_
  clear hf a
  intro ht a hf
  replace htot := htot.trans (pick_no ht)
  clear ht
  refine row_step hf (by decide) (by decide) HZ (fun ht a' w2 h1 h2 h3 h4 h5 => (by rw [htot.trans (pick_yes ht)]; exact tab_ret rfl h1 h2 h3 h4 h5)) ?_
  clear hf a
  intro ht a hf
  replace htot := htot.trans (pick_no ht)
  clear ht
  refine end_step hf (by decide) (by decide) HZ (fun a' w2 h1 h2 h3 h4 h5 => ?_)
  rw [htot]
  exact tab_ret (x := (restS, false)) rfl h1 h2 h3 h4 h5

end Go.Proofs.YtbpaogmnaodcaaaDoor
