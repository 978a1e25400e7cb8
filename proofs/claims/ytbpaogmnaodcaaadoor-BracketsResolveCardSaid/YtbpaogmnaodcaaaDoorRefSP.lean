/- The reference's sort by insertion, plain: what it leaves is an arrangement by the first places. No program in sight. No condition. -/
namespace Go.Proofs.YtbpaogmnaodcaaaDoor

/-- a row of a list that runs backwards -/
def insR : List (Int × Int) → Int × Int → List (Int × Int)
  | [], x => [x]
  | y :: ys, x => if x.1 < y.1 then y :: insR ys x else x :: y :: ys
theorem insR_perm : ∀ (ys : List (Int × Int)) (x : Int × Int), (insR ys x).Perm (x :: ys)
  | [], _ => List.Perm.refl _
  | y :: ys, x => by
    rw [insR]
    split
    · exact ((insR_perm ys x).cons y).trans (List.Perm.swap x y ys)
    · exact List.Perm.refl _
theorem insR_sorted : ∀ (ys : List (Int × Int)) (x : Int × Int), ys.Pairwise (fun a b => b.1 ≤ a.1) → (insR ys x).Pairwise (fun a b => b.1 ≤ a.1)
  | [], _, _ => by simp [insR]
  | y :: ys, x, h => by
    obtain ⟨h1, h2⟩ := List.pairwise_cons.1 h
    rw [insR]
    split
    · rename_i hlt
      refine List.pairwise_cons.2 ⟨fun z hz => ?_, insR_sorted ys x h2⟩
      rcases List.mem_cons.1 ((insR_perm ys x).mem_iff.1 hz) with rfl | hz
      · omega
      · exact h1 z hz
    · rename_i hge
      refine List.pairwise_cons.2 ⟨fun z hz => ?_, h⟩
      rcases List.mem_cons.1 hz with rfl | hz
      · omega
      · have := h1 z hz; omega
/-- one more row is put where it belongs -/
theorem ins_step {l m pre : List (Int × Int)} {x : Int × Int} {zs : List (Int × Int)} (hp : (pre ++ x :: zs).Perm l) (hs : pre.Pairwise (fun a b => a.1 ≤ b.1)) (hm : m = (insR pre.reverse x).reverse) :
    (m ++ zs).Perm l ∧ m.Pairwise (fun a b => a.1 ≤ b.1) ∧ m.length = pre.length + 1 := by
  subst hm
  have h1 := insR_perm pre.reverse x
  refine ⟨?_, ?_, by simpa using h1.length_eq⟩
  · refine List.Perm.trans ?_ hp
    have h2 : (insR pre.reverse x).reverse.Perm (x :: pre) := (List.reverse_perm _).trans (h1.trans ((List.reverse_perm pre).cons x))
    refine (h2.append_right zs).trans ?_
    rw [List.cons_append]
    exact List.perm_middle.symm
  · rw [List.pairwise_reverse]
    exact insR_sorted _ _ (List.pairwise_reverse.2 (by simpa using hs))

end Go.Proofs.YtbpaogmnaodcaaaDoor
