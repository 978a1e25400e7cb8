/- The reference's table tells what the program's table tells: the rows are the same, and both ways of looking find the same row. Plain. No condition. -/
import Derived.Test.YtbpaogmnaodcaaaDoorRefO
namespace Go.Proofs.YtbpaogmnaodcaaaDoor

def refA : List Sign := ref0 ++ (ref1 ++ (ref2 ++ (ref3 ++ (ref4 ++ (ref5 ++ (ref6 ++ ref7))))))
def refB : List Sign := ref8 ++ (ref9 ++ (ref10 ++ (ref11 ++ (ref12 ++ (ref13 ++ ref14)))))
theorem pick_append (l m : List Sign) (r : Int) : pick (l ++ m) r = if (pick l r).2 = true then pick l r else pick m r := by
  induction l with
  | nil => rfl
  | cons s l ih =>
    rw [List.cons_append, pick, pick]
    split
    · rfl
    · exact ih
theorem pick_false {l : List Sign} {r : Int} (h : (pick l r).2 = false) : pick l r = (restS, false) := by
  induction l with
  | nil => rfl
  | cons s l ih =>
    rw [pick] at h ⊢
    split at h
    · cases h
    · rename_i h1; rw [if_neg h1]; exact ih h
theorem pick_mem {s : Sign} {r : Int} (h1 : s.fr ≤ r) (h2 : r ≤ s.to) : ∀ (l : List Sign), l.Pairwise (fun a b => a.to < b.fr) → s ∈ l → pick l r = (s, true)
  | [], _, h => by cases h
  | x :: l, hp, h => by
    obtain ⟨hp1, hp2⟩ := List.pairwise_cons.1 hp
    rw [pick]
    rcases List.mem_cons.1 h with rfl | h
    · rw [if_pos ⟨h1, h2⟩]
    · have := hp1 s h
      rw [if_neg (by omega)]
      exact pick_mem h1 h2 l hp2 h
theorem pick_none {r : Int} : ∀ (l : List Sign), (∀ s ∈ l, ¬ (s.fr ≤ r ∧ r ≤ s.to)) → pick l r = (restS, false)
  | [], _ => rfl
  | x :: l, h => by
    rw [pick, if_neg (h x List.mem_cons_self)]
    exact pick_none l fun s hs => h s (List.mem_cons_of_mem _ hs)
theorem all_rows : refA ++ refB = tabs.flatten := by decide +kernel
theorem rows_rise : tabs.flatten.Pairwise (fun a b => a.to < b.fr) := by decide +kernel

def rowAt (k j : Nat) : Sign := (tabs.getD k []).getD j Sign.zero
theorem t1 : ∀ k < 13, ∀ j < 20, (rowAt k j).to ≤ lastsL.getD k 0 := by decide +kernel
theorem t2 : ∀ k < 13, ∀ j < 20, k ≠ 0 → lastsL.getD (k - 1) 0 < (rowAt k j).fr := by decide +kernel
theorem t3 : ∀ k < 13, ∀ j < 20, j ≠ 0 → (rowAt k (j - 1)).to < (rowAt k j).fr := by decide +kernel
theorem t4 : ∀ k < 13, (rowAt k 19).to = lastsL.getD k 0 := by decide +kernel
theorem lasts_at {k : Nat} (hk : k < 13) : lastsL[k]? = some (lastsL.getD k 0) := by
  rw [List.getD_eq_getElem?_getD, List.getElem?_eq_getElem (show k < lastsL.length from hk)]; rfl
theorem tabs_at {k : Nat} (hk : k < 13) : tabs.getD k [] ∈ tabs := by
  have h : k < tabs.length := hk
  rw [List.getD_eq_getElem?_getD, List.getElem?_eq_getElem h]; exact List.getElem_mem h
theorem row_at {k j : Nat} (hk : k < 13) (hj : j < 20) : (tabs.getD k [])[j]? = some (rowAt k j) := by
  have hl := (tabs_ok _ (tabs_at hk)).1
  unfold rowAt
  generalize tabs.getD k [] = c at hl ⊢
  rw [List.getD_eq_getElem?_getD, List.getElem?_eq_getElem (by omega)]; rfl
theorem found_is (r : Int) (h : (found r).2 = true) : (found r).1 ∈ tabs.flatten ∧ (found r).1.fr ≤ r ∧ r ≤ (found r).1.to := by
  unfold found at h ⊢
  by_cases hk : kOf r = 13
  · rw [if_pos hk] at h; cases h
  · rw [if_neg hk] at h ⊢
    have hk' : kOf r < 13 := by have := kOf_le r; omega
    obtain ⟨hc1, hc2⟩ := tabs_ok _ (tabs_at hk')
    have hj : jOf (tabs.getD (kOf r) []) r < 20 := by unfold jOf; omega
    have hr := row_at hk' hj
    have hrow : (tabs.getD (kOf r) []).getD (jOf (tabs.getD (kOf r) []) r) Sign.zero = rowAt (kOf r) (jOf (tabs.getD (kOf r) []) r) := rfl
    rw [hrow] at h ⊢
    refine ⟨?_, by simpa using h, ?_⟩
    · exact List.mem_flatten.2 ⟨_, tabs_at hk', List.mem_of_getElem? hr⟩
    · by_cases hj19 : jOf (tabs.getD (kOf r) []) r < 19
      · have := jOf_iff hc2 r hr hj19
        exact Int.not_lt.1 fun hh => Nat.lt_irrefl _ (this.2 hh)
      · have h19 : jOf (tabs.getD (kOf r) []) r = 19 := by omega
        rw [h19, t4 _ hk']
        have := kOf_iff r (lasts_at hk')
        exact Int.not_lt.1 fun hh => Nat.lt_irrefl _ (this.2 hh)
theorem found_of (r : Int) (s : Sign) (hs : s ∈ tabs.flatten) (h1 : s.fr ≤ r) (h2 : r ≤ s.to) : (found r).2 = true := by
  obtain ⟨c, hc, hsc⟩ := List.mem_flatten.1 hs
  obtain ⟨k, hk, rfl⟩ := List.getElem_of_mem hc
  obtain ⟨j, hj, rfl⟩ := List.getElem_of_mem hsc
  have hk' : k < 13 := hk
  have hl := (tabs_ok _ hc).1
  have hj' : j < 20 := by omega
  have e : tabs[k][j] = rowAt k j := by
    have := row_at hk' hj'
    rw [List.getD_eq_getElem?_getD, List.getElem?_eq_getElem hk] at this
    simp only [Option.getD_some] at this
    rw [List.getElem?_eq_getElem hj] at this
    exact Option.some.inj this
  replace h1 : (rowAt k j).fr ≤ r := by rw [← e]; exact h1
  replace h2 : r ≤ (rowAt k j).to := by rw [← e]; exact h2
  have b1 := t1 k hk' j hj'
  have b2 := t2 k hk' j hj'
  have b3 := t3 k hk' j hj'
  have hkk : kOf r = k := by
    have u := kOf_iff r (lasts_at hk')
    have hle : ¬ k < kOf r := fun hh => by have := u.1 hh; omega
    rcases Nat.eq_zero_or_pos k with h0 | h0
    · omega
    · have v := kOf_iff r (lasts_at (k := k - 1) (by omega))
      have := v.2 (by have := b2 (by omega); omega)
      omega
  obtain ⟨hc1, hc2⟩ := tabs_ok _ (tabs_at hk')
  have hjj : jOf (tabs.getD k []) r = j := by
    have hle : jOf (tabs.getD k []) r ≤ j := by
      by_cases h19 : j < 19
      · have u := jOf_iff hc2 r (row_at hk' hj') h19
        exact Nat.not_lt.1 fun hh => by have := u.1 hh; omega
      · unfold jOf; omega
    rcases Nat.eq_zero_or_pos j with h0 | h0
    · omega
    · have v := jOf_iff hc2 r (row_at hk' (j := j - 1) (by omega)) (by omega)
      have := v.2 (by have := b3 (by omega); omega)
      omega
  unfold found
  rw [hkk, if_neg (by omega), hjj]
  have : (tabs.getD k []).getD j Sign.zero = rowAt k j := rfl
  rw [this]
  simpa using h1
/-- Both ways of looking find the same. -/
theorem pick_found (r : Int) : pick (refA ++ refB) r = if (found r).2 = true then ((found r).1, true) else (restS, false) := by
  rw [all_rows]
  split
  · rename_i h
    obtain ⟨h1, h2, h3⟩ := found_is r h
    exact pick_mem h2 h3 _ rows_rise h1
  · rename_i h
    exact pick_none _ fun s hs hh => h (found_of r s hs hh.1 hh.2)
theorem pick_bi (r : Int) : (pick (refA ++ refB) r).1.bi = biOf r ∧ (pick (refA ++ refB) r).1.pa = paOf r ∧ (pick (refA ++ refB) r).1.op = opOf r := by
  rw [pick_found]
  unfold biOf paOf opOf
  split
  · exact ⟨rfl, rfl, rfl⟩
  · exact ⟨rfl, rfl, rfl⟩

end Go.Proofs.YtbpaogmnaodcaaaDoor
