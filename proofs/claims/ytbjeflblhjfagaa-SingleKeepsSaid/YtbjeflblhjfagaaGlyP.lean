/- The glyphs that a lookup takes, plainly: sorted and compacted, or put in one by one: one list. No condition. -/
import Derived.Test.YtbjeflblhjfagaaSingP
import Derived.Lib.SlicesCompact
namespace Go.Proofs.Ytbjeflblhjfagaa
open Go.RowKit

/-- two rising lists with the same members are one -/
theorem rising_eq : ∀ {l m : List Int}, l.Pairwise (· < ·) → m.Pairwise (· < ·) → (∀ x, x ∈ l ↔ x ∈ m) → l = m
  | [], [], _, _, _ => rfl
  | [], b :: m, _, _, h => by have := (h b).2 (by simp); simp at this
  | a :: l, [], _, _, h => by have := (h a).1 (by simp); simp at this
  | a :: l, b :: m, h1, h2, h => by
    have p1 := List.pairwise_cons.1 h1
    have p2 := List.pairwise_cons.1 h2
    have hab : a = b := by
      have ha := (h a).1 (by simp)
      have hb := (h b).2 (by simp)
      simp only [List.mem_cons] at ha hb
      rcases ha with ha | ha
      · exact ha
      · rcases hb with hb | hb
        · exact hb.symm
        · have q1 := p2.1 a ha
          have q2 := p1.1 b hb
          omega
    subst hab
    have hlm : ∀ x, x ∈ l ↔ x ∈ m := fun x => by
      constructor
      · intro hx
        have q := (h x).1 (List.mem_cons_of_mem _ hx)
        rcases List.mem_cons.1 q with rfl | q
        · have := p1.1 x hx; omega
        · exact q
      · intro hx
        have q := (h x).2 (List.mem_cons_of_mem _ hx)
        rcases List.mem_cons.1 q with rfl | q
        · have := p2.1 x hx; omega
        · exact q
    rw [rising_eq p1.2 p2.2 hlm]

theorem getI (zs : List Int) {j : Nat} (hj : j < zs.length) : zs.toArray[j]! = zs[j] := by
  rw [getElem!_pos _ j (by simpa using hj)]
  simp
theorem compact_mem {zs : List Int} (x : Int) : x ∈ Lib.compact zs ↔ x ∈ zs := by
  unfold Lib.compact Lib.compactUpTo
  simp only [List.mem_map, List.mem_filter, List.mem_range]
  constructor
  · rintro ⟨j, ⟨hj, _⟩, rfl⟩
    rw [getI zs hj]
    exact List.getElem_mem hj
  · intro hx
    obtain ⟨j, hj, hjx⟩ := List.getElem_of_mem hx
    have h : ∀ (j : Nat) (hj : j < zs.length), zs[j] = x → ∃ i, (i < zs.length ∧ Lib.keeps zs.toArray i = true) ∧ zs.toArray[i]! = x := by
      intro j
      induction j with
      | zero => intro hj hx; exact ⟨0, ⟨hj, by simp [Lib.keeps]⟩, by rw [getI zs hj]; exact hx⟩
      | succ j ih =>
        intro hj hx
        by_cases hk : Lib.keeps zs.toArray (j + 1) = true
        · exact ⟨j + 1, ⟨hj, hk⟩, by rw [getI zs hj]; exact hx⟩
        · have hk2 : zs.toArray[j + 1]! = zs.toArray[j]! := by
            simp only [Lib.keeps, decide_eq_true_eq, not_or] at hk
            have := hk.2
            simpa using this
          rw [getI zs hj, getI zs (by omega)] at hk2
          exact ih (by omega) (hk2.symm.trans hx)
    exact h j hj hjx
theorem compact_rising {zs : List Int} (h : zs.Pairwise (· ≤ ·)) : (Lib.compact zs).Pairwise (· < ·) := by
  unfold Lib.compact Lib.compactUpTo
  rw [List.pairwise_map, List.pairwise_filter]
  have hle : ∀ i j (hi : i < zs.length) (hj : j < zs.length), i ≤ j → zs[i] ≤ zs[j] := by
    intro i j hi hj hij
    rcases Nat.lt_or_ge i j with hlt | hge
    · exact (List.pairwise_iff_getElem.1 h) i j hi hj hlt
    · have : i = j := by omega
      subst this
      exact Int.le_refl _
  refine List.Pairwise.imp_of_mem ?_ List.pairwise_lt_range
  intro i j hi hj hij _ hk
  have hjl := List.mem_range.1 hj
  have hil := List.mem_range.1 hi
  simp only [Lib.keeps, decide_eq_true_eq] at hk
  rw [getI zs hil, getI zs hjl]
  rcases hk with hk | hk
  · omega
  · rw [getI zs hjl, getI zs (show j - 1 < zs.length by omega)] at hk
    have h1 := hle i (j - 1) hil (by omega) (by omega)
    have h2 := hle (j - 1) j (by omega) hjl (by omega)
    omega
theorem compact_len (zs : List Int) : (Lib.compact zs).length ≤ zs.length := by
  unfold Lib.compact Lib.compactUpTo
  rw [List.length_map]
  refine Nat.le_trans (List.length_filter_le _ _) ?_
  simp

/-- all covers behind each other -/
def covs (ps : List PS) : List Int := ps.flatMap (·.1)
def sortI (zs : List Int) : List Int := zs.mergeSort fun x y => decide (x ≤ y)
theorem sortI_mem {zs : List Int} (x : Int) : x ∈ sortI zs ↔ x ∈ zs := List.mem_mergeSort
theorem sortI_length (zs : List Int) : (sortI zs).length = zs.length := List.length_mergeSort _
theorem sortI_sorted (zs : List Int) : (sortI zs).Pairwise (· ≤ ·) := by
  have h := List.pairwise_mergeSort (le := fun x y : Int => decide (x ≤ y)) (fun a b c h1 h2 => by simp at *; omega) (fun a b => by simp; omega) zs
  exact h.imp (fun h => by simpa using h)
/-- what Glyphs answers -/
def glyB (p : PL) : List Int := if kiB p.1 then Lib.compact (sortI (covs p.2)) else []
theorem glyB_on {p : PL} (h : kiB p.1 = true) : glyB p = Lib.compact (sortI (covs p.2)) := by unfold glyB; rw [h]; rfl
theorem glyB_off {p : PL} (h : kiB p.1 = false) : glyB p = [] := by unfold glyB; rw [h]; rfl
theorem mem_covs {ps : List PS} {x : Int} : x ∈ covs ps ↔ ∃ j, j < ps.length ∧ x ∈ (ps.getD j nS).1 := by
  unfold covs
  rw [List.mem_flatMap]
  constructor
  · rintro ⟨p, hp, hx⟩
    obtain ⟨j, hj, rfl⟩ := List.getElem_of_mem hp
    exact ⟨j, hj, by rw [List.getD_eq_getElem?_getD, List.getElem?_eq_getElem hj]; exact hx⟩
  · rintro ⟨j, hj, hx⟩
    rw [List.getD_eq_getElem?_getD, List.getElem?_eq_getElem hj] at hx
    exact ⟨_, List.getElem_mem hj, hx⟩
/-- a rising list with the covers' members is the answer -/
theorem glyB_of {p : PL} (h : kiB p.1 = true) {out : List Int} (hr : out.Pairwise (· < ·)) (hm : ∀ x, x ∈ out ↔ ∃ j, j < p.2.length ∧ x ∈ (p.2.getD j nS).1) : glyB p = out := by
  rw [glyB_on h]
  refine rising_eq (compact_rising (sortI_sorted _)) hr (fun x => ?_)
  rw [compact_mem, sortI_mem, mem_covs, hm]

/-- one put in at its place -/
def insG (out : List Int) (k : Nat) (y : Int) : List Int := out.take k ++ y :: out.drop k
theorem insG_back {out : List Int} {j : Nat} (hj : j + 1 ≤ out.length) : insG out (j + 1) (out.getD j 0) = insG out j (out.getD j 0) := by
  unfold insG
  have h1 : out.take (j + 1) = out.take j ++ [out.getD j 0] := (take_succ_getD (by omega)).symm
  have h2 : out.drop j = out.getD j 0 :: out.drop (j + 1) := by
    rw [List.drop_eq_getElem_cons (by omega), List.getD_eq_getElem?_getD, List.getElem?_eq_getElem (by omega)]
    rfl
  rw [h1, h2]
  simp
theorem insG_length {out : List Int} {k : Nat} {y : Int} (hk : k ≤ out.length) : (insG out k y).length = out.length + 1 := by
  unfold insG
  rw [List.length_append, List.length_cons, List.length_take, List.length_drop]
  omega
theorem insG_mem {out : List Int} {k : Nat} {y x : Int} : x ∈ insG out k y ↔ x ∈ out ∨ x = y := by
  unfold insG
  rw [List.mem_append, List.mem_cons]
  conv => rhs; rw [← List.take_append_drop k out]
  rw [List.mem_append]
  constructor
  · rintro (h | h | h)
    · exact .inl (.inl h)
    · exact .inr h
    · exact .inl (.inr h)
  · rintro ((h | h) | h)
    · exact .inl h
    · exact .inr (.inr h)
    · exact .inr (.inl h)
theorem insG_rising {out : List Int} {k : Nat} {y : Int} (h : out.Pairwise (· < ·)) (hk : k ≤ out.length) (hlo : ∀ j, j + 1 = k → out.getD j 0 < y) (hhi : ∀ j, k ≤ j → j < out.length → y < out.getD j 0) : (insG out k y).Pairwise (· < ·) := by
  unfold insG
  have hget : ∀ j (hj : j < out.length), out.getD j 0 = out[j] := fun j hj => by rw [List.getD_eq_getElem?_getD, List.getElem?_eq_getElem hj]; rfl
  have hlt := List.pairwise_iff_getElem.1 h
  have hlow : ∀ a ∈ out.take k, a < y := by
    intro a ha
    obtain ⟨i, hi, rfl⟩ := List.getElem_of_mem ha
    rw [List.length_take] at hi
    rw [List.getElem_take]
    have h1 := hlo (k - 1) (by omega)
    rw [hget (k - 1) (by omega)] at h1
    rcases Nat.lt_or_ge i (k - 1) with hi2 | hi2
    · have := hlt i (k - 1) (by omega) (by omega) hi2
      omega
    · have : i = k - 1 := by omega
      subst this
      exact h1
  have hhigh : ∀ a ∈ out.drop k, y < a := by
    intro a ha
    obtain ⟨i, hi, rfl⟩ := List.getElem_of_mem ha
    rw [List.length_drop] at hi
    rw [List.getElem_drop]
    have h1 := hhi (k + i) (by omega) (by omega)
    rw [hget (k + i) (by omega)] at h1
    exact h1
  have h2 := h
  rw [← List.take_append_drop k out, List.pairwise_append] at h2
  rw [List.pairwise_append, List.pairwise_cons]
  refine ⟨h2.1, ⟨hhigh, h2.2.1⟩, ?_⟩
  intro a ha b hb
  rcases List.mem_cons.1 hb with rfl | hb
  · exact hlow a ha
  · exact h2.2.2 a ha b hb

/-- what has been met -/
def Seen (ps : List PS) (i m : Nat) (x : Int) : Prop := (∃ j, j < i ∧ x ∈ (ps.getD j nS).1) ∨ x ∈ (ps.getD i nS).1.take m
theorem Seen.next {ps : List PS} {i : Nat} {x : Int} : Seen ps (i + 1) 0 x ↔ Seen ps i (ps.getD i nS).1.length x := by
  unfold Seen
  rw [List.take_zero, List.take_of_length_le (Nat.le_refl _)]
  constructor
  · rintro (⟨j, hj, hx⟩ | h)
    · rcases Nat.lt_or_ge j i with h1 | h1
      · exact .inl ⟨j, h1, hx⟩
      · have : j = i := by omega
        subst this
        exact .inr hx
    · simp at h
  · rintro (⟨j, hj, hx⟩ | h)
    · exact .inl ⟨j, by omega, hx⟩
    · exact .inl ⟨i, by omega, h⟩
theorem Seen.succ {ps : List PS} {i m : Nat} {x : Int} (hm : m < (ps.getD i nS).1.length) : Seen ps i (m + 1) x ↔ Seen ps i m x ∨ x = (ps.getD i nS).1.getD m 0 := by
  unfold Seen
  rw [← take_succ_getD hm, List.mem_append, List.mem_singleton]
  constructor
  · rintro (h | h | h)
    · exact .inl (.inl h)
    · exact .inl (.inr h)
    · exact .inr h
  · rintro ((h | h) | h)
    · exact .inl h
    · exact .inr (.inl h)
    · exact .inr (.inr h)
theorem Seen.start {ps : List PS} {x : Int} : Seen ps 0 0 x ↔ x ∈ ([] : List Int) := by
  unfold Seen
  simp

end Go.Proofs.Ytbjeflblhjfagaa
