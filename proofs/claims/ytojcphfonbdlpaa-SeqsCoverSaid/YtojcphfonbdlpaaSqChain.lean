/- A sequence goes on in a later run. Plain. Condition: the lists are of one length. -/
import Derived.Test.YtojcphfonbdlpaaSqMatch
namespace Go.Proofs.Ytojcphfonbdlpaa.Sq
open Lv (removed)

theorem run_order {rs : List (List Int)} (h : rs.flatten.Pairwise (· < ·)) {i j : Nat} {r r' : List Int} (hi : rs[i]? = some r) (hj : rs[j]? = some r') {a b : Int} (ha : a ∈ r) (hb : b ∈ r') (hab : a < b) : i ≤ j := by
  rcases Nat.lt_or_ge j i with hlt | hge
  · exfalso
    rw [List.pairwise_flatten] at h
    have h2 := List.pairwise_iff_getElem.1 h.2 j i (List.getElem?_eq_some_iff.1 hj).1 (List.getElem?_eq_some_iff.1 hi).1 hlt
    rw [(List.getElem?_eq_some_iff.1 hj).2, (List.getElem?_eq_some_iff.1 hi).2] at h2
    have := h2 b hb a ha
    omega
  · exact hge
theorem last_max {r : List Int} (h : r.Pairwise (· < ·)) {a : Int} (ha : a ∈ r) : a ≤ r.getLastD 0 := by
  rcases List.eq_nil_or_concat r with rfl | ⟨d, x, rfl⟩
  · simp at ha
  · rw [List.concat_eq_append] at ha h ⊢
    rw [List.pairwise_append] at h
    simp at ha ⊢
    rcases ha with ha | rfl
    · have := h.2.2 a ha x (by simp); omega
    · exact Int.le_refl _
theorem last_mem {r : List Int} (h : r ≠ []) : r.getLastD 0 ∈ r := by
  rcases List.eq_nil_or_concat r with rfl | ⟨d, x, rfl⟩
  · exact absurd rfl h
  · simp
theorem find_at {rs : List (List Int)} {p : Int} (h : p ∈ rs.flatten) : ∃ j : Nat, rs[j]? = some (find rs p) ∧ p ∈ find rs p := by
  obtain ⟨r, hr, hp⟩ := List.mem_flatten.1 h
  rcases hf : rs.find? (fun r => r.contains p) with _ | r'
  · have := List.find?_eq_none.1 hf r hr
    simp at this
    exact absurd hp this
  · have h1 := List.find?_some hf
    have h2 := List.mem_of_find?_eq_some hf
    obtain ⟨j, hj⟩ := List.getElem?_of_mem h2
    refine ⟨j, ?_, ?_⟩
    · rw [find, hf]; exact hj
    · rw [find, hf]; simpa using h1
/-- the run that a sequence goes on in lies behind -/
theorem goes_later {cs ls : List Int} (hl : cs.length = ls.length) {i : Nat} {r : List Int} (hi : (runs cs ls)[i]? = some r) (hg : goes cs (Bd.mt cs) r = true) :
    ∃ q j : Nat, at0 (Bd.mt cs) (r.getLastD 0) = (q : Int) ∧ q < cs.length ∧ (runs cs ls)[j]? = some (find (runs cs ls) (q : Int)) ∧ (q : Int) ∈ find (runs cs ls) (q : Int) ∧ i < j := by
  have hr : r ∈ runs cs ls := List.mem_of_getElem? hi
  have hne := runs_ne cs ls r hr
  have hlast := last_mem hne
  have hfl : r.getLastD 0 ∈ (runs cs ls).flatten := List.mem_flatten.2 ⟨r, hr, hlast⟩
  obtain ⟨p, hp, _⟩ := keptF_mem 0 cs _ (by rw [← runs_flat hl]; exact hfl)
  rw [hp] at hfl
  obtain ⟨c, hc, _⟩ := (runs_mem hl p).1 hfl
  simp only [goes, Bool.and_eq_true, hp] at hg
  have hini : ini c = true := by have := hg.1; simpa [at0, List.getD_eq_getElem?_getD, hc] using this
  obtain ⟨q, hq, hpq, hq23⟩ := mt_goes hc hini (by have := hg.2; simpa using this)
  have hqm : (q : Int) ∈ (runs cs ls).flatten := (runs_mem hl q).2 ⟨23, hq23, by decide⟩
  obtain ⟨j, hj, hjm⟩ := find_at hqm
  have hrise := runs_rise hl
  have hij : i ≤ j := run_order hrise hi hj hlast hjm (by rw [hp]; omega)
  have hij2 : i ≠ j := by
    rintro rfl
    rw [hi] at hj
    have he : r = find (runs cs ls) (q : Int) := Option.some.inj hj
    rw [← he] at hjm
    rw [List.pairwise_flatten] at hrise
    have := last_max (hrise.1 r hr) hjm
    omega
  exact ⟨q, j, by rw [hp]; exact hq, (List.getElem?_eq_some_iff.1 hq23).1, hj, hjm, by omega⟩

theorem chain_stop {cs mt : List Int} {rs : List (List Int)} {f : Nat} {r : List Int} (hg : goes cs mt r = false) : chain cs mt rs f r = r := by
  rcases r with _ | ⟨a, r⟩
  · cases f <;> rfl
  · cases f with
    | zero => rfl
    | succ f => rw [chain]; simp [hg]; simp
/-- a step of the chain: enough is left for what lies behind -/
theorem chain_on {cs ls : List Int} (hl : cs.length = ls.length) {i f : Nat} {r : List Int} (hi : (runs cs ls)[i]? = some r) (hf : (runs cs ls).length ≤ f + i) (hg : goes cs (Bd.mt cs) r = true) :
    ∃ q j f' : Nat, f = f' + 1 ∧ at0 (Bd.mt cs) (r.getLastD 0) = (q : Int) ∧ q < cs.length ∧ (runs cs ls)[j]? = some (find (runs cs ls) (q : Int)) ∧ (q : Int) ∈ find (runs cs ls) (q : Int) ∧ i < j ∧ (runs cs ls).length ≤ f' + j ∧
      chain cs (Bd.mt cs) (runs cs ls) f r = r ++ chain cs (Bd.mt cs) (runs cs ls) f' (find (runs cs ls) (q : Int)) := by
  obtain ⟨q, j, h1, h2, h3, h4, h5⟩ := goes_later hl hi hg
  have hj := (List.getElem?_eq_some_iff.1 h3).1
  obtain ⟨f', rfl⟩ : ∃ f', f = f' + 1 := ⟨f - 1, by omega⟩
  have hne := runs_ne cs ls r (List.mem_of_getElem? hi)
  refine ⟨q, j, f', rfl, h1, h2, h3, h4, h5, by omega, ?_⟩
  rcases r with _ | ⟨a, r⟩
  · exact absurd rfl hne
  · rw [chain, if_pos hg, h1]
    simp

end Go.Proofs.Ytojcphfonbdlpaa.Sq
