/- Each place that is kept stands in one sequence, once; places rise and have the sequence's level. Plain. No condition. -/
import Derived.Test.YtojcphfonbdlpaaSqLev
namespace Go.Proofs.Ytojcphfonbdlpaa.Sq
open Lv (removed)

section
variable {base : Int} {cs : List Int}

theorem chain_good : ∀ (f i : Nat) (r : List Int), (runs cs (Lv.levels base cs))[i]? = some r → (runs cs (Lv.levels base cs)).length ≤ f + i → (chain cs (Bd.mt cs) (runs cs (Lv.levels base cs)) f r).Pairwise (· < ·) ∧
    ∀ p ∈ chain cs (Bd.mt cs) (runs cs (Lv.levels base cs)) f r, at0 (Lv.levels base cs) p = at0 (Lv.levels base cs) (r.headD 0) ∧ ∃ (k : Nat) (r' : List Int), i ≤ k ∧ (runs cs (Lv.levels base cs))[k]? = some r' ∧ p ∈ r' ∧ (k = i ∨ led cs (Bd.mt cs) r' = true) := by
  intro f
  induction f with
  | zero =>
    intro i r hi hf
    have := (List.getElem?_eq_some_iff.1 hi).1
    omega
  | succ f ih =>
    intro i r hi hf
    have hl := lev_len base cs
    have hr := List.mem_of_getElem? hi
    have hev := (runs_even hl).1 r hr
    have own : ∀ p ∈ r, at0 (Lv.levels base cs) p = at0 (Lv.levels base cs) (r.headD 0) ∧ ∃ (k : Nat) (r' : List Int), i ≤ k ∧ (runs cs (Lv.levels base cs))[k]? = some r' ∧ p ∈ r' ∧ (k = i ∨ led cs (Bd.mt cs) r' = true) :=
      fun p hp => ⟨hev.2 p hp, i, r, Nat.le_refl _, hi, hp, .inl rfl⟩
    rcases hg : goes cs (Bd.mt cs) r with _ | _
    · rw [chain_stop hg]
      exact ⟨run_rise hl hr, own⟩
    · obtain ⟨q, j, f', hff, h1, _, h3, h4, h5, h6, h7⟩ := chain_on (f := f + 1) hl hi hf hg
      obtain ⟨q2, j2, r2, g1, g2, g3, g4, g5, g6, g7⟩ := goes_head hi hg
      have hq : q2 = q := by rw [h1] at g1; omega
      subst hq
      rw [g3] at h3 h7 h4
      have hf' : f' = f := by omega
      subst hf'
      obtain ⟨c1, c2⟩ := ih j r2 h3 h6
      rw [h7]
      refine ⟨?_, fun p hp => ?_⟩
      · rw [List.pairwise_append]
        refine ⟨run_rise hl hr, c1, fun a ha b hb => ?_⟩
        obtain ⟨_, k, r', hk, hkr, hbr, _⟩ := c2 b hb
        exact run_lt hl hi hkr (by omega) ha hbr
      · rcases List.mem_append.1 hp with hp | hp
        · exact own p hp
        · obtain ⟨e1, k, r', hk, hkr, hbr, hled⟩ := c2 p hp
          refine ⟨by rw [e1, g6], k, r', by omega, hkr, hbr, .inr ?_⟩
          rcases hled with rfl | hled
          · rw [h3] at hkr
            rw [← Option.some.inj hkr]; exact g7
          · exact hled

theorem count_once {x : Int} : ∀ {l : List Int}, l.Nodup → x ∈ l → l.count x = 1
  | [], _, h => by simp at h
  | a :: l, hn, h => by
    have hn' := List.nodup_cons.1 hn
    by_cases e : a = x
    · subst e
      rw [List.count_cons_self, List.count_eq_zero_of_not_mem hn'.1]
    · rw [List.count_cons_of_ne (by simpa using e)]
      exact count_once hn'.2 (by simpa [show ¬ x = a from fun h => e h.symm] using h)
theorem rise_nodup {l : List Int} (h : l.Pairwise (· < ·)) : l.Nodup := h.imp fun h => by omega
theorem chain_head {f : Nat} {r : List Int} {mt : List Int} {rs : List (List Int)} {x : Int} (hx : x ∈ r) : x ∈ chain cs mt rs f r := by
  rcases r with _ | ⟨a, r⟩
  · simp at hx
  · cases f with
    | zero => exact hx
    | succ f => rw [chain]; · exact List.mem_append_left _ hx
                · simp
/-- a place of the run that a chain begins with -/
theorem count_here {f k : Nat} {r : List Int} {x : Int} (hk : (runs cs (Lv.levels base cs))[k]? = some r) (hf : (runs cs (Lv.levels base cs)).length ≤ f + k) (hx : x ∈ r) : (chain cs (Bd.mt cs) (runs cs (Lv.levels base cs)) f r).count x = 1 :=
  count_once (rise_nodup (chain_good f k r hk hf).1) (chain_head hx)
/-- a place of a run that lies ahead -/
theorem count_lo {f i k : Nat} {r rk : List Int} {x : Int} (hi : (runs cs (Lv.levels base cs))[i]? = some r) (hf : (runs cs (Lv.levels base cs)).length ≤ f + i) (hk : (runs cs (Lv.levels base cs))[k]? = some rk) (hx : x ∈ rk) (hki : k < i) : (chain cs (Bd.mt cs) (runs cs (Lv.levels base cs)) f r).count x = 0 := by
  refine List.count_eq_zero_of_not_mem fun hm => ?_
  obtain ⟨_, k', r', h1, h2, h3, _⟩ := (chain_good f i r hi hf).2 x hm
  have := run_apart (lev_len base cs) hk h2 hx h3
  omega
/-- a place of a run that nothing leads to -/
theorem count_no {f i k : Nat} {r rk : List Int} {x : Int} (hi : (runs cs (Lv.levels base cs))[i]? = some r) (hf : (runs cs (Lv.levels base cs)).length ≤ f + i) (hk : (runs cs (Lv.levels base cs))[k]? = some rk) (hx : x ∈ rk) (hik : i ≠ k) (hd : led cs (Bd.mt cs) rk = false) : (chain cs (Bd.mt cs) (runs cs (Lv.levels base cs)) f r).count x = 0 := by
  refine List.count_eq_zero_of_not_mem fun hm => ?_
  obtain ⟨_, k', r', h1, h2, h3, h4⟩ := (chain_good f i r hi hf).2 x hm
  have e := run_apart (lev_len base cs) hk h2 hx h3
  subst e
  rw [hk] at h2
  rw [← Option.some.inj h2, hd] at h4
  rcases h4 with h4 | h4
  · exact hik h4.symm
  · cases h4
/-- a place of a run that another leads to -/
theorem count_on {k k' : Nat} {rk rk' : List Int} {x y : Int} (hk : (runs cs (Lv.levels base cs))[k]? = some rk) (hk' : (runs cs (Lv.levels base cs))[k']? = some rk') (hx : x ∈ rk) (hy : y ∈ rk') (hg : goes cs (Bd.mt cs) rk' = true) (hm : at0 (Bd.mt cs) (rk'.getLastD 0) = rk.headD 0) :
    ∀ (f i : Nat) (r : List Int), (runs cs (Lv.levels base cs))[i]? = some r → (runs cs (Lv.levels base cs)).length ≤ f + i → i ≠ k → (chain cs (Bd.mt cs) (runs cs (Lv.levels base cs)) f r).count x = (chain cs (Bd.mt cs) (runs cs (Lv.levels base cs)) f r).count y := by
  have hl := lev_len base cs
  -- what is led to is this run alone
  have uniq : ∀ (i : Nat) (r : List Int), (runs cs (Lv.levels base cs))[i]? = some r → goes cs (Bd.mt cs) r = true → at0 (Bd.mt cs) (r.getLastD 0) = rk.headD 0 → i = k' := by
    intro i r hi hgi hmi
    have hr := List.mem_of_getElem? hi
    have hr' := List.mem_of_getElem? hk'
    have a1 := last_mem (runs_ne cs (Lv.levels base cs) r hr)
    have a2 := last_mem (runs_ne cs (Lv.levels base cs) rk' hr')
    obtain ⟨p1, e1, l1, c1, hc1, _⟩ := run_nat hl hr a1
    obtain ⟨p2, e2, l2, c2, hc2, _⟩ := run_nat hl hr' a2
    rw [e1] at hmi a1
    rw [e2] at hm a2
    simp only [goes, Bool.and_eq_true, e1, bne_iff_ne, ne_eq] at hgi
    simp only [goes, Bool.and_eq_true, e2, bne_iff_ne, ne_eq] at hg
    obtain ⟨q1, f1, _, m1, _⟩ := Bd.mt_ini (v := at0 (Bd.mt cs) (p1 : Int)) hc1 (by rw [← ini_opens, ← at0_some hc1]; exact hgi.1) (get_at0 (by rw [Bd.mt_length]; exact l1)) hgi.2
    obtain ⟨q2, f2, _, m2, _⟩ := Bd.mt_ini (v := at0 (Bd.mt cs) (p2 : Int)) hc2 (by rw [← ini_opens, ← at0_some hc2]; exact hg.1) (get_at0 (by rw [Bd.mt_length]; exact l2)) hg.2
    have e : q1 = q2 := by omega
    subst e
    rw [m1] at m2
    have e := Option.some.inj m2
    rw [e] at a1
    exact run_apart hl hi hk' a1 a2
  intro f
  induction f with
  | zero =>
    intro i r hi hf
    have := (List.getElem?_eq_some_iff.1 hi).1
    omega
  | succ f ih =>
    intro i r hi hf hik
    have hxr : r.count x = 0 := List.count_eq_zero_of_not_mem fun h => hik (run_apart hl hi hk h hx)
    rcases hgi : goes cs (Bd.mt cs) r with _ | _
    · rw [chain_stop hgi, hxr]
      have hne : i ≠ k' := by
        rintro rfl
        rw [hk'] at hi
        rw [← Option.some.inj hi, hg] at hgi
        cases hgi
      exact (List.count_eq_zero_of_not_mem fun h => hne (run_apart hl hi hk' h hy)).symm
    · obtain ⟨q, j, f', hff, h1, _, h3, h4, h5, h6, h7⟩ := chain_on (f := f + 1) hl hi hf hgi
      obtain ⟨q2, j2, r2, g1, g2, g3, g4, g5, g6, g7⟩ := goes_head hi hgi
      have hq : q2 = q := by rw [h1] at g1; omega
      subst hq
      rw [g3] at h3 h7 h4
      have hf' : f' = f := by omega
      subst hf'
      rw [h7, List.count_append, List.count_append, hxr]
      by_cases hjk : j = k
      · subst hjk
        rw [h3] at hk
        have e := Option.some.inj hk
        subst e
        have hik' := uniq i r hi hgi (by rw [g1, g5])
        subst hik'
        rw [hk'] at hi
        have e := Option.some.inj hi
        subst e
        rw [count_here h3 h6 hx, count_lo h3 h6 hk' hy h5]
        have : rk'.count y = 1 := count_once (rise_nodup (run_rise hl (List.mem_of_getElem? hk'))) hy
        rw [this]
      · have hne : i ≠ k' := by
          rintro rfl
          rw [hk'] at hi
          have e := Option.some.inj hi
          subst e
          apply hjk
          have hr2 := head_mem (runs_ne cs (Lv.levels base cs) r2 (List.mem_of_getElem? h3))
          have hrk := head_mem (runs_ne cs (Lv.levels base cs) rk (List.mem_of_getElem? hk))
          have e : r2.headD 0 = rk.headD 0 := by rw [g5, ← g1, hm]
          rw [e] at hr2
          exact run_apart hl h3 hk hr2 hrk
        have hyr : r.count y = 0 := List.count_eq_zero_of_not_mem fun h => hne (run_apart hl hi hk' h hy)
        rw [hyr, ih j r2 h3 h6 hjk]

/-- how often a place stands in the sequences that begin here -/
def cnt (base : Int) (cs : List Int) (x : Int) (r : List Int) : Nat := if led cs (Bd.mt cs) r = true then 0 else (chain cs (Bd.mt cs) (runs cs (Lv.levels base cs)) (runs cs (Lv.levels base cs)).length r).count x
theorem count_of (base : Int) (cs : List Int) (x : Int) : ∀ (l : List (List Int)), ((ofRuns cs (Lv.levels base cs) (Bd.mt cs) (runs cs (Lv.levels base cs)) base l).flatMap (·.ps)).count x = (l.map (cnt base cs x)).sum
  | [] => rfl
  | r :: l => by
    rw [ofRuns_cons, List.map_cons, List.sum_cons, ← count_of base cs x l]
    unfold cnt
    split
    · simp
    · rw [List.flatMap_cons, List.count_append]
      rfl
theorem sum_zero {α : Type} (g : α → Nat) : ∀ (l : List α), (∀ b ∈ l, g b = 0) → (l.map g).sum = 0
  | [], _ => rfl
  | b :: l, h => by
    rw [List.map_cons, List.sum_cons, h b (by simp), sum_zero g l fun b hb => h b (by simp [hb])]
theorem sum_one {α : Type} (g : α → Nat) : ∀ (l : List α) (k : Nat) (a : α), l[k]? = some a → g a = 1 → (∀ i b, l[i]? = some b → i ≠ k → g b = 0) → (l.map g).sum = 1
  | [], k, a, h, _, _ => by simp at h
  | b :: l, 0, a, h, ha, h0 => by
    simp at h
    subst h
    rw [List.map_cons, List.sum_cons, ha, sum_zero g l fun c hc => by
      obtain ⟨i, hi⟩ := List.getElem?_of_mem hc
      exact h0 (i + 1) c (by simpa using hi) (by omega)]
  | b :: l, k + 1, a, h, ha, h0 => by
    rw [List.map_cons, List.sum_cons, h0 0 b rfl (by omega), sum_one g l k a (by simpa using h) ha fun i c hc hik => h0 (i + 1) c (by simpa using hc) (by omega)]
theorem sum_same {α : Type} (g g' : α → Nat) : ∀ (l : List α), (∀ b ∈ l, g b = g' b) → (l.map g).sum = (l.map g').sum := fun l h => by rw [List.map_congr_left h]

theorem total_one (k : Nat) : ∀ (r : List Int) (x : Int), (runs cs (Lv.levels base cs))[k]? = some r → x ∈ r → ((runs cs (Lv.levels base cs)).map (cnt base cs x)).sum = 1 := by
  induction k using Nat.strongRecOn with
  | _ k ih =>
    intro r x hk hx
    rcases hd : led cs (Bd.mt cs) r with _ | _
    · refine sum_one _ _ k r hk ?_ fun i b hb hik => ?_
      · unfold cnt
        rw [hd]
        exact count_here hk (by omega) hx
      · unfold cnt
        split
        · rfl
        · exact count_no hb (by omega) hk hx hik hd
    · obtain ⟨i, r0, h1, h2, h3, h4⟩ := led_from hk hd
      have hy := last_mem (runs_ne cs (Lv.levels base cs) r0 (List.mem_of_getElem? h1))
      rw [sum_same (cnt base cs x) (cnt base cs (r0.getLastD 0)) (runs cs (Lv.levels base cs)) fun b hb => ?_]
      · exact ih i h4 r0 _ h1 hy
      · obtain ⟨i9, hi9⟩ := List.getElem?_of_mem hb
        unfold cnt
        split
        · rfl
        · rename_i hnl
          refine count_on hk h1 hx hy h2 h3 _ i9 b hi9 (by omega) ?_
          rintro rfl
          rw [hk] at hi9
          exact hnl (by rw [← Option.some.inj hi9]; exact hd)

/-- how often a place stands in the sequences -/
theorem cover (base : Int) (cs : List Int) (i : Nat) (c : Int) (hc : cs[i]? = some c) : ((of cs (Lv.levels base cs) base).flatMap (·.ps)).count (i : Int) = if removed c = true then 0 else 1 := by
  have hl := lev_len base cs
  rw [of, count_of]
  split
  · rename_i hr
    refine sum_zero _ _ fun r hr' => ?_
    obtain ⟨j, hj⟩ := List.getElem?_of_mem hr'
    unfold cnt
    split
    · rfl
    · refine List.count_eq_zero_of_not_mem fun hm => ?_
      obtain ⟨_, k, r2, _, h2, h3, _⟩ := (chain_good (runs cs (Lv.levels base cs)).length j r hj (by omega)).2 _ hm
      obtain ⟨i', e, _, c', h4, h5⟩ := run_nat hl (List.mem_of_getElem? h2) h3
      have e' : i' = i := by omega
      subst e'
      rw [hc] at h4
      rw [← Option.some.inj h4, hr] at h5
      cases h5
  · rename_i hr
    have hm : (i : Int) ∈ (runs cs (Lv.levels base cs)).flatten := (runs_mem hl i).2 ⟨c, hc, by simpa using hr⟩
    obtain ⟨r, hr1, hr2⟩ := List.mem_flatten.1 hm
    obtain ⟨k, hk⟩ := List.getElem?_of_mem hr1
    exact total_one k r _ hk hr2
/-- what a sequence is like -/
theorem seq_good (base : Int) (cs : List Int) : ∀ s ∈ of cs (Lv.levels base cs) base, s.ps.Pairwise (· < ·) ∧ ∀ p ∈ s.ps, (∃ j : Nat, p = (j : Int) ∧ j < cs.length) ∧ at0 (Lv.levels base cs) p = s.lv := by
  intro s hs
  unfold of ofRuns at hs
  obtain ⟨r, hr, he⟩ := List.mem_filterMap.1 hs
  split at he
  · cases he
  · have e := Option.some.inj he
    subst e
    obtain ⟨i, hi⟩ := List.getElem?_of_mem hr
    obtain ⟨h1, h2⟩ := chain_good (runs cs (Lv.levels base cs)).length i r hi (by omega)
    refine ⟨h1, fun p hp => ?_⟩
    obtain ⟨h3, k, r', _, h5, h6, _⟩ := h2 p hp
    obtain ⟨j, e, hj, _⟩ := run_nat (lev_len base cs) (List.mem_of_getElem? h5) h6
    exact ⟨⟨j, e, hj⟩, h3⟩
end

end Go.Proofs.Ytojcphfonbdlpaa.Sq
