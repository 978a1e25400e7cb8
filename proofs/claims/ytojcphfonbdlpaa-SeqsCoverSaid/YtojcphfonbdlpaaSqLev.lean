/- Level runs and matches: what a sequence goes on with begins a run, and a run that begins with a matched PDI is gone on with. Plain. No condition. -/
import Derived.Test.YtojcphfonbdlpaaSqInv
import Derived.Test.YtojcphfonbdlpaaSqPair
import Derived.Test.YtojcphfonbdlpaaSeqI
namespace Go.Proofs.Ytojcphfonbdlpaa.Sq
open Lv (removed)

/-- runs of one level, neighbours of different levels -/
def Even (ls : List Int) (rs : List (List Int)) : Prop :=
  (∀ r ∈ rs, r ≠ [] ∧ ∀ x ∈ r, at0 ls x = at0 ls (r.headD 0)) ∧ ∀ (i : Nat) (r r' : List Int), rs[i]? = some r → rs[i + 1]? = some r' → at0 ls (r.headD 0) ≠ at0 ls (r'.headD 0)

theorem headD_append {r : List Int} (h : r ≠ []) (p : Int) : (r ++ [p]).headD 0 = r.headD 0 := by cases r with | nil => exact absurd rfl h | cons a r => rfl
theorem even_on {ls : List Int} {d : List (List Int)} {r : List Int} {p : Int} (h : Even ls (d ++ [r])) (hp : at0 ls p = at0 ls (r.headD 0)) : Even ls (d ++ [r ++ [p]]) := by
  have hr := h.1 r (by simp)
  have key : ∀ (i : Nat) (a : List Int), (d ++ [r ++ [p]])[i]? = some a → ∃ a0, (d ++ [r])[i]? = some a0 ∧ a0.headD 0 = a.headD 0 := by
    intro i a ha
    rcases Nat.lt_or_ge i d.length with hlt | hge
    · rw [List.getElem?_append_left hlt] at ha ⊢
      exact ⟨a, ha, rfl⟩
    · rw [List.getElem?_append_right hge] at ha ⊢
      rcases Nat.eq_zero_or_pos (i - d.length) with h0 | h0
      · rw [h0] at ha ⊢
        simp at ha
        subst ha
        exact ⟨r, rfl, (headD_append hr.1 p).symm⟩
      · rw [List.getElem?_eq_none (by simp; omega)] at ha; cases ha
  refine ⟨fun a ha => ?_, fun i a b ha hb => ?_⟩
  · rcases List.mem_append.1 ha with ha | ha
    · exact h.1 a (by simp [ha])
    · simp at ha
      subst ha
      refine ⟨by simp, fun x hx => ?_⟩
      rw [headD_append hr.1]
      rcases List.mem_append.1 hx with hx | hx
      · exact hr.2 x hx
      · simp at hx; subst hx; exact hp
  · obtain ⟨a0, h1, h2⟩ := key i a ha
    obtain ⟨b0, h3, h4⟩ := key (i + 1) b hb
    rw [← h2, ← h4]
    exact h.2 i a0 b0 h1 h3
theorem runsK_even (ls : List Int) : ∀ (ps : List Int) (rs : List (List Int)) (was : Int), Even ls rs → (∀ r, rs.getLast? = some r → was = at0 ls (r.headD 0)) → Even ls (runsK ls rs was ps)
  | [], _, _, h, _ => by simpa [runsK] using h
  | p :: ps, rs, was, h, hw => by
    rw [runsK]
    have hp0 : ls.getD p.toNat 0 = at0 ls p := rfl
    split
    · rename_i hc
      rcases List.eq_nil_or_concat rs with h0 | ⟨d, r, h0⟩
      · exact absurd h0 hc.1
      · rw [List.concat_eq_append] at h0
        subst h0
        have hwr := hw r (by simp)
        have hr := h.1 r (by simp)
        rw [add_concat]
        refine runsK_even ls ps _ _ (even_on h (by rw [← hp0, ← hc.2, hwr])) ?_
        intro a ha
        simp at ha
        subst ha
        rw [headD_append hr.1, ← hwr, hc.2]
    · rename_i hc
      refine runsK_even ls ps _ _ ⟨fun a ha => ?_, fun i a b ha hb => ?_⟩ ?_
      · rcases List.mem_append.1 ha with ha | ha
        · exact h.1 a ha
        · simp at ha
          subst ha
          exact ⟨by simp, fun x hx => by simp at hx; subst hx; rfl⟩
      · have hil := (List.getElem?_eq_some_iff.1 hb).1
        simp at hil
        rw [List.getElem?_append_left (by omega)] at ha
        rcases Nat.lt_or_ge (i + 1) rs.length with hlt | hge
        · rw [List.getElem?_append_left hlt] at hb
          exact h.2 i a b ha hb
        · rw [List.getElem?_append_right hge, show i + 1 - rs.length = 0 by omega] at hb
          simp at hb
          subst hb
          have hne : rs ≠ [] := by rintro rfl; simp at ha
          have hlast : rs.getLast? = some a := by rw [List.getLast?_eq_getElem?, show rs.length - 1 = i by omega]; exact ha
          have := hw a hlast
          rw [← this]
          intro e
          exact hc ⟨hne, by rw [e]; rfl⟩
      · intro a ha
        simp at ha
        subst ha
        rfl
theorem runs_even {cs ls : List Int} (hl : cs.length = ls.length) : Even ls (runs cs ls) := by
  have h : runs cs ls = runsK ls [] 0 (keptF 0 cs) := runsF_kept cs ls [] 0 [] 0 rfl hl
  rw [h]
  exact runsK_even ls _ _ _ ⟨by simp, by simp⟩ (by simp)

theorem run_lt {cs ls : List Int} (hl : cs.length = ls.length) {i j : Nat} {r r' : List Int} {a b : Int} (hi : (runs cs ls)[i]? = some r) (hj : (runs cs ls)[j]? = some r') (hij : i < j) (ha : a ∈ r) (hb : b ∈ r') : a < b := by
  have h := runs_rise hl
  rw [List.pairwise_flatten] at h
  have h2 := List.pairwise_iff_getElem.1 h.2 i j (List.getElem?_eq_some_iff.1 hi).1 (List.getElem?_eq_some_iff.1 hj).1 hij
  rw [(List.getElem?_eq_some_iff.1 hi).2, (List.getElem?_eq_some_iff.1 hj).2] at h2
  exact h2 a ha b hb
theorem run_rise {cs ls : List Int} (hl : cs.length = ls.length) {r : List Int} (hr : r ∈ runs cs ls) : r.Pairwise (· < ·) := by
  have h := runs_rise hl
  rw [List.pairwise_flatten] at h
  exact h.1 r hr
theorem run_nat {cs ls : List Int} (hl : cs.length = ls.length) {r : List Int} {p : Int} (hr : r ∈ runs cs ls) (hp : p ∈ r) : ∃ j : Nat, p = (j : Int) ∧ j < cs.length ∧ ∃ c, cs[j]? = some c ∧ removed c = false := by
  have hm : p ∈ (runs cs ls).flatten := List.mem_flatten.2 ⟨r, hr, hp⟩
  obtain ⟨j, rfl, _⟩ := keptF_mem 0 cs p (by rw [← runs_flat hl]; exact hm)
  obtain ⟨c, h1, h2⟩ := (runs_mem hl j).1 hm
  exact ⟨j, rfl, (List.getElem?_eq_some_iff.1 h1).1, c, h1, h2⟩
theorem head_mem {r : List Int} (h : r ≠ []) : r.headD 0 ∈ r := by cases r with | nil => exact absurd rfl h | cons a r => simp
theorem head_min {r : List Int} (h : r.Pairwise (· < ·)) {a : Int} (ha : a ∈ r) : r.headD 0 ≤ a := by
  cases r with
  | nil => simp at ha
  | cons b r =>
    simp at ha ⊢
    rcases ha with rfl | ha
    · exact Int.le_refl _
    · have := (List.pairwise_cons.1 h).1 a ha; omega
theorem at0_some {l : List Int} {i : Nat} {x : Int} (h : l[i]? = some x) : at0 l (i : Int) = x := by simp [at0, List.getD_eq_getElem?_getD, h]
theorem get_at0 {l : List Int} {i : Nat} (h : i < l.length) : l[i]? = some (at0 l (i : Int)) := by simp [at0, List.getD_eq_getElem?_getD, List.getElem?_eq_getElem h]

/-- an initiator and its match, by places -/
theorem pair_at {base : Int} {cs : List Int} {p q : Nat} {c : Int} (hc : cs[p]? = some c) (ho : Bd.opens c = true) (hm : (Bd.mt cs)[p]? = some (q : Int)) :
    p < q ∧ at0 (Lv.levels base cs) (q : Int) = at0 (Lv.levels base cs) (p : Int) ∧
      ((∀ x : Nat, p < x → x < q → (∃ y, cs[x]? = some y ∧ removed y = false) → at0 (Lv.levels base cs) (p : Int) < at0 (Lv.levels base cs) (x : Int)) ∨
       (∀ x : Nat, p < x → x < q → (∃ y, cs[x]? = some y ∧ removed y = false) → at0 (Lv.levels base cs) (x : Int) = at0 (Lv.levels base cs) (p : Int))) := by
  have hp : p < cs.length := (List.getElem?_eq_some_iff.1 hc).1
  have he : cs[p] = c := (List.getElem?_eq_some_iff.1 hc).2
  have hz : cs = cs.take p ++ c :: cs.drop (p + 1) := by
    rw [← he, ← List.drop_eq_getElem_cons hp, List.take_append_drop]
  have hlen : (cs.take p).length = p := by simp; omega
  have h1 := Bd.mt_at (cs.take p) (cs.drop (p + 1)) c ho
  rw [← hz, hlen, hm] at h1
  rcases hcl : Bd.clo 0 (cs.drop (p + 1)) with _ | j
  · rw [hcl] at h1; simp [Bd.ends] at h1
  · rw [hcl] at h1
    simp [Bd.ends] at h1
    have hq : q = p + 1 + j := by omega
    obtain ⟨l, e1, e2, e3⟩ := Lv.pair_levels base (cs.take p) (cs.drop (p + 1)) c j ho hcl
    rw [← hz, hlen] at e1 e2 e3
    have a1 := at0_some e1
    have a2 := at0_some e2
    rw [← hq] at a2
    refine ⟨by omega, by rw [a1, a2], ?_⟩
    have hL : (Lv.levels base cs).length = cs.length := Lv.levels_length _ _
    rw [a1]
    rcases e3 with e3 | e3
    · left
      intro x hx1 hx2 ⟨y, hy, hr⟩
      have hxl := (List.getElem?_eq_some_iff.1 hy).1
      refine e3 (x - (p + 1)) (by omega) y _ (by rw [List.getElem?_drop, show p + 1 + (x - (p + 1)) = x by omega]; exact hy) hr ?_
      rw [show p + 1 + (x - (p + 1)) = x by omega]
      exact get_at0 (by omega)
    · right
      intro x hx1 hx2 ⟨y, hy, hr⟩
      have hxl := (List.getElem?_eq_some_iff.1 hy).1
      refine e3 (x - (p + 1)) (by omega) y _ (by rw [List.getElem?_drop, show p + 1 + (x - (p + 1)) = x by omega]; exact hy) hr ?_
      rw [show p + 1 + (x - (p + 1)) = x by omega]
      exact get_at0 (by omega)

section
variable {base : Int} {cs : List Int}
theorem lev_len (base : Int) (cs : List Int) : cs.length = (Lv.levels base cs).length := (Lv.levels_length _ _).symm

/-- what a sequence goes on with begins a run, of the same level -/
theorem goes_head {i : Nat} {r : List Int} (hi : (runs cs (Lv.levels base cs))[i]? = some r) (hg : goes cs (Bd.mt cs) r = true) :
    ∃ (q j : Nat) (r' : List Int), at0 (Bd.mt cs) (r.getLastD 0) = (q : Int) ∧ (runs cs (Lv.levels base cs))[j]? = some r' ∧ find (runs cs (Lv.levels base cs)) (q : Int) = r' ∧ i < j ∧ r'.headD 0 = (q : Int) ∧
      at0 (Lv.levels base cs) (r'.headD 0) = at0 (Lv.levels base cs) (r.headD 0) ∧ led cs (Bd.mt cs) r' = true := by
  have hl := lev_len base cs
  obtain ⟨q, j, h1, h2, h3, h4, h5⟩ := goes_later hl hi hg
  have hr := List.mem_of_getElem? hi
  have hr' := List.mem_of_getElem? h3
  have hev := runs_even hl
  have hlm := last_mem (runs_ne cs (Lv.levels base cs) r hr)
  obtain ⟨p, hp, hpl, c, hc, hcr⟩ := run_nat hl hr hlm
  have hgo := hg
  simp only [goes, Bool.and_eq_true, hp] at hgo
  have hini : Bd.opens c = true := by rw [← ini_opens, ← at0_some hc]; exact hgo.1
  rw [hp] at h1 hlm
  have hmp : (Bd.mt cs)[p]? = some (q : Int) := by rw [← h1]; exact get_at0 (by rw [Bd.mt_length]; exact hpl)
  obtain ⟨hpq, hlq, hcase⟩ := pair_at (base := base) hc hini hmp
  have hrp : at0 (Lv.levels base cs) (p : Int) = at0 (Lv.levels base cs) (r.headD 0) := (hev.1 r hr).2 _ hlm
  have hrq : at0 (Lv.levels base cs) (q : Int) = at0 (Lv.levels base cs) ((find (runs cs (Lv.levels base cs)) (q : Int)).headD 0) := (hev.1 _ hr').2 _ h4
  have hhead : (find (runs cs (Lv.levels base cs)) (q : Int)).headD 0 = (q : Int) := by
    apply Classical.byContradiction
    intro hne
    have hym := head_mem (runs_ne cs (Lv.levels base cs) _ hr')
    have hyq := head_min (run_rise hl hr') h4
    have hpy := run_lt hl hi h3 h5 hlm hym
    obtain ⟨y, hy, hyl, hyk⟩ := run_nat hl hr' hym
    rw [hy] at hne hyq hpy hrq
    have hy1 : p < y := by omega
    have hy2 : y < q := by omega
    rcases hcase with hcase | hcase
    · have := hcase y hy1 hy2 hyk
      omega
    · have hlt : i + 1 < (runs cs (Lv.levels base cs)).length := by have := (List.getElem?_eq_some_iff.1 h3).1; omega
      have h7 : (runs cs (Lv.levels base cs))[i + 1]? = some ((runs cs (Lv.levels base cs))[i + 1]) := List.getElem?_eq_getElem hlt
      have hr1 := List.mem_of_getElem? h7
      have hxm := head_mem (runs_ne cs (Lv.levels base cs) _ hr1)
      obtain ⟨x, hx, hxl, hxk⟩ := run_nat hl hr1 hxm
      have hd := hev.2 i _ _ hi h7
      have hpx := run_lt hl hi h7 (by omega) hlm hxm
      rw [hx] at hxm hd hpx
      have hxq : (x : Int) < (q : Int) := by
        rcases Nat.lt_or_ge (i + 1) j with hlt2 | hge2
        · exact run_lt hl h7 h3 hlt2 hxm h4
        · have : i + 1 = j := by omega
          subst this
          rw [h7] at h3
          have e := Option.some.inj h3
          rw [e, hy] at hx
          omega
      have := hcase x (by omega) (by omega) hxk
      omega
  refine ⟨q, j, _, by rw [hp]; exact h1, h3, rfl, h5, hhead, by rw [hhead, hlq, hrp], ?_⟩
  obtain ⟨q', e, _, hmq, hq23⟩ := Bd.mt_ini hc hini hmp (by omega)
  have e' : q' = q := by omega
  subst e'
  unfold led
  rw [hhead, at0_some hmq, at0_some hq23]
  simp
/-- a run that begins with a matched PDI is gone on with -/
theorem led_from {j : Nat} {r' : List Int} (hj : (runs cs (Lv.levels base cs))[j]? = some r') (hd : led cs (Bd.mt cs) r' = true) :
    ∃ (i : Nat) (r : List Int), (runs cs (Lv.levels base cs))[i]? = some r ∧ goes cs (Bd.mt cs) r = true ∧ at0 (Bd.mt cs) (r.getLastD 0) = r'.headD 0 ∧ i < j := by
  have hl := lev_len base cs
  have hev := runs_even hl
  have hr' := List.mem_of_getElem? hj
  have hqm := head_mem (runs_ne cs (Lv.levels base cs) _ hr')
  obtain ⟨q, hq, hql, _⟩ := run_nat hl hr' hqm
  unfold led at hd
  rw [hq] at hd hqm
  simp only [Bool.and_eq_true, bne_iff_ne, ne_eq, beq_iff_eq] at hd
  have hq23 : cs[q]? = some 23 := by rw [← hd.2]; exact get_at0 hql
  obtain ⟨p, e, hpq, hmp, c, hc, ho⟩ := Bd.mt_pdi hq23 (get_at0 (l := Bd.mt cs) (by rw [Bd.mt_length]; exact hql)) hd.1
  obtain ⟨_, hlq, hcase⟩ := pair_at (base := base) hc ho hmp
  have hcr : removed c = false := by simp [Bd.opens] at ho; rcases ho with (rfl | rfl) | rfl <;> rfl
  have hpf : (p : Int) ∈ (runs cs (Lv.levels base cs)).flatten := (runs_mem hl p).2 ⟨c, hc, hcr⟩
  obtain ⟨r, hr, hpr⟩ := List.mem_flatten.1 hpf
  obtain ⟨i, hi⟩ := List.getElem?_of_mem hr
  have hij : i < j := by
    rcases Nat.lt_trichotomy i j with h | h | h
    · exact h
    · subst h
      rw [hi] at hj
      have e := Option.some.inj hj
      subst e
      have := head_min (run_rise hl hr) hpr
      rw [hq] at this; omega
    · have := run_lt hl hj hi h hqm hpr
      omega
  have hzm := last_mem (runs_ne cs (Lv.levels base cs) r hr)
  have hz := last_max (run_rise hl hr) hpr
  have hzq := run_lt hl hi hj hij hzm hqm
  have hrz := (hev.1 r hr).2 _ hzm
  have hrp := (hev.1 r hr).2 _ hpr
  have hlast : r.getLastD 0 = (p : Int) := by
    apply Classical.byContradiction
    intro hne
    obtain ⟨z, ez, hzl, hzk⟩ := run_nat hl hr hzm
    rw [ez] at hne hz hzq hrz hzm
    rcases hcase with hcase | hcase
    · have := hcase z (by omega) (by omega) hzk
      omega
    · have hlt : j - 1 < (runs cs (Lv.levels base cs)).length := by have := (List.getElem?_eq_some_iff.1 hj).1; omega
      obtain ⟨r1, h7⟩ : ∃ r1, (runs cs (Lv.levels base cs))[j - 1]? = some r1 := ⟨_, List.getElem?_eq_getElem hlt⟩
      have hr1 := List.mem_of_getElem? h7
      have hwm := last_mem (runs_ne cs (Lv.levels base cs) _ hr1)
      obtain ⟨w, ew, hwl, hwk⟩ := run_nat hl hr1 hwm
      have hwq := run_lt hl h7 hj (by omega) hwm hqm
      have hd2 := hev.2 (j - 1) _ _ h7 (by rw [show j - 1 + 1 = j by omega]; exact hj)
      have hrw := (hev.1 _ hr1).2 _ hwm
      rw [ew] at hwq hrw hwm
      have hpw : p < w := by
        rcases Nat.lt_or_ge i (j - 1) with h | h
        · have := run_lt hl hi h7 h hpr hwm
          omega
        · have h8 : i = j - 1 := by omega
          rw [← h8, hi] at h7
          have e9 := Option.some.inj h7
          have h9 : r1.getLastD 0 = r.getLastD 0 := by rw [← e9]
          rw [ew, ez] at h9
          omega
      have := hcase w hpw (by omega) hwk
      rw [hq] at hd2
      omega
  refine ⟨i, r, hi, ?_, ?_, hij⟩
  · unfold goes
    rw [hlast, at0_some hc, at0_some hmp, ini_opens, ho]
    simp
  · rw [hlast, at0_some hmp, hq]
end

end Go.Proofs.Ytojcphfonbdlpaa.Sq
