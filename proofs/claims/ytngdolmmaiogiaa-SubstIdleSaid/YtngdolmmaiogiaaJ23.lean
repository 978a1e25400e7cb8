/- Joined: KpP. -/
import Derived.Test.YtngdolmmaiogiaaJ22

/- What the machine of substitutions keeps: glyphs of the font, clusters that there were, their order. Plainly. No condition. -/
namespace Go.Proofs.Ytngdolmmaiogiaa
open Go.RowKit

/-- a glyph that may be: of the font, of a cluster that there was -/
def GOk (m : Nat) (C : Int → Prop) (g : Gl) : Prop := (0 ≤ g.id ∧ g.id < (m : Int)) ∧ C g.cl
def Ris (gs : List Gl) : Prop := gs.Pairwise fun a b => a.cl ≤ b.cl
def Kp (m : Nat) (C : Int → Prop) (r : Prop) (gs : List Gl) : Prop := (∀ g ∈ gs, GOk m C g) ∧ (r → Ris gs)
section
variable {m : Nat} {C : Int → Prop} {r : Prop} {gs : List Gl}
theorem GOk.setc {g : Gl} {c : Int} (h : GOk m C g) (hc : C c) : GOk m C (setc c g) := ⟨h.1, hc⟩
theorem stage_ok {a b : Nat} {c : Int} (h : ∀ g ∈ gs, GOk m C g) (hc : C c) : ∀ g ∈ stage gs a b c, GOk m C g := fun g hg => by
  unfold stage at hg
  rw [List.mem_append, List.mem_append] at hg
  rcases hg with (hg | hg) | hg
  · exact h g (List.mem_of_mem_take hg)
  · obtain ⟨x, hx, rfl⟩ := List.mem_map.1 hg
    exact (h x (List.mem_of_mem_drop (List.mem_of_mem_take hx))).setc hc
  · exact h g (List.mem_of_mem_drop hg)
theorem Ris.take (h : Ris gs) (n : Nat) : Ris (gs.take n) := List.Pairwise.sublist (List.take_sublist n gs) h
theorem Ris.drop (h : Ris gs) (n : Nat) : Ris (gs.drop n) := List.Pairwise.sublist (List.drop_sublist n gs) h
theorem Ris.cut (h : Ris gs) (n : Nat) : ∀ x ∈ gs.take n, ∀ y ∈ gs.drop n, x.cl ≤ y.cl := by
  have h1 : Ris (gs.take n ++ gs.drop n) := by rw [List.take_append_drop]; exact h
  exact (List.pairwise_append.1 h1).2.2
theorem Ris.le (h : Ris gs) {i j : Nat} {x y : Gl} (hi : gs[i]? = some x) (hj : gs[j]? = some y) (hij : i ≤ j) : x.cl ≤ y.cl := by
  rcases Nat.lt_or_ge i j with h1 | h1
  · have hi2 := lt_of_some' hi
    have hj2 := lt_of_some' hj
    rw [List.getElem?_eq_getElem hi2] at hi
    rw [List.getElem?_eq_getElem hj2] at hj
    cases hi; cases hj
    exact List.pairwise_iff_getElem.1 h i j hi2 hj2 h1
  · obtain rfl : i = j := Nat.le_antisymm hij h1
    rw [hi] at hj; cases hj; exact Int.le_refl _
theorem Ris.append {a b : List Gl} (ha : Ris a) (hb : Ris b) (h : ∀ x ∈ a, ∀ y ∈ b, x.cl ≤ y.cl) : Ris (a ++ b) := List.pairwise_append.2 ⟨ha, hb, h⟩
theorem ris_const {c : Int} : ∀ {l : List Gl}, (∀ x ∈ l, x.cl = c) → Ris l
  | [], _ => List.Pairwise.nil
  | a :: l, h => List.Pairwise.cons (fun x hx => by rw [h a (by simp), h x (by simp [hx])]; exact Int.le_refl _) (ris_const fun x hx => h x (by simp [hx]))
theorem stage_ris {a b : Nat} {c : Int} (h : Ris gs) (h1 : ∀ x ∈ gs.take a, x.cl ≤ c) (h2 : ∀ x ∈ gs.drop b, c ≤ x.cl) : Ris (stage gs a b c) := by
  unfold stage
  have hm : ∀ x ∈ ((gs.drop a).take (b - a)).map (setc c), x.cl = c := fun x hx => by
    obtain ⟨y, _, rfl⟩ := List.mem_map.1 hx; rfl
  refine Ris.append (Ris.append (h.take a) (ris_const hm) fun x hx y hy => by rw [hm y hy]; exact h1 x hx) (h.drop b) fun x hx y hy => ?_
  rcases List.mem_append.1 hx with hx | hx
  · have h3 := h1 x hx
    have h4 := h2 y hy
    omega
  · rw [hm x hx]; exact h2 y hy
theorem recl_mem {was c : Int} : ∀ {l : List Gl} {x : Gl}, x ∈ recl was c l → ∃ y ∈ l, x = y ∨ x = setc c y
  | g :: l, x, h => by
    unfold recl at h
    split at h
    · rcases List.mem_cons.1 h with rfl | h
      · exact ⟨g, by simp, .inr rfl⟩
      · obtain ⟨y, hy, h1⟩ := recl_mem h
        exact ⟨y, by simp [hy], h1⟩
    · exact ⟨x, h, .inl rfl⟩
theorem recl_ris {was c : Int} : ∀ {l : List Gl}, Ris l → (∀ y ∈ l, c ≤ y.cl) → Ris (recl was c l)
  | [], _, _ => List.Pairwise.nil
  | g :: l, h, hc => by
    unfold recl
    split
    · refine List.Pairwise.cons (fun x hx => ?_) (recl_ris (List.Pairwise.of_cons h) fun y hy => hc y (by simp [hy]))
      obtain ⟨y, hy, rfl | rfl⟩ := recl_mem hx
      · exact hc x (by simp [hy])
      · exact Int.le_refl _
    · exact h
theorem fixG_ok {p : Nat} {c : Int} (h : ∀ g ∈ gs, GOk m C g) (hc : C c) : ∀ g ∈ fixG gs p c, GOk m C g := fun g hg => by
  unfold fixG at hg
  split at hg
  · split at hg
    · rcases List.mem_append.1 hg with hg | hg
      · exact h g (List.mem_of_mem_take hg)
      · obtain ⟨y, hy, rfl | rfl⟩ := recl_mem hg
        · exact h g (List.mem_of_mem_drop hy)
        · exact (h y (List.mem_of_mem_drop hy)).setc hc
    · exact h g hg
  · exact h g hg
theorem fixG_ris {p : Nat} {c : Int} (h : Ris gs) (h1 : ∀ x ∈ gs.take p, x.cl ≤ c) : Ris (fixG gs p c) := by
  unfold fixG
  split
  · rename_i g hg
    split
    · rename_i hlt
      have hge : ∀ y ∈ gs.drop p, c ≤ y.cl := fun y hy => by
        obtain ⟨j, hj, rfl⟩ := List.getElem_of_mem hy
        rw [List.length_drop] at hj
        have h2 := h.le hg (List.getElem?_eq_getElem (by omega : p + j < gs.length)) (by omega)
        rw [List.getElem_drop]
        omega
      refine Ris.append (h.take p) (recl_ris (h.drop p) hge) fun x hx y hy => ?_
      have h2 := h1 x hx
      obtain ⟨z, hz, rfl | rfl⟩ := recl_mem hy
      · have := hge y hz; omega
      · exact h2
    · exact h
  · exact h
theorem outG_ok {p : Nat} {g : Gl} {zs : List Int} (h : ∀ g ∈ gs, GOk m C g) (hg : gs[p]? = some g) (hz : ∀ z ∈ zs, 0 ≤ z ∧ z < (m : Int)) : ∀ x ∈ outG gs p g zs, GOk m C x := fun x hx => by
  unfold outG putG at hx
  rw [List.mem_append, List.mem_append] at hx
  rcases hx with (hx | hx) | hx
  · exact h x (List.mem_of_mem_take hx)
  · obtain ⟨z, h1, rfl⟩ := List.mem_map.1 hx
    exact ⟨hz z h1, (h g (List.mem_of_getElem? hg)).2⟩
  · exact h x (List.mem_of_mem_drop hx)
theorem Ris.before (h : Ris gs) {p : Nat} {g : Gl} (hg : gs[p]? = some g) : ∀ x ∈ gs.take p, x.cl ≤ g.cl := fun x hx => by
  obtain ⟨j, hj, rfl⟩ := List.getElem_of_mem hx
  rw [List.length_take] at hj
  rw [List.getElem_take]
  exact h.le (List.getElem?_eq_getElem (by omega)) hg (by omega)
theorem Ris.behind (h : Ris gs) {p n : Nat} {g : Gl} (hg : gs[p]? = some g) (hn : p ≤ n) : ∀ x ∈ gs.drop n, g.cl ≤ x.cl := fun x hx => by
  obtain ⟨j, hj, rfl⟩ := List.getElem_of_mem hx
  rw [List.length_drop] at hj
  rw [List.getElem_drop]
  exact h.le hg (List.getElem?_eq_getElem (by omega)) (by omega)
theorem outG_ris {p : Nat} {g : Gl} {zs : List Int} (h : Ris gs) (hg : gs[p]? = some g) : Ris (outG gs p g zs) := by
  unfold outG
  have hm : ∀ x ∈ putG g zs, x.cl = g.cl := fun x hx => by
    unfold putG at hx
    obtain ⟨z, _, rfl⟩ := List.mem_map.1 hx; rfl
  refine Ris.append (Ris.append (h.take p) (ris_const hm) fun x hx y hy => by rw [hm y hy]; exact h.before hg x hx) (h.drop (p + 1)) fun x hx y hy => ?_
  have h4 := h.behind hg (by omega : p ≤ p + 1) y hy
  rcases List.mem_append.1 hx with hx | hx
  · have h3 := h.before hg x hx
    omega
  · rw [hm x hx]; exact h4
theorem repG_kp {p : Nat} {g : Gl} {zs : List Int} (h : Kp m C r gs) (hg : gs[p]? = some g) (hz : ∀ z ∈ zs, 0 ≤ z ∧ z < (m : Int)) : Kp m C r (repG gs p zs) := by
  rw [repG_of hg]
  have h1 := outG_ok h.1 hg hz
  split
  · rename_i h0
    obtain rfl : zs = [] := List.eq_nil_of_length_eq_zero h0
    refine ⟨fixG_ok h1 (h.1 g (List.mem_of_getElem? hg)).2, fun hr => fixG_ris (outG_ris (h.2 hr) hg) fun x hx => ?_⟩
    have e : (outG gs p g []).take p = gs.take p := by
      have hp := lt_of_some' hg
      unfold outG putG
      rw [List.map_nil, List.append_nil, List.take_append_of_le_length (by rw [List.length_take]; omega), List.take_take, Nat.min_self]
    rw [e] at hx
    exact (h.2 hr).before hg x hx
  · exact ⟨h1, fun hr => outG_ris (h.2 hr) hg⟩
theorem lsB_of : ∀ (l : List Gl) (c : Int), lsB c l = c ∨ ∃ g ∈ l, lsB c l = g.cl
  | [], _ => .inl rfl
  | g :: l, c => by
    show lsB (min c g.cl) l = c ∨ ∃ x ∈ g :: l, lsB (min c g.cl) l = x.cl
    rcases lsB_of l (min c g.cl) with h | ⟨x, hx, h⟩
    · rcases Int.le_total c g.cl with h1 | h1
      · rw [Int.min_eq_left h1] at h ⊢; exact .inl h
      · rw [Int.min_eq_right h1] at h ⊢; exact .inr ⟨g, by simp, h⟩
    · exact .inr ⟨x, by simp [hx], h⟩
theorem lsB_low : ∀ (l : List Gl) (c : Int), (∀ g ∈ l, c ≤ g.cl) → lsB c l = c
  | [], _, _ => rfl
  | g :: l, c, h => by
    show lsB (min c g.cl) l = c
    rw [Int.min_eq_left (h g (by simp))]
    exact lsB_low l c fun x hx => h x (by simp [hx])
theorem mergeB_kp {p e : Nat} {g : Gl} (h : Kp m C r gs) (hg : gs[p]? = some g) (hpe : p < e) : Kp m C r (mergeB gs p e) := by
  have hp := lt_of_some' hg
  obtain ⟨x, l, hl⟩ : ∃ x l, (gs.drop p).take (e - p) = x :: l := by
    rw [drop_of_get hg]
    obtain ⟨k, hk⟩ : ∃ k, e - p = k + 1 := ⟨e - p - 1, by omega⟩
    rw [hk]
    exact ⟨_, _, List.take_succ_cons⟩
  have hx : x = g := by
    rw [drop_of_get hg] at hl
    obtain ⟨k, hk⟩ : ∃ k, e - p = k + 1 := ⟨e - p - 1, by omega⟩
    rw [hk, List.take_succ_cons] at hl
    cases hl; rfl
  subst hx
  have hmem : ∀ y ∈ x :: l, y ∈ gs.drop p := fun y hy => by rw [← hl] at hy; exact List.mem_of_mem_take hy
  have hc : C (leastB ((gs.drop p).take (e - p))) := by
    rw [hl]
    show C (lsB x.cl (x :: l))
    rcases lsB_of (x :: l) x.cl with h1 | ⟨y, hy, h1⟩
    · rw [h1]; exact (h.1 x (List.mem_of_getElem? hg)).2
    · rw [h1]; exact (h.1 y (List.mem_of_mem_drop (hmem y hy))).2
  unfold mergeB
  refine ⟨stage_ok h.1 hc, fun hr => ?_⟩
  have hR := h.2 hr
  have hlow : leastB ((gs.drop p).take (e - p)) = x.cl := by
    rw [hl]
    exact lsB_low (x :: l) x.cl fun y hy => hR.behind hg (Nat.le_refl p) y (hmem y hy)
  rw [hlow]
  have hF := mgF_le gs p
  have hT := mgT_ge gs (gs.length - e) e
  refine stage_ris hR (fun y hy => ?_) (hR.behind hg (by omega))
  obtain ⟨j, hj, rfl⟩ := List.getElem_of_mem hy
  rw [List.length_take] at hj
  rw [List.getElem_take]
  exact hR.le (List.getElem?_eq_getElem (by omega)) hg (by omega)
theorem mergeB_len {p e : Nat} (hpe : p < e) (he : e ≤ gs.length) : (mergeB gs p e).length = gs.length := by
  unfold mergeB
  have hF := mgF_le gs p
  have hT := mgT_ge gs (gs.length - e) e
  have hT2 := mgT_le gs (gs.length - e) e
  exact stage_length (by omega) (by omega)
/-- the glyphs between parts: each is one that there was, in their order -/
theorem lgL_kp {ps : List Nat} {num : Int} {ms : List Gl} (h : ∀ g ∈ ms, GOk m C g) : ∀ (k i part : Nat), i + k ≤ ms.length →
    (∀ x ∈ lgL ps num ms k i part, GOk m C x ∧ ∃ y ∈ (ms.drop i).take k, x.cl = y.cl) ∧ (Ris ms → Ris (lgL ps num ms k i part))
  | 0, _, _, _ => ⟨(fun x hx => by cases hx), fun _ => List.Pairwise.nil⟩
  | k + 1, i, part, hk => by
    have hi : i < ms.length := by omega
    have e : (ms.drop i).take (k + 1) = ms[i] :: (ms.drop (i + 1)).take k := by rw [List.drop_eq_getElem_cons hi, List.take_succ_cons]
    unfold lgL
    split
    · have h1 := lgL_kp h k (i + 1) (part + 1) (ps := ps) (num := num) (by omega)
      refine ⟨fun x hx => ?_, h1.2⟩
      obtain ⟨h2, y, hy, h3⟩ := h1.1 x hx
      exact ⟨h2, y, by rw [e]; simp [hy], h3⟩
    · have h1 := lgL_kp h k (i + 1) part (ps := ps) (num := num) (by omega)
      have hd : ms.getD i zGl = ms[i] := by rw [List.getD_eq_getElem?_getD, List.getElem?_eq_getElem hi]; rfl
      rw [hd]
      refine ⟨fun x hx => ?_, fun hR => List.Pairwise.cons (fun x hx => ?_) (h1.2 hR)⟩
      · rcases List.mem_cons.1 hx with rfl | hx
        · exact ⟨h ms[i] (List.getElem_mem hi), ms[i], by rw [e]; simp, rfl⟩
        · obtain ⟨h2, y, hy, h3⟩ := h1.1 x hx
          exact ⟨h2, y, by rw [e]; simp [hy], h3⟩
      · obtain ⟨_, y, hy, h3⟩ := h1.1 x hx
        rw [h3]
        exact hR.behind (List.getElem?_eq_getElem hi) (by omega) y (List.mem_of_mem_take hy)
theorem ligOut_kp {p : Nat} {x : PG} {ps : List Nat} {g : Gl} (h : Kp m C r gs) (hg : gs[p]? = some g) (hx : 0 ≤ x.2 ∧ x.2 < (m : Int)) (h1 : p ≤ lastN ps) (h2 : lastN ps < gs.length) : Kp m C r (ligOut gs p x ps ++ (mergeB gs p (lastN ps + 1)).drop (lastN ps + 1)) := by
  have hM := mergeB_kp h hg (e := lastN ps + 1) (by omega)
  have hl := mergeB_len (gs := gs) (p := p) (e := lastN ps + 1) (by omega) (by omega)
  unfold ligOut
  generalize mergeB gs p (lastN ps + 1) = ms at hM hl ⊢
  have hp := lt_of_some' hg
  have hpm : p < ms.length := by omega
  have hd : ms.getD p zGl = ms[p] := by rw [List.getD_eq_getElem?_getD, List.getElem?_eq_getElem hpm]; rfl
  rw [hd]
  have hL := lgL_kp (ps := ps) (num := IntKind.i64.wrap (mxL 0 gs + 1)) hM.1 (lastN ps + 1 - (p + 1)) (p + 1) 0 (by omega)
  have hgp := List.getElem?_eq_getElem hpm
  refine ⟨fun y hy => ?_, fun hr => ?_⟩
  · rcases List.mem_append.1 hy with hy | hy
    · rcases List.mem_append.1 hy with hy | hy
      · exact hM.1 y (List.mem_of_mem_take hy)
      · rcases List.mem_cons.1 hy with rfl | hy
        · exact ⟨hx, (hM.1 ms[p] (List.getElem_mem hpm)).2⟩
        · exact (hL.1 y hy).1
    · exact hM.1 y (List.mem_of_mem_drop hy)
  · have hR := hM.2 hr
    have hmid : ∀ y ∈ lgL ps (IntKind.i64.wrap (mxL 0 gs + 1)) ms (lastN ps + 1 - (p + 1)) (p + 1) 0, ∃ j z, p ≤ j ∧ j ≤ lastN ps ∧ ms[j]? = some z ∧ y.cl = z.cl := fun y hy => by
      obtain ⟨_, z, hz, h3⟩ := hL.1 y hy
      obtain ⟨j, hj, rfl⟩ := List.getElem_of_mem hz
      rw [List.length_take, List.length_drop] at hj
      refine ⟨p + 1 + j, _, by omega, by omega, List.getElem?_eq_getElem (by omega), ?_⟩
      rw [h3, List.getElem_take, List.getElem_drop]
    refine Ris.append (Ris.append (hR.take p) (List.Pairwise.cons (fun y hy => ?_) (hL.2 hR)) fun a ha b hb => ?_) (hR.drop _) fun a ha b hb => ?_
    · obtain ⟨j, z, h3, _, h5, h6⟩ := hmid y hy
      show ms[p].cl ≤ y.cl
      rw [h6]
      exact hR.le hgp h5 h3
    · rcases List.mem_cons.1 hb with rfl | hb
      · exact hR.before hgp a ha
      · obtain ⟨j, z, h3, _, h5, h6⟩ := hmid b hb
        have h7 := hR.before hgp a ha
        have h8 := hR.le hgp h5 h3
        rw [h6]
        omega
    · rcases List.mem_append.1 ha with ha | ha
      · have h7 := hR.before hgp a ha
        have h8 := hR.behind hgp (n := lastN ps + 1) (by omega) b hb
        omega
      · rcases List.mem_cons.1 ha with rfl | ha
        · exact hR.behind hgp (n := lastN ps + 1) (by omega) b hb
        · obtain ⟨j, z, _, h4, h5, h6⟩ := hmid a ha
          rw [h6]
          exact hR.behind h5 (n := lastN ps + 1) (by omega) b hb
theorem revOut_kp {s : PSu} {p : Nat} {g : Gl} (h : Kp m C r gs) (hg : gs[p]? = some g) (hz : ∀ t ∈ s.tt, ∀ z ∈ t, 0 ≤ z ∧ z < (m : Int)) : Kp m C r (revOut s gs p g) := by
  unfold revOut
  split
  · rename_i z t ht
    have hzz := hz _ (List.mem_of_getElem? ht) z (by simp)
    have e := split_at hg
    refine ⟨fun y hy => ?_, fun hr => ?_⟩
    · rcases List.mem_append.1 hy with hy | hy
      · exact h.1 y (List.mem_of_mem_take hy)
      · rcases List.mem_cons.1 hy with rfl | hy
        · exact ⟨hzz, (h.1 g (List.mem_of_getElem? hg)).2⟩
        · exact h.1 y (List.mem_of_mem_drop hy)
    · have hR := h.2 hr
      refine Ris.append (hR.take p) (List.Pairwise.cons (fun y hy => hR.behind hg (n := p + 1) (by omega) y hy) (hR.drop _)) fun a ha b hb => ?_
      rcases List.mem_cons.1 hb with rfl | hb
      · exact hR.before hg a ha
      · have h1 := hR.before hg a ha
        have h2 := hR.behind hg (n := p + 1) (by omega) b hb
        omega
  · exact h
end
/-- what of a lookup's subtables the buffer's glyphs lean on -/
structure LkIds (m : Nat) (l : Lk) (su : List PSu) : Prop where
  tto : l.ki = 1 ∨ l.ki = 2 ∨ l.ki = 5 → ∀ s ∈ su, ∀ t ∈ s.tt, ∀ z ∈ t, 0 ≤ z ∧ z < (m : Int)
  li : l.ki = 3 → ∀ s ∈ su, ∀ r ∈ s.li, ∀ x ∈ r, 0 ≤ x.2 ∧ x.2 < (m : Int)
theorem psOf_getD {su : List PSu} {j : Nat} (hj : j < (psOf su).length) : ∃ s, su[j]? = some s ∧ (psOf su).getD j nS = (s.co, s.tt) := by
  unfold psOf at hj ⊢
  rw [List.length_map] at hj
  refine ⟨su[j], List.getElem?_eq_getElem hj, ?_⟩
  rw [List.getD_eq_getElem?_getD, List.getElem?_map, List.getElem?_eq_getElem hj]; rfl
theorem toB_mem {l : Lk} {su : List PSu} {g : Int} {zs : List Int} (h : toB (l.ki, psOf su) g = some zs) : zs = [] ∨ ∃ s ∈ su, zs ∈ s.tt := by
  unfold toB at h
  split at h
  · obtain ⟨j, i, hj, _, rfl⟩ := goB_le h
    obtain ⟨s, hs, e⟩ := psOf_getD hj
    rw [e]
    show s.tt.getD i [] = [] ∨ _
    rw [List.getD_eq_getElem?_getD]
    cases ht : s.tt[i]? with
    | none => exact .inl rfl
    | some t => exact .inr ⟨s, List.mem_of_getElem? hs, List.mem_of_getElem? ht⟩
  · cases h
theorem sngB_kp {P : PFt} {m : Nat} {C : Int → Prop} {r : Prop} {l : Lk} {su : List PSu} {gs : List Gl} {p : Nat} {x : List Gl × Int} (hids : LkIds m l su) (h : Kp m C r gs) (hs : sngB P l su gs p = some x) : Kp m C r x.1 := by
  unfold sngB at hs
  split at hs
  · rename_i out k he
    split at hs
    · cases hs
      show Kp m C r out
      unfold sng0 at he
      split at he
      · rename_i hk
        split at he
        · rename_i h5
          cases he
          rcases applyG_cases (l.ki, psOf su) gs (p : Int) with h1 | ⟨p', g, zs, h1, h2, h3, h4⟩
          · rw [h1] at h5; cases h5
          · rw [h4]
            refine repG_kp h h2 fun z hz => ?_
            rcases toB_mem h3 with rfl | ⟨s, hs, ht⟩
            · cases hz
            · exact hids.tto (by omega) s hs zs ht z hz
        · cases he
      · split at he
        · rename_i hk
          cases hl : ligaB P l su gs p with
          | none => rw [hl] at he; cases he
          | some y =>
            rw [hl] at he; cases he
            unfold ligaB at hl
            split at hl
            · cases hl
            · rename_i x ps hf
              cases hl
              have hpl : p < gs.length := by
                unfold finB at hf
                split at hf
                · rename_i g hg; exact lt_of_some' hg
                · cases hf
              have h6 := finB_last hpl hf
              refine ligOut_kp h (List.getElem?_eq_getElem hpl) ?_ h6.2.2.1 h6.2.2.2
              have hx : ∃ s ∈ su, ∃ r ∈ s.li, x ∈ r := by
                unfold finB at hf
                split at hf
                · rename_i g _
                  have hmem : ∀ ls : List PG, findL P l gs p ls = some (x, ps) → x ∈ ls := fun ls => by
                    induction ls with
                    | nil => intro h; cases h
                    | cons y r ih =>
                      intro h
                      unfold findL at h
                      split at h
                      · cases h; simp
                      · simp [ih h]
                  exact partB_mem (hmem _ hf)
                · cases hf
              obtain ⟨s, h7, r', h8, h9⟩ := hx
              exact hids.li hk s h7 r' h8 x h9
        · split at he
          · rename_i hk
            cases hl : revAp P l su gs p with
            | none => rw [hl] at he; cases he
            | some y =>
              rw [hl] at he; cases he
              unfold revAp at hl
              split at hl
              · cases hl
              · split at hl
                · rename_i s g h1 h2
                  cases hl
                  exact revOut_kp h h2 (hids.tto (by omega) s (List.mem_of_getElem? h1))
                · cases hl
          · cases he
    · cases hs
  · cases hs
/-- whatever single keeps, once keeps -/
theorem onceB_keep {P : PFt} {Ls : List LkS} {I : List Gl → Prop} (hI : ∀ x ∈ Ls, ∀ gs p r, I gs → sngB P x.1 x.2 gs p = some r → I r.1) : ∀ (k L : Nat) (gs : List Gl) (nn at_ : Int) (r : List Gl × Int), I gs → (onceB P Ls k L gs nn at_).1 = some r → I r.1
  | 0, _, _, _, _, _, _, h => by cases h
  | k + 1, L, gs, nn, at_, r, hi, h => by
    by_cases hc : 0 ≤ nn ∧ nn < (Ls.length : Int) ∧ 0 ≤ at_ ∧ at_ < (gs.length : Int) ∧ L ≠ 0 ∧ gs.length ≤ 16384
    · obtain ⟨i, rfl⟩ : ∃ i : Nat, nn = (i : Int) := ⟨nn.toNat, by omega⟩
      obtain ⟨p, rfl⟩ : ∃ p : Nat, at_ = (p : Int) := ⟨at_.toNat, by omega⟩
      obtain ⟨⟨l, su⟩, hl⟩ : ∃ x, Ls[i]? = some x := ⟨_, List.getElem?_eq_getElem (by omega)⟩
      obtain ⟨g, hg⟩ : ∃ x, gs[p]? = some x := ⟨_, List.getElem?_eq_getElem (by omega)⟩
      rw [onceB_in hl hg hc.2.2.2.2.1 hc.2.2.2.2.2] at h
      split at h
      · cases h
      · split at h
        · split at h
          · cases h
          · unfold ctxB at h
            split at h
            · cases h
            · split at h
              · cases h
              · rename_i s _
                cases h
                have hf : ∀ (ns : List (Int × Int)) (st : NSt), I st.l → I (ns.foldl (nest1 (doB P Ls k)) st).l := by
                  intro ns
                  induction ns with
                  | nil => exact fun st h => h
                  | cons a r ih =>
                    intro st hst
                    refine ih _ ?_
                    unfold nest1
                    split
                    · split
                      · generalize hr : doB P Ls k st.L st.l a.2 (st.pl.getD a.1.toNat 0).toNat = q
                        rcases q with ⟨_ | now, L'⟩
                        · exact hst
                        · show I now
                          unfold doB at hr
                          cases hq : (onceB P Ls k st.L st.l a.2 (((st.pl.getD a.1.toNat 0).toNat : Nat) : Int)).1 with
                          | none => rw [hq] at hr; cases hr
                          | some r' =>
                            rw [hq] at hr
                            cases hr
                            exact onceB_keep hI k _ _ _ _ _ hst hq
                      · exact hst
                    · exact hst
                exact hf _ _ hi
        · split at h
          · rename_i r' h3
            cases h
            exact hI _ (List.mem_of_getElem? hl) gs p _ hi h3
          · cases h
    · rw [onceB_out hc] at h
      cases h
/-- whatever single keeps, all steps keep -/
theorem allB_keep {P : PFt} {Ls : List LkS} {I : List Gl → Prop} (hI : ∀ x ∈ Ls, ∀ gs p r, I gs → sngB P x.1 x.2 gs p = some r → I r.1) (xs : List (Int × Int)) (gs : List Gl) (L : Nat) (h : I gs) : I (allB P Ls xs gs L).1 :=
  allB_inv (I := fun g _ => I g) xs gs L (fun x _ gs L i g r L' hi _ _ ho => onceB_keep hI 9 L gs x.1 (i : Int) r hi (by rw [ho])) (fun x _ gs L i g L' hi _ _ _ => hi) h
/-- single and reverse lookups keep the number of glyphs -/
theorem sngB_one {P : PFt} {l : Lk} {su : List PSu} {gs : List Gl} {p : Nat} {x : List Gl × Int} (h1 : LkOne (l.ki, psOf su)) (h2 : l.ki ≠ 2) (h3 : l.ki ≠ 3) (hs : sngB P l su gs p = some x) : x.1.length = gs.length := by
  unfold sngB at hs
  split at hs
  · rename_i out k he
    split at hs
    · cases hs
      show out.length = gs.length
      unfold sng0 at he
      split at he
      · rename_i hk
        split at he
        · rename_i h5
          cases he
          rcases applyG_cases (l.ki, psOf su) gs (p : Int) with h1' | ⟨p', g, zs, _, h6, h7, h8⟩
          · rw [h1'] at h5; cases h5
          · rw [h8]
            have hz := toB_one h1 (show l.ki = 1 by omega) h7
            have hgl := lt_of_some' h6
            show (repG gs p' zs).length = gs.length
            rw [repG_of h6, if_neg (by omega)]
            unfold outG putG
            rw [List.length_append, List.length_append, List.length_map, List.length_take, List.length_drop]
            omega
        · cases he
      · split at he
        · cases hl : revAp P l su gs p with
          | none => rw [hl] at he; cases he
          | some y => rw [hl] at he; cases he; exact revAp_len hl
        · cases he
    · cases hs
  · cases hs

end Go.Proofs.Ytngdolmmaiogiaa
