/- Resolve, plain: pair by pair, what is inside gives both brackets and the marks behind them a class. What it leaves alone; both brackets of a pair end alike. No program in sight. No condition. -/
import Derived.Test.YtbpaogmnaodcaaaDoorNestP
namespace Go.Proofs.YtbpaogmnaodcaaaDoor

/-- a class's direction; 0: it has none -/
def dirOf (c : Int) : Int := if c = 1 then 1 else if c = 2 ∨ c = 4 ∨ c = 7 then 2 else 0
theorem dirOf_cases (c : Int) : dirOf c = 0 ∨ dirOf c = 1 ∨ dirOf c = 2 := by
  unfold dirOf
  split
  · exact .inr (.inl rfl)
  · split
    · exact .inr (.inr rfl)
    · exact .inl rfl
/-- the last other direction; none: the level's own was met -/
def scan (wy : Int) : Int → List Int → Option Int
  | o, [] => some o
  | o, c :: r => if dirOf c = wy then none else scan wy (if dirOf c = 0 then o else dirOf c) r
/-- the direction that a place comes from -/
def aheadOf (so : Int) (cs : List Int) : Nat → Int
  | 0 => so
  | k + 1 => if dirOf (cs.getD k 0) = 0 then aheadOf so cs k else dirOf (cs.getD k 0)
def insideOf (wy so : Int) (cs : List Int) (a b : Nat) : Int :=
  match scan wy 0 ((cs.take b).drop (a + 1)) with
  | none => wy
  | some o => if o = 0 ∨ aheadOf so cs a = o then o else wy
/-- the marks from a place on -/
def giveFrom (rs : List Int) (v : Int) : Nat → List Int → Nat → List Int
  | 0, cs, _ => cs
  | f + 1, cs, i => if i < rs.length ∧ biOf (rs.getD i 0) = 9 then giveFrom rs v f (cs.set i v) (i + 1) else cs
def giveOf (rs : List Int) (v : Int) (cs : List Int) (a : Nat) : List Int := giveFrom rs v (rs.length - (a + 1)) (cs.set a v) (a + 1)
def stepOf (rs : List Int) (wy so : Int) (cs : List Int) (p : Int × Int) : List Int :=
  if insideOf wy so cs p.1.toNat p.2.toNat = 0 then cs
  else giveOf rs (insideOf wy so cs p.1.toNat p.2.toNat) (giveOf rs (insideOf wy so cs p.1.toNat p.2.toNat) cs p.1.toNat) p.2.toNat
def rsv (rs : List Int) (wy so : Int) (cs : List Int) (l : List (Int × Int)) : List Int := l.foldl (stepOf rs wy so) cs
/-- the pairs by their first places -/
def prsS (rs cs : List Int) : List (Int × Int) := (prs 0 [] [] rs cs).mergeSort (fun a b => decide (a.1 ≤ b.1))
theorem prsS_perm (rs cs : List Int) : (prsS rs cs).Perm (prs 0 [] [] rs cs) := List.mergeSort_perm _ _
theorem prsS_sorted (rs cs : List Int) : (prsS rs cs).Pairwise (fun a b => a.1 ≤ b.1) := by
  have := List.pairwise_mergeSort (le := fun (a b : Int × Int) => decide (a.1 ≤ b.1)) (fun a b c h1 h2 => by simp at *; omega) (fun a b => by simp; omega) (prs 0 [] [] rs cs)
  exact this.imp (fun h => by simpa using h)
theorem prsS_one {rs cs : List Int} {l : List (Int × Int)} (hp : l.Perm (prs 0 [] [] rs cs)) (hs : l.Pairwise (fun a b => a.1 ≤ b.1)) : l = prsS rs cs := order_one hp hs (prsS_perm rs cs) (prsS_sorted rs cs)

theorem giveFrom_length (rs : List Int) (v : Int) : ∀ (f : Nat) (cs : List Int) (i : Nat), (giveFrom rs v f cs i).length = cs.length
  | 0, _, _ => rfl
  | f + 1, cs, i => by rw [giveFrom]; split; (· rw [giveFrom_length rs v f]; simp); rfl
theorem giveOf_length (rs : List Int) (v : Int) (cs : List Int) (a : Nat) : (giveOf rs v cs a).length = cs.length := by rw [giveOf, giveFrom_length]; simp
theorem stepOf_length (rs : List Int) (wy so : Int) (cs : List Int) (p : Int × Int) : (stepOf rs wy so cs p).length = cs.length := by
  unfold stepOf; split; (· rfl); rw [giveOf_length, giveOf_length]
theorem rsv_length (rs : List Int) (wy so : Int) : ∀ (l : List (Int × Int)) (cs : List Int), (rsv rs wy so cs l).length = cs.length
  | [], _ => rfl
  | p :: l, cs => by have := rsv_length rs wy so l (stepOf rs wy so cs p); rw [stepOf_length] at this; exact this

/-- from s one gets to i by marks alone -/
def Reach (rs : List Int) (s i : Nat) : Prop := s ≤ i ∧ ∀ j, s < j → j ≤ i → biOf (rs.getD j 0) = 9
theorem giveFrom_other (rs : List Int) (v : Int) (k : Nat) : ∀ (f : Nat) (cs : List Int) (i : Nat), ¬ (i ≤ k ∧ ∀ j, i ≤ j → j ≤ k → biOf (rs.getD j 0) = 9) → (giveFrom rs v f cs i)[k]? = cs[k]?
  | 0, _, _, _ => rfl
  | f + 1, cs, i, h => by
    rw [giveFrom]
    split
    · rename_i h1
      have hik : i ≠ k := fun e => h ⟨by omega, fun j h2 h3 => by rw [show j = i by omega]; exact h1.2⟩
      rw [giveFrom_other rs v k f _ (i + 1) (fun h2 => h ⟨by omega, fun j h3 h4 => by
        rcases Nat.eq_or_lt_of_le h3 with rfl | h5
        · exact h1.2
        · exact h2.2 j (by omega) h4⟩)]
      rw [List.getElem?_set_ne hik]
    · rfl
theorem giveOf_other (rs : List Int) (v : Int) (cs : List Int) (a k : Nat) (h : ¬ Reach rs a k) : (giveOf rs v cs a)[k]? = cs[k]? := by
  unfold giveOf
  by_cases hak : a = k
  · exact absurd ⟨by omega, fun j h1 h2 => by omega⟩ h
  · rw [giveFrom_other rs v k _ _ _ (fun h2 => h ⟨by omega, fun j h3 h4 => h2.2 j (by omega) h4⟩), List.getElem?_set_ne hak]
theorem giveOf_self (rs : List Int) (v : Int) (cs : List Int) (a : Nat) (h : a < cs.length) : (giveOf rs v cs a)[a]? = some v := by
  unfold giveOf
  rw [giveFrom_other rs v a _ _ _ (fun h2 => by omega)]
  simp [h]
/-- no pair of the list reaches the place -/
def Away (rs : List Int) (l : List (Int × Int)) (k : Nat) : Prop := ∀ p ∈ l, ¬ Reach rs p.1.toNat k ∧ ¬ Reach rs p.2.toNat k
theorem stepOf_away (rs : List Int) (wy so : Int) (cs : List Int) (p : Int × Int) (k : Nat) (h : ¬ Reach rs p.1.toNat k ∧ ¬ Reach rs p.2.toNat k) : (stepOf rs wy so cs p)[k]? = cs[k]? := by
  unfold stepOf
  split
  · rfl
  · rw [giveOf_other _ _ _ _ _ h.2, giveOf_other _ _ _ _ _ h.1]
theorem rsv_away (rs : List Int) (wy so : Int) (k : Nat) : ∀ (l : List (Int × Int)) (cs : List Int), Away rs l k → (rsv rs wy so cs l)[k]? = cs[k]?
  | [], _, _ => rfl
  | p :: l, cs, h => by
    have h1 := rsv_away rs wy so k l (stepOf rs wy so cs p) (fun q hq => h q (List.mem_cons_of_mem _ hq))
    rw [stepOf_away _ _ _ _ _ _ (h p (List.mem_cons_self))] at h1
    exact h1

/-- a bracket is no mark -/
theorem tabs_marks : ∀ c ∈ tabs, ∀ s ∈ c, (s.op = true ∨ s.pa ≠ 0) → s.bi ≠ 9 := by decide +kernel
theorem found_mark (r : Int) (h : (found r).1.op = true ∨ (found r).1.pa ≠ 0) : (found r).1.bi ≠ 9 := by
  unfold found at h ⊢
  split
  · simp [Sign.zero]
  · rename_i hk
    simp only [if_neg hk] at h
    have hk' : kOf r < tabs.length := by have := kOf_le r; rw [tabs_length]; omega
    have hc : tabs.getD (kOf r) [] ∈ tabs := by rw [List.getD_eq_getElem?_getD, List.getElem?_eq_getElem hk']; exact List.getElem_mem hk'
    generalize tabs.getD (kOf r) [] = c at hc h ⊢
    by_cases hj : jOf c r < c.length
    · have hm : c.getD (jOf c r) Sign.zero ∈ c := by rw [List.getD_eq_getElem?_getD, List.getElem?_eq_getElem hj]; exact List.getElem_mem hj
      exact tabs_marks c hc _ hm h
    · have : c.getD (jOf c r) Sign.zero = Sign.zero := by rw [List.getD_eq_getElem?_getD, List.getElem?_eq_none (by omega)]; rfl
      rw [this]
      simp [Sign.zero]
theorem open_mark {r : Int} (h : opOf r = true) : biOf r ≠ 9 := by
  unfold opOf at h
  unfold biOf
  split at h
  · rename_i hf
    rw [if_pos hf]
    exact found_mark r (.inl h)
  · cases h
theorem pair_mark {r : Int} (h : paOf r ≠ 0) : biOf r ≠ 9 := by
  unfold paOf at h
  unfold biOf
  split at h
  · rename_i hf
    rw [if_pos hf]
    exact found_mark r (.inr h)
  · exact absurd rfl h
/-- a place of a bracket -/
def Mark0 (rs : List Int) (s : Nat) : Prop := biOf (rs.getD s 0) ≠ 9
theorem OpenAt.mark {rs cs : List Int} {a : Nat} (h : OpenAt rs cs a) : Mark0 rs a := by
  obtain ⟨x, h1, _, h2⟩ := h
  unfold Mark0
  rw [List.getD_eq_getElem?_getD, h1]
  exact open_mark h2
theorem CloseAt.mark {rs cs : List Int} {a : Nat} (h : CloseAt rs cs a) : Mark0 rs a := by
  obtain ⟨x, h1, _, _, h2⟩ := h
  unfold Mark0
  rw [List.getD_eq_getElem?_getD, h1]
  exact pair_mark h2
theorem Reach.eq {rs : List Int} {s k : Nat} (h : Reach rs s k) (hk : Mark0 rs k) : s = k := by
  rcases Nat.eq_or_lt_of_le h.1 with h1 | h1
  · exact h1
  · exact absurd (h.2 k h1 (Nat.le_refl _)) hk

/-- Both brackets of a pair end alike. -/
theorem rsv_alike {rs cs : List Int} {n : Nat} {l : List (Int × Int)} (hn : Nested rs cs n l) (wy so : Int) (k a b : Nat) (hk : l[k]? = some ((a : Int), (b : Int))) : (rsv rs wy so cs l)[a]? = (rsv rs wy so cs l)[b]? := by
  obtain ⟨hk1, hk2⟩ := List.getElem?_eq_some_iff.1 hk
  obtain ⟨a', b', e, hab, hbn, hoa, hcb⟩ := hn.at_ k _ hk
  simp only [Prod.mk.injEq] at e
  have ea : a' = a := by omega
  have eb : b' = b := by omega
  subst ea eb
  have hma := hoa.mark
  have hmb := hcb.mark
  have hl : l = l.take k ++ ((a' : Int), (b' : Int)) :: l.drop (k + 1) := by rw [← hk2, ← List.drop_eq_getElem_cons hk1, List.take_append_drop]
  have hother : ∀ (j : Nat) q, j ≠ k → l[j]? = some q → (q.1 ≠ (a' : Int) ∧ q.2 ≠ (a' : Int) ∧ q.1 ≠ (b' : Int) ∧ q.2 ≠ (b' : Int)) ∧ 0 ≤ q.1 ∧ 0 ≤ q.2 := by
    intro j q hj hq
    obtain ⟨c, d, e, hcd, hdn, ⟨x, hx, _, hxo⟩, ⟨y, hy, _, hyo, _⟩⟩ := hn.at_ j q hq
    subst e
    obtain ⟨z, hz, _, hzo⟩ := hoa
    obtain ⟨u, hu, _, huo, _⟩ := hcb
    have n1 : d ≠ a' := by rintro rfl; rw [hz] at hy; cases hy; rw [hzo] at hyo; cases hyo
    have n2 : c ≠ b' := by rintro rfl; rw [hu] at hx; cases hx; rw [hxo] at huo; cases huo
    rcases Nat.lt_or_gt_of_ne hj with h | h
    · have := hn.two j k _ _ h hq hk
      simp only at this ⊢
      omega
    · have := hn.two k j _ _ h hk hq
      simp only at this ⊢
      omega
  have away : ∀ (m : List (Int × Int)), (∀ q ∈ m, ∃ j, j ≠ k ∧ l[j]? = some q) → Away rs m a' ∧ Away rs m b' := by
    intro m hm
    constructor
    · intro q hq
      obtain ⟨j, hj, hq'⟩ := hm q hq
      obtain ⟨⟨h1, h2, h3, h4⟩, h5, h6⟩ := hother j q hj hq'
      exact ⟨fun h => by have := h.eq hma; omega, fun h => by have := h.eq hma; omega⟩
    · intro q hq
      obtain ⟨j, hj, hq'⟩ := hm q hq
      obtain ⟨⟨h1, h2, h3, h4⟩, h5, h6⟩ := hother j q hj hq'
      exact ⟨fun h => by have := h.eq hmb; omega, fun h => by have := h.eq hmb; omega⟩
  obtain ⟨x1, x2⟩ := away (l.take k) (fun q hq => by
    obtain ⟨j, hj, rfl⟩ := List.getElem_of_mem hq
    simp at hj
    exact ⟨j, by omega, by rw [List.getElem_take]; exact List.getElem?_eq_getElem (by omega)⟩)
  obtain ⟨y1, y2⟩ := away (l.drop (k + 1)) (fun q hq => by
    obtain ⟨j, hj, rfl⟩ := List.getElem_of_mem hq
    simp at hj
    exact ⟨k + 1 + j, by omega, by rw [List.getElem_drop]; exact List.getElem?_eq_getElem (by omega)⟩)
  have hr : rsv rs wy so cs l = rsv rs wy so (stepOf rs wy so (rsv rs wy so cs (l.take k)) ((a' : Int), (b' : Int))) (l.drop (k + 1)) := by
    unfold rsv
    conv => lhs; rw [hl]
    rw [List.foldl_append, List.foldl_cons]
  rw [hr, rsv_away _ _ _ _ _ _ y1, rsv_away _ _ _ _ _ _ y2]
  have g1 := rsv_away rs wy so a' (l.take k) cs x1
  have g2 := rsv_away rs wy so b' (l.take k) cs x2
  have hlen := rsv_length rs wy so (l.take k) cs
  obtain ⟨_, _, ca, _⟩ := hoa
  obtain ⟨_, _, cb, _⟩ := hcb
  rw [ca] at g1
  rw [cb] at g2
  have la := (List.getElem?_eq_some_iff.1 ca).1
  have lb := (List.getElem?_eq_some_iff.1 cb).1
  generalize rsv rs wy so cs (l.take k) = q at g1 g2 hlen ⊢
  unfold stepOf
  simp only [Int.toNat_natCast]
  split
  · rw [g1, g2]
  · rw [giveOf_self _ _ _ b' (by rw [giveOf_length]; omega), giveOf_other _ _ _ b' a' (fun h => by have := h.1; omega), giveOf_self _ _ _ a' (by omega)]

/-- where a place's marks begin -/
def back (rs : List Int) : Nat → Nat
  | 0 => 0
  | k + 1 => if biOf (rs.getD (k + 1) 0) = 9 then back rs k else k + 1
theorem Reach.back {rs : List Int} {s : Nat} (hs : Mark0 rs s) : ∀ (i : Nat), Reach rs s i → back rs i = s
  | 0, h => by have := h.1; simp [Go.Proofs.YtbpaogmnaodcaaaDoor.back]; omega
  | k + 1, h => by
    rw [Go.Proofs.YtbpaogmnaodcaaaDoor.back]
    by_cases hk : s = k + 1
    · subst hk; rw [if_neg hs]
    · have := h.1
      rw [if_pos (h.2 (k + 1) (by omega) (Nat.le_refl _))]
      exact Reach.back hs k ⟨by omega, fun j h1 h2 => h.2 j h1 (by omega)⟩
/-- what may change -/
def mayTurn (rs : List Int) (l : List (Int × Int)) (i : Nat) : Bool := l.any fun p => decide (p.1 = (back rs i : Int)) || decide (p.2 = (back rs i : Int))
theorem rsv_turns {rs cs : List Int} {n : Nat} {l : List (Int × Int)} (hn : Nested rs cs n l) (wy so : Int) (i : Nat) (h : (rsv rs wy so cs l)[i]? ≠ cs[i]?) : mayTurn rs l i = true := by
  have h1 : ¬ Away rs l i := fun ha => h (rsv_away rs wy so i l cs ha)
  unfold Away at h1
  obtain ⟨p, hp, h2⟩ : ∃ p, p ∈ l ∧ ¬ (¬ Reach rs p.1.toNat i ∧ ¬ Reach rs p.2.toNat i) := by
    apply Classical.byContradiction
    intro hc
    exact h1 fun p hp => Classical.byContradiction fun hh => hc ⟨p, hp, hh⟩
  obtain ⟨k, hk, rfl⟩ := List.getElem_of_mem hp
  obtain ⟨a, b, e, _, _, hoa, hcb⟩ := hn.at_ k _ (List.getElem?_eq_getElem hk)
  unfold mayTurn
  rw [List.any_eq_true]
  refine ⟨_, hp, ?_⟩
  rw [e] at h2 ⊢
  simp only [Int.toNat_natCast] at h2
  by_cases hr : Reach rs a i
  · have := hr.back hoa.mark
    simp; left; omega
  · have hr2 : Reach rs b i := Classical.byContradiction fun hh => h2 ⟨hr, hh⟩
    have := hr2.back hcb.mark
    simp; right; omega

end Go.Proofs.YtbpaogmnaodcaaaDoor
