/- The pairs, plain: each opens and closes in class 14 with the right signs; no two share a place, none cross; by their first places there is one order. No program in sight. No condition. -/
import Derived.Test.YtbpaogmnaodcaaaDoorPairP
namespace Go.Proofs.YtbpaogmnaodcaaaDoor

def OpenAt (RS CS : List Int) (a : Nat) : Prop := ∃ x, RS[a]? = some x ∧ CS[a]? = some 14 ∧ opOf x = true
def CloseAt (RS CS : List Int) (b : Nat) : Prop := ∃ y, RS[b]? = some y ∧ CS[b]? = some 14 ∧ opOf y = false ∧ paOf y ≠ 0
/-- an earlier pair and a later one, as they close -/
def Nests (p q : Int × Int) : Prop := p.2 < q.2 ∧ (q.1 < p.1 ∨ p.2 < q.1)
def PairAt (RS CS : List Int) (i : Nat) (p : Int × Int) : Prop := ∃ a b : Nat, p = ((a : Int), (b : Int)) ∧ a < b ∧ b < i ∧ OpenAt RS CS a ∧ CloseAt RS CS b
structure NInv (RS CS : List Int) (i : Nat) (st out : List (Int × Int)) : Prop where
  opens : ∀ p ∈ st, ∃ a : Nat, p.2 = (a : Int) ∧ a < i ∧ OpenAt RS CS a
  rises : st.Pairwise (fun p q => p.2 < q.2)
  apart : ∀ s ∈ st, ∀ p ∈ out, s.2 < p.1 ∨ p.2 < s.2
  pairs : ∀ p ∈ out, PairAt RS CS i p
  nests : out.Pairwise Nests

theorem PairAt.succ {RS CS : List Int} {i : Nat} {p : Int × Int} (h : PairAt RS CS i p) : PairAt RS CS (i + 1) p := by
  obtain ⟨a, b, h1, h2, h3, h4⟩ := h
  exact ⟨a, b, h1, h2, by omega, h4⟩
theorem NInv.succ {RS CS : List Int} {i : Nat} {st out : List (Int × Int)} (h : NInv RS CS i st out) : NInv RS CS (i + 1) st out :=
  ⟨fun p hp => by obtain ⟨a, h1, h2, h3⟩ := h.opens p hp; exact ⟨a, h1, by omega, h3⟩, h.rises, h.apart, fun p hp => (h.pairs p hp).succ, h.nests⟩

theorem drop_cons {l : List Int} {i : Nat} {x : Int} {r : List Int} (h : l.drop i = x :: r) : l[i]? = some x ∧ l.drop (i + 1) = r := by
  constructor
  · have := congrArg (fun z => z[0]?) h
    simpa using this
  · rw [← List.drop_drop, h]; rfl

theorem prs_nest (RS CS : List Int) : ∀ (r cr : List Int) (i : Nat) (st out : List (Int × Int)), RS.drop i = r → CS.drop i = cr → NInv RS CS i st out →
    ∀ l, prs i st out r cr = l → (∀ p ∈ l, PairAt RS CS (i + r.length) p) ∧ l.Pairwise Nests
  | [], cs, i, st, out, _, _, h, l, hl => by
    have : l = out := by rw [← hl]; cases cs <;> rfl
    subst this
    exact ⟨h.pairs, h.nests⟩
  | r :: rs, [], i, st, out, _, _, h, l, hl => by
    have : l = out := by rw [← hl]; rfl
    subst this
    refine ⟨fun p hp => ?_, h.nests⟩
    obtain ⟨a, b, h1, h2, h3, h4⟩ := h.pairs p hp
    exact ⟨a, b, h1, h2, by omega, h4⟩
  | r :: rs, c :: cs, i, st, out, hr, hc, h, l, hl => by
    have e : i + (r :: rs).length = (i + 1) + rs.length := by simp; omega
    obtain ⟨hr1, hr2⟩ := drop_cons hr
    obtain ⟨hc1, hc2⟩ := drop_cons hc
    have h' := h.succ
    rw [e]
    rw [prs] at hl
    split at hl
    · exact prs_nest RS CS rs cs (i + 1) st out hr2 hc2 h' l hl
    · rename_i hcp
      have hcp1 : c = 14 := Decidable.byContradiction fun hh => hcp (.inl hh)
      have hcp2 : paOf r ≠ 0 := fun hh => hcp (.inr hh)
      subst hcp1
      split at hl
      · rename_i hop
        split at hl
        · subst hl
          refine ⟨fun p hp => ?_, h.nests⟩
          obtain ⟨a, b, h1, h2, h3, h4⟩ := h.pairs p hp
          exact ⟨a, b, h1, h2, by omega, h4⟩
        · refine prs_nest RS CS rs cs (i + 1) _ out hr2 hc2 ⟨fun p hp => ?_, ?_, fun s hs p hp => ?_, h'.pairs, h.nests⟩ l hl
          · rcases List.mem_append.1 hp with hp | hp
            · exact h'.opens p hp
            · simp at hp; subst hp; exact ⟨i, rfl, by omega, r, hr1, hc1, hop⟩
          · rw [List.pairwise_append]
            refine ⟨h.rises, by simp, fun p hp q hq => ?_⟩
            simp at hq; subst hq
            obtain ⟨a, h1, h2, _⟩ := h.opens p hp
            simp only; omega
          · rcases List.mem_append.1 hs with hs | hs
            · exact h.apart s hs p hp
            · simp at hs; subst hs
              obtain ⟨a, b, h1, h2, h3, _⟩ := h.pairs p hp
              subst h1
              right; simp only; omega
      · rename_i hop
        have hop' : opOf r = false := by simpa using hop
        split at hl
        · rename_i k hk
          obtain ⟨h1, _⟩ := seek_lt _ _ _ _ hk
          have hg : st.getD k (0, 0) = st[k] := by rw [List.getD_eq_getElem?_getD, List.getElem?_eq_getElem h1]; rfl
          rw [hg] at hl
          obtain ⟨a, ha, hai, hao⟩ := h.opens (st[k]) (List.getElem_mem h1)
          refine prs_nest RS CS rs cs (i + 1) _ _ hr2 hc2 ⟨fun p hp => h'.opens p (List.mem_of_mem_take hp), h.rises.sublist (List.take_sublist _ _), fun s hs p hp => ?_, fun p hp => ?_, ?_⟩ l hl
          · rcases List.mem_append.1 hp with hp | hp
            · exact h.apart s (List.mem_of_mem_take hs) p hp
            · simp only [List.mem_singleton] at hp
              subst hp
              left
              obtain ⟨j, hj, rfl⟩ := List.getElem_of_mem hs
              simp at hj
              rw [List.getElem_take]
              exact (List.pairwise_iff_getElem.1 h.rises) j k (by omega) h1 (by omega)
          · rcases List.mem_append.1 hp with hp | hp
            · exact h'.pairs p hp
            · simp only [List.mem_singleton] at hp
              subst hp
              exact ⟨a, i, by rw [ha], hai, by omega, hao, r, hr1, hc1, hop', hcp2⟩
          · rw [List.pairwise_append]
            refine ⟨h.nests, by simp, fun p hp q hq => ?_⟩
            simp only [List.mem_singleton] at hq
            subst hq
            obtain ⟨a', b', h3, h4, h5, _⟩ := h.pairs p hp
            refine ⟨by rw [h3]; simp only; omega, ?_⟩
            exact h.apart (st[k]) (List.getElem_mem h1) p hp
        · exact prs_nest RS CS rs cs (i + 1) st out hr2 hc2 h' l hl

/-- in whatever order -/
def Nests2 (p q : Int × Int) : Prop := Nests p q ∨ Nests q p
/-- What the pairs are, by their first places. -/
structure Nested (RS CS : List Int) (n : Nat) (l : List (Int × Int)) : Prop where
  at_ : ∀ (k : Nat) p, l[k]? = some p → PairAt RS CS n p
  two : ∀ (i k : Nat) p q, i < k → l[i]? = some p → l[k]? = some q → p.1 < q.1 ∧ p.2 ≠ q.2 ∧ (p.2 < q.1 ∨ q.2 < p.2)

theorem nested_of {RS CS : List Int} {n : Nat} {l : List (Int × Int)} (hl : RS.length = n) (hp : l.Perm (prs 0 [] [] RS CS)) (hs : l.Pairwise (fun a b => a.1 ≤ b.1)) : Nested RS CS n l := by
  obtain ⟨h1, h2⟩ := prs_nest RS CS RS CS 0 [] [] rfl rfl ⟨by simp, List.Pairwise.nil, by simp, by simp, List.Pairwise.nil⟩ _ rfl
  rw [Nat.zero_add, hl] at h1
  have h3 : l.Pairwise Nests2 := (h2.imp (fun h => Or.inl h)).perm hp.symm (fun h => h.symm)
  refine ⟨fun k p hk => h1 p (hp.mem_iff.1 (List.mem_of_getElem? hk)), fun i k p q hik hi hk => ?_⟩
  obtain ⟨hi1, rfl⟩ := List.getElem?_eq_some_iff.1 hi
  obtain ⟨hk1, rfl⟩ := List.getElem?_eq_some_iff.1 hk
  have h4 := (List.pairwise_iff_getElem.1 h3) i k hi1 hk1 hik
  have h5 := (List.pairwise_iff_getElem.1 hs) i k hi1 hk1 hik
  obtain ⟨a, b, e1, e2, e3, _⟩ := h1 _ (hp.mem_iff.1 (List.getElem_mem hi1))
  obtain ⟨a', b', e1', e2', e3', _⟩ := h1 _ (hp.mem_iff.1 (List.getElem_mem hk1))
  rw [e1, e1'] at h4 h5 ⊢
  simp only [Nests2, Nests] at h4 h5 ⊢
  omega

/-- By their first places the pairs stand in one order. -/
theorem order_one {RS CS : List Int} {l m : List (Int × Int)} (hp : l.Perm (prs 0 [] [] RS CS)) (hs : l.Pairwise (fun a b => a.1 ≤ b.1)) (hp2 : m.Perm (prs 0 [] [] RS CS)) (hs2 : m.Pairwise (fun a b => a.1 ≤ b.1)) : l = m := by
  have hn := nested_of rfl hp hs
  refine (hp.trans hp2.symm).eq_of_pairwise (le := fun a b => a.1 ≤ b.1) (fun a b ha hb h1 h2 => ?_) hs hs2
  have hb' : b ∈ l := hp.mem_iff.2 (hp2.mem_iff.1 hb)
  obtain ⟨i, hi, rfl⟩ := List.getElem_of_mem ha
  obtain ⟨k, hk, rfl⟩ := List.getElem_of_mem hb'
  rcases Nat.lt_trichotomy i k with h | h | h
  · have := (hn.two i k _ _ h (List.getElem?_eq_getElem hi) (List.getElem?_eq_getElem hk)).1
    omega
  · subst h; rfl
  · have := (hn.two k i _ _ h (List.getElem?_eq_getElem hk) (List.getElem?_eq_getElem hi)).1
    omega

end Go.Proofs.YtbpaogmnaodcaaaDoor
