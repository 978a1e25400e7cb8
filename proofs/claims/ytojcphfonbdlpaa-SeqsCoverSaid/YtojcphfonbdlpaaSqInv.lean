/- Matches are mutual: the match of a PDI is an initiator, and its match is that PDI. Plain. No condition. -/
import Derived.Test.YtojcphfonbdlpaaSqMatch
namespace Go.Proofs.Ytojcphfonbdlpaa.Bd

/-- what holds of what is matched so far -/
def Mut (l : List Int) (st : List Int × List Int) : Prop :=
  st.1.length = l.length ∧ (∀ k ∈ st.2, ∃ kn : Nat, k = (kn : Int) ∧ st.1[kn]? = some (-1) ∧ ∃ c, l[kn]? = some c ∧ opens c = true) ∧ st.2.Nodup ∧
    ∀ (i : Nat) (v : Int), st.1[i]? = some v → v ≠ -1 → ∃ j : Nat, v = (j : Int) ∧ st.1[j]? = some (i : Int) ∧
      ((l[j]? = some 23 ∧ i < j ∧ ∃ c, l[i]? = some c ∧ opens c = true) ∨ (l[i]? = some 23 ∧ j < i ∧ ∃ c, l[j]? = some c ∧ opens c = true))

theorem get_snoc {l : List Int} {i : Nat} {x c : Int} (h : l[i]? = some x) : (l ++ [c])[i]? = some x := by
  rw [List.getElem?_append_left (List.getElem?_eq_some_iff.1 h).1]; exact h
theorem Mut.add {l : List Int} {st : List Int × List Int} (h : Mut l st) (c : Int) (q : List Int) (hq : q.Sublist st.2) : Mut (l ++ [c]) (st.1 ++ [-1], q) := by
  obtain ⟨h1, h2, h3, h4⟩ := h
  refine ⟨by simp [h1], fun k hk => ?_, hq.nodup h3, fun i v hi hv => ?_⟩
  · obtain ⟨kn, e, h5, x, h6, h7⟩ := h2 k (hq.subset hk)
    exact ⟨kn, e, get_snoc h5, x, get_snoc h6, h7⟩
  · rcases Nat.lt_or_ge i st.1.length with hlt | hge
    · rw [List.getElem?_append_left hlt] at hi
      obtain ⟨j, e, h5, h6⟩ := h4 i v hi hv
      refine ⟨j, e, get_snoc h5, ?_⟩
      rcases h6 with ⟨h6, h7, x, h8, h9⟩ | ⟨h6, h7, x, h8, h9⟩
      · exact .inl ⟨get_snoc h6, h7, x, get_snoc h8, h9⟩
      · exact .inr ⟨get_snoc h6, h7, x, get_snoc h8, h9⟩
    · rw [List.getElem?_append_right hge] at hi
      rcases Nat.eq_zero_or_pos (i - st.1.length) with h0 | h0
      · rw [h0] at hi; simp at hi; exact absurd hi.symm hv
      · rw [List.getElem?_eq_none (by simp; omega)] at hi; cases hi
theorem mstep_mut {l : List Int} {st : List Int × List Int} (h : Mut l st) (c : Int) : Mut (l ++ [c]) (mstep st c) := by
  by_cases ho : opens c = true
  · rw [mstep_open ho]
    obtain ⟨h1, h2, h3, h4⟩ := h.add c st.2 (List.Sublist.refl _)
    have hl := h.1
    refine ⟨h1, fun k hk => ?_, ?_, h4⟩
    · rcases List.mem_append.1 hk with hk | hk
      · exact h2 k hk
      · simp at hk
        exact ⟨st.1.length, hk, by simp, c, by rw [hl]; simp, ho⟩
    · rw [List.nodup_append]
      refine ⟨h3, by simp, ?_⟩
      intro a ha b hb
      simp at hb
      obtain ⟨kn, e, h5, _⟩ := h.2.1 a ha
      have := (List.getElem?_eq_some_iff.1 h5).1
      omega
  · have hof : opens c = false := by simpa using ho
    by_cases h11 : c = 11
    · subst h11; rw [mstep_B]; exact h.add 11 [] (List.nil_sublist _)
    · by_cases h23 : c = 23
      · subst h23
        obtain ⟨out, o⟩ := st
        rcases List.eq_nil_or_concat o with rfl | ⟨q, k, ho'⟩
        · rw [mstep_stray]; exact h.add 23 [] (List.Sublist.refl _)
        · rw [List.concat_eq_append] at ho'
          subst ho'
          rw [mstep_pop]
          obtain ⟨h1, h2, h3, h4⟩ := h
          simp only at h1 h2 h3 h4
          obtain ⟨kn, rfl, h5, x, h6, h7⟩ := h2 k (by simp)
          have hkn := (List.getElem?_eq_some_iff.1 h5).1
          rw [List.nodup_append] at h3
          have hlen : (out ++ [(kn : Int)]).length = out.length + 1 := by simp
          have old : ∀ i : Nat, i < out.length → i ≠ kn → ((out ++ [(kn : Int)]).set ((kn : Int)).toNat (out.length : Int))[i]? = out[i]? := by
            intro i hi hne
            rw [Int.toNat_natCast, List.getElem?_set_ne (by omega), List.getElem?_append_left hi]
          have atk : ((out ++ [(kn : Int)]).set ((kn : Int)).toNat (out.length : Int))[kn]? = some (out.length : Int) := by
            rw [Int.toNat_natCast, List.getElem?_set_self (by simp; omega)]
          have atn : ((out ++ [(kn : Int)]).set ((kn : Int)).toNat (out.length : Int))[out.length]? = some (kn : Int) := by
            rw [Int.toNat_natCast, List.getElem?_set_ne (by omega)]; simp
          refine ⟨by simp [h1], fun a ha => ?_, h3.1, fun i v hi hv => ?_⟩
          · obtain ⟨an, rfl, h8, y, h9, h10⟩ := h2 a (by simp [ha])
            have hne : an ≠ kn := by
              rintro rfl
              exact h3.2.2 _ ha _ (by simp) rfl
            exact ⟨an, rfl, by rw [old an (List.getElem?_eq_some_iff.1 h8).1 hne]; exact h8, y, get_snoc h9, h10⟩
          · by_cases hik : i = kn
            · subst hik
              rw [atk] at hi
              simp at hi
              subst hi
              exact ⟨out.length, rfl, atn, .inl ⟨by rw [h1]; simp, hkn, x, get_snoc h6, h7⟩⟩
            · by_cases hin : i = out.length
              · subst hin
                rw [atn] at hi
                simp at hi
                subst hi
                exact ⟨kn, rfl, atk, .inr ⟨by rw [h1]; simp, hkn, x, get_snoc h6, h7⟩⟩
              · have hlt : i < out.length := by
                  have := (List.getElem?_eq_some_iff.1 hi).1
                  simp at this; omega
                rw [old i hlt hik] at hi
                obtain ⟨j, rfl, h8, h9⟩ := h4 i v hi hv
                have hjk : j ≠ kn := by
                  rintro rfl
                  rw [h5] at h8; simp at h8
                have hj := (List.getElem?_eq_some_iff.1 h8).1
                refine ⟨j, rfl, by rw [old j hj hjk]; exact h8, ?_⟩
                rcases h9 with ⟨h9, h10, y, h11, h12⟩ | ⟨h9, h10, y, h11, h12⟩
                · exact .inl ⟨get_snoc h9, h10, y, get_snoc h11, h12⟩
                · exact .inr ⟨get_snoc h9, h10, y, get_snoc h11, h12⟩
      · rw [mstep_else hof h11 h23]
        exact h.add c st.2 (List.Sublist.refl _)
theorem mrun_mut : ∀ (r l : List Int) (st : List Int × List Int), Mut l st → Mut (l ++ r) (mrun r st)
  | [], l, st, h => by simpa [mrun] using h
  | c :: r, l, st, h => by
    have := mrun_mut r (l ++ [c]) (mstep st c) (mstep_mut h c)
    simpa [mrun] using this
theorem mt_mut (l : List Int) : Mut l (mrun l ([], [])) := by
  have := mrun_mut l [] ([], []) ⟨rfl, by simp, by simp, by simp⟩
  simpa using this
/-- the match of a PDI -/
theorem mt_pdi {l : List Int} {q : Nat} {v : Int} (hq : l[q]? = some 23) (hv : (mt l)[q]? = some v) (hn : v ≠ -1) : ∃ p : Nat, v = (p : Int) ∧ p < q ∧ (mt l)[p]? = some (q : Int) ∧ ∃ c, l[p]? = some c ∧ opens c = true := by
  obtain ⟨_, _, _, h4⟩ := mt_mut l
  obtain ⟨p, e, h5, h6⟩ := h4 q v hv hn
  rcases h6 with ⟨_, _, c, h8, h9⟩ | ⟨_, h7, c, h8, h9⟩
  · rw [hq] at h8; cases h8; simp [opens] at h9
  · exact ⟨p, e, h7, h5, c, h8, h9⟩
/-- the match of an initiator -/
theorem mt_ini {l : List Int} {p : Nat} {c v : Int} (hp : l[p]? = some c) (ho : opens c = true) (hv : (mt l)[p]? = some v) (hn : v ≠ -1) : ∃ q : Nat, v = (q : Int) ∧ p < q ∧ (mt l)[q]? = some (p : Int) ∧ l[q]? = some 23 := by
  obtain ⟨_, _, _, h4⟩ := mt_mut l
  obtain ⟨q, e, h5, h6⟩ := h4 p v hv hn
  rcases h6 with ⟨h8, h9, _⟩ | ⟨h8, _⟩
  · exact ⟨q, e, h9, h5, h8⟩
  · rw [hp] at h8; cases h8; simp [opens] at ho

end Go.Proofs.Ytojcphfonbdlpaa.Bd
