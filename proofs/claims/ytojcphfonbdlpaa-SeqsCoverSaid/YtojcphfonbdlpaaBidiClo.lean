/- Plain laws of matching: where an initiator's match lies, and that the scan over matches is a count of depth. No program in sight. No condition. -/
import Derived.Test.YtojcphfonbdlpaaBidiPlain
namespace Go.Proofs.Ytojcphfonbdlpaa.Bd

/-- where the isolate ends that began ahead of the list; the number: how many more are open within -/
def clo : Nat → List Int → Option Nat
  | _, [] => none
  | d, c :: r =>
    if c = 11 then none
    else if opens c then (clo (d + 1) r).map (· + 1)
    else if c = 23 then (match d with | 0 => some 0 | d + 1 => (clo d r).map (· + 1))
    else (clo d r).map (· + 1)
/-- the first strong class in no isolate; the number: how many isolates are open -/
def fst : Nat → List Int → Int
  | _, [] => 0
  | d, c :: r =>
    if c = 11 then 0
    else if opens c then fst (d + 1) r
    else if c = 23 then fst (d - 1) r
    else if d = 0 ∧ (c = 1 ∨ c = 2 ∨ c = 3) then c
    else fst d r
/-- the same, up to the end of the isolate that the list is within -/
def fs : Nat → List Int → Int
  | _, [] => 0
  | d, c :: r =>
    if c = 11 then 0
    else if opens c then fs (d + 1) r
    else if c = 23 then (match d with | 0 => 0 | d + 1 => fs d r)
    else if d = 0 ∧ (c = 1 ∨ c = 2 ∨ c = 3) then c
    else fs d r

theorem clo_lt : ∀ (r : List Int) (d j : Nat), clo d r = some j → j < r.length
  | [], d, j, h => by simp [clo] at h
  | c :: r, d, j, h => by
    unfold clo at h
    split at h
    · cases h
    · split at h
      · simp only [Option.map_eq_some_iff] at h
        obtain ⟨k, hk, rfl⟩ := h
        have := clo_lt r _ k hk; simp; omega
      · split at h
        · split at h
          · simp at h; subst h; simp
          · simp only [Option.map_eq_some_iff] at h
            obtain ⟨k, hk, rfl⟩ := h
            have := clo_lt r _ k hk; simp; omega
        · simp only [Option.map_eq_some_iff] at h
          obtain ⟨k, hk, rfl⟩ := h
          have := clo_lt r _ k hk; simp; omega

theorem mstep_stays (st : List Int × List Int) (c : Int) (i : Nat) (hi : i < st.1.length) (hn : ∀ k ∈ st.2, k ≠ (i : Int)) (hok : OpenOk st) :
    (mstep st c).1[i]? = st.1[i]? ∧ ∀ k ∈ (mstep st c).2, k ≠ (i : Int) := by
  unfold mstep
  split
  · refine ⟨List.getElem?_append_left hi, fun k hk => ?_⟩
    simp at hk
    rcases hk with hk | rfl
    · exact hn k hk
    · omega
  · split
    · exact ⟨List.getElem?_append_left hi, fun k hk => by simp at hk⟩
    · split
      · split
        · rename_i k hk
          have hm : k ∈ st.2 := List.mem_of_getLast? hk
          have h1 := hn k hm
          have h2 := hok k hm
          refine ⟨?_, fun k' hk' => hn k' ((List.dropLast_sublist _).subset hk')⟩
          rw [List.getElem?_set_ne (by omega)]
          exact List.getElem?_append_left hi
        · exact ⟨List.getElem?_append_left hi, hn⟩
      · exact ⟨List.getElem?_append_left hi, hn⟩
theorem mrun_stays : ∀ (r : List Int) (st : List Int × List Int) (i : Nat), i < st.1.length → (∀ k ∈ st.2, k ≠ (i : Int)) → OpenOk st → (mrun r st).1[i]? = st.1[i]?
  | [], _, _, _, _, _ => rfl
  | c :: r, st, i, hi, hn, hok => by
    obtain ⟨h1, h2⟩ := mstep_stays st c i hi hn hok
    have := mrun_stays r (mstep st c) i (by rw [mstep_length]; omega) h2 (mstep_ok st c hok)
    simp only [mrun, List.foldl_cons] at this ⊢
    rw [this, h1]

/-- what a match comes to -/
def ends (i : Nat) : Option Nat → Int
  | some j => ((i + j : Nat) : Int)
  | none => -1

theorem mrun_at : ∀ (r : List Int) (out o q : List Int) (i : Nat), i < out.length → out[i]? = some (-1) → OpenOk (out, o ++ [(i : Int)] ++ q) → (∀ k ∈ o, k ≠ (i : Int)) → (∀ k ∈ q, k ≠ (i : Int)) →
    (mrun r (out, o ++ [(i : Int)] ++ q)).1[i]? = some (ends out.length (clo q.length r))
  | [], out, o, q, i, hi, ho, _, _, _ => by simpa [mrun, clo, ends] using ho
  | c :: r, out, o, q, i, hi, ho, hok, h1, h2 => by
    have step : mrun (c :: r) (out, o ++ [(i : Int)] ++ q) = mrun r (mstep (out, o ++ [(i : Int)] ++ q) c) := by simp [mrun]
    rw [step]
    have hok' := mstep_ok _ c hok
    have hi' : i < (out ++ [-1]).length := by simp; omega
    have ho' : (out ++ [-1])[i]? = some (-1) := by rw [List.getElem?_append_left hi]; exact ho
    by_cases hopen : opens c = true
    · rw [mstep_open hopen] at hok' ⊢
      have e : (o ++ [(i : Int)] ++ q) ++ [((out, o ++ [(i : Int)] ++ q).1.length : Int)] = o ++ [(i : Int)] ++ (q ++ [(out.length : Int)]) := by simp
      rw [e] at hok' ⊢
      rw [mrun_at r _ o (q ++ [(out.length : Int)]) i hi' ho' hok' h1 (by
        intro k hk; simp at hk; rcases hk with hk | rfl
        · exact h2 k hk
        · omega)]
      have hc : c ≠ 11 := by rintro rfl; simp [opens] at hopen
      simp only [List.length_append, List.length_singleton, clo, hc, if_false, hopen, if_true]
      cases clo (q.length + 1) r with
      | none => rfl
      | some j => simp [ends]; omega
    · by_cases h11 : c = 11
      · subst h11
        rw [mstep_B, mrun_stays r _ i hi' (by intro k hk; simp at hk) (by intro k hk; simp at hk)]
        simp only [ho', clo, if_true, ends]
      · by_cases h23 : c = 23
        · subst h23
          rcases List.eq_nil_or_concat q with rfl | ⟨q', kk, hq⟩
          · simp only [List.append_nil] at hok' ⊢
            rw [mstep_pop] at hok' ⊢
            rw [mrun_stays r _ i (by simp; omega) h1 hok']
            simp only [Int.toNat_natCast]
            rw [List.getElem?_set_self (by simp; omega)]
            simp [clo, opens, ends]
          · rw [List.concat_eq_append] at hq
            subst hq
            have e : o ++ [(i : Int)] ++ (q' ++ [kk]) = (o ++ [(i : Int)] ++ q') ++ [kk] := by simp
            have hk := hok kk (by simp)
            have hki := h2 kk (by simp)
            simp only [e] at hok' ⊢
            rw [mstep_pop] at hok' ⊢
            rw [mrun_at r _ o q' i (by simp; omega) (by rw [List.getElem?_set_ne (by omega), List.getElem?_append_left hi]; exact ho) hok' h1 (fun k hk => h2 k (by simp [hk]))]
            simp only [List.length_append, List.length_singleton, List.length_set, clo, opens]
            simp
            cases clo q'.length r with
            | none => rfl
            | some j => simp [ends]; omega
        · have hof : opens c = false := by simpa using hopen
          rw [mstep_else hof h11 h23] at hok' ⊢
          rw [mrun_at r _ o q i hi' ho' hok' h1 h2]
          simp only [List.length_append, List.length_singleton, clo, h11, if_false, hof, h23]
          simp
          cases clo q.length r with
          | none => rfl
          | some j => simp [ends]; omega

/-- an initiator's match -/
theorem mt_at (p r : List Int) (c : Int) (h : opens c = true) : (mt (p ++ c :: r))[p.length]? = some (ends (p.length + 1) (clo 0 r)) := by
  have hlen := mrun_length p ([], [])
  have hok := mrun_ok p _ ok_nil
  have e : mrun (p ++ c :: r) ([], []) = mrun r (mstep (mrun p ([], [])) c) := by simp [mrun]
  rw [mt, e, mstep_open h]
  rcases hst : mrun p ([], []) with ⟨out, o⟩
  rw [hst] at hlen hok
  simp at hlen
  rw [← hlen]
  have := mrun_at r (out ++ [-1]) o [] out.length (by simp) (by simp) (by
    intro k hk; simp at hk
    rcases hk with hk | rfl
    · have := hok k hk; simp at this ⊢; omega
    · simp; omega) (by intro k hk; have := hok k hk; simp at this; omega) (by intro k hk; simp at hk)
  simpa using this

theorem fst_clo : ∀ (r : List Int) (d : Nat), fst (d + 1) r = match clo d r with | none => 0 | some j => fst 0 (r.drop (j + 1))
  | [], d => rfl
  | c :: r, d => by
    by_cases h11 : c = 11
    · subst h11; simp [fst, clo]
    · by_cases ho : opens c = true
      · simp only [fst, clo, h11, if_false, ho, if_true]
        rw [fst_clo r (d + 1)]
        cases clo (d + 1) r <;> rfl
      · have hof : opens c = false := by simpa using ho
        by_cases h23 : c = 23
        · subst h23
          cases d with
          | zero => simp [fst, clo, opens]
          | succ d =>
            simp only [fst, clo, h11, if_false, hof, if_true]
            simp only [Nat.add_sub_cancel]
            have := fst_clo r d
            simp
            rw [this]
            cases clo d r <;> rfl
        · simp only [fst, clo, h11, if_false, hof, h23]
          simp
          rw [fst_clo r d]
          cases clo d r <;> rfl

/-- within an isolate that ends, or does not -/
theorem fst_take : ∀ (r : List Int) (d j : Nat), clo d r = some j → fst d (r.take j) = fs d r
  | [], d, j, h => by simp [clo] at h
  | c :: r, d, j, h => by
    unfold clo at h
    by_cases h11 : c = 11
    · rw [if_pos h11] at h; cases h
    · rw [if_neg h11] at h
      by_cases ho : opens c = true
      · rw [if_pos ho] at h
        simp only [Option.map_eq_some_iff] at h
        obtain ⟨k, hk, rfl⟩ := h
        simp only [List.take_succ_cons, fst, fs, h11, if_false, ho, if_true]
        exact fst_take r _ _ hk
      · have hof : opens c = false := by simpa using ho
        rw [if_neg ho] at h
        by_cases h23 : c = 23
        · subst h23
          cases d with
          | zero => simp at h; subst h; simp [fst, fs, opens]
          | succ d =>
            simp only [if_true, Option.map_eq_some_iff] at h
            obtain ⟨k, hk, rfl⟩ := h
            simp only [List.take_succ_cons, fst, fs, h11, if_false, hof, if_true]
            exact fst_take r _ _ hk
        · rw [if_neg h23] at h
          simp only [Option.map_eq_some_iff] at h
          obtain ⟨k, hk, rfl⟩ := h
          simp only [List.take_succ_cons, fst, fs, h11, if_false, hof, h23, Bool.false_eq_true]
          rw [fst_take r _ _ hk]
theorem fst_all : ∀ (r : List Int) (d : Nat), clo d r = none → fst d r = fs d r
  | [], d, _ => rfl
  | c :: r, d, h => by
    unfold clo at h
    by_cases h11 : c = 11
    · subst h11; simp [fst, fs]
    · rw [if_neg h11] at h
      by_cases ho : opens c = true
      · rw [if_pos ho] at h
        simp only [Option.map_eq_none_iff] at h
        simp only [fst, fs, h11, if_false, ho, if_true]
        exact fst_all r _ h
      · have hof : opens c = false := by simpa using ho
        rw [if_neg ho] at h
        by_cases h23 : c = 23
        · subst h23
          cases d with
          | zero => simp at h
          | succ d =>
            simp only [if_true, Option.map_eq_none_iff] at h
            simp only [fst, fs, h11, if_false, hof, if_true]
            exact fst_all r _ h
        · rw [if_neg h23] at h
          simp only [Option.map_eq_none_iff] at h
          simp only [fst, fs, h11, if_false, hof, h23, Bool.false_eq_true]
          rw [fst_all r _ h]

/-- the cut that First is asked of -/
def cut (l : List Int) (a b : Int) : List Int := (l.drop (max a 0).toNat).take ((min b l.length).toNat - (max a 0).toNat)
def firstOf (l : List Int) (a b : Int) : Int := if max a 0 ≥ min b l.length then 0 else fst 0 (cut l a b)

/-- what an FSI asks -/
theorem firstOf_fsi (p r : List Int) (c : Int) (h : opens c = true) (to : Int) (hto : to = (let m := (mt (p ++ c :: r)).getD p.length 0; if m = -1 then ((p ++ c :: r).length : Int) else m)) :
    firstOf (p ++ c :: r) ((p.length : Int) + 1) to = fs 0 r := by
  have hm := mt_at p r c h
  rw [List.getD_eq_getElem?_getD, hm] at hto
  simp only [Option.getD_some] at hto
  have hd : (p ++ c :: r).drop (p.length + 1) = r := by
    rw [show p ++ c :: r = (p ++ [c]) ++ r by simp, List.drop_append_of_le_length (by simp)]
    simp
  have ha : (max ((p.length : Int) + 1) 0).toNat = p.length + 1 := by omega
  cases hc : clo 0 r with
  | none =>
    rw [hc] at hto
    simp only [ends, if_true] at hto
    subst hto
    unfold firstOf cut
    rw [ha, hd]
    have hl : ((p ++ c :: r).length : Int) = p.length + 1 + r.length := by simp; omega
    rw [hl]
    have hmin : (min ((p.length : Int) + 1 + r.length) (p.length + 1 + r.length)).toNat - (p.length + 1) = r.length := by omega
    rw [hmin, List.take_length, fst_all r 0 hc]
    split
    · have : r = [] := List.eq_nil_of_length_eq_zero (by omega)
      subst this; rfl
    · rfl
  | some j =>
    have hj := clo_lt r 0 j hc
    rw [hc] at hto
    have hne : ends (p.length + 1) (some j) ≠ -1 := by simp [ends]; omega
    simp only [if_neg hne] at hto
    subst hto
    unfold firstOf cut
    rw [ha, hd]
    have hl : ((p ++ c :: r).length : Int) = p.length + 1 + r.length := by simp; omega
    rw [hl, show ends (p.length + 1) (some j) = (((p.length + 1 + j : Nat) : Int)) from rfl]
    have hmin : (min (((p.length + 1 + j : Nat) : Int)) ((p.length : Int) + 1 + r.length)).toNat - (p.length + 1) = j := by omega
    rw [hmin, fst_take r 0 j hc]
    by_cases hj0 : j = 0
    · subst hj0
      have h0 := fst_take r 0 0 hc
      rw [← h0]
      simp [fst]
    · rw [if_neg (by omega)]

end Go.Proofs.Ytojcphfonbdlpaa.Bd
