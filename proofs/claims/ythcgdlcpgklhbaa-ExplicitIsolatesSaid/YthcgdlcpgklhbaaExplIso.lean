/- What stands within an isolate does not change what is told outside. No program in sight. No condition. -/
import Derived.Test.YthcgdlcpgklhbaaLevPlain
namespace Go.Proofs.Ythcgdlcpgklhbaa.Lv
open Bd

/-- a class that may stand within: no isolate sign, no B -/
def Inner (c : Int) : Prop := opens c = false ∧ c ≠ 23 ∧ c ≠ 11

theorem fs_inner : ∀ (w r : List Int) (d : Nat), (∀ c ∈ w, Inner c) → fs (d + 1) (w ++ r) = fs (d + 1) r
  | [], _, _, _ => rfl
  | c :: w, r, d, h => by
    obtain ⟨h1, h2, h3⟩ := h c (by simp)
    simp only [List.cons_append, fs, h3, if_false, h1, h2, Bool.false_eq_true]
    rw [if_neg (by omega)]
    exact fs_inner w r d (fun c hc => h c (by simp [hc]))
theorem fs_laid (o : Int) (ho : opens o = true) (w w' y : List Int) (hw : ∀ c ∈ w, Inner c) (hw' : ∀ c ∈ w', Inner c) : ∀ (x : List Int) (d : Nat), fs d (x ++ o :: (w ++ 23 :: y)) = fs d (x ++ o :: (w' ++ 23 :: y))
  | [], d => by
    have h11 : o ≠ 11 := by rintro rfl; simp [opens] at ho
    simp only [List.nil_append, fs, h11, if_false, ho, if_true]
    rw [fs_inner w _ d hw, fs_inner w' _ d hw']
  | c :: x, d => by
    have ih := fun d => fs_laid o ho w w' y hw hw' x d
    simp only [List.cons_append, fs]
    split
    · rfl
    · split
      · exact ih _
      · split
        · split
          · rfl
          · exact ih _
        · split
          · rfl
          · exact ih _

/-- a state within an isolate that found room -/
def Within (s t : S) (i : Ent) : Prop := t.iso = 0 ∧ t.val = s.val + 1 ∧ ∃ f : List Ent, (∀ e ∈ f, e.is = false) ∧ t.stk = f ++ i :: s.stk
theorem embed_within {s t : S} {i : Ent} (c : Int) (h : Within s t i) : Within s (embed t c) i := by
  obtain ⟨h1, h2, f, h3, h4⟩ := h
  unfold embed
  split
  · refine ⟨h1, h2, _ :: f, ?_, by rw [h4]; rfl⟩
    intro e he
    simp at he
    rcases he with rfl | he
    · rfl
    · exact h3 e he
  · exact ⟨h1, h2, f, h3, h4⟩
theorem pop_within {s t : S} {i : Ent} (hi : i.is = true) (h : Within s t i) : Within s (pop t) i := by
  obtain ⟨h1, h2, f, h3, h4⟩ := h
  unfold pop
  split
  · exact ⟨h1, h2, f, h3, h4⟩
  · split
    · exact ⟨h1, h2, f, h3, h4⟩
    · split
      · rename_i hc
        cases f with
        | nil =>
          have : (Lv.top t).is = true := by simp [Lv.top, h4, hi]
          rw [this] at hc
          simp at hc
        | cons a f => exact ⟨h1, h2, f, fun e he => h3 e (by simp [he]), by simp [h4]⟩
      · exact ⟨h1, h2, f, h3, h4⟩
theorem step_inner {base was c : Int} {t : S} {r : List Int} (h : Inner c) : (step base t was c r).2 = if removed c then (if c = 19 then pop t else if c = 10 then t else embed t c) else t := by
  obtain ⟨h1, h2, h3⟩ := h
  have h4 : c ≠ 20 ∧ c ≠ 21 ∧ c ≠ 22 := by
    refine ⟨?_, ?_, ?_⟩ <;> (rintro rfl; simp [opens] at h1)
  unfold step
  split
  · rfl
  · simp [h4.1, h4.2.1, h4.2.2]
theorem popIso_f : ∀ (f : List Ent) (i : Ent) (r : List Ent), (∀ e ∈ f, e.is = false) → i.is = true → popIso (f ++ i :: r) = r
  | [], i, r, _, hi => by simp [popIso, hi]
  | e :: f, i, r, h, hi => by
    have := popIso_f f i r (fun e he => h e (by simp [he])) hi
    simp [popIso, h e (by simp), this]
theorem endI_within {s t : S} {i : Ent} (hi : i.is = true) (hs1 : s.iso = 0) (hs2 : s.emb = 0) (h : Within s t i) : endI t = s := by
  obtain ⟨h1, h2, f, h3, h4⟩ := h
  unfold endI
  rw [if_neg (by omega), if_neg (by omega), h4, popIso_f f i s.stk h3 hi, h2]
  cases s
  simp at hs1 hs2
  simp [h1, hs1, hs2]
/-- the inside, whichever way: behind it the end of the isolate leads back -/
theorem inside (base : Int) (s : S) (odd : Bool) : ∀ (w : List Int) (r : List Int) (was : Int) (t : S), (∀ c ∈ w, Inner c) →
    ((t = { s with iso := s.iso + 1 }) ∨ (s.iso = 0 ∧ s.emb = 0 ∧ Within s t ⟨nx (top s).lv odd, 0, true⟩)) →
    ∃ (os : List Out) (t' : S) (was' : Int), os.length = w.length ∧ endI t' = s ∧ lev base t was (w ++ r) = os ++ lev base t' was' r
  | [], r, was, t, _, ht => by
    refine ⟨[], t, was, rfl, ?_, rfl⟩
    rcases ht with rfl | ⟨h1, h2, h3⟩
    · unfold endI; rw [if_pos (by simp)]; simp
    · exact endI_within rfl h1 h2 h3
  | c :: w, r, was, t, hw, ht => by
    have hc := hw c (by simp)
    have hn : (step base t was c (w ++ r)).2 = { s with iso := s.iso + 1 } ∨ (s.iso = 0 ∧ s.emb = 0 ∧ Within s (step base t was c (w ++ r)).2 ⟨nx (top s).lv odd, 0, true⟩) := by
      rw [step_inner hc]
      rcases ht with rfl | ⟨h1, h2, h3⟩
      · left
        split
        · split
          · unfold pop; rw [if_pos (by simp)]
          · split
            · rfl
            · unfold embed
              rw [if_neg (by simp [room]), if_neg (by simp)]
        · rfl
      · right
        refine ⟨h1, h2, ?_⟩
        split
        · split
          · exact pop_within rfl h3
          · split
            · exact h3
            · exact embed_within c h3
        · exact h3
    obtain ⟨os, t', was', h1, h2, h3⟩ := inside base s odd w r (step base t was c (w ++ r)).1.lv _ (fun c hc => hw c (by simp [hc])) hn
    exact ⟨(step base t was c (w ++ r)).1 :: os, t', was', by simp [h1], h2, by simp only [List.cons_append, lev, h3]⟩
theorem step_pdi {base was : Int} {t : S} {r : List Int} : step base t was 23 r = (⟨(top (endI t)).lv, own (endI t) 23⟩, endI t) := rfl
theorem isol_cases (s : S) (odd : Bool) : isol s odd = { s with iso := s.iso + 1 } ∨ (s.iso = 0 ∧ s.emb = 0 ∧ Within s (isol s odd) ⟨nx (top s).lv odd, 0, true⟩) := by
  unfold isol
  split
  · rename_i hr
    have := room_le hr
    right
    exact ⟨this.2.1, this.2.2, this.2.1, rfl, [], fun e he => by simp at he, rfl⟩
  · left; rfl

/-- what is told ahead and behind, whatever stands within -/
theorem outside (base : Int) (o : Int) (ho : o = 20 ∨ o = 21) (w w' y : List Int) (hw : ∀ c ∈ w, Inner c) (hw' : ∀ c ∈ w', Inner c) : ∀ (x : List Int) (s : S) (was : Int),
    ∃ (P Q Q' R : List Out), P.length = x.length + 1 ∧ Q.length = w.length ∧ Q'.length = w'.length ∧ lev base s was (x ++ o :: (w ++ 23 :: y)) = P ++ (Q ++ R) ∧ lev base s was (x ++ o :: (w' ++ 23 :: y)) = P ++ (Q' ++ R)
  | [], s, was => by
    have hs : ∀ r, step base s was o r = (⟨(top s).lv, own s o⟩, isol s (o == 21)) := by
      intro r
      unfold step
      rw [if_neg (by rcases ho with rfl | rfl <;> simp [removed]), if_pos ho]
    obtain ⟨os, t, was1, h1, h2, h3⟩ := inside base s (o == 21) w (23 :: y) (top s).lv (isol s (o == 21)) hw (isol_cases s _)
    obtain ⟨os', t', was2, h1', h2', h3'⟩ := inside base s (o == 21) w' (23 :: y) (top s).lv (isol s (o == 21)) hw' (isol_cases s _)
    refine ⟨[⟨(top s).lv, own s o⟩], os, os', ⟨(top s).lv, own s 23⟩ :: lev base s (top s).lv y, rfl, h1, h1', ?_, ?_⟩
    · simp only [List.nil_append, lev, hs, h3, step_pdi, h2, List.cons_append]
    · simp only [List.nil_append, lev, hs, h3', step_pdi, h2', List.cons_append]
  | c :: x, s, was => by
    have hopen : opens o = true := by rcases ho with rfl | rfl <;> rfl
    have hst : step base s was c (x ++ o :: (w ++ 23 :: y)) = step base s was c (x ++ o :: (w' ++ 23 :: y)) := by
      have hr : rt (x ++ o :: (w ++ 23 :: y)) = rt (x ++ o :: (w' ++ 23 :: y)) := by
        unfold rt; rw [fs_laid o hopen w w' y hw hw' x 0]
      unfold step
      rw [hr]
    obtain ⟨P, Q, Q', R, h1, h2, h3, h4, h5⟩ := outside base o ho w w' y hw hw' x (step base s was c (x ++ o :: (w ++ 23 :: y))).2 (step base s was c (x ++ o :: (w ++ 23 :: y))).1.lv
    refine ⟨(step base s was c (x ++ o :: (w ++ 23 :: y))).1 :: P, Q, Q', R, by simp [h1], h2, h3, ?_, ?_⟩
    · simp only [List.cons_append, lev, h4]
    · simp only [List.cons_append, lev, ← hst, h5]

/-- the isolate, laid -/
def wi (n : Int) : Int :=
  let m := n.tmod 20
  let m := if m < 0 then -m else m
  if m = 11 then 14 else m
theorem tmod20 (n : Int) : -20 < n.tmod 20 ∧ n.tmod 20 < 20 := by
  rcases Int.le_total 0 n with h | h
  · rw [Int.tmod_eq_emod_of_nonneg h]; omega
  · have := Int.neg_tmod (a := -n) (b := 20)
    rw [Int.neg_neg] at this
    rw [this, Int.tmod_eq_emod_of_nonneg (by omega)]
    omega
theorem wi_inner (n : Int) : Inner (wi n) := by
  have h := tmod20 n
  have hr : (0 ≤ wi n ∧ wi n ≤ 19) ∧ wi n ≠ 11 := by
    unfold wi
    simp only
    split <;> split <;> omega
  refine ⟨?_, by omega, by omega⟩
  unfold opens
  simp
  omega
def laid (x : List Int) (right : Bool) (u y : List Int) : List Int := x ++ (if right then 21 else 20) :: (u.map wi ++ 23 :: y)
theorem laid_same (x : List Int) (right : Bool) (u v y : List Int) (n i k : Nat) (hn : n = x.length + 1) (hi : i = n + u.length) (hk : k = n + v.length) :
    (levels 0 (laid x right u y)).take n = (levels 0 (laid x right v y)).take n ∧ (classes 0 (laid x right u y)).take n = (classes 0 (laid x right v y)).take n ∧
    (levels 0 (laid x right u y)).drop i = (levels 0 (laid x right v y)).drop k ∧ (classes 0 (laid x right u y)).drop i = (classes 0 (laid x right v y)).drop k := by
  obtain ⟨P, Q, Q', R, h1, h2, h3, h4, h5⟩ := outside 0 (if right then 21 else 20) (by cases right <;> simp) (u.map wi) (v.map wi) y (by intro c hc; simp at hc; obtain ⟨z, _, rfl⟩ := hc; exact wi_inner z)
    (by intro c hc; simp at hc; obtain ⟨z, _, rfl⟩ := hc; exact wi_inner z) x (begin0 0) 0
  simp at h2 h3
  subst hn hi hk
  unfold levels classes laid
  rw [h4, h5]
  simp only [List.map_append]
  refine ⟨?_, ?_, ?_, ?_⟩
  · rw [List.take_append_of_le_length (by simp [h1]), List.take_append_of_le_length (by simp [h1])]
  · rw [List.take_append_of_le_length (by simp [h1]), List.take_append_of_le_length (by simp [h1])]
  · rw [← List.append_assoc, ← List.append_assoc, List.drop_left' (by simp [h1, h2]), List.drop_left' (by simp [h1, h3])]
  · rw [← List.append_assoc, ← List.append_assoc, List.drop_left' (by simp [h1, h2]), List.drop_left' (by simp [h1, h3])]

end Go.Proofs.Ythcgdlcpgklhbaa.Lv
