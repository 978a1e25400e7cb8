/- The levels between an isolate's initiator and the PDI that matches it: all greater than the initiator's, or all the same; the PDI has the initiator's level. Plain. No condition. -/
import Derived.Test.YtojcphfonbdlpaaLevPlain
namespace Go.Proofs.Ytojcphfonbdlpaa.Lv
open Bd

/-- within an isolate that found room; k isolates are open since -/
def InV (s : S) (k : Nat) (t : S) : Prop :=
  ∃ (v : Nat) (f : List Ent) (i : Ent), 0 < v ∧ t.iso + v = k ∧ t.stk = f ++ i :: s.stk ∧ i.is = true ∧ (f.filter (·.is)).length + 1 = v ∧ v ≤ t.val ∧ ∀ e ∈ f ++ [i], (top s).lv < e.lv
/-- within an isolate that found none -/
def InO (s : S) (k : Nat) (t : S) : Prop := t.stk = s.stk ∧ k ≤ t.iso ∧ 0 < k

theorem InV.top {s t : S} {k : Nat} (h : InV s k t) : (Lv.top s).lv < (Lv.top t).lv := by
  obtain ⟨v, f, i, _, _, h3, _, _, _, h6⟩ := h
  unfold Lv.top at *
  rw [h3]
  cases f with
  | nil => exact h6 i (by simp)
  | cons a f => exact h6 a (by simp)
theorem InO.top {s t : S} {k : Nat} (h : InO s k t) : (Lv.top t).lv = (Lv.top s).lv := by unfold Lv.top; rw [h.1]
theorem nx_gt (l : Int) (o : Bool) : l < nx l o := by have := nx_ge l o; omega

theorem InV.isol {s t : S} {k : Nat} (o : Bool) (h : InV s k t) : InV s (k + 1) (Lv.isol t o) := by
  have ht := h.top
  obtain ⟨v, f, i, h1, h2, h3, h4, h5, h7, h6⟩ := h
  unfold Lv.isol
  split
  · refine ⟨v + 1, _ :: f, i, by omega, by simp only; omega, by simp only [h3]; rfl, h4, by simp [h5], by simp only; omega, ?_⟩
    intro e he
    simp at he
    rcases he with rfl | he | rfl
    · have := nx_gt (Lv.top t).lv o
      simp only; omega
    · exact h6 e (by simp [he])
    · exact h6 e (by simp)
  · exact ⟨v, f, i, h1, by simp only; omega, h3, h4, h5, h7, h6⟩
theorem InV.embed {s t : S} {k : Nat} (c : Int) (h : InV s k t) : InV s k (Lv.embed t c) := by
  have ht := h.top
  obtain ⟨v, f, i, h1, h2, h3, h4, h5, h7, h6⟩ := h
  unfold Lv.embed
  split
  · refine ⟨v, _ :: f, i, h1, h2, by simp only [h3]; rfl, h4, by simp [h5], h7, ?_⟩
    intro e he
    simp at he
    rcases he with rfl | he | rfl
    · have := nx_gt (Lv.top t).lv (rl c)
      simp only; omega
    · exact h6 e (by simp [he])
    · exact h6 e (by simp)
  · split
    · exact ⟨v, f, i, h1, h2, h3, h4, h5, h7, h6⟩
    · exact ⟨v, f, i, h1, h2, h3, h4, h5, h7, h6⟩
theorem InV.pop {s t : S} {k : Nat} (h : InV s k t) : InV s k (Lv.pop t) := by
  obtain ⟨v, f, i, h1, h2, h3, h4, h5, h7, h6⟩ := h
  unfold Lv.pop
  split
  · exact ⟨v, f, i, h1, h2, h3, h4, h5, h7, h6⟩
  · split
    · exact ⟨v, f, i, h1, h2, h3, h4, h5, h7, h6⟩
    · split
      · rename_i hc
        cases f with
        | nil =>
          have : (Lv.top t).is = true := by simp [Lv.top, h3, h4]
          rw [this] at hc
          simp at hc
        | cons a f =>
          have ha : a.is = false := by have := hc.1; simpa [Lv.top, h3] using this
          exact ⟨v, f, i, h1, h2, by simp [h3], h4, by simpa [ha] using h5, h7, fun e he => h6 e (by simp at he ⊢; rcases he with he | he <;> simp [he])⟩
      · exact ⟨v, f, i, h1, h2, h3, h4, h5, h7, h6⟩
theorem popIso_split : ∀ (f : List Ent) (i : Ent) (r : List Ent), i.is = true → 0 < (f.filter (·.is)).length → ∃ f', popIso (f ++ i :: r) = f' ++ i :: r ∧ (f'.filter (·.is)).length + 1 = (f.filter (·.is)).length ∧ ∀ e ∈ f', e ∈ f
  | [], _, _, _, h => by simp at h
  | a :: f, i, r, hi, h => by
    by_cases ha : a.is = true
    · exact ⟨f, by simp [popIso, ha], by simp [ha], fun e he => by simp [he]⟩
    · have ha' : a.is = false := by simpa using ha
      simp [ha'] at h
      obtain ⟨f', h1, h2, h3⟩ := popIso_split f i r hi (by simpa using h)
      exact ⟨f', by simp [popIso, ha', h1], by simpa [ha'] using h2, fun e he => by simp [h3 e he]⟩
theorem popIso_none : ∀ (f : List Ent) (i : Ent) (r : List Ent), i.is = true → (f.filter (·.is)).length = 0 → popIso (f ++ i :: r) = r
  | [], i, r, hi, _ => by simp [popIso, hi]
  | a :: f, i, r, hi, h => by
    have ha : a.is = false := by
      rcases h1 : a.is with _ | _
      · rfl
      · simp [h1] at h
    simp [ha] at h
    simp only [List.cons_append, popIso, ha]
    simpa using popIso_none f i r hi (by simpa using h)
theorem InV.endI {s t : S} {k : Nat} (h : InV s (k + 2) t) : InV s (k + 1) (Lv.endI t) := by
  obtain ⟨v, f, i, h1, h2, h3, h4, h5, h7, h6⟩ := h
  unfold Lv.endI
  split
  · exact ⟨v, f, i, h1, by simp only; omega, h3, h4, h5, h7, h6⟩
  · split
    · omega
    · obtain ⟨f', e1, e2, e3⟩ := popIso_split f i s.stk h4 (by omega)
      refine ⟨v - 1, f', i, by omega, by simp only; omega, by simp only [h3]; exact e1, h4, by omega, by simp only; omega, ?_⟩
      intro e he
      simp at he
      rcases he with he | rfl
      · exact h6 e (by simp [e3 e he])
      · exact h6 e (by simp)
theorem InV.last {s t : S} (h : InV s 1 t) : (Lv.top (Lv.endI t)).lv = (Lv.top s).lv := by
  obtain ⟨v, f, i, h1, h2, h3, h4, h5, h7, h6⟩ := h
  unfold Lv.endI
  rw [if_neg (by omega), if_neg (by omega)]
  unfold Lv.top
  simp only [h3]
  rw [popIso_none f i s.stk h4 (by omega)]
theorem InO.isol {s t : S} {k : Nat} (o : Bool) (h : InO s k t) : InO s (k + 1) (Lv.isol t o) := by
  obtain ⟨h1, h2, h3⟩ := h
  unfold Lv.isol
  have : room t (nx (Lv.top t).lv o) = false := by
    unfold room
    have : (t.iso == 0) = false := by simp; omega
    simp [this]
  rw [this]
  exact ⟨h1, by simp; omega, by omega⟩
theorem InO.embed {s t : S} {k : Nat} (c : Int) (h : InO s k t) : InO s k (Lv.embed t c) := by
  obtain ⟨h1, h2, h3⟩ := h
  unfold Lv.embed
  have : room t (nx (Lv.top t).lv (rl c)) = false := by
    unfold room
    have : (t.iso == 0) = false := by simp; omega
    simp [this]
  rw [this]
  simp
  rw [if_neg (by omega)]
  exact ⟨h1, h2, h3⟩
theorem InO.pop {s t : S} {k : Nat} (h : InO s k t) : InO s k (Lv.pop t) := by
  obtain ⟨h1, h2, h3⟩ := h
  unfold Lv.pop
  rw [if_pos (by omega)]
  exact ⟨h1, h2, h3⟩
theorem InO.endI {s t : S} {k : Nat} (h : InO s (k + 2) t) : InO s (k + 1) (Lv.endI t) := by
  obtain ⟨h1, h2, h3⟩ := h
  unfold Lv.endI
  rw [if_pos (by omega)]
  exact ⟨h1, by simp; omega, by omega⟩
theorem InO.last {s t : S} (h : InO s 1 t) : (Lv.top (Lv.endI t)).lv = (Lv.top s).lv := by
  obtain ⟨h1, h2, h3⟩ := h
  unfold Lv.endI
  rw [if_pos (by omega)]
  unfold Lv.top
  simp only [h1]

/-- one step within an isolate: what the rest of the scan wants of either relation -/
structure Fit (I : Nat → S → Prop) (s : S) (R : Int → Prop) : Prop where
  lvl : ∀ k t, I (k + 1) t → R (top t).lv
  isol : ∀ k t o, I (k + 1) t → I (k + 2) (isol t o)
  embed : ∀ k t c, I (k + 1) t → I (k + 1) (embed t c)
  pop : ∀ k t, I (k + 1) t → I (k + 1) (pop t)
  endI : ∀ k t, I (k + 2) t → I (k + 1) (endI t)
  last : ∀ t, I 1 t → (top (Lv.endI t)).lv = (top s).lv
theorem fitV (s : S) : Fit (InV s) s (fun l => (top s).lv < l) := ⟨fun _ _ h => h.top, fun _ _ o h => h.isol o, fun _ _ c h => h.embed c, fun _ _ h => h.pop, fun _ _ h => h.endI, fun _ h => h.last⟩
theorem fitO (s : S) : Fit (InO s) s (fun l => l = (top s).lv) := ⟨fun _ _ h => h.top, fun _ _ o h => h.isol o, fun _ _ c h => h.embed c, fun _ _ h => h.pop, fun _ _ h => h.endI, fun _ h => h.last⟩

theorem scan {I : Nat → S → Prop} {s : S} {R : Int → Prop} (F : Fit I s R) (base : Int) : ∀ (r : List Int) (d j : Nat) (t : S) (was : Int), clo d r = some j → I (d + 1) t →
    (((lev base t was r).map (·.lv))[j]? = some (top s).lv) ∧ ∀ i < j, ∀ c l, r[i]? = some c → removed c = false → ((lev base t was r).map (·.lv))[i]? = some l → R l
  | [], d, j, t, was, h, _ => by simp [clo] at h
  | c :: r, d, j, t, was, h, hI => by
    -- what a step gives, and the rest of the scan
    have go : ∀ (d' j' : Nat), j = j' + 1 → clo d' r = some j' → I (d' + 1) (step base t was c r).2 → (removed c = false → R (step base t was c r).1.lv) →
        (((lev base t was (c :: r)).map (·.lv))[j]? = some (top s).lv) ∧ ∀ i < j, ∀ c' l, (c :: r)[i]? = some c' → removed c' = false → ((lev base t was (c :: r)).map (·.lv))[i]? = some l → R l := by
      intro d' j' hj hc hI' hR
      subst hj
      obtain ⟨h1, h2⟩ := scan F base r d' j' (step base t was c r).2 (step base t was c r).1.lv hc hI'
      refine ⟨by simpa [lev] using h1, ?_⟩
      intro i hi c' l hc' hr hl
      cases i with
      | zero => simp at hc'; subst hc'; simp [lev] at hl; subst hl; exact hR hr
      | succ i => exact h2 i (by omega) c' l (by simpa using hc') hr (by simpa [lev] using hl)
    unfold clo at h
    by_cases h11 : c = 11
    · rw [if_pos h11] at h; cases h
    rw [if_neg h11] at h
    by_cases ho : opens c = true
    · rw [if_pos ho] at h
      simp only [Option.map_eq_some_iff] at h
      obtain ⟨j', hj', rfl⟩ := h
      have hrm : removed c = false := by simp [opens] at ho; rcases ho with (rfl | rfl) | rfl <;> rfl
      have hst : (step base t was c r).1.lv = (top t).lv ∧ ∃ o, (step base t was c r).2 = Lv.isol t o := by
        unfold step
        rw [if_neg (by simp [hrm])]
        simp [opens] at ho
        by_cases h1 : c = 20 ∨ c = 21
        · rw [if_pos h1]; exact ⟨rfl, _, rfl⟩
        · have h22 : c = 22 := by omega
          rw [if_neg h1, if_pos h22]; exact ⟨rfl, _, rfl⟩
      obtain ⟨e1, o, e2⟩ := hst
      exact go (d + 1) j' rfl hj' (by rw [e2]; exact F.isol d t o hI) (fun _ => by rw [e1]; exact F.lvl d t hI)
    · rw [if_neg ho] at h
      have hn20 : ¬ (c = 20 ∨ c = 21) := by intro h1; apply ho; rcases h1 with rfl | rfl <;> rfl
      have hn22 : c ≠ 22 := by rintro rfl; exact ho rfl
      by_cases h23 : c = 23
      · rw [if_pos h23] at h
        subst h23
        have hst : step base t was 23 r = (⟨(top (Lv.endI t)).lv, own (Lv.endI t) 23⟩, Lv.endI t) := rfl
        cases d with
        | zero =>
          simp at h
          subst h
          refine ⟨by simp [lev, hst]; exact F.last t hI, fun i hi => absurd hi (by omega)⟩
        | succ d =>
          simp only [Option.map_eq_some_iff] at h
          obtain ⟨j', hj', rfl⟩ := h
          exact go d j' rfl hj' (by rw [hst]; exact F.endI d t hI) (fun _ => by rw [hst]; exact F.lvl d _ (F.endI d t hI))
      · rw [if_neg h23] at h
        simp only [Option.map_eq_some_iff] at h
        obtain ⟨j', hj', rfl⟩ := h
        rcases hrm : removed c with _ | _
        · have hst : (step base t was c r).1.lv = (top t).lv ∧ (step base t was c r).2 = t := by
            unfold step
            rw [if_neg (by simp [hrm]), if_neg hn20, if_neg hn22, if_neg h23, if_neg h11]
            exact ⟨rfl, rfl⟩
          exact go d j' rfl hj' (by rw [hst.2]; exact hI) (fun _ => by rw [hst.1]; exact F.lvl d t hI)
        · have hst : I (d + 1) (step base t was c r).2 := by
            unfold step
            rw [if_pos hrm]
            simp only
            split
            · exact F.pop d t hI
            · split
              · exact hI
              · exact F.embed d t c hI
          exact go d j' rfl hj' hst (fun h => by rw [hrm] at h; cases h)

/-- the scan reaches a place -/
theorem lev_reach (base : Int) : ∀ (pre r : List Int) (s : S) (was : Int), ∃ s' was' X, lev base s was (pre ++ r) = X ++ lev base s' was' r ∧ X.length = pre.length
  | [], r, s, was => ⟨s, was, [], rfl, rfl⟩
  | c :: pre, r, s, was => by
    obtain ⟨s', was', X, h1, h2⟩ := lev_reach base pre r (step base s was c (pre ++ r)).2 (step base s was c (pre ++ r)).1.lv
    exact ⟨s', was', (step base s was c (pre ++ r)).1 :: X, by simp [lev, h1], by simp [h2]⟩

/-- an initiator and its match -/
theorem pair_levels (base : Int) (pre r : List Int) (c : Int) (j : Nat) (ho : opens c = true) (hc : clo 0 r = some j) :
    ∃ l, (levels base (pre ++ c :: r))[pre.length]? = some l ∧ (levels base (pre ++ c :: r))[pre.length + 1 + j]? = some l ∧
      ((∀ i < j, ∀ x y, r[i]? = some x → removed x = false → (levels base (pre ++ c :: r))[pre.length + 1 + i]? = some y → l < y) ∨
       (∀ i < j, ∀ x y, r[i]? = some x → removed x = false → (levels base (pre ++ c :: r))[pre.length + 1 + i]? = some y → y = l)) := by
  obtain ⟨s, was, X, h1, h2⟩ := lev_reach base pre (c :: r) (begin0 base) base
  have hrm : removed c = false := by simp [opens] at ho; rcases ho with (rfl | rfl) | rfl <;> rfl
  have hst : (step base s was c r).1.lv = (top s).lv ∧ ∃ o, (step base s was c r).2 = Lv.isol s o := by
    unfold step
    rw [if_neg (by simp [hrm])]
    simp [opens] at ho
    by_cases h1 : c = 20 ∨ c = 21
    · rw [if_pos h1]; exact ⟨rfl, _, rfl⟩
    · have h22 : c = 22 := by omega
      rw [if_neg h1, if_pos h22]; exact ⟨rfl, _, rfl⟩
  obtain ⟨e1, o, e2⟩ := hst
  have hlv : ∀ i, (levels base (pre ++ c :: r))[pre.length + 1 + i]? = ((lev base (step base s was c r).2 (step base s was c r).1.lv r).map (·.lv))[i]? := by
    intro i
    unfold levels
    rw [h1, List.map_append, List.getElem?_append_right (by simp [h2]; omega)]
    rw [show pre.length + 1 + i - (X.map (·.lv)).length = i + 1 by simp [h2]; omega]
    simp [lev]
  refine ⟨(top s).lv, ?_, ?_, ?_⟩
  · unfold levels
    rw [h1, List.map_append, List.getElem?_append_right (by simp [h2])]
    simp [h2, lev, e1]
  · rw [hlv]
    by_cases hroom : room s (nx (top s).lv o) = true
    · have hi := (room_le hroom).2.1
      exact (scan (fitV s) base r 0 j (step base s was c r).2 (step base s was c r).1.lv hc (by
        rw [e2]; unfold Lv.isol; rw [if_pos hroom]
        exact ⟨1, [], ⟨nx (top s).lv o, 0, true⟩, by omega, by simp only; omega, rfl, rfl, rfl, by simp only; omega, by intro e he; simp at he; subst he; exact nx_gt _ _⟩)).1
    · exact (scan (fitO s) base r 0 j (step base s was c r).2 (step base s was c r).1.lv hc (by
        rw [e2]; unfold Lv.isol; rw [if_neg hroom]
        exact ⟨rfl, by simp only; omega, by omega⟩)).1
  · by_cases hroom : room s (nx (top s).lv o) = true
    · left
      have hi := (room_le hroom).2.1
      have := (scan (fitV s) base r 0 j (step base s was c r).2 (step base s was c r).1.lv hc (by
        rw [e2]; unfold Lv.isol; rw [if_pos hroom]
        exact ⟨1, [], ⟨nx (top s).lv o, 0, true⟩, by omega, by simp only; omega, rfl, rfl, rfl, by simp only; omega, by intro e he; simp at he; subst he; exact nx_gt _ _⟩)).2
      intro i hi' x y hx hr hy
      rw [hlv] at hy
      exact this i hi' x y hx hr hy
    · right
      have := (scan (fitO s) base r 0 j (step base s was c r).2 (step base s was c r).1.lv hc (by
        rw [e2]; unfold Lv.isol; rw [if_neg hroom]
        exact ⟨rfl, by simp only; omega, by omega⟩)).2
      intro i hi' x y hx hr hy
      rw [hlv] at hy
      exact this i hi' x y hx hr hy

end Go.Proofs.Ytojcphfonbdlpaa.Lv
