/- The plain rules X1 to X8: the state, its steps, and what becomes of a list of classes. No program in sight. No condition. -/
import Derived.Test.YtojcphfonbdlpaaBidiClo
namespace Go.Proofs.Ytojcphfonbdlpaa.Lv
open Bd

structure Ent where
  lv : Int
  ov : Int
  is : Bool
/-- the stack's top stands first -/
structure S where
  stk : List Ent
  iso : Nat
  emb : Nat
  val : Nat

def begin0 (base : Int) : S := ⟨[⟨base, 0, false⟩], 0, 0, 0⟩
def top (s : S) : Ent := s.stk.headD ⟨0, 0, false⟩
/-- the level above, odd or even -/
def nx (l : Int) (odd : Bool) : Int := if ((l + 1) % 2 == 1) != odd then l + 1 + 1 else l + 1
def room (s : S) (n : Int) : Bool := decide (n ≤ 125) && (s.iso == 0 && s.emb == 0)
def over (c : Int) : Int := if c = 16 then 1 else if c = 18 then 2 else 0
def rl (c : Int) : Bool := c == 17 || c == 18
def embed (s : S) (c : Int) : S :=
  if room s (nx (top s).lv (rl c)) then { s with stk := ⟨nx (top s).lv (rl c), over c, false⟩ :: s.stk }
  else if s.iso = 0 then { s with emb := s.emb + 1 } else s
def isol (s : S) (odd : Bool) : S :=
  if room s (nx (top s).lv odd) then { s with val := s.val + 1, stk := ⟨nx (top s).lv odd, 0, true⟩ :: s.stk }
  else { s with iso := s.iso + 1 }
/-- the stack behind the last isolate's entry -/
def popIso : List Ent → List Ent
  | [] => []
  | e :: r => if e.is then r else popIso r
def endI (s : S) : S :=
  if 0 < s.iso then { s with iso := s.iso - 1 }
  else if s.val = 0 then s
  else { s with emb := 0, stk := popIso s.stk, val := s.val - 1 }
def pop (s : S) : S :=
  if 0 < s.iso then s
  else if 0 < s.emb then { s with emb := s.emb - 1 }
  else if (top s).is = false ∧ 1 < s.stk.length then { s with stk := s.stk.tail }
  else s
def own (s : S) (c : Int) : Int := if (top s).ov ≠ 0 then (top s).ov else c
def removed (c : Int) : Bool := c == 15 || c == 17 || c == 16 || c == 18 || c == 19 || c == 10
/-- does what an FSI isolates run from right to left? -/
def rt (r : List Int) : Bool := fs 0 r == 2 || fs 0 r == 3

structure Out where
  lv : Int
  cl : Int
/-- one class: its level and class, and the state behind it -/
def step (base : Int) (s : S) (was : Int) (c : Int) (r : List Int) : Out × S :=
  if removed c then (⟨was, 10⟩, if c = 19 then pop s else if c = 10 then s else embed s c)
  else if c = 20 ∨ c = 21 then (⟨(top s).lv, own s c⟩, isol s (c == 21))
  else if c = 22 then (⟨(top s).lv, own s c⟩, isol s (rt r))
  else if c = 23 then (⟨(top (endI s)).lv, own (endI s) c⟩, endI s)
  else if c = 11 then (⟨base, 11⟩, begin0 base)
  else (⟨(top s).lv, own s c⟩, s)
def lev (base : Int) : S → Int → List Int → List Out
  | _, _, [] => []
  | s, was, c :: r => (step base s was c r).1 :: lev base (step base s was c r).2 (step base s was c r).1.lv r
def levels (base : Int) (l : List Int) : List Int := (lev base (begin0 base) base l).map (·.lv)
def classes (base : Int) (l : List Int) : List Int := (lev base (begin0 base) base l).map (·.cl)
def depth (base : Int) (l : List Int) : Int := (levels base l).foldl max base

/-- what holds of every state: the stack has a bottom that is no isolate's, the isolates are counted, levels are in range, the counts are small -/
def Ok (k : Nat) (s : S) : Prop :=
  (∃ f b, s.stk = f ++ [b] ∧ b.is = false) ∧ (s.stk.filter (·.is)).length = s.val ∧ (∀ e ∈ s.stk, 0 ≤ e.lv ∧ e.lv ≤ 125) ∧ s.iso ≤ k ∧ s.emb ≤ k ∧ s.stk.length ≤ k + 1

theorem Ok.mono {k k' : Nat} {s : S} (h : Ok k s) (hk : k ≤ k') : Ok k' s := by
  obtain ⟨h1, h2, h3, h4, h5, h6⟩ := h
  exact ⟨h1, h2, h3, by omega, by omega, by omega⟩
theorem Ok.cons {k : Nat} {s : S} (h : Ok k s) : ∃ r, s.stk = top s :: r := by
  obtain ⟨⟨f, b, hs, _⟩, _⟩ := h
  cases f with
  | nil => exact ⟨[], by simp [top, hs]⟩
  | cons a f => exact ⟨f ++ [b], by simp [top, hs]⟩
theorem Ok.top {k : Nat} {s : S} (h : Ok k s) : 0 ≤ (top s).lv ∧ (top s).lv ≤ 125 := by
  obtain ⟨r, hr⟩ := h.cons
  exact h.2.2.1 _ (by rw [hr]; simp)
theorem begin0_ok (base : Int) (h : 0 ≤ base ∧ base ≤ 125) : Ok 0 (begin0 base) :=
  ⟨⟨[], _, rfl, rfl⟩, rfl, by intro e he; simp [begin0] at he; subst he; exact h, Nat.le_refl _, Nat.le_refl _, by simp [begin0]⟩
theorem nx_ge (l : Int) (odd : Bool) : l + 1 ≤ nx l odd ∧ nx l odd ≤ l + 2 := by unfold nx; split <;> omega
theorem room_le {s : S} {n : Int} (h : room s n = true) : n ≤ 125 ∧ s.iso = 0 ∧ s.emb = 0 := by
  simp [room] at h; exact ⟨h.1, h.2.1, h.2.2⟩
theorem embed_ok {k : Nat} {s : S} (c : Int) (h : Ok k s) : Ok (k + 1) (embed s c) := by
  have ht := h.top
  obtain ⟨⟨f, b, hs, hb⟩, h2, h3, h4, h5, h6⟩ := h
  unfold embed
  split
  · rename_i hr
    have hn := nx_ge (Lv.top s).lv (rl c)
    have hr := room_le hr
    refine ⟨⟨_ :: f, b, by simp [hs]; rfl, hb⟩, by simp [h2], ?_, by simp; omega, by simp; omega, by simp; omega⟩
    intro e he
    simp at he
    rcases he with rfl | he
    · simp; omega
    · exact h3 e he
  · split
    · exact ⟨⟨f, b, hs, hb⟩, h2, h3, by simp; omega, by simp; omega, by simp; omega⟩
    · exact ⟨⟨f, b, hs, hb⟩, h2, h3, by omega, by omega, by omega⟩
theorem isol_ok {k : Nat} {s : S} (o : Bool) (h : Ok k s) : Ok (k + 1) (isol s o) := by
  have ht := h.top
  obtain ⟨⟨f, b, hs, hb⟩, h2, h3, h4, h5, h6⟩ := h
  unfold isol
  split
  · rename_i hr
    have hn := nx_ge (Lv.top s).lv o
    have hr := room_le hr
    refine ⟨⟨_ :: f, b, by simp [hs]; rfl, hb⟩, by simp [h2], ?_, by simp; omega, by simp; omega, by simp; omega⟩
    intro e he
    simp at he
    rcases he with rfl | he
    · simp; omega
    · exact h3 e he
  · exact ⟨⟨f, b, hs, hb⟩, h2, h3, by simp; omega, by simp; omega, by simp; omega⟩
theorem popIso_len : ∀ (l : List Ent), (popIso l).length ≤ l.length
  | [] => Nat.le_refl _
  | e :: r => by unfold popIso; have := popIso_len r; split <;> simp <;> omega
theorem popIso_mem : ∀ (l : List Ent) (x : Ent), x ∈ popIso l → x ∈ l
  | [], _, h => h
  | e :: r, x, h => by
    unfold popIso at h
    split at h
    · simp [h]
    · simp [popIso_mem r x h]
theorem popIso_count : ∀ (l : List Ent), 0 < (l.filter (·.is)).length → ((popIso l).filter (·.is)).length = (l.filter (·.is)).length - 1
  | [], h => by simp at h
  | e :: r, h => by
    unfold popIso
    by_cases he : e.is = true
    · simp [he]
    · have he' : e.is = false := by simpa using he
      simp [he'] at h ⊢
      have := popIso_count r (by simpa using h)
      simpa using this
theorem popIso_bottom : ∀ (f : List Ent) (b : Ent), 0 < (f.filter (·.is)).length → ∃ f', popIso (f ++ [b]) = f' ++ [b]
  | [], b, h => by simp at h
  | e :: f, b, h => by
    by_cases he : e.is = true
    · exact ⟨f, by simp [popIso, he]⟩
    · have he' : e.is = false := by simpa using he
      simp [he'] at h
      obtain ⟨f', hf⟩ := popIso_bottom f b (by simpa using h)
      exact ⟨f', by simp [popIso, he', hf]⟩
theorem endI_ok {k : Nat} {s : S} (h : Ok k s) : Ok k (endI s) := by
  obtain ⟨⟨f, b, hs, hb⟩, h2, h3, h4, h5, h6⟩ := h
  unfold endI
  split
  · exact ⟨⟨f, b, hs, hb⟩, h2, h3, by simp; omega, h5, h6⟩
  · split
    · exact ⟨⟨f, b, hs, hb⟩, h2, h3, h4, h5, h6⟩
    · rename_i hv
      have hpos : 0 < (f.filter (·.is)).length := by
        rw [hs] at h2
        simp [hb] at h2
        omega
      obtain ⟨f', hf⟩ := popIso_bottom f b hpos
      refine ⟨⟨f', b, by simp [hs, hf], hb⟩, ?_, fun e he => h3 e (popIso_mem _ _ he), h4, Nat.zero_le _, ?_⟩
      · have := popIso_count s.stk (by omega)
        simp [this, h2]
      · have := popIso_len s.stk
        simp; omega
theorem pop_ok {k : Nat} {s : S} (h : Ok k s) : Ok k (pop s) := by
  obtain ⟨⟨f, b, hs, hb⟩, h2, h3, h4, h5, h6⟩ := h
  unfold pop
  split
  · exact ⟨⟨f, b, hs, hb⟩, h2, h3, h4, h5, h6⟩
  · split
    · exact ⟨⟨f, b, hs, hb⟩, h2, h3, h4, by simp; omega, h6⟩
    · split
      · rename_i hc
        cases f with
        | nil => simp [hs] at hc
        | cons a f =>
          have ht : (Lv.top s).is = a.is := by simp [Lv.top, hs]
          have ha : a.is = false := by rw [← ht]; exact hc.1
          refine ⟨⟨f, b, by simp [hs], hb⟩, ?_, fun e he => h3 e (List.mem_of_mem_tail he), h4, h5, by simp; omega⟩
          rw [← h2, hs]
          simp [ha]
      · exact ⟨⟨f, b, hs, hb⟩, h2, h3, h4, h5, h6⟩
theorem step_ok {k : Nat} {base was c : Int} {s : S} {r : List Int} (hb : 0 ≤ base ∧ base ≤ 125) (h : Ok k s) : Ok (k + 1) (step base s was c r).2 := by
  unfold step
  split
  · simp only
    split
    · exact (pop_ok h).mono (by omega)
    · split
      · exact h.mono (by omega)
      · exact embed_ok c h
  · split
    · exact isol_ok _ h
    · split
      · exact isol_ok _ h
      · split
        · exact (endI_ok h).mono (by omega)
        · split
          · exact (begin0_ok base hb).mono (by omega)
          · exact h.mono (by omega)
theorem lev_length (base : Int) : ∀ (l : List Int) (s : S) (was : Int), (lev base s was l).length = l.length
  | [], _, _ => rfl
  | c :: r, s, was => by simp [lev, lev_length base r]
theorem levels_length (base : Int) (l : List Int) : (levels base l).length = l.length := by simp [levels, lev_length]
theorem classes_length (base : Int) (l : List Int) : (classes base l).length = l.length := by simp [classes, lev_length]
theorem levels_nil (base : Int) : levels base [] = [] := rfl

end Go.Proofs.Ytojcphfonbdlpaa.Lv
