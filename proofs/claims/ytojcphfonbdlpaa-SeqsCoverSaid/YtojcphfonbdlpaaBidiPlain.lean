/- Plain functions on lists of classes: which isolate signs match, and the first strong class. No program in sight. No condition. -/
import Derived.IntWalk
namespace Go.Proofs.Ytojcphfonbdlpaa.Bd

def opens (c : Int) : Bool := c = 20 || c = 21 || c = 22

/-- one class more: what is matched so far, and the places of the initiators that are open -/
def mstep (st : List Int × List Int) (c : Int) : List Int × List Int :=
  if opens c then (st.1 ++ [-1], st.2 ++ [(st.1.length : Int)])
  else if c = 11 then (st.1 ++ [-1], [])
  else if c = 23 then
    match st.2.getLast? with
    | some k => ((st.1 ++ [k]).set k.toNat (st.1.length : Int), st.2.dropLast)
    | none => (st.1 ++ [-1], st.2)
  else (st.1 ++ [-1], st.2)
def mrun (l : List Int) (st : List Int × List Int) : List Int × List Int := l.foldl mstep st
def mt (l : List Int) : List Int := (mrun l ([], [])).1

/-- the open places are places -/
def OpenOk (st : List Int × List Int) : Prop := ∀ k ∈ st.2, 0 ≤ k ∧ k < (st.1.length : Int)

theorem mstep_length (st : List Int × List Int) (c : Int) : (mstep st c).1.length = st.1.length + 1 := by
  unfold mstep
  split
  · simp
  · split
    · simp
    · split
      · split <;> simp
      · simp
theorem mrun_length : ∀ (l : List Int) (st : List Int × List Int), (mrun l st).1.length = st.1.length + l.length
  | [], st => by simp [mrun]
  | c :: r, st => by
    have := mrun_length r (mstep st c)
    simp only [mrun, List.foldl_cons] at this ⊢
    rw [this, mstep_length]; simp; omega
theorem mstep_open_length (st : List Int × List Int) (c : Int) : (mstep st c).2.length ≤ st.2.length + 1 := by
  unfold mstep
  split
  · simp
  · split
    · simp
    · split
      · split
        · simp; omega
        · simp
      · simp
theorem mrun_open_length : ∀ (l : List Int) (st : List Int × List Int), (mrun l st).2.length ≤ st.2.length + l.length
  | [], st => by simp [mrun]
  | c :: r, st => by
    have := mrun_open_length r (mstep st c)
    have h2 := mstep_open_length st c
    simp only [mrun, List.foldl_cons] at this ⊢
    simp; omega
theorem mt_length (l : List Int) : (mt l).length = l.length := by simp [mt, mrun_length]
theorem mstep_ok (st : List Int × List Int) (c : Int) (h : OpenOk st) : OpenOk (mstep st c) := by
  have hl := mstep_length st c
  intro k hk
  rw [hl]
  unfold mstep at hk
  split at hk
  · simp at hk
    rcases hk with hk | rfl
    · have := h k hk; omega
    · omega
  · split at hk
    · simp at hk
    · split at hk
      · split at hk
        · have := h k ((List.dropLast_sublist _).subset hk); omega
        · have := h k hk; omega
      · have := h k hk; omega
theorem mrun_ok : ∀ (l : List Int) (st : List Int × List Int), OpenOk st → OpenOk (mrun l st)
  | [], _, h => h
  | c :: r, st, h => by simpa [mrun] using mrun_ok r (mstep st c) (mstep_ok st c h)
theorem ok_nil : OpenOk ([], []) := fun k hk => by simp at hk

/-- the steps, way by way -/
theorem mstep_open {st : List Int × List Int} {c : Int} (h : opens c = true) : mstep st c = (st.1 ++ [-1], st.2 ++ [(st.1.length : Int)]) := by
  unfold mstep; rw [if_pos h]
theorem mstep_B {st : List Int × List Int} : mstep st 11 = (st.1 ++ [-1], []) := by
  unfold mstep; rw [if_neg (by decide), if_pos rfl]
theorem mstep_pop {o q : List Int} {k : Int} : mstep (o, q ++ [k]) 23 = ((o ++ [k]).set k.toNat (o.length : Int), q) := by
  unfold mstep; rw [if_neg (by decide), if_neg (by decide), if_pos rfl]; simp
theorem mstep_stray {o : List Int} : mstep (o, []) 23 = (o ++ [-1], []) := by
  unfold mstep; rw [if_neg (by decide), if_neg (by decide), if_pos rfl]; rfl
theorem mstep_else {st : List Int × List Int} {c : Int} (h : opens c = false) (h1 : c ≠ 11) (h2 : c ≠ 23) : mstep st c = (st.1 ++ [-1], st.2) := by
  unfold mstep; rw [if_neg (by simp [h]), if_neg h1, if_neg h2]

end Go.Proofs.Ytojcphfonbdlpaa.Bd
