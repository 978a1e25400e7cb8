/- What the levels and classes of any list of classes are like: within bounds, and what is removed. No program in sight. No condition but the base. -/
import Derived.Test.YthcgdlcpgklhbaaLevPlain
namespace Go.Proofs.Ythcgdlcpgklhbaa.Lv

/-- entries within bounds -/
def Good (base : Int) (s : S) : Prop := (∃ f b, s.stk = f ++ [b] ∧ b.is = false) ∧ (s.stk.filter (·.is)).length = s.val ∧ ∀ e ∈ s.stk, base ≤ e.lv ∧ e.lv ≤ 125 ∧ (e.ov = 0 ∨ e.ov = 1 ∨ e.ov = 2)
theorem Good.top {base : Int} {s : S} (h : Good base s) : base ≤ (top s).lv ∧ (top s).lv ≤ 125 ∧ ((top s).ov = 0 ∨ (top s).ov = 1 ∨ (top s).ov = 2) := by
  obtain ⟨⟨f, b, hs, _⟩, _, h3⟩ := h
  refine h3 _ ?_
  cases f with
  | nil => simp [Lv.top, hs]
  | cons a f => simp [Lv.top, hs]
theorem begin0_good (base : Int) (h : base ≤ 125) : Good base (begin0 base) :=
  ⟨⟨[], _, rfl, rfl⟩, rfl, by intro e he; simp [begin0] at he; subst he; exact ⟨Int.le_refl _, h, .inl rfl⟩⟩
theorem over_of (c : Int) : over c = 0 ∨ over c = 1 ∨ over c = 2 := by unfold over; split <;> (try split) <;> simp
theorem embed_good {base : Int} {s : S} (c : Int) (h : Good base s) : Good base (embed s c) := by
  have ht := h.top
  obtain ⟨⟨f, b, hs, hb⟩, h2, h3⟩ := h
  unfold embed
  split
  · rename_i hr
    have hn := nx_ge (Lv.top s).lv (rl c)
    have hr := room_le hr
    refine ⟨⟨_ :: f, b, by simp [hs]; rfl, hb⟩, by simp [h2], ?_⟩
    intro e he
    simp at he
    rcases he with rfl | he
    · exact ⟨by simp only; omega, by simp only; omega, over_of c⟩
    · exact h3 e he
  · split
    · exact ⟨⟨f, b, hs, hb⟩, h2, h3⟩
    · exact ⟨⟨f, b, hs, hb⟩, h2, h3⟩
theorem isol_good {base : Int} {s : S} (o : Bool) (h : Good base s) : Good base (isol s o) := by
  have ht := h.top
  obtain ⟨⟨f, b, hs, hb⟩, h2, h3⟩ := h
  unfold isol
  split
  · rename_i hr
    have hn := nx_ge (Lv.top s).lv o
    have hr := room_le hr
    refine ⟨⟨_ :: f, b, by simp [hs]; rfl, hb⟩, by simp [h2], ?_⟩
    intro e he
    simp at he
    rcases he with rfl | he
    · exact ⟨by simp only; omega, by simp only; omega, .inl rfl⟩
    · exact h3 e he
  · exact ⟨⟨f, b, hs, hb⟩, h2, h3⟩
theorem endI_good {base : Int} {s : S} (h : Good base s) : Good base (endI s) := by
  obtain ⟨⟨f, b, hs, hb⟩, h2, h3⟩ := h
  unfold endI
  split
  · exact ⟨⟨f, b, hs, hb⟩, h2, h3⟩
  · split
    · exact ⟨⟨f, b, hs, hb⟩, h2, h3⟩
    · rename_i hv
      have hpos : 0 < (f.filter (·.is)).length := by
        rw [hs] at h2
        simp [hb] at h2
        omega
      obtain ⟨f', hf⟩ := popIso_bottom f b hpos
      refine ⟨⟨f', b, by simp [hs, hf], hb⟩, ?_, fun e he => h3 e (popIso_mem _ _ he)⟩
      have := popIso_count s.stk (by omega)
      simp [this, h2]
theorem pop_good {base : Int} {s : S} (h : Good base s) : Good base (pop s) := by
  obtain ⟨⟨f, b, hs, hb⟩, h2, h3⟩ := h
  unfold pop
  split
  · exact ⟨⟨f, b, hs, hb⟩, h2, h3⟩
  · split
    · exact ⟨⟨f, b, hs, hb⟩, h2, h3⟩
    · split
      · rename_i hc
        cases f with
        | nil => simp [hs] at hc
        | cons a f =>
          have ht : (Lv.top s).is = a.is := by simp [Lv.top, hs]
          have ha : a.is = false := by rw [← ht]; exact hc.1
          refine ⟨⟨f, b, by simp [hs], hb⟩, ?_, fun e he => h3 e (List.mem_of_mem_tail he)⟩
          rw [← h2, hs]
          simp [ha]
      · exact ⟨⟨f, b, hs, hb⟩, h2, h3⟩
theorem own_of {base : Int} {s : S} (h : Good base s) (c : Int) : own s c = c ∨ own s c = 1 ∨ own s c = 2 := by
  have ht := h.top.2.2
  unfold own
  split
  · omega
  · exact .inl rfl
/-- what is told of a list: the level ahead, the classes, the answers -/
def Kept (base : Int) : Int → List Int → List Out → Prop
  | _, [], [] => True
  | was, x :: r, o :: os => base ≤ o.lv ∧ o.lv ≤ 125 ∧ (removed x = true → o.cl = 10 ∧ o.lv = was) ∧ (removed x = false → o.cl = x ∨ o.cl = 1 ∨ o.cl = 2) ∧ Kept base o.lv r os
  | _, _, _ => False
theorem step_kept {base was : Int} {s : S} {x : Int} {r : List Int} (hb : base ≤ 125) (hw : base ≤ was ∧ was ≤ 125) (h : Good base s) :
    Good base (step base s was x r).2 ∧ base ≤ (step base s was x r).1.lv ∧ (step base s was x r).1.lv ≤ 125 ∧ (removed x = true → (step base s was x r).1.cl = 10 ∧ (step base s was x r).1.lv = was) ∧
      (removed x = false → (step base s was x r).1.cl = x ∨ (step base s was x r).1.cl = 1 ∨ (step base s was x r).1.cl = 2) := by
  have ht := h.top
  unfold step
  split
  · rename_i hr
    refine ⟨?_, hw.1, hw.2, fun _ => ⟨rfl, rfl⟩, fun hf => absurd hr (by simp [hf])⟩
    simp only
    split
    · exact pop_good h
    · split
      · exact h
      · exact embed_good x h
  · rename_i hr
    split
    · exact ⟨isol_good _ h, ht.1, ht.2.1, fun hf => absurd hf hr, fun _ => own_of h x⟩
    · split
      · exact ⟨isol_good _ h, ht.1, ht.2.1, fun hf => absurd hf hr, fun _ => own_of h x⟩
      · split
        · have he := endI_good h
          exact ⟨he, he.top.1, he.top.2.1, fun hf => absurd hf hr, fun _ => own_of he x⟩
        · split
          · rename_i h11
            exact ⟨begin0_good base hb, Int.le_refl _, hb, fun hf => absurd hf hr, fun _ => .inl h11.symm⟩
          · exact ⟨h, ht.1, ht.2.1, fun hf => absurd hf hr, fun _ => own_of h x⟩
theorem lev_kept (base : Int) (hb : base ≤ 125) : ∀ (l : List Int) (s : S) (was : Int), base ≤ was ∧ was ≤ 125 → Good base s → Kept base was l (lev base s was l)
  | [], _, _, _, _ => trivial
  | x :: r, s, was, hw, h => by
    obtain ⟨h1, h2, h3, h4, h5⟩ := step_kept (x := x) (r := r) hb hw h
    exact ⟨h2, h3, h4, h5, lev_kept base hb r _ _ ⟨h2, h3⟩ h1⟩

end Go.Proofs.Ythcgdlcpgklhbaa.Lv
