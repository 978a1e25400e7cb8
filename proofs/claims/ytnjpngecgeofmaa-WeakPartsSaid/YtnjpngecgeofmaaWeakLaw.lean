/- Plain laws of the weak rules: what becomes of each class, and that an L or an R parts the work. No condition. -/
import Derived.Test.YtnjpngecgeofmaaWeakPlain
namespace Go.Proofs.Ytnjpngecgeofmaa.Wk

/-- two lists of one length, held against each other place by place -/
def All2 (R : Int → Int → Prop) : List Int → List Int → Prop
  | [], [] => True
  | a :: l, b :: m => R a b ∧ All2 R l m
  | _, _ => False

theorem All2.comp {R S T : Int → Int → Prop} (hT : ∀ x y z, R x y → S y z → T x z) : ∀ {l m n : List Int}, All2 R l m → All2 S m n → All2 T l n
  | [], [], [], _, _ => trivial
  | _ :: _, _ :: _, _ :: _, h, k => ⟨hT _ _ _ h.1 k.1, All2.comp hT h.2 k.2⟩
  | [], [], _ :: _, _, k => k.elim
  | [], _ :: _, _, h, _ => h.elim
  | _ :: _, [], _, h, _ => h.elim
  | _ :: _, _ :: _, [], _, k => k.elim
theorem All2.length {R : Int → Int → Prop} : ∀ {l m : List Int}, All2 R l m → m.length = l.length
  | [], [], _ => rfl
  | _ :: _, _ :: _, h => by simp [All2.length h.2]
  | [], _ :: _, h => h.elim
  | _ :: _, [], h => h.elim
theorem All2.at_ {R : Int → Int → Prop} : ∀ {l m : List Int}, All2 R l m → ∀ (i : Nat) (x y : Int), l[i]? = some x → m[i]? = some y → R x y
  | _ :: _, _ :: _, h, 0, x, y, hx, hy => by simp at hx hy; subst hx hy; exact h.1
  | _ :: _, _ :: _, h, i + 1, x, y, hx, hy => by simp at hx hy; exact All2.at_ h.2 i x y hx hy
  | [], [], _, _, _, _, hx, _ => by simp at hx
  | [], _ :: _, h, _, _, _, _, _ => h.elim
  | _ :: _, [], h, _, _, _, _, _ => h.elim

theorem iso_nine : iso 9 = false := by decide
theorem w1_all : ∀ (l : List Int) (a : Int), a ≠ 9 → All2 (fun x y => y ≠ 9 ∧ (x ≠ 9 → y = x)) l (w1 a l)
  | [], _, _ => trivial
  | c :: r, a, ha => by
    have h : one1 a c ≠ 9 ∧ (c ≠ 9 → one1 a c = c) := by
      unfold one1; split <;> (try split) <;> simp_all
    exact ⟨h, w1_all r _ h.1⟩
theorem w2_all : ∀ (l : List Int) (s : Int), All2 (fun x y => y = x ∨ (x = 4 ∧ y = 7)) l (w2 s l)
  | [], _ => trivial
  | c :: r, s => by
    refine ⟨?_, w2_all r _⟩
    unfold one2; split <;> simp_all
theorem w3_all : ∀ (l : List Int), All2 (fun x y => y = if x = 3 then 2 else x) l (w3 l)
  | [] => trivial
  | _ :: r => ⟨rfl, w3_all r⟩
def R4 (x y : Int) : Prop := y = x ∨ ((x = 5 ∨ x = 8) ∧ (y = 4 ∨ y = 7))
theorem one4_R (a c b : Int) : R4 c (one4 a c b) := by
  unfold R4 one4
  by_cases h1 : a = b && c = 5 && a = 4
  · rw [if_pos h1]; simp at h1; omega
  · rw [if_neg h1]
    by_cases h2 : a = b && c = 8 && (a = 4 || a = 7)
    · rw [if_pos h2]; simp at h2; omega
    · rw [if_neg h2]; exact .inl rfl
theorem w4b_all : ∀ (l : List Int) (a : Int), All2 R4 l (w4b a l)
  | [], _ => trivial
  | [_], _ => ⟨.inl rfl, trivial⟩
  | c :: b :: r, a => ⟨one4_R a c b, w4b_all (b :: r) _⟩
theorem w4_all : ∀ (l : List Int), All2 R4 l (w4 l)
  | [] => trivial
  | a :: r => ⟨.inl rfl, w4b_all r a⟩
theorem w5_all : ∀ (l : List Int) (b : Bool), All2 (fun x y => y = x ∨ (x = 6 ∧ y = 4)) l (w5 b l)
  | [], _ => trivial
  | c :: r, b => by
    unfold w5
    by_cases h : c = 6
    · rw [if_pos h]
      refine ⟨?_, w5_all r _⟩
      split <;> simp_all
    · rw [if_neg h]
      exact ⟨.inl rfl, w5_all r _⟩
def R7 (x y : Int) : Prop := ((x = 5 ∨ x = 6 ∨ x = 8) ∧ y = 14) ∨ (x = 4 ∧ (y = 4 ∨ y = 1)) ∨ (x ≠ 5 ∧ x ≠ 6 ∧ x ≠ 8 ∧ x ≠ 4 ∧ y = x)
theorem one7_R (s c : Int) : R7 c (one7 s c) := by
  unfold R7 one7
  by_cases h1 : c = 5 || c = 6 || c = 8
  · rw [if_pos h1]; simp at h1; omega
  · rw [if_neg h1]
    simp at h1
    by_cases h2 : c = 4 && s = 1
    · rw [if_pos h2]; simp at h2; omega
    · rw [if_neg h2]; omega
theorem w7_all : ∀ (l : List Int) (s : Int), All2 R7 l (w7 s l)
  | [], _ => trivial
  | c :: r, s => ⟨one7_R s c, w7_all r _⟩

theorem start_ne (s : Int) : start s ≠ 9 ∧ (start s = 1 ∨ start s = 2) := by unfold start; split <;> omega

/-- a class that the rules leave as it is -/
def stays (c : Int) : Bool := c = 1 || c = 2 || c = 7 || c = 11 || c = 12 || c = 13 || c = 14 || c = 20 || c = 21 || c = 22 || c = 23
def Left (x y : Int) : Prop := y ≠ 9 ∧ y ≠ 3 ∧ y ≠ 5 ∧ y ≠ 6 ∧ y ≠ 8 ∧ (stays x = true → y = x)

theorem weak_left (s : Int) (l : List Int) : All2 Left l (weak s l) := by
  have h1 := w1_all l (start s) (start_ne s).1
  have h2 := w2_all (w1 (start s) l) 0
  have h3 := w3_all (w2 0 (w1 (start s) l))
  have h4 := w4_all (w3 (w2 0 (w1 (start s) l)))
  have h5 := w5_all (w4 (w3 (w2 0 (w1 (start s) l)))) false
  have h7 := w7_all (w5 false (w4 (w3 (w2 0 (w1 (start s) l))))) (start s)
  have k2 : All2 (fun x y => y ≠ 9 ∧ (stays x = true → y = x)) l _ := All2.comp (by
    intro x y z a b
    refine ⟨by omega, fun hs => ?_⟩
    have : x ≠ 9 ∧ x ≠ 4 := by refine ⟨?_, ?_⟩ <;> (rintro rfl; simp [stays] at hs)
    omega) h1 h2
  have k3 : All2 (fun x y => y ≠ 9 ∧ y ≠ 3 ∧ (stays x = true → y = x)) l _ := All2.comp (by
    intro x y z a b
    refine ⟨by split at b <;> omega, by split at b <;> omega, fun hs => ?_⟩
    have : x ≠ 3 := by rintro rfl; simp [stays] at hs
    have := a.2 hs
    split at b <;> omega) k2 h3
  have k4 : All2 (fun x y => y ≠ 9 ∧ y ≠ 3 ∧ (stays x = true → y = x)) l _ := All2.comp (by
    intro x y z a b
    unfold R4 at b
    refine ⟨by omega, by omega, fun hs => ?_⟩
    have : x ≠ 5 ∧ x ≠ 8 := by refine ⟨?_, ?_⟩ <;> (rintro rfl; simp [stays] at hs)
    have := a.2.2 hs
    omega) k3 h4
  have k5 : All2 (fun x y => y ≠ 9 ∧ y ≠ 3 ∧ (stays x = true → y = x)) l _ := All2.comp (by
    intro x y z a b
    refine ⟨by omega, by omega, fun hs => ?_⟩
    have : x ≠ 6 := by rintro rfl; simp [stays] at hs
    have := a.2.2 hs
    omega) k4 h5
  exact All2.comp (by
    intro x y z a b
    unfold R7 at b
    refine ⟨by omega, by omega, by omega, by omega, by omega, fun hs => ?_⟩
    have : x ≠ 5 ∧ x ≠ 8 ∧ x ≠ 6 ∧ x ≠ 4 := by refine ⟨?_, ?_, ?_, ?_⟩ <;> (rintro rfl; simp [stays] at hs)
    have := a.2.2 hs
    omega) k5 h7


theorem w1_app : ∀ (a b : List Int) (s : Int) (m : Int), m ≠ 9 → w1 s (a ++ m :: b) = w1 s a ++ m :: w1 m b
  | [], b, s, m, hm => by simp [w1, one1, hm]
  | c :: r, b, s, m, hm => by simp [w1, w1_app r b _ m hm]
theorem w2_st : ∀ (b : List Int) (s t : Int), s ≠ 3 → t ≠ 3 → w2 s b = w2 t b
  | [], _, _, _, _ => rfl
  | c :: r, s, t, hs, ht => by
    by_cases h : c = 1 ∨ c = 2 ∨ c = 3
    · have : st2 s c = st2 t c := by unfold st2; rcases h with rfl | rfl | rfl <;> rfl
      simp only [w2, this, one2, hs, ht]
    · have h1 : st2 s c = s := by unfold st2; simp; omega
      have h2 : st2 t c = t := by unfold st2; simp; omega
      simp only [w2, h1, h2, one2, hs, ht, w2_st r s t hs ht]
theorem w2_app : ∀ (a b : List Int) (s : Int) (m : Int), m = 1 ∨ m = 2 → w2 s (a ++ m :: b) = w2 s a ++ m :: w2 0 b
  | [], b, s, m, hm => by
    have h1 : st2 s m = m := by unfold st2; rcases hm with rfl | rfl <;> rfl
    have h2 : one2 s m = m := by unfold one2; rcases hm with rfl | rfl <;> rfl
    simp only [List.nil_append, w2, h1, h2, w2_st b m 0 (by omega) (by omega)]
  | c :: r, b, s, m, hm => by simp [w2, w2_app r b _ m hm]
theorem w3_app (a b : List Int) (m : Int) (hm : m = 1 ∨ m = 2) : w3 (a ++ m :: b) = w3 a ++ m :: w3 b := by
  have : m ≠ 3 := by omega
  simp [w3, this]
theorem one4_side (c b m : Int) (hm : m = 1 ∨ m = 2) : one4 m c b = c ∧ one4 c b m = b := by
  unfold one4
  have h1 : (m = b && c = 5 && m = 4) = false := by simp; omega
  have h2 : (m = b && c = 8 && (m = 4 || m = 7)) = false := by simp; omega
  have h3 : (c = m && b = 5 && c = 4) = false := by simp; omega
  have h4 : (c = m && b = 8 && (c = 4 || c = 7)) = false := by simp; omega
  simp only [h1, h2, h3, h4]; exact ⟨rfl, rfl⟩
theorem one4_mid (a b m : Int) (hm : m = 1 ∨ m = 2) : one4 a m b = m := by
  unfold one4
  have h3 : (a = b && m = 5 && a = 4) = false := by simp; omega
  have h4 : (a = b && m = 8 && (a = 4 || a = 7)) = false := by simp; omega
  simp only [h3, h4]; rfl
theorem w4b_first (b : List Int) (m : Int) (hm : m = 1 ∨ m = 2) : w4b m b = w4 b := by
  match b with
  | [] => rfl
  | [c] => rfl
  | c :: d :: r => simp only [w4b, w4, (one4_side c d m hm).1]
theorem w4b_app : ∀ (a b : List Int) (x m : Int), m = 1 ∨ m = 2 → w4b x (a ++ m :: b) = w4b x a ++ m :: w4 b
  | [], [], x, m, _ => rfl
  | [], c :: r, x, m, hm => by simp only [List.nil_append, w4b, one4_mid x c m hm, w4b_first (c :: r) m hm]
  | [c], b, x, m, hm => by
    have := w4b_app [] b c m hm
    simp only [List.nil_append, List.cons_append, w4b, (one4_side x c m hm).2] at this ⊢
    rw [this]
  | c :: d :: r, b, x, m, hm => by
    have := w4b_app (d :: r) b (one4 x c d) m hm
    simp only [List.cons_append, w4b] at this ⊢
    rw [this]
theorem w4_app (a b : List Int) (m : Int) (hm : m = 1 ∨ m = 2) : w4 (a ++ m :: b) = w4 a ++ m :: w4 b := by
  match a with
  | [] => simp only [List.nil_append, w4, w4b_first b m hm]
  | c :: r => simp only [List.cons_append, w4, w4b_app r b c m hm]
theorem nextEN_app : ∀ (a b : List Int) (m : Int), m = 1 ∨ m = 2 → nextEN (a ++ m :: b) = nextEN a
  | [], b, m, hm => by rcases hm with rfl | rfl <;> rfl
  | c :: r, b, m, hm => by simp only [List.cons_append, nextEN, nextEN_app r b m hm]
theorem w5_app : ∀ (a b : List Int) (l : Bool) (m : Int), m = 1 ∨ m = 2 → w5 l (a ++ m :: b) = w5 l a ++ m :: w5 false b
  | [], b, l, m, hm => by rcases hm with rfl | rfl <;> simp [w5]
  | c :: r, b, l, m, hm => by
    simp only [List.cons_append, w5, nextEN_app r b m hm]
    split
    · simp [w5_app r b _ m hm]
    · simp [w5_app r b _ m hm]
theorem w7_app : ∀ (a b : List Int) (s m : Int), m = 1 ∨ m = 2 → w7 s (a ++ m :: b) = w7 s a ++ m :: w7 m b
  | [], b, s, m, hm => by rcases hm with rfl | rfl <;> simp [w7, one7, st7]
  | c :: r, b, s, m, hm => by simp [w7, w7_app r b _ m hm]
theorem weak_app (a b : List Int) (s m : Int) (hm : m = 1 ∨ m = 2) : weak s (a ++ m :: b) = weak s a ++ m :: weak m b := by
  have hs : start m = m := by rcases hm with rfl | rfl <;> rfl
  unfold weak
  rw [w1_app a b _ m (by omega), w2_app _ _ _ _ hm, w3_app _ _ _ hm, w4_app _ _ _ hm, w5_app _ _ _ _ hm, w7_app _ _ _ _ hm, hs]


/-- no weak class is left but EN and AN -/
def Done (l : List Int) : Prop := ∀ x ∈ l, x ≠ 9 ∧ x ≠ 3 ∧ x ≠ 5 ∧ x ≠ 6 ∧ x ≠ 8
theorem Done.of {R : Int → Int → Prop} (hR : ∀ x y, R x y → y ≠ 9 ∧ y ≠ 3 ∧ y ≠ 5 ∧ y ≠ 6 ∧ y ≠ 8) : ∀ {l m : List Int}, All2 R l m → Done m
  | [], [], _ => by intro x hx; simp at hx
  | _ :: _, b :: m, h => by
    intro x hx
    rcases List.mem_cons.1 hx with rfl | hx
    · exact hR _ _ h.1
    · exact Done.of hR h.2 x hx
  | [], _ :: _, h => h.elim
  | _ :: _, [], h => h.elim
theorem w1_done : ∀ (l : List Int) (a : Int), Done l → w1 a l = l
  | [], _, _ => rfl
  | c :: r, a, h => by
    have hc := h c (by simp)
    have : one1 a c = c := by unfold one1; rw [if_neg hc.1]
    simp only [w1, this, w1_done r c (fun x hx => h x (by simp [hx]))]
theorem w2_done : ∀ (l : List Int) (s : Int), s ≠ 3 → Done l → w2 s l = l
  | [], _, _, _ => rfl
  | c :: r, s, hs, h => by
    have hc := h c (by simp)
    have h1 : one2 s c = c := by unfold one2; simp [hs]
    have h2 : st2 s c ≠ 3 := by unfold st2; split <;> omega
    simp only [w2, h1, w2_done r _ h2 (fun x hx => h x (by simp [hx]))]
theorem w3_done : ∀ (l : List Int), Done l → w3 l = l
  | [], _ => rfl
  | c :: r, h => by
    have hc := h c (by simp)
    have := w3_done r (fun x hx => h x (by simp [hx]))
    unfold w3 at this ⊢
    simp [hc.2.1, this]
theorem one4_done (a c b : Int) (h5 : c ≠ 5) (h8 : c ≠ 8) : one4 a c b = c := by
  unfold one4; simp [h5, h8]
theorem w4b_done : ∀ (l : List Int) (a : Int), Done l → w4b a l = l
  | [], _, _ => rfl
  | [c], _, _ => rfl
  | c :: b :: r, a, h => by
    have hc := h c (by simp)
    simp only [w4b, one4_done a c b hc.2.2.1 hc.2.2.2.2, w4b_done (b :: r) c (fun x hx => h x (by simp only [List.mem_cons] at hx ⊢; exact .inr hx))]
theorem w4_done (l : List Int) (h : Done l) : w4 l = l := by
  match l, h with
  | [], _ => rfl
  | a :: r, h => simp only [w4, w4b_done r a (fun x hx => h x (by simp [hx]))]
theorem w5_done : ∀ (l : List Int) (b : Bool), Done l → w5 b l = l
  | [], _, _ => rfl
  | c :: r, b, h => by
    have hc := h c (by simp)
    simp only [w5, if_neg hc.2.2.2.1, w5_done r _ (fun x hx => h x (by simp [hx]))]
theorem weak_twice (s : Int) (l : List Int) : weak s (weak s l) = weak s l := by
  have hD : Done (weak s l) := Done.of (fun x y h => ⟨h.1, h.2.1, h.2.2.1, h.2.2.2.1, h.2.2.2.2.1⟩) (weak_left s l)
  have e : weak s (weak s l) = w7 (start s) (weak s l) := by
    rw [weak, w1_done _ _ hD, w2_done _ _ (by decide) hD, w3_done _ hD, w4_done _ hD, w5_done _ _ hD]
  rw [e]
  -- W7 twice over the list that W7 left
  have : ∀ (l : List Int) (t : Int), w7 t (w7 t l) = w7 t l := by
    intro l
    induction l with
    | nil => intro t; rfl
    | cons c r ih =>
      intro t
      by_cases h1 : c = 5 ∨ c = 6 ∨ c = 8
      · have e1 : one7 t c = 14 := by unfold one7; rw [if_pos (by simp; omega)]
        have e2 : st7 t c = t := by unfold st7; rw [if_neg (by simp; omega)]
        have e3 : one7 t 14 = 14 := by unfold one7; simp
        have e4 : st7 t 14 = t := by unfold st7; simp
        simp only [w7, e1, e2, e3, e4, ih]
      · by_cases h4 : c = 4 ∧ t = 1
        · obtain ⟨rfl, rfl⟩ := h4
          have e1 : one7 1 4 = 1 := by decide
          have e2 : st7 1 4 = 1 := by decide
          have e3 : one7 1 1 = 1 := by decide
          have e4 : st7 1 1 = 1 := by decide
          simp only [w7, e1, e2, e3, e4, ih]
        · have e1 : one7 t c = c := by
            unfold one7
            rw [if_neg (by simp; omega), if_neg (by simp; omega)]
          simp only [w7, e1, ih]
  unfold weak
  exact this _ _

end Go.Proofs.Ytnjpngecgeofmaa.Wk
