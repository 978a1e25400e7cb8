/- A list of operations, cut in its midst: the ways through its first part meet again ahead of the second. Over any program. No condition. -/
import Derived.WalkKit
import Derived.Orders
namespace Go.Proofs.Ytbjeflblhjfagaa
open Go.RowKit

def Mid (R : Act → World → Prop) (Q : Exit → Act → World → Prop) (e : Exit) (a : Act) (w : World) : Prop := match e with
  | .normal => R a w
  | e => Q e a w
theorem Mid.intro {R : Act → World → Prop} {Q : Exit → Act → World → Prop} {a : Act} {w : World} (h : R a w) : Mid R Q .normal a w := h
theorem upon_mid {P : Program} {o : Oper} {a : Act} {r : Result Next} {K : Act → World → Prop} {R : Act → World → Prop} {Q : Exit → Act → World → Prop}
    (hh : o.upon P a K (Mid R Q) r) : o.upon P a K Q r := by
  cases r with
  | ok n w' =>
    cases n <;> simp only [Oper.upon] at hh ⊢ <;>
      first
        | exact hh
        | exact Calls.mono hh (fun e w'' he => by cases e <;> exact he)
  | halt x w' => cases x <;> simp only [Oper.upon] at hh ⊢ <;> exact hh
theorem wpList_two {P : Program} {ops : Array Oper} {Q : Exit → Act → World → Prop} {R : Act → World → Prop} {l2 : List Oper}
    (rest : ∀ a w, R a w → wpList P ops Q l2 a w) : ∀ (l1 : List Oper) (a : Act) (w : World), wpList P ops (Mid R Q) l1 a w → wpList P ops Q (l1 ++ l2) a w
  | [], a, w, h => rest a w h
  | o :: l1, a, w, h => by
    unfold wpList at h
    show wpList P ops Q (o :: (l1 ++ l2)) a w
    unfold wpList
    split
    · rename_i hg
      rw [if_pos hg] at h
      rcases h with h | ⟨h1, h2⟩
      · exact .inl (upon_mid (Oper.wp_mono (wpList_two rest l1) h))
      · exact .inr ⟨h1, h2⟩
    · rename_i hg
      rw [if_neg hg] at h
      exact wpList_two rest l1 _ _ h
theorem wpList_mid {P : Program} {ops : Array Oper} {Q : Exit → Act → World → Prop} {l : List Oper} {a : Act} {w : World} (R : Act → Act → Prop) (n : Nat)
    (first : wpList P ops (Mid (fun a' w' => R a a' ∧ w' = w) Q) (l.take n) a w)
    (rest : ∀ a', R a a' → wpList P ops Q (l.drop n) a' w) : wpList P ops Q l a w := by
  have h := wpList_two (l2 := l.drop n) (fun a' w' (h : R a a' ∧ w' = w) => by rw [h.2]; exact rest a' h.1) _ _ _ first
  rwa [List.take_append_drop] at h

end Go.Proofs.Ytbjeflblhjfagaa
