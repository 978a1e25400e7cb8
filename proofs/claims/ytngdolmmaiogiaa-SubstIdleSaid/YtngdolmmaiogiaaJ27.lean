/- Joined: Tord. -/
import Derived.Test.YtngdolmmaiogiaaJ02
import Derived.OrdersHeld
import Derived.Deep.RegionHeld3

/- A region that draws its order, in which some operations come up one behind the other and all others yield the same in every world of a class: one walk of the text's order serves every order. Over any program. No condition. -/
namespace Go.Proofs.Ytngdolmmaiogiaa
open Go.RowKit

section
variable {P : Program} {ops : Array Oper} {Q : Exit → Act → World → Prop} {md : Region.Mode} {E : Nat → Bool} {S : World → Prop}
/-- operations that hand back a value, if anything -/
def plainOp : Op → Bool
  | .move _ | .assign _ | .pick .. | .load .. | .fieldAddr .. | .indexAddr .. | .index .. | .binOp .. | .unOp .. => true
  | .call c => match c.callee with | .builtin .len => true | _ => false
  | _ => false
theorem then_val {r : Result Value} {w' : World} {n : Next} (h : (r.andThen fun x w => Result.ok (Next.value x) w) = .ok n w') : ∃ u, n = .value u := by
  cases r with
  | ok a w2 => rw [Result.andThen_ok, Result.ok.injEq] at h; exact ⟨a, h.1.symm⟩
  | halt x w2 => cases h
theorem run_val {s : Sem Value} {w w' : World} {n : Next} (h : (do pure (Next.value (← s)) : Sem Next).run P w = .ok n w') : ∃ u, n = .value u := by
  rw [Sem.run_bind] at h
  exact then_val (by simpa only [Sem.run_pure] using h)
theorem plain_val {ρ : Operand → Value} {o : Oper} {w w' : World} {n : Next} (ho : plainOp o.op = true) (h : (execOp ρ o).run P w = .ok n w') : ∃ u, n = .value u := by
  unfold execOp at h
  unfold plainOp at ho
  split at ho
  · rename_i x hx
    simp only [hx, Sem.run_pure, Result.ok.injEq] at h
    exact ⟨_, h.1.symm⟩
  · rename_i x hx
    simp only [hx, Sem.run_pure, Result.ok.injEq] at h
    exact ⟨_, h.1.symm⟩
  · rename_i c x y hx
    simp only [hx, Sem.run_bind, Sem.run_pure] at h
    generalize (asBool (ρ c)).run P w = r at h
    cases r with
    | ok a w2 => rw [Result.andThen_ok, Result.ok.injEq] at h; exact ⟨_, h.1.symm⟩
    | halt x w2 => cases h
  · rename_i hx; simp only [hx] at h; exact run_val h
  · rename_i hx; simp only [hx] at h; exact run_val h
  · rename_i hx; simp only [hx] at h; exact run_val h
  · rename_i hx; simp only [hx] at h; exact run_val h
  · rename_i hx; simp only [hx] at h; exact run_val h
  · rename_i hx; simp only [hx] at h; exact run_val h
  · rename_i c hx
    simp only [hx] at h
    split at ho
    · rename_i hc
      simp only [resolve, hc, Sem.run_bind, Sem.run_pure, Result.andThen_ok, invoke, builtin] at h
      exact then_val h
    · cases ho
  · cases ho
theorem yieldsIf_of_in {o : Oper} {v : Value} {a : Act} (ho : plainOp o.op = true) (h : YieldsIn P ops S o v a) : YieldsIf P ops S o v a := by
  rcases h with ⟨h1, h2⟩ | h
  · refine .inl ⟨h1, fun w hw => ?_⟩
    have h3 := h2 w hw
    unfold Oper.quietAt at h3
    cases hr : (execOp a.eval o).run P w with
    | ok n w' =>
      obtain ⟨u, rfl⟩ := plain_val ho hr
      rw [hr] at h3
      obtain ⟨e1, e2⟩ := h3
      rw [e1, e2]
    | halt x w' => rw [hr] at h3; exact h3.elim
  · exact .inr h
/-- operation number i comes up: it is one that acts, or it yields the same in every world of the class -/
def eOp (P : Program) (ops : Array Oper) (E : Nat → Bool) (S : World → Prop) (Q : Exit → Act → World → Prop) (i : Nat) (K : Act → World → Prop) (a : Act) (w : World) : Prop :=
  if E i = true then wpOp P ops Q i (fun a' w' => S w' ∧ K a' w') a w else qOp P ops S i (fun a' => K a' w) a
def textFrom (md : Region.Mode) (ops : Array Oper) (E : Nat → Bool) : Nat → Nat → Array Bool → Bool
  | 0, _, listed => (Region.ready md ops listed).isEmpty
  | fuel + 1, k, listed => (if E k then Region.ready md ops listed == [k] else (Region.ready md ops listed).contains k && Region.free md ops listed k && ((ops[k]?).map (fun o => plainOp o.op)).getD false) && textFrom md ops E fuel (k + 1) (listed.setIfInBounds k true)
def textB (E : Nat → Bool) (ops : Array Oper) : Bool := Region.noSelect ops && textFrom .any ops E ops.size 0 (Array.replicate ops.size false)
/-- the walk of the text's order: n operations are to come, from number k on -/
def wpE (P : Program) (ops : Array Oper) (E : Nat → Bool) (S : World → Prop) (Q : Exit → Act → World → Prop) : Nat → Nat → Act → World → Prop
  | 0, _, a, w => Q .normal a w
  | n + 1, k, a, w => eOp P ops E S Q k (wpE P ops E S Q n (k + 1)) a w
theorem wpAnyH_text (hs : Region.noSelect ops = true) (hQ : ∀ c a d v w, Q (.panic c) (a.put d v) w → Q (.panic c) a w) : ∀ (n k : Nat) (listed : Array Bool) (a : Act) (w : World), k + n ≤ ops.size →
    textFrom md ops E n k listed = true → S w → wpE P ops E S Q n k a w → wpAnyH P md ops Q S n listed a w
  | 0, _, _, _, _, _, hB, _, h => ⟨by simpa [textFrom] using hB, h⟩
  | n + 1, k, listed, a, w, hk, hB, hS, h => by
    have h0 : ops[k]? = some ops[k] := Array.getElem?_eq_getElem (by omega)
    simp only [textFrom, Bool.and_eq_true] at hB
    obtain ⟨h1, h2⟩ := hB
    have hrec : ∀ a w, S w → wpE P ops E S Q n (k + 1) a w → wpAnyH P md ops Q S n (listed.setIfInBounds k true) a w := fun a w hS h => wpAnyH_text hs hQ n (k + 1) _ a w (by omega) h2 hS h
    cases hE : E k with
    | true =>
      rw [if_pos hE] at h1
      have hr : Region.ready md ops listed = [k] := by simpa using h1
      refine wpAnyH_all hr (by simp) (fun i hi => ?_)
      rw [List.mem_singleton] at hi
      subst hi
      unfold wpE eOp at h
      rw [if_pos hE] at h
      exact wpOp_mono (fun a w h => ⟨h.1, hrec a w h.1 h.2⟩) h
    | false =>
      rw [if_neg (by rw [hE]; exact Bool.false_ne_true)] at h1
      simp only [Bool.and_eq_true] at h1
      obtain ⟨⟨hr, hf⟩, hb⟩ := h1
      unfold wpE eOp at h
      rw [if_neg (by rw [hE]; exact Bool.false_ne_true)] at h
      obtain ⟨v, hy, hK⟩ := yieldsIn_of_qOp h0 h
      rw [h0] at hb
      exact wpAnyH_take h0 hs hf hr (fun c a w h => hQ c a _ v w h) (yieldsIf_of_in (by simpa using hb) hy) hS (hrec _ _ hS hK)
/-- THE LAW: a region that draws its order, walked in the text's; it is shown not to panic. -/
theorem wp_region_text {id : Nat} {a : Act} {w : World} {l : List Oper} (S : World → Prop) (E : Nat → Bool) (n : Nat) (hn : l.length = n) (hm : P.follows .mixedOrders = true) (hB : textB E l.toArray = true)
    (hS : S w.drew) (h : wpE P l.toArray E S (NoPanic Q) n 0 a w.drew) : (Code.region id l.toArray true).wp P Q a w := by
  unfold textB at hB
  simp only [Bool.and_eq_true] at hB
  exact wp_region_noPanic (wp_region_held hm (wpAnyH_text (md := .any) hB.1 (fun _ _ _ _ _ h => h) l.toArray.size 0 (Array.replicate l.toArray.size false) a w.drew (by omega) hB.2 hS (by simpa [hn] using h)))
/-- Some operations that yield the same in every world of the class. -/
theorem wpE_seg {l : List Oper} {m' : Nat} {w : World} : ∀ (n m k : Nat) (a : Act), m = n + m' → (List.range n).all (fun j => !E (k + j)) = true → k + n ≤ l.length →
    wpQuiet P l.toArray S (fun a' => wpE P l.toArray E S Q m' (k + n) a' w) ((l.drop k).take n) a → wpE P l.toArray E S Q m k a w
  | 0, m, k, a, hm, _, _, h => by
    rw [Nat.zero_add] at hm
    subst hm
    exact h
  | n + 1, m, k, a, hm, hE, hl, h => by
    obtain ⟨m, rfl⟩ : ∃ z, m = z + 1 := ⟨n + m', by omega⟩
    have h0 : l.drop k = l[k] :: l.drop (k + 1) := List.drop_eq_getElem_cons (by omega)
    have hE0 : E k = false := by
      have := List.all_eq_true.1 hE 0 (by simp)
      simpa using this
    have hE1 : (List.range n).all (fun j => !E (k + 1 + j)) = true := by
      rw [List.all_eq_true]
      intro j hj
      have := List.all_eq_true.1 hE (j + 1) (by simp at hj ⊢; omega)
      rwa [show k + (j + 1) = k + 1 + j by omega] at this
    rw [h0, List.take_succ_cons] at h
    have hi : l.toArray[k]? = some l[k] := by simp
    unfold wpE eOp
    rw [if_neg (by rw [hE0]; exact Bool.false_ne_true)]
    unfold qOp
    rw [hi]
    unfold wpQuiet at h
    have hgo : ∀ a', wpQuiet P l.toArray S (fun a' => wpE P l.toArray E S Q m' (k + (n + 1)) a' w) ((l.drop (k + 1)).take n) a' → wpE P l.toArray E S Q m (k + 1) a' w := fun a' h' =>
      wpE_seg (m' := m') n m (k + 1) a' (by omega) hE1 (by omega) (by rwa [show k + 1 + n = k + (n + 1) by omega])
    simp only
    split
    · rename_i hw
      rw [if_pos hw] at h
      exact Oper.quiet_mono hgo h
    · rename_i hw
      rw [if_neg hw] at h
      exact hgo _ h
/-- An operation that acts. -/
theorem wpE_act {l : List Oper} (m k : Nat) (a : Act) (w : World) (hE : E k = true) (hl : k < l.length)
    (h : wpList P l.toArray (Mid (fun a' w' => S w' ∧ wpE P l.toArray E S Q m (k + 1) a' w') Q) ((l.drop k).take 1) a w) : wpE P l.toArray E S Q (m + 1) k a w := by
  have h0 : l.drop k = l[k] :: l.drop (k + 1) := List.drop_eq_getElem_cons (by omega)
  rw [h0, List.take_succ_cons, List.take_zero] at h
  have hi : l.toArray[k]? = some l[k] := by simp
  unfold wpE eOp
  rw [if_pos hE]
  unfold wpOp
  rw [hi]
  unfold wpList at h
  simp only
  split
  · rename_i hw
    rw [if_pos hw] at h
    rcases h with h | ⟨h, h3⟩
    · exact .inl (Oper.wp_mono (fun _ _ h => h) (upon_mid h))
    · exact .inr ⟨h, h3⟩
  · rename_i hw
    rw [if_neg hw] at h
    exact h
theorem wpE_nil {k : Nat} {a : Act} {w : World} (h : Q .normal a w) : wpE P ops E S (NoPanic Q) 0 k a w := h
end

end Go.Proofs.Ytngdolmmaiogiaa
