/- A region that draws its order, whose operations read below a block and whose callees make new memory only: one walk of the text's order serves every order. Over any program. No condition. -/
import Derived.WalkKit
import Derived.Deep.QuietTactic
import Derived.BigQuiet
import Derived.Lib.Hide
import Derived.Below
namespace Go.Proofs.Ytbjeflblhjfagaa
open Go.RowKit

/-- a world in which all below block B is as it was in w -/
structure Up (B : Nat) (w : World) where
  W : World
  h : Below B w W
instance {B : Nat} {w : World} : Nonempty (Up B w) := ⟨⟨w, Below.refl B w⟩⟩
theorem Up.cell {B : Nat} {w : World} (d : Up B w) {p : Addr} {v : Option Value} (hp : p.block < B) (h : w.cell? p = v) : d.W.cell? p = v := (d.h.cell hp).trans h
theorem Up.of_cell {w : World} (d : Up w.heap.size w) {p : Addr} {v : Value} (h : w.cell? p = some v) : d.W.cell? p = some v := (d.h.cell (World.block_lt_of_cell? w _ h)).trans h
/-- A region, walked once, over all worlds above. -/
theorem wp_region_up {P : Program} {id : Nat} {Q : Exit → Act → World → Prop} {a : Act} {w : World} {l : List Oper} (B : Nat) (hm : P.follows .mixedOrders = true) (hB : Region.lexB .any l.toArray = true)
    (h : wpQuiet P l.toArray (fun w' => ∃ d : Up B w, w' = d.W) (fun a' => ∀ w', (∃ d : Up B w, w' = d.W) → Q .normal a' w') l a) : (Code.region id l.toArray true).wp P Q a w :=
  wp_region_quiet (C := fun w' => ∃ d : Up B w, w' = d.W) hm hB ⟨⟨w.drew, (Below.refl B w).drew⟩, rfl⟩ (by simpa using h)
/-- a cell known in one world is known in all above -/
theorem up_fact {w : World} {p : Addr} {v : Value} (h : w.cell? p = some v) : ∀ W, Below w.heap.size w W → W.cell? p = some v := fun _ hb => (hb.cell (World.block_lt_of_cell? w _ h)).trans h
theorem bgo {w1 w w' : World} (h : Below w1.heap.size w1 w) (hb : Below w.heap.size w w') : Below w1.heap.size w1 w' := h.trans (hb.mono h.size)
theorem bup {w1 w : World} (h : Below w1.heap.size w1 w) : ∀ d : Up w.heap.size w, Below w1.heap.size w1 d.W := fun d => bgo h d.h
theorem wpList_of_quiet {P : Program} {ops : Array Oper} {C : World → Prop} {Q : Act → Prop} {Q' : Exit → Act → World → Prop} (hQ : ∀ a w, C w → Q a → Q' .normal a w) :
    ∀ (l : List Oper) (a : Act) (w : World), C w → wpQuiet P ops C Q l a → wpList P ops Q' l a w
  | [], _, _, hw, h => hQ _ _ hw h
  | o :: l, a, w, hw, h => wpList_step fun K hK => by
    unfold wpQuiet at h
    split
    · rename_i hg
      rw [if_pos hg] at h
      exact Oper.wp_of_quiet hw (fun a' w' hw' hk => hK _ _ (wpList_of_quiet hQ l a' w' hw' hk)) h
    · rename_i hg
      rw [if_neg hg] at h
      exact hK _ _ (wpList_of_quiet hQ l _ w hw h)
/-- The same of a region whose order is the text's. -/
theorem wp_region_upN {P : Program} {id : Nat} {Q : Exit → Act → World → Prop} {a : Act} {w : World} {l : List Oper} (B : Nat)
    (h : wpQuiet P l.toArray (fun w' => ∃ d : Up B w, w' = d.W) (fun a' => ∀ w', (∃ d : Up B w, w' = d.W) → Q .normal a' w') l a) : (Code.region id l.toArray false).wp P Q a w :=
  wp_region_lit (wpList_of_quiet (fun _ w' hw' h => h w' hw') l a w ⟨⟨w, Below.refl B w⟩, rfl⟩ h)
theorem up_all {B : Nat} {w : World} {p : World → Prop} (h : ∀ w2, Below B w w2 → p w2) : ∀ w', (∃ d : Up B w, w' = d.W) → p w' := fun _ ⟨d, e⟩ => by subst e; exact h _ d.h
/-- A callee's contract, met in a world above. -/
theorem Calls.up_of {P : Program} {f : FuncId} {args : Array Value} {B : Nat} {w : World} {d : Up B w} {v : Value} (hB : B ≤ w.heap.size)
    (h : Calls P f args d.W fun e w' => e = .returned v ∧ Below d.W.heap.size d.W w') : Calls P f args d.W fun e w'' => e = .returned v ∧ ∃ d' : Up B w, w'' = d'.W :=
  h.mono fun _ w' ⟨he, hb⟩ => ⟨he, ⟨w', d.h.trans (hb.mono (Nat.le_trans hB d.h.size))⟩, rfl⟩
theorem Calls.up_same {P : Program} {f : FuncId} {args : Array Value} {B : Nat} {w : World} {d : Up B w} {v : Value}
    (h : Calls P f args d.W fun e w' => e = .returned v ∧ d.W = w') : Calls P f args d.W fun e w'' => e = .returned v ∧ ∃ d' : Up B w, w'' = d'.W :=
  h.mono fun _ _ ⟨he, hb⟩ => ⟨he, d, hb.symm⟩

end Go.Proofs.Ytbjeflblhjfagaa
