/- What a call leaves that hands back two lists. No condition. -/
import Derived.Test.YtojcphfonbdlpaaWords
namespace Go.Proofs.Ytojcphfonbdlpaa
open Go.RowKit

/-- What a call leaves that hands back two lists of its own and turns nothing that was there. -/
def RetTwo (w : World) (n : Nat) (xs ys : List Int) (e : Ending) (w' : World) : Prop :=
  ∃ A c A2 c2, e = .returned (.tuple #[.slice A n c, .slice A2 n c2]) ∧ Own w' w.heap.size 3 A n c xs ∧ Own w' w.heap.size 3 A2 n c2 ys ∧ Below w.heap.size w w'

end Go.Proofs.Ytojcphfonbdlpaa
