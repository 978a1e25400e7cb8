/- What a call leaves that hands back glyphs. No condition. -/
import Derived.Test.YtbjeflblhjfagaaBuf
namespace Go.Proofs.Ytbjeflblhjfagaa
open Go.RowKit

/-- What a call leaves that hands back glyphs. -/
def RetGls (w : World) (base : Nat) (gs : List Gl) (e : Ending) (w' : World) : Prop := ∃ A c, e = .returned (.slice A gs.length c) ∧ GRow w' base A gs.length c gs ∧ Below base w w'

end Go.Proofs.Ytbjeflblhjfagaa
