/-
  DERIVED. GIVEN WITH THE SEED: THE CARDS: each row of YtbpaogmnaodcaaaDoorRows.lean that lists a variable, with what it lists TIED to the program's text (the seventh form; the later family's looks); each row that meets fmt, with fmt's text TOLD by the authors' own Lean function (tested against real Go, not proved from fmt's source: count such statements apart). THE CARD IS WHAT COUNTS. Prove the row's statement (the work); the ties are given (YtbpaogmnaodcaaaDoorTie.lean); close each card by the builder's one call (the guide's Derived/Test/ToyasCard.lean, 'card_holds'). Laid BY PROGRAM, IN A SANDBOX (cutbox-door.mjs). By AI agents, Wed Nov 11 2026. No macro, syntax, notation, axiom, sorry.
-/
import Derived.Test.YtbpaogmnaodcaaaDoorRows
import GoSem.ClaimSeven
namespace Go.Proofs.YtbpaogmnaodcaaaDoor
namespace Rows

/-- THE TIED CARD OF 'typecaselaw09.BracketsPairs'. -/
def bracketsPairsCard : Claim7 := { stood := { row := bracketsPairsRow, standIns := [], harness := (true, "305b452e67c9e07ccaf740e4f7aa2e4b7279d33638ebbe25c9eb4a3ba4d4b1fe"), looks := false }, kinds := [], alts := [], laidByText := true, laidKinds := [.data], laidTests := true, laidLooks := .later }
def BracketsPairsCardSaid : Prop := Claim7.holds Tryd.pinned (.plain (OpenSpec.ofChange bracketsPairsSpec)) bracketsPairsCard

/-- THE TIED CARD OF 'typecaselaw09.BracketsNest'. -/
def bracketsNestCard : Claim7 := { stood := { row := bracketsNestRow, standIns := [], harness := (true, "305b452e67c9e07ccaf740e4f7aa2e4b7279d33638ebbe25c9eb4a3ba4d4b1fe"), looks := false }, kinds := [], alts := [], laidByText := true, laidKinds := [.data], laidTests := true, laidLooks := .later }
def BracketsNestCardSaid : Prop := Claim7.holds Tryd.pinned (.plain (OpenSpec.ofChange bracketsNestSpec)) bracketsNestCard

/-- THE TIED CARD OF 'typecaselaw09.BracketsResolve'. -/
def bracketsResolveCard : Claim7 := { stood := { row := bracketsResolveRow, standIns := [], harness := (true, "305b452e67c9e07ccaf740e4f7aa2e4b7279d33638ebbe25c9eb4a3ba4d4b1fe"), looks := false }, kinds := [], alts := [], laidByText := true, laidKinds := [.data], laidTests := true, laidLooks := .later }
def BracketsResolveCardSaid : Prop := Claim7.holds Tryd.pinned (.plain (OpenSpec.ofChange bracketsResolveSpec)) bracketsResolveCard

/-- THE TIED CARD OF 'typecaselaw09.BracketsKeep'. -/
def bracketsKeepCard : Claim7 := { stood := { row := bracketsKeepRow, standIns := [], harness := (true, "305b452e67c9e07ccaf740e4f7aa2e4b7279d33638ebbe25c9eb4a3ba4d4b1fe"), looks := false }, kinds := [], alts := [], laidByText := true, laidKinds := [.data], laidTests := true, laidLooks := .later }
def BracketsKeepCardSaid : Prop := Claim7.holds Tryd.pinned (.plain (OpenSpec.ofChange bracketsKeepSpec)) bracketsKeepCard

/-- THE TIED CARD OF 'typecaselaw09.BracketsQuiet'. -/
def bracketsQuietCard : Claim7 := { stood := { row := bracketsQuietRow, standIns := [], harness := (true, "305b452e67c9e07ccaf740e4f7aa2e4b7279d33638ebbe25c9eb4a3ba4d4b1fe"), looks := false }, kinds := [], alts := [], laidByText := true, laidKinds := [.data], laidTests := true, laidLooks := .later }
def BracketsQuietCardSaid : Prop := Claim7.holds Tryd.pinned (.plain (OpenSpec.ofChange bracketsQuietSpec)) bracketsQuietCard

/-- THE SECOND FORM's CARD OF 'typecaselaw09.BracketsPairs'. -/
def bracketsPairsUptoCard : Claim7 := { stood := { row := bracketsPairsUptoRow, standIns := [], harness := (true, "305b452e67c9e07ccaf740e4f7aa2e4b7279d33638ebbe25c9eb4a3ba4d4b1fe"), looks := false }, kinds := [], alts := [], laidByText := true, laidKinds := [.data], laidTests := true, laidLooks := .later }
def BracketsPairsUptoCardSaid : Prop := Claim7.holds Tryd.pinned (.plain (OpenSpec.upto bracketsPairsSpec)) bracketsPairsUptoCard

/-- THE SECOND FORM's CARD OF 'typecaselaw09.BracketsNest'. -/
def bracketsNestUptoCard : Claim7 := { stood := { row := bracketsNestUptoRow, standIns := [], harness := (true, "305b452e67c9e07ccaf740e4f7aa2e4b7279d33638ebbe25c9eb4a3ba4d4b1fe"), looks := false }, kinds := [], alts := [], laidByText := true, laidKinds := [.data], laidTests := true, laidLooks := .later }
def BracketsNestUptoCardSaid : Prop := Claim7.holds Tryd.pinned (.plain (OpenSpec.upto bracketsNestSpec)) bracketsNestUptoCard

/-- THE SECOND FORM's CARD OF 'typecaselaw09.BracketsResolve'. -/
def bracketsResolveUptoCard : Claim7 := { stood := { row := bracketsResolveUptoRow, standIns := [], harness := (true, "305b452e67c9e07ccaf740e4f7aa2e4b7279d33638ebbe25c9eb4a3ba4d4b1fe"), looks := false }, kinds := [], alts := [], laidByText := true, laidKinds := [.data], laidTests := true, laidLooks := .later }
def BracketsResolveUptoCardSaid : Prop := Claim7.holds Tryd.pinned (.plain (OpenSpec.upto bracketsResolveSpec)) bracketsResolveUptoCard

/-- THE SECOND FORM's CARD OF 'typecaselaw09.BracketsKeep'. -/
def bracketsKeepUptoCard : Claim7 := { stood := { row := bracketsKeepUptoRow, standIns := [], harness := (true, "305b452e67c9e07ccaf740e4f7aa2e4b7279d33638ebbe25c9eb4a3ba4d4b1fe"), looks := false }, kinds := [], alts := [], laidByText := true, laidKinds := [.data], laidTests := true, laidLooks := .later }
def BracketsKeepUptoCardSaid : Prop := Claim7.holds Tryd.pinned (.plain (OpenSpec.upto bracketsKeepSpec)) bracketsKeepUptoCard

/-- THE SECOND FORM's CARD OF 'typecaselaw09.BracketsQuiet'. -/
def bracketsQuietUptoCard : Claim7 := { stood := { row := bracketsQuietUptoRow, standIns := [], harness := (true, "305b452e67c9e07ccaf740e4f7aa2e4b7279d33638ebbe25c9eb4a3ba4d4b1fe"), looks := false }, kinds := [], alts := [], laidByText := true, laidKinds := [.data], laidTests := true, laidLooks := .later }
def BracketsQuietUptoCardSaid : Prop := Claim7.holds Tryd.pinned (.plain (OpenSpec.upto bracketsQuietSpec)) bracketsQuietUptoCard
end Rows
end Go.Proofs.YtbpaogmnaodcaaaDoor
