/-
  No cell of these rows narrows 'for every input' (looked for: loops, veiled, ifaces, maps, wideKeys, modest, calm, conditions, laid).
  DERIVED. THE GIVEN ROWS OF THIS SEAT. 3 by the template 'for every input the law returns true; each argument reads behind the call as it read before'; 0 by the template 'total and deterministic' (their statements: YtbjeflblhjfagaaTotals.lean).
  GIVEN WITH THE SEED: the statements are not yours to turn. If you find one false, say at which input.
  Laid BY PROGRAM, IN A SANDBOX (cutbox-rows.mjs): the forced cells as the released guide's own fill.sh prints them over the translation 3dc73e9f146f172b… (all of the seat's roots in one cut). By AI agents, Wed Nov 11 2026. No macro, syntax, notation, axiom, sorry.
-/
import Derived.Test.YtbjeflblhjfagaaChecked
import GoSem.Claim
import GoSem.ClaimJoined
import GoSem.ClaimMapViews
import Derived.JoinedTies
import Derived.KernelRfl
namespace Go.Proofs.Ytbjeflblhjfagaa
/- THE CELL 'sum', in the pinned program and in every row, IS THE sha256 OF THE DUMP (.gsa) THAT YtbjeflblhjfagaaProg.lean LOADS. Nothing in Lean hashes anything: it is a label: what it is worth is what the hold of that sum in a sandbox is worth. -/
noncomputable def Try.pinned : Pinned := { name := "ytbjeflblhjfagaa", sum := "3dc73e9f146f172be14bb5f6a36581c63cceaf805c655626f6276c3184baf087", checked := Try.checked }
namespace Rows
def none {H : Type} : Left H := { results := [], args := [] }

/-- 'typecaselaw27.SingleTells': WHATEVER THE INPUT: true; the input reads as it did. -/
def singleTellsSpec : ChangeSpec := { name := "singleTells", fn := fun _ => fun
  | [d1, d2, d3] => { results := [.lit (.bool true)], args := [d1, d2, d3] }
  | _ => none }
def singleTellsRow : OpenClaim := { program := "ytbjeflblhjfagaa", sum := "3dc73e9f146f172be14bb5f6a36581c63cceaf805c655626f6276c3184baf087", func := "typecase/typecaselaw27.SingleTells", spec := "singleTells", inPlace := ["slices.overlaps[typecase/api.Glyph]"], recurses := true, apart := false }
def SingleTellsSaid : Prop := singleTellsRow.holds Try.pinned (OpenSpec.ofChange singleTellsSpec)

/-- ITS FALSE NEIGHBOUR: 'it returns false'. Refute it at one input. -/
def singleTellsWrong : ChangeSpec := { name := "singleTells", fn := fun _ => fun
  | [d1, d2, d3] => { results := [.lit (.bool false)], args := [d1, d2, d3] }
  | _ => none }
def SingleTellsWrongFalsely : Prop := singleTellsRow.holds Try.pinned (OpenSpec.ofChange singleTellsWrong)

/-- 'typecaselaw27.SingleDoes': WHATEVER THE INPUT: true; the input reads as it did. -/
def singleDoesSpec : ChangeSpec := { name := "singleDoes", fn := fun _ => fun
  | [d1, d2, d3] => { results := [.lit (.bool true)], args := [d1, d2, d3] }
  | _ => none }
def singleDoesRow : OpenClaim := { program := "ytbjeflblhjfagaa", sum := "3dc73e9f146f172be14bb5f6a36581c63cceaf805c655626f6276c3184baf087", func := "typecase/typecaselaw27.SingleDoes", spec := "singleDoes", inPlace := ["slices.overlaps[typecase/api.Glyph]"], recurses := true, apart := false }
def SingleDoesSaid : Prop := singleDoesRow.holds Try.pinned (OpenSpec.ofChange singleDoesSpec)

/-- ITS FALSE NEIGHBOUR: 'it returns false'. Refute it at one input. -/
def singleDoesWrong : ChangeSpec := { name := "singleDoes", fn := fun _ => fun
  | [d1, d2, d3] => { results := [.lit (.bool false)], args := [d1, d2, d3] }
  | _ => none }
def SingleDoesWrongFalsely : Prop := singleDoesRow.holds Try.pinned (OpenSpec.ofChange singleDoesWrong)

/-- 'typecaselaw27.SingleKeeps': WHATEVER THE INPUT: true; the input reads as it did. -/
def singleKeepsSpec : ChangeSpec := { name := "singleKeeps", fn := fun _ => fun
  | [d1, d2, d3] => { results := [.lit (.bool true)], args := [d1, d2, d3] }
  | _ => none }
def singleKeepsRow : OpenClaim := { program := "ytbjeflblhjfagaa", sum := "3dc73e9f146f172be14bb5f6a36581c63cceaf805c655626f6276c3184baf087", func := "typecase/typecaselaw27.SingleKeeps", spec := "singleKeeps", inPlace := ["slices.overlaps[typecase/api.Glyph]"], recurses := true, apart := false }
def SingleKeepsSaid : Prop := singleKeepsRow.holds Try.pinned (OpenSpec.ofChange singleKeepsSpec)

/-- ITS FALSE NEIGHBOUR: 'it returns false'. Refute it at one input. -/
def singleKeepsWrong : ChangeSpec := { name := "singleKeeps", fn := fun _ => fun
  | [d1, d2, d3] => { results := [.lit (.bool false)], args := [d1, d2, d3] }
  | _ => none }
def SingleKeepsWrongFalsely : Prop := singleKeepsRow.holds Try.pinned (OpenSpec.ofChange singleKeepsWrong)

/- THE SECOND FORM. 'bulk': how many values and letters a reading holds, each counted each time it is reached (what is shared counts as often as it is met; a slice's spare places count too). A statement '..UptoSaid' is the law's where the arguments, and the package variables that the reading takes, are together of bulk at most 1048576: NARROWER than '..Said'. Prove '..Said' where nothing that the law and all that it calls make is longer than what came in: it says more and counts as full. Else prove '..UptoSaid'. A law counts once. -/
mutual
def uptoBulk {H : Type} : DataW H → Nat
  | .lit (.string bytes) => bytes.length + 1
  | .lit _ => 1
  | .nil => 1
  | .ptr d => uptoBulk d + 1
  | .slice elems spare => uptoBulkAll elems + uptoBulkAll spare + 1
  | .agg parts => uptoBulkAll parts + 1
  | .iface _ d => uptoBulk d + 1
  | .map entries => uptoBulkEntries entries + 1
  | .held _ => 1
def uptoBulkAll {H : Type} : List (DataW H) → Nat
  | [] => 0
  | d :: r => uptoBulk d + uptoBulkAll r
def uptoBulkEntries {H : Type} : List (Lit × DataW H) → Nat
  | [] => 0
  | x :: r => uptoBulkEntry x + uptoBulkEntries r
def uptoBulkEntry {H : Type} : Lit × DataW H → Nat
  | (.string bytes, d) => bytes.length + uptoBulk d + 1
  | (_, d) => uptoBulk d + 1
 end
def uptoSmall : (H : Type) → List (DataW H) → Bool := fun _ ds => decide (uptoBulkAll ds ≤ 1048576)
def OpenSpec.upto (s : _root_.Go.ChangeSpec) : _root_.Go.OpenSpec := { _root_.Go.OpenSpec.ofChange s with cond := some uptoSmall }

/-- 'typecaselaw27.SingleTells', WHERE WHAT IT READS IS OF BULK AT MOST 1048576: true; the input reads as it did. -/
def singleTellsUptoRow : OpenClaim := { program := "ytbjeflblhjfagaa", sum := "3dc73e9f146f172be14bb5f6a36581c63cceaf805c655626f6276c3184baf087", func := "typecase/typecaselaw27.SingleTells", spec := "singleTells", inPlace := ["slices.overlaps[typecase/api.Glyph]"], recurses := true, apart := false, narrowed := true }
def SingleTellsUptoSaid : Prop := singleTellsUptoRow.holds Try.pinned (OpenSpec.upto singleTellsSpec)

/-- 'typecaselaw27.SingleDoes', WHERE WHAT IT READS IS OF BULK AT MOST 1048576: true; the input reads as it did. -/
def singleDoesUptoRow : OpenClaim := { program := "ytbjeflblhjfagaa", sum := "3dc73e9f146f172be14bb5f6a36581c63cceaf805c655626f6276c3184baf087", func := "typecase/typecaselaw27.SingleDoes", spec := "singleDoes", inPlace := ["slices.overlaps[typecase/api.Glyph]"], recurses := true, apart := false, narrowed := true }
def SingleDoesUptoSaid : Prop := singleDoesUptoRow.holds Try.pinned (OpenSpec.upto singleDoesSpec)

/-- 'typecaselaw27.SingleKeeps', WHERE WHAT IT READS IS OF BULK AT MOST 1048576: true; the input reads as it did. -/
def singleKeepsUptoRow : OpenClaim := { program := "ytbjeflblhjfagaa", sum := "3dc73e9f146f172be14bb5f6a36581c63cceaf805c655626f6276c3184baf087", func := "typecase/typecaselaw27.SingleKeeps", spec := "singleKeeps", inPlace := ["slices.overlaps[typecase/api.Glyph]"], recurses := true, apart := false, narrowed := true }
def SingleKeepsUptoSaid : Prop := singleKeepsUptoRow.holds Try.pinned (OpenSpec.upto singleKeepsSpec)

end Rows
end Go.Proofs.Ytbjeflblhjfagaa
