/-
  NARROWER THAN 'FOR EVERY INPUT', by the rows' own cells (each row's printed sentence says how): BracketsPairs: laid · BracketsNest: laid · BracketsResolve: laid · BracketsKeep: laid · BracketsQuiet: laid.
  DERIVED. THE GIVEN ROWS OF THIS SEAT. 5 by the template 'for every input the law returns true; each argument reads behind the call as it read before'; 0 by the template 'total and deterministic' (their statements: YtbpaogmnaodcaaaDoorTotals.lean).
  GIVEN WITH THE SEED: the statements are not yours to turn. If you find one false, say at which input.
  Laid BY PROGRAM, IN A SANDBOX (cutbox-rows.mjs): the forced cells as the released guide's own fill.sh prints them over the translation 79e8a6d20fccd9a1… (all of the seat's roots in one cut). By AI agents, Wed Nov 11 2026. No macro, syntax, notation, axiom, sorry.
-/
import Derived.Test.YtbpaogmnaodcaaaDoorChecked
import GoSem.Claim
import GoSem.ClaimJoined
import GoSem.ClaimMapViews
import Derived.JoinedTies
import Derived.KernelRfl
namespace Go.Proofs.YtbpaogmnaodcaaaDoor
/- THE CELL 'sum', in the pinned program and in every row, IS THE sha256 OF THE DUMP (.gsa) THAT YtbpaogmnaodcaaaDoorProg.lean LOADS. Nothing in Lean hashes anything: it is a label: what it is worth is what the hold of that sum in a sandbox is worth. -/
noncomputable def Tryd.pinned : Pinned := { name := "ytbpaogmnaodcaaadoor", sum := "79e8a6d20fccd9a12488b2e09c24743ea001875329a5bd4914f19a446918aed4", checked := Tryd.checked }
namespace Rows
def none {H : Type} : Left H := { results := [], args := [] }

/- WHAT THE LISTED PACKAGE-LEVEL VARIABLES READ AS WHEN THE CALL BEGINS. Each datum BY PROGRAM (the guide's laid-datum.mjs) off the statement by which the dump's own 'gosem.cut.vars' lays the variable. In a bare row this is a premise. The card (YtbpaogmnaodcaaaDoorCards.lean) ties it to the program's text. -/
def laid_typecase_props_lasts {H : Type} : DataW H := .agg [.lit (.int .i32 42), .lit (.int .i32 96), .lit (.int .i32 180), .lit (.int .i32 1023), .lit (.int .i32 1563), .lit (.int .i32 1644), .lit (.int .i32 1749), .lit (.int .i32 3654), .lit (.int .i32 8232), .lit (.int .i32 8383), .lit (.int .i32 12298), .lit (.int .i32 64335), .lit (.int .i32 917999)]

/-- 'typecaselaw09.BracketsPairs': WHATEVER THE INPUT: true; the input reads as it did. -/
def bracketsPairsSpec : ChangeSpec := { name := "bracketsPairs", fn := fun _ => fun
  | [d1, d2] => { results := [.lit (.bool true)], args := [d1, d2] }
  | _ => none }
def bracketsPairsRow : OpenClaim := { program := "ytbpaogmnaodcaaadoor", sum := "79e8a6d20fccd9a12488b2e09c24743ea001875329a5bd4914f19a446918aed4", func := "typecase/typecaselaw09.BracketsPairs", spec := "bracketsPairs", unfollowed := true, recurses := true, named := ["typecase/props.lasts"], apart := false, laid := [("typecase/props.lasts", laid_typecase_props_lasts)] }
def BracketsPairsSaid : Prop := bracketsPairsRow.holds Tryd.pinned (OpenSpec.ofChange bracketsPairsSpec)

/-- ITS FALSE NEIGHBOUR: 'it returns false'. Refute it at one input. -/
def bracketsPairsWrong : ChangeSpec := { name := "bracketsPairs", fn := fun _ => fun
  | [d1, d2] => { results := [.lit (.bool false)], args := [d1, d2] }
  | _ => none }
def BracketsPairsWrongFalsely : Prop := bracketsPairsRow.holds Tryd.pinned (OpenSpec.ofChange bracketsPairsWrong)

/-- 'typecaselaw09.BracketsNest': WHATEVER THE INPUT: true; the input reads as it did. -/
def bracketsNestSpec : ChangeSpec := { name := "bracketsNest", fn := fun _ => fun
  | [d1, d2] => { results := [.lit (.bool true)], args := [d1, d2] }
  | _ => none }
def bracketsNestRow : OpenClaim := { program := "ytbpaogmnaodcaaadoor", sum := "79e8a6d20fccd9a12488b2e09c24743ea001875329a5bd4914f19a446918aed4", func := "typecase/typecaselaw09.BracketsNest", spec := "bracketsNest", unfollowed := true, recurses := true, named := ["typecase/props.lasts"], apart := false, laid := [("typecase/props.lasts", laid_typecase_props_lasts)] }
def BracketsNestSaid : Prop := bracketsNestRow.holds Tryd.pinned (OpenSpec.ofChange bracketsNestSpec)

/-- ITS FALSE NEIGHBOUR: 'it returns false'. Refute it at one input. -/
def bracketsNestWrong : ChangeSpec := { name := "bracketsNest", fn := fun _ => fun
  | [d1, d2] => { results := [.lit (.bool false)], args := [d1, d2] }
  | _ => none }
def BracketsNestWrongFalsely : Prop := bracketsNestRow.holds Tryd.pinned (OpenSpec.ofChange bracketsNestWrong)

/-- 'typecaselaw09.BracketsResolve': WHATEVER THE INPUT: true; the input reads as it did. -/
def bracketsResolveSpec : ChangeSpec := { name := "bracketsResolve", fn := fun _ => fun
  | [d1, d2, d3] => { results := [.lit (.bool true)], args := [d1, d2, d3] }
  | _ => none }
def bracketsResolveRow : OpenClaim := { program := "ytbpaogmnaodcaaadoor", sum := "79e8a6d20fccd9a12488b2e09c24743ea001875329a5bd4914f19a446918aed4", func := "typecase/typecaselaw09.BracketsResolve", spec := "bracketsResolve", unfollowed := true, recurses := true, named := ["typecase/props.lasts"], apart := false, laid := [("typecase/props.lasts", laid_typecase_props_lasts)] }
def BracketsResolveSaid : Prop := bracketsResolveRow.holds Tryd.pinned (OpenSpec.ofChange bracketsResolveSpec)

/-- ITS FALSE NEIGHBOUR: 'it returns false'. Refute it at one input. -/
def bracketsResolveWrong : ChangeSpec := { name := "bracketsResolve", fn := fun _ => fun
  | [d1, d2, d3] => { results := [.lit (.bool false)], args := [d1, d2, d3] }
  | _ => none }
def BracketsResolveWrongFalsely : Prop := bracketsResolveRow.holds Tryd.pinned (OpenSpec.ofChange bracketsResolveWrong)

/-- 'typecaselaw09.BracketsKeep': WHATEVER THE INPUT: true; the input reads as it did. -/
def bracketsKeepSpec : ChangeSpec := { name := "bracketsKeep", fn := fun _ => fun
  | [d1, d2, d3] => { results := [.lit (.bool true)], args := [d1, d2, d3] }
  | _ => none }
def bracketsKeepRow : OpenClaim := { program := "ytbpaogmnaodcaaadoor", sum := "79e8a6d20fccd9a12488b2e09c24743ea001875329a5bd4914f19a446918aed4", func := "typecase/typecaselaw09.BracketsKeep", spec := "bracketsKeep", unfollowed := true, recurses := true, named := ["typecase/props.lasts"], apart := false, laid := [("typecase/props.lasts", laid_typecase_props_lasts)] }
def BracketsKeepSaid : Prop := bracketsKeepRow.holds Tryd.pinned (OpenSpec.ofChange bracketsKeepSpec)

/-- ITS FALSE NEIGHBOUR: 'it returns false'. Refute it at one input. -/
def bracketsKeepWrong : ChangeSpec := { name := "bracketsKeep", fn := fun _ => fun
  | [d1, d2, d3] => { results := [.lit (.bool false)], args := [d1, d2, d3] }
  | _ => none }
def BracketsKeepWrongFalsely : Prop := bracketsKeepRow.holds Tryd.pinned (OpenSpec.ofChange bracketsKeepWrong)

/-- 'typecaselaw09.BracketsQuiet': WHATEVER THE INPUT: true; the input reads as it did. -/
def bracketsQuietSpec : ChangeSpec := { name := "bracketsQuiet", fn := fun _ => fun
  | [d1, d2, d3] => { results := [.lit (.bool true)], args := [d1, d2, d3] }
  | _ => none }
def bracketsQuietRow : OpenClaim := { program := "ytbpaogmnaodcaaadoor", sum := "79e8a6d20fccd9a12488b2e09c24743ea001875329a5bd4914f19a446918aed4", func := "typecase/typecaselaw09.BracketsQuiet", spec := "bracketsQuiet", unfollowed := true, recurses := true, named := ["typecase/props.lasts"], apart := false, laid := [("typecase/props.lasts", laid_typecase_props_lasts)] }
def BracketsQuietSaid : Prop := bracketsQuietRow.holds Tryd.pinned (OpenSpec.ofChange bracketsQuietSpec)

/-- ITS FALSE NEIGHBOUR: 'it returns false'. Refute it at one input. -/
def bracketsQuietWrong : ChangeSpec := { name := "bracketsQuiet", fn := fun _ => fun
  | [d1, d2, d3] => { results := [.lit (.bool false)], args := [d1, d2, d3] }
  | _ => none }
def BracketsQuietWrongFalsely : Prop := bracketsQuietRow.holds Tryd.pinned (OpenSpec.ofChange bracketsQuietWrong)

/- THE SECOND FORM. 'bulk': how many values and letters a reading holds, each counted each time it is reached (what is shared counts as often as it is met; a slice's spare places count too). A statement '..UptoSaid' is the law's where the arguments, and the package variables that the reading takes, are together of bulk at most 1048576: NARROWER than '..Said'. Prove '..Said' where nothing that the law and all that it calls make is longer than what came in: it says more and counts as full. Else prove '..UptoSaid'. A law counts once. -/
mutual
def uptoBulk {H : Type} : DataW H → Nat
  | .lit (.string bytes) => bytes.length + 1
  | .lit _ => 1
  | .nil => 1
  | .ptr d => uptoBulk d + 1
  | .slice elems spare => uptoBulkAll elems + uptoBulkAll spare + 1
  | .agg parts => uptoBulkAll parts + 1
  | .iface _ d => uptoBulk d + 1
  | .map entries => uptoBulkEntries entries + 1
  | .held _ => 1
def uptoBulkAll {H : Type} : List (DataW H) → Nat
  | [] => 0
  | d :: r => uptoBulk d + uptoBulkAll r
def uptoBulkEntries {H : Type} : List (Lit × DataW H) → Nat
  | [] => 0
  | x :: r => uptoBulkEntry x + uptoBulkEntries r
def uptoBulkEntry {H : Type} : Lit × DataW H → Nat
  | (.string bytes, d) => bytes.length + uptoBulk d + 1
  | (_, d) => uptoBulk d + 1
 end
def uptoSmall : (H : Type) → List (DataW H) → Bool := fun _ ds => decide (uptoBulkAll ds ≤ 1048576)
def OpenSpec.upto (s : _root_.Go.ChangeSpec) : _root_.Go.OpenSpec := { _root_.Go.OpenSpec.ofChange s with cond := some uptoSmall }

/-- 'typecaselaw09.BracketsPairs', WHERE WHAT IT READS IS OF BULK AT MOST 1048576: true; the input reads as it did. -/
def bracketsPairsUptoRow : OpenClaim := { program := "ytbpaogmnaodcaaadoor", sum := "79e8a6d20fccd9a12488b2e09c24743ea001875329a5bd4914f19a446918aed4", func := "typecase/typecaselaw09.BracketsPairs", spec := "bracketsPairs", unfollowed := true, recurses := true, named := ["typecase/props.lasts"], apart := false, laid := [("typecase/props.lasts", laid_typecase_props_lasts)], narrowed := true }
def BracketsPairsUptoSaid : Prop := bracketsPairsUptoRow.holds Tryd.pinned (OpenSpec.upto bracketsPairsSpec)

/-- 'typecaselaw09.BracketsNest', WHERE WHAT IT READS IS OF BULK AT MOST 1048576: true; the input reads as it did. -/
def bracketsNestUptoRow : OpenClaim := { program := "ytbpaogmnaodcaaadoor", sum := "79e8a6d20fccd9a12488b2e09c24743ea001875329a5bd4914f19a446918aed4", func := "typecase/typecaselaw09.BracketsNest", spec := "bracketsNest", unfollowed := true, recurses := true, named := ["typecase/props.lasts"], apart := false, laid := [("typecase/props.lasts", laid_typecase_props_lasts)], narrowed := true }
def BracketsNestUptoSaid : Prop := bracketsNestUptoRow.holds Tryd.pinned (OpenSpec.upto bracketsNestSpec)

/-- 'typecaselaw09.BracketsResolve', WHERE WHAT IT READS IS OF BULK AT MOST 1048576: true; the input reads as it did. -/
def bracketsResolveUptoRow : OpenClaim := { program := "ytbpaogmnaodcaaadoor", sum := "79e8a6d20fccd9a12488b2e09c24743ea001875329a5bd4914f19a446918aed4", func := "typecase/typecaselaw09.BracketsResolve", spec := "bracketsResolve", unfollowed := true, recurses := true, named := ["typecase/props.lasts"], apart := false, laid := [("typecase/props.lasts", laid_typecase_props_lasts)], narrowed := true }
def BracketsResolveUptoSaid : Prop := bracketsResolveUptoRow.holds Tryd.pinned (OpenSpec.upto bracketsResolveSpec)

/-- 'typecaselaw09.BracketsKeep', WHERE WHAT IT READS IS OF BULK AT MOST 1048576: true; the input reads as it did. -/
def bracketsKeepUptoRow : OpenClaim := { program := "ytbpaogmnaodcaaadoor", sum := "79e8a6d20fccd9a12488b2e09c24743ea001875329a5bd4914f19a446918aed4", func := "typecase/typecaselaw09.BracketsKeep", spec := "bracketsKeep", unfollowed := true, recurses := true, named := ["typecase/props.lasts"], apart := false, laid := [("typecase/props.lasts", laid_typecase_props_lasts)], narrowed := true }
def BracketsKeepUptoSaid : Prop := bracketsKeepUptoRow.holds Tryd.pinned (OpenSpec.upto bracketsKeepSpec)

/-- 'typecaselaw09.BracketsQuiet', WHERE WHAT IT READS IS OF BULK AT MOST 1048576: true; the input reads as it did. -/
def bracketsQuietUptoRow : OpenClaim := { program := "ytbpaogmnaodcaaadoor", sum := "79e8a6d20fccd9a12488b2e09c24743ea001875329a5bd4914f19a446918aed4", func := "typecase/typecaselaw09.BracketsQuiet", spec := "bracketsQuiet", unfollowed := true, recurses := true, named := ["typecase/props.lasts"], apart := false, laid := [("typecase/props.lasts", laid_typecase_props_lasts)], narrowed := true }
def BracketsQuietUptoSaid : Prop := bracketsQuietUptoRow.holds Tryd.pinned (OpenSpec.upto bracketsQuietSpec)

end Rows
end Go.Proofs.YtbpaogmnaodcaaaDoor
