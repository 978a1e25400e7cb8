/- The isolating run sequences, plain: the chain from a run over the isolates that match. No program in sight. No condition. -/
import Derived.Test.YtojcphfonbdlpaaSeqB
namespace Go.Proofs.Ytojcphfonbdlpaa.Sq
open Lv (removed)

/-- a sequence: its places, its level, its sides -/
structure Seq where
  ps : List Int
  lv : Int
  sos : Int
  eos : Int
deriving DecidableEq

def at0 (l : List Int) (p : Int) : Int := l.getD p.toNat 0
/-- the run that has a place -/
def find (rs : List (List Int)) (p : Int) : List Int := (rs.find? fun r => r.contains p).getD []
/-- does a sequence go on behind this run? -/
def goes (cs mt : List Int) (r : List Int) : Bool := ini (at0 cs (r.getLastD 0)) && at0 mt (r.getLastD 0) != -1
/-- the places of a run and of those that its isolates lead to, so many at most -/
def chain (cs mt : List Int) (rs : List (List Int)) : Nat → List Int → List Int
  | _, [] => []
  | 0, r => r
  | f + 1, r => r ++ if goes cs mt r = true then chain cs mt rs f (find rs (at0 mt (r.getLastD 0))) else []
def sosOf (cs ls : List Int) (base lv p : Int) : Int := side lv (near base (cs.take p.toNat).reverse (ls.take p.toNat).reverse)
def eosOf (cs ls : List Int) (base lv p : Int) : Int := side lv (if ini (at0 cs p) = true then base else near base (cs.drop (p.toNat + 1)) (ls.drop (p.toNat + 1)))
def one (cs ls mt : List Int) (rs : List (List Int)) (base : Int) (r : List Int) : Seq :=
  ⟨chain cs mt rs rs.length r, at0 ls (r.headD 0), sosOf cs ls base (at0 ls (r.headD 0)) ((chain cs mt rs rs.length r).headD 0), eosOf cs ls base (at0 ls (r.headD 0)) ((chain cs mt rs rs.length r).getLastD 0)⟩
/-- is a run led to by an isolate ahead of it? -/
def led (cs mt : List Int) (r : List Int) : Bool := at0 mt (r.headD 0) != -1 && at0 cs (r.headD 0) == 23
def ofRuns (cs ls mt : List Int) (rs : List (List Int)) (base : Int) (l : List (List Int)) : List Seq :=
  l.filterMap fun r => if led cs mt r = true then none else some (one cs ls mt rs base r)
def of (cs ls : List Int) (base : Int) : List Seq := ofRuns cs ls (Bd.mt cs) (runs cs ls) base (runs cs ls)

/-- the chapter's example -/
theorem of_alive : of [2, 20, 1, 23, 2] [1, 1, 2, 1, 1] 1 = [⟨[0, 1, 3, 4], 1, 2, 2⟩, ⟨[2], 2, 1, 1⟩] := by decide +kernel

/-! what the runs are: each is not empty, its places rise, the runs rise -/
def Rises : List Int → Prop
  | [] => True
  | [_] => True
  | a :: b :: r => a < b ∧ Rises (b :: r)

end Go.Proofs.Ytojcphfonbdlpaa.Sq
