/- The plain functions of the weak rules, on lists of integers; no program in sight. No condition. -/
import Derived.IntWalk
namespace Go.Proofs.Ytnjpngecgeofmaa.Wk

/-- what stands ahead of a sequence -/
def start (s : Int) : Int := if s = 2 then 2 else 1
def iso (c : Int) : Bool := c = 20 || c = 21 || c = 22 || c = 23
def strong (c : Int) : Int := if c = 1 then 1 else if c = 2 || c = 3 || c = 4 || c = 7 then 2 else 0

/-- one class by W1, behind 'ahead' -/
def one1 (ahead c : Int) : Int := if c = 9 then (if iso ahead then 14 else ahead) else c
def w1 : Int → List Int → List Int
  | _, [] => []
  | ahead, c :: r => one1 ahead c :: w1 (one1 ahead c) r

/-- W2: the last strong class, then the class -/
def st2 (s c : Int) : Int := if c = 1 || c = 2 || c = 3 then c else s
def one2 (s c : Int) : Int := if c = 4 && s = 3 then 7 else c
def w2 : Int → List Int → List Int
  | _, [] => []
  | s, c :: r => one2 s c :: w2 (st2 s c) r
def w3 (l : List Int) : List Int := l.map fun c => if c = 3 then 2 else c

/-- W4: the class between two others -/
def one4 (a c b : Int) : Int := if a = b && c = 5 && a = 4 then 4 else if a = b && c = 8 && (a = 4 || a = 7) then a else c
def w4b : Int → List Int → List Int
  | a, c :: b :: r => one4 a c b :: w4b (one4 a c b) (b :: r)
  | _, l => l
def w4 : List Int → List Int
  | [] => []
  | a :: r => a :: w4b a r

/-- W5: is the class behind a row of terminators EN? -/
def nextEN : List Int → Bool
  | [] => false
  | c :: r => if c = 6 then nextEN r else c = 4
/-- W5; the Bool: is the class ahead EN (ahead of the row, within one)? -/
def w5 : Bool → List Int → List Int
  | _, [] => []
  | l, c :: r => if c = 6 then (if l || nextEN r then 4 else 6) :: w5 l r else c :: w5 (c = 4) r
def lastEN (l : List Int) : Bool := l.getLast? = some 4

theorem nextEN_run (m : Nat) (r : List Int) : nextEN (List.replicate m 6 ++ r) = nextEN r := by
  induction m with
  | zero => rfl
  | succ m ih => simp [List.replicate_succ, nextEN, ih]
theorem w5_run (l : Bool) (m : Nat) (r : List Int) : w5 l (List.replicate m 6 ++ r) = List.replicate m (if l || nextEN r then 4 else 6) ++ w5 l r := by
  induction m with
  | zero => rfl
  | succ m ih => simp only [List.replicate_succ, List.cons_append, w5, if_true, ih, nextEN_run]
theorem w5_left (l l' : Bool) (r : List Int) (h : ∀ z rr, r = z :: rr → z ≠ 6) : w5 l r = w5 l' r := by
  cases r with
  | nil => rfl
  | cons z rr => simp [w5, h z rr rfl]

/-- W6, W7 -/
def st7 (s c : Int) : Int := if c = 1 || c = 2 then c else s
def one7 (s c : Int) : Int := if c = 5 || c = 6 || c = 8 then 14 else if c = 4 && s = 1 then 1 else c
def w7 : Int → List Int → List Int
  | _, [] => []
  | s, c :: r => one7 s c :: w7 (st7 s c) r

/-- all of them -/
def weak (s : Int) (l : List Int) : List Int := w7 (start s) (w5 false (w4 (w3 (w2 0 (w1 (start s) l)))))

end Go.Proofs.Ytnjpngecgeofmaa.Wk
