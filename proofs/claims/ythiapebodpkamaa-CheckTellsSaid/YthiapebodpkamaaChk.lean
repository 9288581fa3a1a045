/- Which programs may run: what check.Spots, Steps and Check make of a program, in plain Lean. -/
import Derived.Test.YthiapebodpkamaaRightLaw
namespace Go.Proofs.Ythiapebodpkamaa
structure GSpot where
  reached : Bool
  stack : List Int
  steps : Int
def varTy (c : GCode) (a : Int) : Int := match c.vars[a.toNat]? with | some v => v.ty | none => 0
def pinTy (k n : Int) : Int := (pinsOut k).getD n.toNat 0
/-- What an instruction takes from a stack, and puts. -/
def effB (c : GCode) (i : GIns) (s : List Int) : List Int × List Int :=
  if i.op = 1 then ([], [i.t]) else if i.op = 2 then ([], [varTy c i.a]) else if i.op = 3 then ([varTy c i.a], [])
  else if 4 ≤ i.op ∧ i.op ≤ 11 then ([i.t, i.t], [i.t]) else if i.op = 12 then ([i.t], [i.t]) else if i.op = 13 ∨ i.op = 14 then ([i.t, i.t], [1])
  else if i.op = 15 then ([i.a % 256], [i.t]) else if i.op = 16 then ([s.getLastD 0], [s.getLastD 0, s.getLastD 0]) else if i.op = 17 then ([s.getLastD 0], [])
  else if i.op = 19 then ([1], []) else if i.op = 20 then (pinsIn (c.blocks.getD i.a.toNat 0), []) else if i.op = 21 then ([], [pinTy (c.blocks.getD i.a.toNat 0) i.n]) else ([], [])
def jumpsB (i : GIns) : Bool := decide (i.op = 18) || decide (i.op = 19)
def staysB (i : GIns) : Bool := decide (i.op ≠ 18) && decide (i.op ≠ 22)
def spotAt (ss : List GSpot) (k : Nat) : GSpot := ss.getD k ⟨false, [], 0⟩
/-- May one go on at a place with this stack? -/
def goesOk (ss : List GSpot) (to : Nat) (st : List Int) : Bool := !(spotAt ss to).reached || decide ((spotAt ss to).stack = st)
def goesTo (ss : List GSpot) (to : Nat) (st : List Int) (n : Int) : List GSpot := ss.set to ⟨true, st, max (spotAt ss to).steps n⟩
def takesOk (s t : List Int) : Bool := decide (t.length ≤ s.length) && decide (s.drop (s.length - t.length) = t)
def nextB (s : List Int) (e : List Int × List Int) : List Int := s.take (s.length - e.1.length) ++ e.2
def oneIns (i : GIns) (s : GSpot) (at_ : Nat) (e : List Int × List Int) (ss : List GSpot) : List GSpot × Int :=
  if (jumpsB i && decide (i.a ≤ at_)) = true then (ss, 141)
  else if takesOk s.stack e.1 = false then (ss, 140)
  else if (decide (64 < (nextB s.stack e).length) || (decide (i.op = 22) && decide (0 < (nextB s.stack e).length))) = true then (ss, 140)
  else if (jumpsB i && !goesOk ss i.a.toNat (nextB s.stack e)) = true then (ss, 140)
  else
    let s1 := if jumpsB i = true then goesTo ss i.a.toNat (nextB s.stack e) (s.steps + 1) else ss
    if staysB i = true then (if goesOk s1 (at_ + 1) (nextB s.stack e) = true then (goesTo s1 (at_ + 1) (nextB s.stack e) (s.steps + 1), 0) else (s1, 140)) else (s1, 0)
def oneB (c : GCode) (ss : List GSpot) (at_ : Nat) : List GSpot × Int :=
  match c.ins[at_]? with
  | none => (ss, if 0 < (spotAt ss at_).stack.length then 140 else 0)
  | some i => oneIns i (spotAt ss at_) at_ (effB c i (spotAt ss at_).stack) ss
def stepAt (c : GCode) (ss : List GSpot) (at_ : Nat) : List GSpot × Int := if (spotAt ss at_).reached = true then oneB c ss at_ else (ss, 0)
def walkB (c : GCode) : Nat → Nat → List GSpot → List GSpot × Nat × Int
  | 0, _, ss => (ss, 0, 0)
  | f + 1, at_, ss => if (stepAt c ss at_).2 = 0 then walkB c f (at_ + 1) (stepAt c ss at_).1 else ([], at_, (stepAt c ss at_).2)
def start (n : Nat) : List GSpot := ⟨true, [], 0⟩ :: List.replicate n ⟨false, [], 0⟩
def spotsB (c : GCode) : List GSpot × Nat × Int := if rightB c = true then walkB c (c.ins.length + 1) 0 (start c.ins.length) else ([], 0, 130)
def spotCost (n : Nat) (j : Nat) (s : GSpot) : Int := if (s.reached && decide (j < n)) = true then s.steps + 1 else s.steps
def mostB (n : Nat) : Nat → List GSpot → Int → Int
  | _, [], m => m
  | j, s :: l, m => mostB n (j + 1) l (max m (spotCost n j s))
def stepsB (c : GCode) : Int := if (spotsB c).2.2 = 0 then mostB c.ins.length 0 (spotsB c).1 0 else 0
def checkB (c : GCode) (budget : Int) : Int := if (spotsB c).2.2 = 0 then (if budget < stepsB c then 142 else 0) else (spotsB c).2.2
end Go.Proofs.Ythiapebodpkamaa

