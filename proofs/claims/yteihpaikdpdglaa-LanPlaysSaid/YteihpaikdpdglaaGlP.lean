/-
  What a line does, in plain words: its rows, and how many were lost.
-/
import Derived.Test.YteihpaikdpdglaaGlB
import Derived.Test.YteihpaikdpdglaaLanH
namespace Go.Proofs.Yteihpaikdpdglaa
open Go.RowKit
set_option linter.unusedVariables false

/-- All rows, and how many were lost. -/
abbrev LS := List FlA × Int
abbrev rowAt (S : LS) (k : Nat) : FlA := S.1.getD k []
def sendP (st : Nat) (most : Int) (a b : Int) (x : List Int) (S : LS) : Bool × LS :=
  match rix st a b with
  | none => (false, S)
  | some k => if ((rowAt S k).length : Int) < most then (true, (S.1.set k (rowAt S k ++ [(x, 0)]), S.2)) else (false, (S.1, S.2 + 1))
def passP (st : Nat) (a b : Int) (S : LS) : Option (List Int) × LS :=
  match rix st a b with
  | none => (none, S)
  | some k => match rowAt S k with
    | [] => (none, S)
    | p :: l => (some p.1, (S.1.set k l, S.2))
def dropP (st : Nat) (a b : Int) (S : LS) : Bool × LS :=
  match passP st a b S with
  | (none, _) => (false, S)
  | (some _, S') => (true, (S'.1, S'.2 + 1))
def twiceP (st : Nat) (most : Int) (a b : Int) (S : LS) : Bool × LS :=
  match rix st a b with
  | none => (false, S)
  | some k => match rowAt S k with
    | [] => (false, S)
    | p :: l => if ((p :: l).length : Int) < most then (true, (S.1.set k (p :: p :: l), S.2)) else (false, S)
def spoilP (st : Nat) (a b bit : Int) (S : LS) : Bool × LS :=
  match rix st a b with
  | none => (false, S)
  | some k => match rowAt S k with
    | [] => (false, S)
    | p :: l => if p.1.length = 0 then (false, S) else (true, (S.1.set k ((flipAt p.1 (kOf bit p.1.length), p.2) :: l), S.2))
def rowP (st : Nat) (a b : Int) (S : LS) : FlA :=
  match rix st a b with
  | none => []
  | some k => rowAt S k
end Go.Proofs.Yteihpaikdpdglaa
