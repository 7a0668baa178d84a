import Derived.Test.YthcjjekkjbidlaaDoorZPSrChanged
import Derived.Test.YthcjjekkjbidlaaDoorZPSrNew
set_option linter.unusedSimpArgs false
set_option linter.unusedVariables false
/-
  The contract of the statements' awake: a file entered, then written.
-/
namespace Go.Proofs.YthcjjekkjbidlaaDoor.Sr
open Go.RowKit Go.Maps Go.WideMaps Go.Proofs.YthcjjekkjbidlaaDoor.Rf Go.Proofs.YthcjjekkjbidlaaDoor.Nm Go.Proofs.YthcjjekkjbidlaaDoor.St

def p0 : List UInt8 := [47, 102]
def e0 : SE := ⟨p0, 1, 1, 2, 1, 1, List.replicate 32 0⟩
def r1 (p m : Nat) : TE := { rootE p m with tick := 1 }
def n1 (q : Nat) (m : Option Nat) (v : Value) : TE := ⟨[[102]], 2, 1, asFile zeroA, [97], q, m, v⟩
def n2 (q : Nat) (m : Option Nat) (v : Value) : TE := ⟨[[102]], 2, 2, asFile zeroA, [98], q, m, v⟩
def t1 (p m q : Nat) (mm : Option Nat) (v : Value) : Tr := ⟨[r1 p m, n1 q mm v], 1, 2, 0⟩
def t2 (p m q : Nat) (mm : Option Nat) (v : Value) : Tr := ⟨[r1 p m, n2 q mm v], 2, 2, 0⟩
end Go.Proofs.YthcjjekkjbidlaaDoor.Sr
