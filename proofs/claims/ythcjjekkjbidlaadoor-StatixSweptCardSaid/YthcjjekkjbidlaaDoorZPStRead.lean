import Derived.Test.YthcjjekkjbidlaaDoorZPStDrop
import Derived.Laws.Bits64b
set_option linter.unusedSimpArgs false
set_option linter.unusedVariables false
/-
  The contracts of the reader at any bytes: short, Uint, Take, Text, End.
-/
namespace Go.Proofs.YthcjjekkjbidlaaDoor.Rd
open Go.RowKit Go.Maps Go.WideMaps Go.Proofs.YthcjjekkjbidlaaDoor.Rf

theorem ba_ext {A B : ByteArray} (h : A.data.toList = B.data.toList) : A = B := by
  cases A; cases B
  congr 1
  exact Array.toList_inj.1 h
theorem ba_data (l : List UInt8) : (⟨l.toArray⟩ : ByteArray).data.toList = l := by simp
theorem ba_mk (s : ByteArray) : (⟨s.data.toList.toArray⟩ : ByteArray) = s := ba_ext (by simp)
theorem one_size (w : World) (A : Obj) : (w.alloc A).heap.size = w.heap.size + 1 := by show (w.heap.push _).size = _; simp

end Go.Proofs.YthcjjekkjbidlaaDoor.Rd
/-
  The contracts of the reader at any bytes: Uint, Take, Text, End.
-/
namespace Go.Proofs.YthcjjekkjbidlaaDoor.Rd
open Go.RowKit Go.Maps Go.WideMaps Go.Proofs.YthcjjekkjbidlaaDoor.Rf

/-- What is left behind a short number. -/
def shR (L : List UInt8) : List UInt8 := match rd0 L with | some p => L.drop p.2 | none => L
def tkR (n : Nat) (L : List UInt8) : List UInt8 := if n ≤ L.length then L.drop n else L
/-- A text with its length ahead: the text and what is left. -/
def txt (most : Nat) (L : List UInt8) : Option (List UInt8 × List UInt8) :=
  match rd0 L with
  | none => none
  | some p => if p.1 ≤ most ∧ p.1 ≤ L.length - p.2 then some ((L.drop p.2).take p.1, (L.drop p.2).drop p.1) else none
def txR (most : Nat) (L : List UInt8) : List UInt8 := match txt most L with | some p => p.2 | none => L
end Go.Proofs.YthcjjekkjbidlaaDoor.Rd
