import Derived.Test.YthcjjekkjbidlaaDoorZPStRefAt
import Derived.Test.YthcjjekkjbidlaaDoorZPStDrop
import Derived.Maps.AppendAt
import Derived.Laws.OwnMore
import Derived.Test.YthcjjekkjbidlaaDoorZPSrAdd
import Derived.Test.YthcjjekkjbidlaaDoorZPSrIns
import Derived.Shelf.SlIter.Nil
import Derived.Shelf.SortM.Plain
import Derived.Shelf.SortM.SortNone
import Derived.RangeFuncStops
import Derived.Ground.GgzProg
import Derived.Ground.SlgmProg
import Derived.Test.YthcjjekkjbidlaaDoorProg
import Derived.Test.YthcjjekkjbidlaaDoorZPStRef
import Derived.Shelf.Lay
set_option linter.unusedSimpArgs false
set_option linter.unusedVariables false
/-
  Rows of entries put together: append of whatever holds entries, a row of none, a row of one; slices of a row.
-/
namespace Go.Proofs.YthcjjekkjbidlaaDoor.St
open Go.RowKit Go.Maps Go.WideMaps Go.Proofs.YthcjjekkjbidlaaDoor.Rf Go.Proofs.YthcjjekkjbidlaaDoor.Rd

/-- A slice value that holds cells. -/
def Holds (w : World) (x : Value) (m : Nat) (cs : List Value) : Prop :=
  (∃ a c, x = .slice (some a) m c ∧ ∀ j u, cs[j]? = some u → w.cell? (a.add j) = some u) ∨ (x = .slice none 0 0 ∧ m = 0 ∧ cs = [])

section
variable {P : Program}
end

theorem addr_block (a : Addr) (n : Nat) : (a.add n).block = a.block := by unfold Addr.add; split <;> rfl
theorem Holds.block {w w' : World} {x : Value} {m : Nat} {cs : List Value} (h : Holds w x m cs) (hb : ∀ a c, x = .slice (some a) m c → w'.heap[a.block]? = w.heap[a.block]?) : Holds w' x m cs := by
  rcases h with ⟨a, c, rfl, hc⟩ | h
  · exact .inl ⟨a, c, rfl, fun j u hj => (World.cell?_of_block (by rw [addr_block]; exact hb a c rfl)).trans (hc j u hj)⟩
  · exact .inr h
section
variable {P : Program} {o : Oper} {a : Act} {w : World} {K : Act → World → Prop} {Q : Exit → Act → World → Prop}
end
theorem Holds.grown {w w' : World} {x : Value} {m : Nat} {cs : List Value} {row : Option Nat} (h : Holds w x m cs) (hg : w.grownBy w' row) (hb : ∀ a c, x = .slice (some a) m c → a.block < w.heap.size ∧ some a.block ≠ row) : Holds w' x m cs :=
  h.block (fun a c e => hg.block _ (hb a c e).1 (hb a c e).2)
theorem Holds.below {w w' : World} {x : Value} {m : Nat} {cs : List Value} {n : Nat} (h : Holds w x m cs) (hg : Below n w w') (hb : ∀ a c, x = .slice (some a) m c → a.block < n) : Holds w' x m cs :=
  h.block (fun a c e => hg.block _ (hb a c e))
end Go.Proofs.YthcjjekkjbidlaaDoor.St
/-
  Rows of n cells an element: append, a row of one; the rows that a tree's Value is.
-/
namespace Go.Proofs.YthcjjekkjbidlaaDoor.Sr
open Go.RowKit Go.Maps Go.WideMaps Go.Proofs.YthcjjekkjbidlaaDoor.Rf Go.Proofs.YthcjjekkjbidlaaDoor.Nm Go.Proofs.YthcjjekkjbidlaaDoor.St

section
variable {P : Program}
end

/-- A node's path. -/
def pathN (n : PN) : List UInt8 := if pathOf n = [] then [47] else pathOf n
/-- The eleven cells of a row of Value. -/
def vcells (e : TE) (xv : Value) : List Value := .string ⟨(pathN e.nm).toArray⟩ :: (e.at_.cells xv ++ [.string ⟨e.data.toArray⟩, .int .u64 (e.ino : Int), .int .i64 e.tick])
def vrows (R : List (TE × Value)) : List Value := R.flatMap fun p => vcells p.1 p.2
abbrev VnT : TypeId := 70
end Go.Proofs.YthcjjekkjbidlaaDoor.Sr
