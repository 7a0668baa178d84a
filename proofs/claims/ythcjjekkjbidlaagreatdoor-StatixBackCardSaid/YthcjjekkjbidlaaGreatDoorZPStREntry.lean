import Derived.Test.YthcjjekkjbidlaaGreatDoorZPStAll
import Derived.Test.YthcjjekkjbidlaaGreatDoorZPStLen
import Derived.Test.YthcjjekkjbidlaaGreatDoorZPShSum
import Derived.Test.YthcjjekkjbidlaaGreatDoorZPStReg
set_option linter.unusedSimpArgs false
set_option linter.unusedVariables false
/-
  The contract of the reference's reading of an entry.
-/
namespace Go.Proofs.YthcjjekkjbidlaaGreatDoor.St
open Go.RowKit Go.Maps Go.WideMaps Go.Proofs.YthcjjekkjbidlaaGreatDoor.Rf Go.Proofs.YthcjjekkjbidlaaGreatDoor.Rd

abbrev EnT : TypeId := 49
structure ESt (w : World) (q a g : Nat) (Rr : List UInt8) (e : SE) (wr : World) : Prop where
  hq : wr.heap[g]? = some (.cells e.cells.toArray EnT)
  hr : RReaderAt wr q Rr
  ha : wr.heap[a]? = some (.cells zeroS.cells.toArray EnT)
  ht : Turn [q] w wr
theorem id_set (p : List UInt8) (n : Nat) (s : Int) (i : Nat) (t : Int) (k : Nat) (L : List UInt8) (j : Nat) (b : UInt8) :
    (SE.cells ⟨p, n, s, i, t, k, L⟩).toArray.setIfInBounds (6 + j) (.int .u8 (b.toNat : Int)) = (SE.cells ⟨p, n, s, i, t, k, L.set j b⟩).toArray := by
  rw [List.setIfInBounds_toArray]
  congr 1
  rw [Nat.add_comm 6 j]
  simp only [SE.cells, Lib.byteCells, List.map_set]
  rfl
theorem ESt.set {w wr : World} {q a g : Nat} {Rr : List UInt8} {p : List UInt8} {n : Nat} {s : Int} {i : Nat} {t : Int} {k : Nat} {L : List UInt8} (h : ESt w q a g Rr ⟨p, n, s, i, t, k, L⟩ wr) (hq : q < g) (ha : a < g) (hg : w.heap.size ≤ g) (j : Nat) (b : UInt8) :
    ESt w q a g Rr ⟨p, n, s, i, t, k, L.set j b⟩ (wr.setCell ⟨g, 6 + j, none⟩ (.int .u8 (b.toNat : Int))) := by
  refine ⟨?_, ?_, ?_, h.ht.setCell (.inr hg) _⟩
  · rw [setCell_heap _ _ _ _ _ _ h.hq, id_set]
  · exact (Below.heap_setCell _ _ _ _ (show q ≠ g by omega)).trans h.hr
  · exact (Below.heap_setCell _ _ _ _ (show a ≠ g by omega)).trans h.ha
end Go.Proofs.YthcjjekkjbidlaaGreatDoor.St
