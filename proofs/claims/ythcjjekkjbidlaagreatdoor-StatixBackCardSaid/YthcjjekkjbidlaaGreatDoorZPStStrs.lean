import Derived.Test.YthcjjekkjbidlaaGreatDoorZPStReg
import Derived.Test.YthcjjekkjbidlaaGreatDoorZPStDrop
import Derived.Test.YthcjjekkjbidlaaGreatDoorZPStRead2
import Derived.Test.YthcjjekkjbidlaaGreatDoorZPStSet
import Derived.Stop.BytesEq
set_option linter.unusedSimpArgs false
set_option linter.unusedVariables false
/-
  A row of texts that is only read.
-/
namespace Go.Proofs.YthcjjekkjbidlaaGreatDoor.St
open Go.RowKit Go.Maps Go.WideMaps Go.Proofs.YthcjjekkjbidlaaGreatDoor.Rf Go.Proofs.YthcjjekkjbidlaaGreatDoor.Rd

/-- A slice that reads as texts. -/
def StrsAt (w : World) (v : Value) (ps : List (List UInt8)) : Prop :=
  ∃ a cap, v = .slice a ps.length cap ∧ ps.length ≤ maxLen ∧ (∀ p ∈ ps, p.length ≤ maxLen) ∧
    (ps ≠ [] → ∃ b o, a = some ⟨b, o, none⟩ ∧ b < w.heap.size ∧ ∀ (i : Nat) p, ps[i]? = some p → w.cell? ⟨b, o + i, none⟩ = some (.string ⟨p.toArray⟩))
theorem StrsAt.turn {X : List Nat} {w w' : World} {v : Value} {ps : List (List UInt8)} (h : StrsAt w v ps) (ht : Turn X w w') (hX : ∀ b ∈ X, ∀ o n cap, v ≠ .slice (some ⟨b, o, none⟩) n cap) : StrsAt w' v ps := by
  obtain ⟨a, cap, rfl, h1, h2, h3⟩ := h
  refine ⟨a, cap, rfl, h1, h2, fun hne => ?_⟩
  obtain ⟨b, o, rfl, hb, hc⟩ := h3 hne
  refine ⟨b, o, rfl, Nat.lt_of_lt_of_le hb ht.size, fun i p hp => ?_⟩
  rw [World.cell?_of_block (a := ⟨b, o + i, none⟩) (ht.block b hb (fun hm => hX b hm o _ cap rfl))]
  exact hc i p hp
theorem StrsAt.below {w w' : World} {v : Value} {ps : List (List UInt8)} (h : StrsAt w v ps) (hb : Below w.heap.size w w') : StrsAt w' v ps :=
  h.turn (X := []) (Turn.of_below hb) (fun b hb => by cases hb)
end Go.Proofs.YthcjjekkjbidlaaGreatDoor.St
/-
  An entry of the program's and the same one of the reference's are alike.
-/
namespace Go.Proofs.YthcjjekkjbidlaaGreatDoor.St
open Go.RowKit Go.Maps Go.WideMaps Go.Proofs.YthcjjekkjbidlaaGreatDoor.Rf Go.Proofs.YthcjjekkjbidlaaGreatDoor.Rd

theorem size8 (w : World) : (sizeOf 5).run Tryz.prog w = .ok 1 w := by kernel_rfl
theorem range_id {w : World} {x : Nat} {e : SE} {T : TypeId} (h : w.heap[x]? = some (.cells e.cells.toArray T)) : w.rangeAt x 6 (Lib.byteCells e.id) := fun j v hv => by
  rw [cell_of_heap h, List.getElem?_toArray, SE.cells, show 6 + j = j + 1 + 1 + 1 + 1 + 1 + 1 by omega]
  simp only [List.getElem?_cons_succ]
  exact hv
theorem info_id {l : List UInt8} (hl : l.length = 32) : (Tryz.prog.info? 42).map (·.size) = some (Lib.byteCells l).length := by rw [Lib.byteCells_length, hl]; kernel_rfl

end Go.Proofs.YthcjjekkjbidlaaGreatDoor.St
