import Derived.Test.YthcjjekkjbidlaaDoorZPStSplit
import Derived.WalkSmall
set_option linter.unusedSimpArgs false
set_option linter.unusedVariables false
/-
  The contracts of the reference's Rune, runes, Check, Runes, Less.
-/
namespace Go.Proofs.YthcjjekkjbidlaaDoor.Nm
open Go.RowKit

/-- The tables of unicode/utf8 as their initialisers lay them. -/
abbrev Tabs (w : World) : Prop := Lib.Utf8Tabs 1 2 w

theorem Tabs.below {w w' : World} (h : Tabs w) (hb : Below w.heap.size w w') : Tabs w' := by
  obtain ⟨h1, h2⟩ := h
  have k1 := World.block_lt_of_cell? _ _ (h1 0 (by omega))
  have k2 := World.block_lt_of_cell? _ _ (h2 0 (by omega)).1
  refine ⟨fun c hc => ?_, fun i hi => ⟨?_, ?_⟩⟩
  · rw [hb.cell (p := ⟨1, c, none⟩) k1]; exact h1 c hc
  · rw [hb.cell (p := ⟨2, 2 * i, none⟩) k2]; exact (h2 i hi).1
  · rw [hb.cell (p := ⟨2, 2 * i + 1, none⟩) k2]; exact (h2 i hi).2

end Go.Proofs.YthcjjekkjbidlaaDoor.Nm
/-
  The contract of the reference's Split: it answers what the program's Split answers.
-/
namespace Go.Proofs.YthcjjekkjbidlaaDoor.Nm
open Go.RowKit

theorem infoStr : (Tryd.prog.info? 9).map (fun i => (i.zero, i.size, i.bytes)) = some (some (.string ByteArray.empty), 1, 16) := by kernel_rfl

end Go.Proofs.YthcjjekkjbidlaaDoor.Nm
