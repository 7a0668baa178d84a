import Derived.Test.YtkdkifciajfpnaaDoorZPStRefAt
import Derived.Test.YtkdkifciajfpnaaDoorZPNmPaths
import Derived.Lib.Builder
import Derived.Lib.AppendStr
import Derived.Lib.UnsafeStr
import Derived.Laws.Externs
import Derived.Laws.BytesString
import Derived.Test.YtkdkifciajfpnaaDoorZPStKit
import Derived.Test.YtkdkifciajfpnaaDoorZPNmCodec
import Derived.Stop.BytesEq
import Derived.Test.YtkdkifciajfpnaaDoorZPSrLook
import Derived.Deep.CutRange
import Derived.Deep.DeepCutAuto
import Derived.Lib.FrozenHead
import Derived.Lib.ConvBytes
set_option linter.unusedSimpArgs false
set_option linter.unusedVariables false
/-
  A row of bytes that a text was turned into, and texts appended to it.
-/
namespace Go.Proofs.YtkdkifciajfpnaaDoor.St
open Go.RowKit Go.Maps Go.WideMaps Go.Proofs.YtkdkifciajfpnaaDoor.Rf Go.Proofs.YtkdkifciajfpnaaDoor.Rd

/-- A row of the call's own that holds these bytes; a mark may stand behind its last place. -/
def RowM (w : World) (B : Nat) (v : Value) (l : List UInt8) : Prop :=
  ∃ (g cap : Nat) (cur : Array Value) (fz : Nat × Nat), v = .slice (some ⟨g, 0, none⟩) l.length cap ∧ B ≤ g ∧ w.heap[g]? = some (.cells cur 5 fz) ∧ (fz.2 ≤ l.length ∨ cap ≤ fz.1) ∧ l.length ≤ cap ∧ cap ≤ maxLen ∧ cur.size = cap ∧ cur.toList.take l.length = Lib.byteCells l
theorem RowM.lt {w : World} {B : Nat} {v : Value} {l : List UInt8} (h : RowM w B v l) : ∀ x ∈ ob v, B ≤ x ∧ x < w.heap.size := by
  obtain ⟨g, cap, cur, fz, rfl, hB, hg, _⟩ := h
  intro x hx
  have : x = g := by simpa [ob, Value.ownBlock] using hx
  subst this
  exact ⟨hB, lt_of_heap' hg⟩
where lt_of_heap' {w : World} {q : Nat} {o : Obj} (h : w.heap[q]? = some o) : q < w.heap.size := (Array.getElem?_eq_some_iff.1 h).1
theorem RowM.kept {w w' : World} {B : Nat} {v : Value} {l : List UInt8} (h : RowM w B v l) (hb : ∀ x ∈ ob v, x < w.heap.size → w'.heap[x]? = w.heap[x]?) : RowM w' B v l := by
  have hl := h.lt
  obtain ⟨g, cap, cur, fz, rfl, hB, hg, rest⟩ := h
  exact ⟨g, cap, cur, fz, rfl, hB, (hb g (by simp [ob, Value.ownBlock]) (hl g (by simp [ob, Value.ownBlock])).2).trans hg, rest⟩
theorem RowM.below {w w' : World} {B : Nat} {v : Value} {l : List UInt8} (h : RowM w B v l) (hb : Below w.heap.size w w') : RowM w' B v l := h.kept (fun x _ hl => hb.block x hl)
theorem RowM.range {w : World} {B : Nat} {l : List UInt8} {g n cap : Nat} (h : RowM w B (.slice (some ⟨g, 0, none⟩) n cap) l) : w.rangeAt g 0 (Lib.byteCells l) := by
  obtain ⟨g', cap', cur, fz, hv, _, hg, _, _, _, _, ht⟩ := h
  injection hv with e1 _ _
  injection e1 with e1
  injection e1 with e1
  subst e1
  intro j v hv
  rw [Nat.zero_add]
  have hj : j < l.length := by have := (List.getElem?_eq_some_iff.1 hv).1; rwa [Lib.byteCells_length] at this
  rw [← ht, List.getElem?_take_of_lt hj, Array.getElem?_toList] at hv
  rw [World.cell?, hg]; simpa using hv
section
variable {w : World} {B : Nat}
end
end Go.Proofs.YtkdkifciajfpnaaDoor.St
/-
  Bytes of a row appended to a row of bytes.
-/
namespace Go.Proofs.YtkdkifciajfpnaaDoor.Sh
open Go.RowKit Go.Maps Go.WideMaps Go.Proofs.YtkdkifciajfpnaaDoor.Rf Go.Proofs.YtkdkifciajfpnaaDoor.Rd Go.Proofs.YtkdkifciajfpnaaDoor.St

section
variable {w : World} {B : Nat}
end
theorem RowM.slice {w : World} {B : Nat} {v : Value} {l : List UInt8} (h : RowM w B v l) : ∃ g cap, v = .slice (some ⟨g, 0, none⟩) l.length cap := by
  obtain ⟨g, cap, _, _, hv, _⟩ := h
  exact ⟨g, cap, hv⟩
end Go.Proofs.YtkdkifciajfpnaaDoor.Sh
