import Derived.Test.YthcjjekkjbidlaaDoorZPShRef
import Derived.Test.YthcjjekkjbidlaaDoorZPShKit
import Derived.Test.YthcjjekkjbidlaaDoorZPShPlain
import Derived.Test.YthcjjekkjbidlaaDoorZPStRef
import Derived.Test.YthcjjekkjbidlaaDoorZPStAppend
import Derived.Test.YthcjjekkjbidlaaDoorProg
import Derived.Shelf.Lay
import Derived.Shelf.SlIter.Nil
import Derived.Shelf.SortM.Plain
import Derived.Shelf.SortM.SortNone
import Derived.RangeFuncStops
import Derived.Ground.GgzProg
import Derived.Ground.SlgmProg
import Derived.Test.YthcjjekkjbidlaaDoorZPSrPlain
import Derived.Lib.Builder
import Derived.Lib.AppendStr
import Derived.Lib.UnsafeStr
import Derived.Laws.Externs
import Derived.Laws.BytesString
import Derived.Test.YthcjjekkjbidlaaDoorZPStRefAt
import Derived.Test.YthcjjekkjbidlaaDoorZPStDrop
import Derived.Stop.BytesEq
import Derived.Test.YthcjjekkjbidlaaDoorZPStRead
import Derived.Test.YthcjjekkjbidlaaDoorZPStReg
import Derived.Test.YthcjjekkjbidlaaDoorZPStKit
import Derived.Deep.CutRange
import Derived.Deep.DeepCutAuto
import Derived.Test.YthcjjekkjbidlaaDoorZPShRow
import Derived.Deep.RegionHeld3
import Derived.Great.BuildSlice
import Derived.Deep.LoopGhost
import Derived.Deep.OwnRows
set_option linter.unusedSimpArgs false
set_option linter.unusedVariables false
/-
  The contracts of the sum's parts: the constants, a new sum, bytes that are written, the sum.
-/
namespace Go.Proofs.YthcjjekkjbidlaaDoor.Sh
open Go.RowKit Go.Maps Go.Proofs.YthcjjekkjbidlaaDoor.Rf Go.Proofs.YthcjjekkjbidlaaDoor.Rd Go.Proofs.YthcjjekkjbidlaaDoor.St

theorem wpList_build_is {P : Program} {ops : Array Oper} {rest : List Oper} {o : Oper} {a : Act} {w : World} {Q : Exit → Act → World → Prop} (hg : o.guard = none) (t : TypeId) (parts : Array (Nat × Operand)) (ho : o.op = .build t parts) (cs : Array Value)
    (hb : P.built t (parts.map fun (i, x) => (i, a.eval x)).toList = some cs) (h : wpList P ops Q rest (a.put o.dst (.agg cs)) w) : wpList P ops Q (o :: rest) a w :=
  wpList_build hg t parts ho (by rw [hb]; rfl) (by rw [hb]; exact h)
/-- A sum under way. -/
def stC (h : V8) (t : List UInt8) (n : Nat) : Array Value := #[wdV h.a, wdV h.b, wdV h.c, wdV h.d, wdV h.e, wdV h.f, wdV h.g, wdV h.h, .string ⟨t.toArray⟩, .int .u64 (n : Int)]
theorem oneSt (h : V8) (t : List UInt8) (n : Nat) : (stC h t n).all (·.oneCell') = true := by simp [stC, Value.oneCell']
end Go.Proofs.YthcjjekkjbidlaaDoor.Sh
