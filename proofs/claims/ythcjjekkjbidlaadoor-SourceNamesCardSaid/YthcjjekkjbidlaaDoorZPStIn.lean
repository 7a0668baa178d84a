import Derived.Test.YthcjjekkjbidlaaDoorZPStReg
import Derived.Test.YthcjjekkjbidlaaDoorZPSrPlain
import Derived.Laws.Shifts
import Derived.Laws.Closers25b
import Derived.Lib.ConvBytes
import Derived.Laws.Bits64
import Derived.Laws.Bits64b
import Derived.Test.YthcjjekkjbidlaaDoorZPRowKit
import Derived.Lib.UnsafeStr
import Derived.Laws.BitsAllLaws
import Derived.Test.YthcjjekkjbidlaaDoorZPStRead
import Derived.Test.YthcjjekkjbidlaaDoorZPStRefAt
import Derived.Test.YthcjjekkjbidlaaDoorZPStDrop
set_option linter.unusedSimpArgs false
set_option linter.unusedVariables false
/-
  The law's in and want: an entry in plain words, as the program's and as the reference's.
-/
namespace Go.Proofs.YthcjjekkjbidlaaDoor.St
open Go.RowKit Go.Maps Go.WideMaps Go.Proofs.YthcjjekkjbidlaaDoor.Rf Go.Proofs.YthcjjekkjbidlaaDoor.Rd

/-- An entry in plain words. -/
structure It where
  path : List UInt8
  node : UInt8
  size : Int
  ino : Nat
  tick : Int
  kind : UInt8
  idt : List UInt8
instance : Inhabited It := ⟨⟨[], 0, 0, 0, 0, 0, []⟩⟩
/-- Its seven cells. -/
def It.cells (x : It) : List Value := [.string ⟨x.path.toArray⟩, .int .u8 (x.node.toNat : Int), .int .i64 x.size, .int .u64 (x.ino : Int), .int .i64 x.tick, .int .u8 (x.kind.toNat : Int), .string ⟨x.idt.toArray⟩]
end Go.Proofs.YthcjjekkjbidlaaDoor.St
