import Derived.Test.YtkdkifciajfpnaaDoorZPStKit
import Derived.Test.YtkdkifciajfpnaaDoorZPStRefAt
set_option linter.unusedSimpArgs false
set_option linter.unusedVariables false
/-
  The law's in and want: an entry in plain words, as the program's and as the reference's.
-/
namespace Go.Proofs.YtkdkifciajfpnaaDoor.St
open Go.RowKit Go.Maps Go.WideMaps Go.Proofs.YtkdkifciajfpnaaDoor.Rf Go.Proofs.YtkdkifciajfpnaaDoor.Rd

/-- An entry in plain words. -/
structure It where
  path : List UInt8
  node : UInt8
  size : Int
  ino : Nat
  tick : Int
  kind : UInt8
  idt : List UInt8
instance : Inhabited It := ⟨⟨[], 0, 0, 0, 0, 0, []⟩⟩
structure It.Fits (x : It) : Prop where
  path : x.path.length ≤ 140737488355328
  size : -9223372036854775808 ≤ x.size ∧ x.size < 9223372036854775808
  ino : x.ino < 18446744073709551616
  tick : -9223372036854775808 ≤ x.tick ∧ x.tick < 9223372036854775808
  idt : x.idt.length ≤ 140737488355328
/-- Its seven cells. -/
def It.cells (x : It) : List Value := [.string ⟨x.path.toArray⟩, .int .u8 (x.node.toNat : Int), .int .i64 x.size, .int .u64 (x.ino : Int), .int .i64 x.tick, .int .u8 (x.kind.toNat : Int), .string ⟨x.idt.toArray⟩]
end Go.Proofs.YtkdkifciajfpnaaDoor.St
