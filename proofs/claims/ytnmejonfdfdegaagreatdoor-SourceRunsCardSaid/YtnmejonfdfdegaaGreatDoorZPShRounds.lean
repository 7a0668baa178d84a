import Derived.Test.YtnmejonfdfdegaaGreatDoorZPRowKit
import Derived.Test.YtnmejonfdfdegaaGreatDoorZPSrSort
import Derived.Laws.Shifts
import Derived.Laws.Closers25b
import Derived.Laws.BitsAllLaws
import Derived.Test.YtnmejonfdfdegaaGreatDoorZPSrLook
import Derived.StillTailTactics
set_option linter.unusedSimpArgs false
set_option linter.unusedVariables false
namespace Go.Proofs.YtnmejonfdfdegaaGreatDoor.Sh
open Go.RowKit Rf Rd
abbrev wdV (x:Int):Value:= .int .u32 x
def V8.cells (v:V8):Array Value:= #[wdV v.a,wdV v.b,wdV v.c,wdV v.d,wdV v.e,wdV v.f,wdV v.g,wdV v.h]
def wc (L:List Int):Array Value:=(L.map wdV).toArray
def L1 (B:List UInt8) (i:Nat):List Int:=(List.range 64).map fun j=>num (((B.take i).drop (4*j)).take 4)
end Go.Proofs.YtnmejonfdfdegaaGreatDoor.Sh
