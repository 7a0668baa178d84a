/-
  A world for the witness of a row that lists the tables and the two errors: the settled one, with two blocks more for the errors' texts.
-/
import Derived.Test.YtofdhhemdoodaaaDoorNmTabs2
import Derived.ProofKit
namespace Go.Proofs.YtofdhhemdoodaaaDoor.Nm
open Go.Lib

def lay (cs : Array Value) : Obj → Obj
  | .cells _ t frozen => .cells cs t frozen
  | o => o
def firstCells : Array Value := ((List.range 256).map (fun c => Value.int .u8 (Lib.firstT c))).toArray
def acceptCells : Array Value := ((List.range 32).map (fun c => Value.int .u8 (if c % 2 = 0 then Lib.accLo (c / 2) else Lib.accHi (c / 2)))).toArray
def db32Z : List Int := [0, 1, 28, 2, 29, 14, 24, 3, 30, 22, 20, 15, 25, 17, 4, 8, 31, 27, 13, 23, 21, 19, 16, 7, 26, 12, 18, 6, 11, 5, 10, 9]
def powZ : List Int := (List.range 20).map fun i => ((10 ^ i : Nat) : Int)
def intsOf (k : IntKind) (l : List Int) : Array Value := (l.map fun z => Value.int k z).toArray
def rangeText : Array UInt8 := #[118, 97, 108, 117, 101, 32, 111, 117, 116, 32, 111, 102, 32, 114, 97, 110, 103, 101]
def wrongText : Array UInt8 := #[105, 110, 118, 97, 108, 105, 100, 32, 115, 121, 110, 116, 97, 120]
noncomputable def laidWorld (os : Os) : World :=
  let N := (World.settled Tryd.prog os).heap.size
  let w0 := World.holding Tryd.prog os ⟨#[.cells #[.string ⟨rangeText⟩] 111, .cells #[.string ⟨wrongText⟩] 111], #[], []⟩
  let put (h : Array Obj) (g : Nat) (cs : Array Value) : Array Obj := h.modify g (lay cs)
  let h0 := put (put w0.heap 4 firstCells) 5 acceptCells
  let h1 := put (put h0 6 (intsOf .u8 db32Z)) 7 (intsOf .u8 dbZ)
  let h2 := put h1 3 (intsOf .u64 powZ)
  let h3 := put (put h2 2 #[.iface 109 (.pointer (some ⟨N, 0, none⟩))]) 1 #[.iface 109 (.pointer (some ⟨N + 1, 0, none⟩))]
  { w0 with heap := h3 }
end Go.Proofs.YtofdhhemdoodaaaDoor.Nm
