import Derived.Test.YthcjjekkjbidlaaDoorZPStAll
import Derived.Test.YthcjjekkjbidlaaDoorZPShRounds
import Derived.Test.YthcjjekkjbidlaaDoorZPStRefAt
import Derived.Test.YthcjjekkjbidlaaDoorZPStStrs
import Derived.Stop.BytesEq
import Derived.Test.YthcjjekkjbidlaaDoorZPSrLook
import Derived.Deep.CutRange
import Derived.Deep.DeepCutAuto
set_option linter.unusedSimpArgs false
set_option linter.unusedVariables false
/-
  The contract of the program's Encode.
-/
namespace Go.Proofs.YthcjjekkjbidlaaDoor.St
open Go.RowKit Go.Maps Go.WideMaps Go.Proofs.YthcjjekkjbidlaaDoor.Rf Go.Proofs.YthcjjekkjbidlaaDoor.Rd

theorem conv_row {w : World} {g o c : Nat} (l : List UInt8) (h : w.rangeAt g o (Lib.byteCells l)) : (convert 38 9 (.slice (some ⟨g, o, none⟩) l.length c)).run Tryd.prog w = .ok (.string ⟨l.toArray⟩) w :=
  run_convert_bytes_back w _ _ 5 ⟨g, o, none⟩ c l Tryd.underlying38 Tryd.underlying5 Tryd.underlying9 (fun j hj => by
    rw [Addr.add_lit]
    exact h j _ (by rw [Lib.byteCells, List.getElem?_map, List.getElem?_eq_getElem hj]; rfl))
theorem conv_at {w : World} {x : Nat} {b : UInt8} (h : w.heap[x]? = some (.cells #[.int .u8 (b.toNat : Int)] 5)) : (convert 38 9 (.slice (some ⟨x, 0, none⟩) 1 1)).run Tryd.prog w = .ok (.string ⟨[b].toArray⟩) w :=
  conv_row [b] (range_block h)
end Go.Proofs.YthcjjekkjbidlaaDoor.St
/-
  The contracts of the reference's Put and PutText.
-/
namespace Go.Proofs.YthcjjekkjbidlaaDoor.St
open Go.RowKit Go.Maps Go.WideMaps Go.Proofs.YthcjjekkjbidlaaDoor.Rf Go.Proofs.YthcjjekkjbidlaaDoor.Rd

theorem conv_val {w : World} {x : Nat} {b : UInt8} {n : Int} (hn : n = (b.toNat : Int)) (h : w.heap[x]? = some (.cells #[.int .u8 n] 5)) : (convert 38 9 (.slice (some ⟨x, 0, none⟩) 1 1)).run Tryd.prog w = .ok (.string ⟨[b].toArray⟩) w := by
  subst hn; exact conv_at h

end Go.Proofs.YthcjjekkjbidlaaDoor.St
