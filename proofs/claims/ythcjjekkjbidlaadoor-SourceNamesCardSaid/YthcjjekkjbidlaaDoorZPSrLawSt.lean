import Derived.Test.YthcjjekkjbidlaaDoorZPSrHonPlain
import Derived.Test.YthcjjekkjbidlaaDoorZPSrHapp
import Derived.Test.YthcjjekkjbidlaaDoorZPStReg
import Derived.Test.YthcjjekkjbidlaaDoorZPStKit
import Derived.Test.YthcjjekkjbidlaaDoorZPStRead
import Derived.Test.YthcjjekkjbidlaaDoorZPStRef
import Derived.Test.YthcjjekkjbidlaaDoorZPStIn
import Derived.Test.YthcjjekkjbidlaaDoorZPShSum
set_option linter.unusedSimpArgs false
set_option linter.unusedVariables false
/-
  How the law of StatixHonest keeps its things: the tree, the index, the bytes, the numbers.
-/
namespace Go.Proofs.YthcjjekkjbidlaaDoor.Sr
open Go.RowKit Go.Maps Go.WideMaps Go.Proofs.YthcjjekkjbidlaaDoor.Rf Go.Proofs.YthcjjekkjbidlaaDoor.Nm Go.Proofs.YthcjjekkjbidlaaDoor.St

def strD (l : List UInt8) : Value := .string ⟨l.toArray⟩
def nodK (x : Nat × Int) : Value := .agg (.string ⟨#[]⟩ :: (zeroA.cells (.slice none 0 0) ++ [.string ⟨#[]⟩, .int .u64 (x.1 : Int), .int .i64 x.2])).toArray
structure LawSt (B : Nat) (w : World) (r : Nat) (T : Tr) (g b : Nat) (X : List SE) (db : Nat) (D : MV (List UInt8)) (kb : Nat) (K : MV (Nat × Int)) : Prop where
  tree : TreeAt B w r T
  idx : IndexAt B w g b X
  dat : w.ownsMap Tryd.prog 9 Rv db 1000000 (toD strD D)
  kep : w.ownsMap Tryd.prog 9 Rv kb 1000000 (toD nodK K)
  off : ∀ x ∈ r :: (ownL T.L ++ xobL T.L), x ≠ g ∧ x ≠ b ∧ x ≠ db ∧ x ≠ kb
  ne : g ≠ db ∧ g ≠ kb ∧ b ≠ db ∧ b ≠ kb ∧ db ≠ kb
  base : B ≤ db ∧ B ≤ kb
section
variable {B : Nat} {w w' : World} {r : Nat} {T : Tr} {g b : Nat} {X : List SE} {db : Nat} {D : MV (List UInt8)} {kb : Nat} {K : MV (Nat × Int)}
theorem LawSt.size (h : LawSt B w r T g b X db D kb K) : B ≤ w.heap.size := Nat.le_trans h.idx.baseg (Nat.le_of_lt h.idx.lt_g)
theorem LawSt.below (h : LawSt B w r T g b X db D kb K) (hb : Below w.heap.size w w') : LawSt B w' r T g b X db D kb K :=
  ⟨h.tree.below hb, h.idx.below hb, ownsMap_block h.dat (hb.block _ h.dat.lt), ownsMap_block h.kep (hb.block _ h.kep.lt), h.off, h.ne, h.base⟩
end
end Go.Proofs.YthcjjekkjbidlaaDoor.Sr
/-
  The plain steps of StatixHonest's last part: all that is told is entered, and nothing is told any more; the argument as it lies.
-/
namespace Go.Proofs.YthcjjekkjbidlaaDoor.Sr
open Go.RowKit Go.Maps Go.WideMaps Go.Proofs.YthcjjekkjbidlaaDoor.Rf Go.Proofs.YthcjjekkjbidlaaDoor.Nm Go.Proofs.YthcjjekkjbidlaaDoor.St

/-! ### the argument -/
/-- A change, as it lies. -/
structure Chg where
  kind : Int
  path : List UInt8
  more : List UInt8
  tick : Nat
instance : Inhabited Chg := ⟨⟨0, [], [], 0⟩⟩
def Chg.cells (x : Chg) : List Value := [.int .i64 x.kind, .string ⟨x.path.toArray⟩, .string ⟨x.more.toArray⟩, .int .u32 (x.tick : Int)]
end Go.Proofs.YthcjjekkjbidlaaDoor.Sr
/-
  The plain law of StatixSwept: what is told when entries go.
-/
namespace Go.Proofs.YthcjjekkjbidlaaDoor.Sr
open Go.RowKit Go.Maps Go.WideMaps Go.Proofs.YthcjjekkjbidlaaDoor.Rf Go.Proofs.YthcjjekkjbidlaaDoor.Nm Go.Proofs.YthcjjekkjbidlaaDoor.St

/-! ### the last loop -/
/-- At file i: what is left of the told, what is left of the more. -/
structure SwAt (N : List TE) (c d : TE → Bool) (told more : List (List UInt8)) (i k q : Nat) : Prop where
  told : told.drop k = ((N.drop i).filter c).map fun x => pathN x.nm
  more : more.drop q = ((N.drop i).filter d).map fun x => pathN x.nm
theorem drop_head {α : Type} {l : List α} {k : Nat} {a : α} {r : List α} (h : l.drop k = a :: r) : l[k]? = some a ∧ l.drop (k + 1) = r ∧ k < l.length := by
  have hk : k < l.length := by
    rcases Nat.lt_or_ge k l.length with h1 | h1
    · exact h1
    · rw [List.drop_eq_nil_of_le h1] at h; cases h
  rw [List.drop_eq_getElem_cons hk] at h
  injection h with h1 h2
  exact ⟨by rw [List.getElem?_eq_getElem hk, h1], h2, hk⟩
section
variable {N : List TE} {c d : TE → Bool} {told more : List (List UInt8)} {i k q : Nat} {x : TE}
/-- A file that was not told, and is dropped. -/
theorem SwAt.drop (h : SwAt N c d told more i k q) (ht : told.drop k = ((N.drop (i + 1)).filter c).map fun x => pathN x.nm) (hx : N[i]? = some x) (hd : d x = true) : (more[q]? = some (pathN x.nm) ∧ q < more.length) ∧ SwAt N c d told more (i + 1) k (q + 1) := by
  have hi := (List.getElem?_eq_some_iff.1 hx).1
  have hdr : N.drop i = x :: N.drop (i + 1) := by rw [List.drop_eq_getElem_cons hi, (List.getElem?_eq_some_iff.1 hx).2]
  have h2 := h.more
  rw [hdr, List.filter_cons, if_pos hd, List.map_cons] at h2
  obtain ⟨b1, b2, b3⟩ := drop_head h2
  exact ⟨⟨b1, b3⟩, ⟨ht, b2⟩⟩
end
end Go.Proofs.YthcjjekkjbidlaaDoor.Sr
