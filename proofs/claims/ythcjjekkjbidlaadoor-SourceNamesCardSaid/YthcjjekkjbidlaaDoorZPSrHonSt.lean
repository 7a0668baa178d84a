import Derived.Test.YthcjjekkjbidlaaDoorZPSrLawSt
import Derived.Test.YthcjjekkjbidlaaDoorZPStIn
import Derived.Test.YthcjjekkjbidlaaDoorZPStReg
import Derived.Test.YthcjjekkjbidlaaDoorZPStKit
import Derived.Test.YthcjjekkjbidlaaDoorZPStRead
import Derived.Test.YthcjjekkjbidlaaDoorZPStRef
import Derived.Test.YthcjjekkjbidlaaDoorZPStRefAt
import Derived.Test.YthcjjekkjbidlaaDoorZPStDrop
import Derived.Stop.BytesEq
import Derived.Test.YthcjjekkjbidlaaDoorZPSrValue
import Derived.Test.YthcjjekkjbidlaaDoorZPSrNew
set_option linter.unusedSimpArgs false
set_option linter.unusedVariables false
/-
  All that the law of StatixHonest carries from round to round.
-/
namespace Go.Proofs.YthcjjekkjbidlaaDoor.Sr
open Go.RowKit Go.Maps Go.WideMaps Go.Proofs.YthcjjekkjbidlaaDoor.Rf Go.Proofs.YthcjjekkjbidlaaDoor.Nm Go.Proofs.YthcjjekkjbidlaaDoor.St

structure HonSt (B : Nat) (w : World) (r : Nat) (T : Tr) (g b : Nat) (X : List SE) (db : Nat) (D : MV (List UInt8)) (kb : Nat) (K : MV (Nat × Int)) (k c : Nat) : Prop where
  st : LawSt B w r T g b X db D kb K
  good : Good k T
  rel : HonRel T X D K
  reads : T.reads ≤ c
  dl : D.length ≤ c
  kl : K.length ≤ c
  xl : X.length ≤ c
section
variable {B : Nat} {w w' : World} {r : Nat} {T : Tr} {g b : Nat} {X : List SE} {db : Nat} {D : MV (List UInt8)} {kb : Nat} {K : MV (Nat × Int)} {k c : Nat}
theorem HonSt.below (h : HonSt B w r T g b X db D kb K k c) (hb : Below w.heap.size w w') : HonSt B w' r T g b X db D kb K k c :=
  ⟨h.st.below hb, h.good, h.rel, h.reads, h.dl, h.kl, h.xl⟩
end
end Go.Proofs.YthcjjekkjbidlaaDoor.Sr
/-
  StatixBack: how its items, its two indexes and its map of last places lie.
-/
namespace Go.Proofs.YthcjjekkjbidlaaDoor.St
open Go.RowKit Go.Maps Go.WideMaps Go.Proofs.YthcjjekkjbidlaaDoor.Rf Go.Proofs.YthcjjekkjbidlaaDoor.Rd

def encI (n : Nat) : Value := .int .i64 (n : Int)
structure BkSt (w : World) (gx bx : Nat) (Lx : List SE) (gy ey : Nat) (Ly : List SE) (bm : Nat) (M : MV Nat) (W : World) : Prop where
  ix : IndexAt w.heap.size W gx bx Lx
  iy : IndexAt w.heap.size W gy ey Ly
  im : W.ownsMap Tryd.prog 9 Rv bm 1000000 (toD encI M)
  mb : w.heap.size ≤ bm
  sep : gx ≠ ey ∧ gx ≠ bm ∧ bx ≠ gy ∧ bx ≠ ey ∧ bx ≠ bm ∧ gy ≠ bm ∧ ey ≠ bm
  be : Below w.heap.size w W
section
variable {w : World} {gx bx : Nat} {Lx : List SE} {gy ey : Nat} {Ly : List SE} {bm : Nat} {M : MV Nat} {W W' : World}
theorem BkSt.below (h : BkSt w gx bx Lx gy ey Ly bm M W) (hb : Below W.heap.size W W') : BkSt w gx bx Lx gy ey Ly bm M W' :=
  ⟨h.ix.below hb, h.iy.below hb, ownsMap_block h.im (hb.block _ h.im.lt), h.mb, h.sep, h.be.trans (hb.mono h.be.size)⟩
end
end Go.Proofs.YthcjjekkjbidlaaDoor.St
/-
  All that the law of StatixSwept carries from round to round.
-/
namespace Go.Proofs.YthcjjekkjbidlaaDoor.Sr
open Go.RowKit Go.Maps Go.WideMaps Go.Proofs.YthcjjekkjbidlaaDoor.Rf Go.Proofs.YthcjjekkjbidlaaDoor.Nm Go.Proofs.YthcjjekkjbidlaaDoor.St

structure SwSt (B : Nat) (w : World) (r : Nat) (T : Tr) (g b : Nat) (X : List SE) (db : Nat) (D : MV (List UInt8)) (kb : Nat) (K : MV (Nat × Int)) (k c : Nat) : Prop where
  st : LawSt B w r T g b X db D kb K
  good : Good k T
  reads : T.reads ≤ c
  dl : D.length ≤ c
  kl : K.length ≤ c
section
variable {B : Nat} {w w' : World} {r : Nat} {T : Tr} {g b : Nat} {X : List SE} {db : Nat} {D : MV (List UInt8)} {kb : Nat} {K : MV (Nat × Int)} {k c : Nat}
theorem SwSt.below (h : SwSt B w r T g b X db D kb K k c) (hb : Below w.heap.size w w') : SwSt B w' r T g b X db D kb K k c :=
  ⟨h.st.below hb, h.good, h.reads, h.dl, h.kl⟩
end
end Go.Proofs.YthcjjekkjbidlaaDoor.Sr
