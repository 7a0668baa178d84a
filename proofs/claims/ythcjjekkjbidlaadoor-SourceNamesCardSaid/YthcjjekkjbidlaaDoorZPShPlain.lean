import Derived.Laws.Bits64b
import Derived.Laws.BitsLemmas
import Derived.Test.YthcjjekkjbidlaaDoorZPSrPlain
import Derived.Laws.Shifts
import Derived.Laws.Closers25b
import Derived.Laws.BitsAllLaws
import Derived.Test.YthcjjekkjbidlaaDoorZPShKit
import Derived.Test.YthcjjekkjbidlaaDoorZPStRead
import Derived.StillTailTactics
set_option linter.unusedSimpArgs false
set_option linter.unusedVariables false
/-
  SHA-256 in plain words: the words of a block, its rounds, the sum of bytes.
-/
namespace Go.Proofs.YthcjjekkjbidlaaDoor.Sh

/-- A word, turned right. -/
def rot (n : Nat) (x : Int) : Int := bits .or .u32 (x / 2 ^ n) (x * 2 ^ (32 - n) % 4294967296)
abbrev xor (a b : Int) : Int := bits .xor .u32 a b
abbrev and (a b : Int) : Int := bits .and .u32 a b
abbrev add (a b : Int) : Int := (a + b) % 4294967296
/-- Three turns, joined. -/
def tri (a b c : Nat) (x : Int) : Int := xor (xor (rot a x) (rot b x)) (rot c x)
def sg0 (x : Int) : Int := xor (xor (rot 7 x) (rot 18 x)) (x / 8)
def sg1 (y : Int) : Int := xor (xor (rot 17 y) (rot 19 y)) (y / 1024)
/-- The next word. -/
def nxt (W : List Int) (t : Nat) : Int := add (add (add (sg1 (W.getD (t - 2) 0)) (W.getD (t - 7) 0)) (sg0 (W.getD (t - 15) 0))) (W.getD (t - 16) 0)
/-- Words up to the t-th. -/
def sch (W : List Int) : Nat → List Int
  | 0 => W
  | k + 1 => sch W k ++ [nxt (sch W k) (16 + k)]
/-- Eight words. -/
structure V8 where
  (a b c d e f g h : Int)
deriving DecidableEq
def V8.list (v : V8) : List Int := [v.a, v.b, v.c, v.d, v.e, v.f, v.g, v.h]
def inv (x : Int) : Int := bits .xor .u32 IntKind.u32.max x
def t1 (v : V8) (k x : Int) : Int := (v.h + tri 6 11 25 v.e + xor (and v.e v.f) (and (inv v.e) v.g) + k + x) % 4294967296
def t2 (v : V8) : Int := add (tri 2 13 22 v.a) (xor (xor (and v.a v.b) (and v.a v.c)) (and v.b v.c))
/-- A round. -/
def rnd (v : V8) (k x : Int) : V8 := ⟨add (t1 v k x) (t2 v), v.a, v.b, v.c, add v.d (t1 v k x), v.e, v.f, v.g⟩
def rnds (K W : List Int) (v : V8) : Nat → V8
  | 0 => v
  | t + 1 => rnd (rnds K W v t) (K.getD t 0) (W.getD t 0)
def V8.add (u v : V8) : V8 := ⟨Sh.add u.a v.a, Sh.add u.b v.b, Sh.add u.c v.c, Sh.add u.d v.d, Sh.add u.e v.e, Sh.add u.f v.f, Sh.add u.g v.g, Sh.add u.h v.h⟩
/-- A number of some bytes. -/
def num (B : List UInt8) : Int := B.foldl (fun x b => x * 256 + (b.toNat : Int)) 0
/-- The j-th word of a block. -/
def wrd (B : List UInt8) (j : Nat) : Int := num ((B.drop (4 * j)).take 4)
def wrds (B : List UInt8) : List Int := (List.range 16).map (wrd B)
def K64 : List Int := [0x428a2f98, 0x71374491, 0xb5c0fbcf, 0xe9b5dba5, 0x3956c25b, 0x59f111f1, 0x923f82a4, 0xab1c5ed5,
  0xd807aa98, 0x12835b01, 0x243185be, 0x550c7dc3, 0x72be5d74, 0x80deb1fe, 0x9bdc06a7, 0xc19bf174,
  0xe49b69c1, 0xefbe4786, 0x0fc19dc6, 0x240ca1cc, 0x2de92c6f, 0x4a7484aa, 0x5cb0a9dc, 0x76f988da,
  0x983e5152, 0xa831c66d, 0xb00327c8, 0xbf597fc7, 0xc6e00bf3, 0xd5a79147, 0x06ca6351, 0x14292967,
  0x27b70a85, 0x2e1b2138, 0x4d2c6dfc, 0x53380d13, 0x650a7354, 0x766a0abb, 0x81c2c92e, 0x92722c85,
  0xa2bfe8a1, 0xa81a664b, 0xc24b8b70, 0xc76c51a3, 0xd192e819, 0xd6990624, 0xf40e3585, 0x106aa070,
  0x19a4c116, 0x1e376c08, 0x2748774c, 0x34b0bcb5, 0x391c0cb3, 0x4ed8aa4a, 0x5b9cca4f, 0x682e6ff3,
  0x748f82ee, 0x78a5636f, 0x84c87814, 0x8cc70208, 0x90befffa, 0xa4506ceb, 0xbef9a3f7, 0xc67178f2]
/-- What a block makes of the eight words. -/
def blk (h : V8) (B : List UInt8) : V8 := h.add (rnds K64 (sch (wrds B) 48) h 64)
/-- All whole blocks. -/
def run (h : V8) (L : List UInt8) : V8 := if _h : 64 ≤ L.length then run (blk h (L.take 64)) (L.drop 64) else h
termination_by L.length
decreasing_by rw [List.length_drop]; omega
def rest (L : List UInt8) : List UInt8 := L.drop (L.length / 64 * 64)
/-! ### bounds -/
def In (x : Int) : Prop := 0 ≤ x ∧ x < 4294967296
theorem In.wrap (n : Int) : In (IntKind.u32.wrap n) := by rw [IntKind.wrap_u32]; exact ⟨by omega, by omega⟩
theorem In.mod (n : Int) : In (n % 4294967296) := ⟨by omega, by omega⟩
theorem In.add (a b : Int) : In (add a b) := In.mod _
/-! ### the bits of a word -/
/-! ### blocks one behind the other -/
end Go.Proofs.YthcjjekkjbidlaaDoor.Sh
/-
  The contract of what a block makes of the eight words: the program's.
-/
namespace Go.Proofs.YthcjjekkjbidlaaDoor.Sh
open Go.RowKit Go.Proofs.YthcjjekkjbidlaaDoor.Rf Go.Proofs.YthcjjekkjbidlaaDoor.Rd

abbrev wdV (x : Int) : Value := .int .u32 x
def V8.cells (v : V8) : Array Value := #[wdV v.a, wdV v.b, wdV v.c, wdV v.d, wdV v.e, wdV v.f, wdV v.g, wdV v.h]
abbrev T8 : TypeId := 125
abbrev T64 : TypeId := 127
/-- A row of words as cells. -/
def wc (L : List Int) : Array Value := (L.map wdV).toArray
theorem wc_set (L : List Int) (j : Nat) (x : Int) : (wc L).setIfInBounds j (wdV x) = wc (L.set j x) := by
  simp [wc]

/-- The blocks under a block's rounds. -/
structure RSt (w : World) (kb a c d : Nat) (h z : V8) (W : List Int) (wr : World) : Prop where
  hh : wr.heap[a]? = some (.cells h.cells T8)
  hz : wr.heap[c]? = some (.cells z.cells T8)
  hw : wr.heap[d]? = some (.cells (wc W) T64)
  hk : wr.heap[kb]? = some (.cells (wc K64) T64)
  be : Below w.heap.size w wr
theorem RSt.drew {w : World} {kb a c d : Nat} {h z : V8} {W : List Int} {wr : World} (H : RSt w kb a c d h z W wr) : RSt w kb a c d h z W wr.drew := ⟨H.hh, H.hz, H.hw, H.hk, H.be.drew⟩
theorem RSt.drewN {w : World} {kb a c d : Nat} {h z : V8} {W : List Int} {wr : World} (H : RSt w kb a c d h z W wr) (n : Nat) : RSt w kb a c d h z W (wr.drewN n) :=
  ⟨by rw [World.heap_drewN]; exact H.hh, by rw [World.heap_drewN]; exact H.hz, by rw [World.heap_drewN]; exact H.hw, by rw [World.heap_drewN]; exact H.hk, H.be.trans ⟨rfl, rfl, rfl, Nat.le_of_eq (by rw [World.heap_drewN]), fun _ _ => by rw [World.heap_drewN]⟩⟩
theorem RSt.below {w : World} {kb a c d : Nat} {h z : V8} {W : List Int} {wr w' : World} (H : RSt w kb a c d h z W wr) (hb : Below wr.heap.size wr w') : RSt w kb a c d h z W w' :=
  ⟨(hb.block _ (lt_of_heap H.hh)).trans H.hh, (hb.block _ (lt_of_heap H.hz)).trans H.hz, (hb.block _ (lt_of_heap H.hw)).trans H.hw, (hb.block _ (lt_of_heap H.hk)).trans H.hk, H.be.trans (hb.mono H.be.size)⟩
/-- The blocks under the adding up. -/
structure ASt (w : World) (a c e : Nat) (L : List Int) (v z : V8) (wr : World) : Prop where
  hh : wr.heap[a]? = some (.cells (wc L) T8)
  hz : wr.heap[c]? = some (.cells z.cells T8)
  hv : wr.heap[e]? = some (.cells (wc v.list) T8)
  be : Below w.heap.size w wr
theorem ASt.set {w : World} {a c e : Nat} {L : List Int} {v z : V8} {wr : World} (H : ASt w a c e L v z wr) (hac : c ≠ a) (hae : e ≠ a) (hw : w.heap.size ≤ a) (j : Nat) (x : Int) : ASt w a c e (L.set j x) v z (wr.drew.setCell ⟨a, j, none⟩ (wdV x)) :=
  ⟨by rw [setCell_heap _ _ _ _ _ _ (show wr.drew.heap[a]? = _ from H.hh), wc_set], (Below.heap_setCell _ _ _ _ hac).trans H.hz, (Below.heap_setCell _ _ _ _ hae).trans H.hv, (H.be.drew).setCell hw _⟩
end Go.Proofs.YthcjjekkjbidlaaDoor.Sh
