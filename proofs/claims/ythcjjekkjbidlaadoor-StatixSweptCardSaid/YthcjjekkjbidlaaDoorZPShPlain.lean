import Derived.Laws.Bits64b
import Derived.Laws.BitsLemmas
import Derived.Test.YthcjjekkjbidlaaDoorZPRfKit
import Derived.Laws.Shifts
import Derived.Laws.Closers25b
import Derived.Laws.BitsAllLaws
set_option linter.unusedSimpArgs false
set_option linter.unusedVariables false
/-
  SHA-256 in plain words: the words of a block, its rounds, the sum of bytes.
-/
namespace Go.Proofs.YthcjjekkjbidlaaDoor.Sh

/-- A word, turned right. -/
def rot (n : Nat) (x : Int) : Int := bits .or .u32 (x / 2 ^ n) (x * 2 ^ (32 - n) % 4294967296)
abbrev xor (a b : Int) : Int := bits .xor .u32 a b
abbrev and (a b : Int) : Int := bits .and .u32 a b
abbrev add (a b : Int) : Int := (a + b) % 4294967296
/-- Three turns, joined. -/
def tri (a b c : Nat) (x : Int) : Int := xor (xor (rot a x) (rot b x)) (rot c x)
def sg0 (x : Int) : Int := xor (xor (rot 7 x) (rot 18 x)) (x / 8)
def sg1 (y : Int) : Int := xor (xor (rot 17 y) (rot 19 y)) (y / 1024)
/-- The next word. -/
def nxt (W : List Int) (t : Nat) : Int := add (add (add (sg1 (W.getD (t - 2) 0)) (W.getD (t - 7) 0)) (sg0 (W.getD (t - 15) 0))) (W.getD (t - 16) 0)
/-- Words up to the t-th. -/
def sch (W : List Int) : Nat → List Int
  | 0 => W
  | k + 1 => sch W k ++ [nxt (sch W k) (16 + k)]
/-- Eight words. -/
structure V8 where
  (a b c d e f g h : Int)
deriving DecidableEq
def V8.list (v : V8) : List Int := [v.a, v.b, v.c, v.d, v.e, v.f, v.g, v.h]
def inv (x : Int) : Int := bits .xor .u32 IntKind.u32.max x
def t1 (v : V8) (k x : Int) : Int := (v.h + tri 6 11 25 v.e + xor (and v.e v.f) (and (inv v.e) v.g) + k + x) % 4294967296
def t2 (v : V8) : Int := add (tri 2 13 22 v.a) (xor (xor (and v.a v.b) (and v.a v.c)) (and v.b v.c))
/-- A round. -/
def rnd (v : V8) (k x : Int) : V8 := ⟨add (t1 v k x) (t2 v), v.a, v.b, v.c, add v.d (t1 v k x), v.e, v.f, v.g⟩
def rnds (K W : List Int) (v : V8) : Nat → V8
  | 0 => v
  | t + 1 => rnd (rnds K W v t) (K.getD t 0) (W.getD t 0)
def V8.add (u v : V8) : V8 := ⟨Sh.add u.a v.a, Sh.add u.b v.b, Sh.add u.c v.c, Sh.add u.d v.d, Sh.add u.e v.e, Sh.add u.f v.f, Sh.add u.g v.g, Sh.add u.h v.h⟩
/-- A number of some bytes. -/
def num (B : List UInt8) : Int := B.foldl (fun x b => x * 256 + (b.toNat : Int)) 0
/-- The j-th word of a block. -/
def wrd (B : List UInt8) (j : Nat) : Int := num ((B.drop (4 * j)).take 4)
def wrds (B : List UInt8) : List Int := (List.range 16).map (wrd B)
def K64 : List Int := [0x428a2f98, 0x71374491, 0xb5c0fbcf, 0xe9b5dba5, 0x3956c25b, 0x59f111f1, 0x923f82a4, 0xab1c5ed5,
  0xd807aa98, 0x12835b01, 0x243185be, 0x550c7dc3, 0x72be5d74, 0x80deb1fe, 0x9bdc06a7, 0xc19bf174,
  0xe49b69c1, 0xefbe4786, 0x0fc19dc6, 0x240ca1cc, 0x2de92c6f, 0x4a7484aa, 0x5cb0a9dc, 0x76f988da,
  0x983e5152, 0xa831c66d, 0xb00327c8, 0xbf597fc7, 0xc6e00bf3, 0xd5a79147, 0x06ca6351, 0x14292967,
  0x27b70a85, 0x2e1b2138, 0x4d2c6dfc, 0x53380d13, 0x650a7354, 0x766a0abb, 0x81c2c92e, 0x92722c85,
  0xa2bfe8a1, 0xa81a664b, 0xc24b8b70, 0xc76c51a3, 0xd192e819, 0xd6990624, 0xf40e3585, 0x106aa070,
  0x19a4c116, 0x1e376c08, 0x2748774c, 0x34b0bcb5, 0x391c0cb3, 0x4ed8aa4a, 0x5b9cca4f, 0x682e6ff3,
  0x748f82ee, 0x78a5636f, 0x84c87814, 0x8cc70208, 0x90befffa, 0xa4506ceb, 0xbef9a3f7, 0xc67178f2]
def H0 : V8 := ⟨0x6a09e667, 0xbb67ae85, 0x3c6ef372, 0xa54ff53a, 0x510e527f, 0x9b05688c, 0x1f83d9ab, 0x5be0cd19⟩
/-- What a block makes of the eight words. -/
def blk (h : V8) (B : List UInt8) : V8 := h.add (rnds K64 (sch (wrds B) 48) h 64)
/-- All whole blocks. -/
def run (h : V8) (L : List UInt8) : V8 := if _h : 64 ≤ L.length then run (blk h (L.take 64)) (L.drop 64) else h
termination_by L.length
decreasing_by rw [List.length_drop]; omega
def rest (L : List UInt8) : List UInt8 := L.drop (L.length / 64 * 64)
def be8 (n : Nat) : List UInt8 := (List.range 8).map fun i => UInt8.ofNat (n / 256 ^ (7 - i))
def gap (n : Nat) : Nat := (119 - n % 64) % 64
/-- What stands behind the bytes. -/
def pad (n : Nat) : List UInt8 := 128 :: (List.replicate (gap n) 0 ++ be8 (8 * n))
def byteOf (v : V8) (i : Nat) : UInt8 := UInt8.ofNat ((v.list.getD (i / 4) 0 / 2 ^ (24 - 8 * (i % 4))).toNat)
def bytesOf (v : V8) : List UInt8 := (List.range 32).map (byteOf v)
/-- The sum of bytes. -/
def sum (s : List UInt8) : List UInt8 := bytesOf (run H0 (s ++ pad s.length))

/-! ### bounds -/
def In (x : Int) : Prop := 0 ≤ x ∧ x < 4294967296
theorem In.bits (op : BinOp) (a b : Int) : In (bits op .u32 a b) := by
  have h : ∀ n : Int, In (IntKind.u32.wrap n) := fun n => by rw [IntKind.wrap_u32]; exact ⟨by omega, by omega⟩
  exact h _
theorem In.wrap (n : Int) : In (IntKind.u32.wrap n) := by rw [IntKind.wrap_u32]; exact ⟨by omega, by omega⟩
theorem In.mod (n : Int) : In (n % 4294967296) := ⟨by omega, by omega⟩
theorem In.add (a b : Int) : In (add a b) := In.mod _
theorem In.xor (a b : Int) : In (xor a b) := In.bits _ _ _
theorem In.rot (n : Nat) (x : Int) : In (rot n x) := In.bits _ _ _
theorem In.sg0 (x : Int) : In (sg0 x) := In.xor _ _
theorem In.sg1 (x : Int) : In (sg1 x) := In.xor _ _
theorem In.nxt (W : List Int) (t : Nat) : In (nxt W t) := In.mod _
structure V8.In (v : V8) : Prop where
  (a : Sh.In v.a) (b : Sh.In v.b) (c : Sh.In v.c) (d : Sh.In v.d) (e : Sh.In v.e) (f : Sh.In v.f) (g : Sh.In v.g) (h : Sh.In v.h)
theorem add_in (u v : V8) : (u.add v).In := ⟨In.add _ _, In.add _ _, In.add _ _, In.add _ _, In.add _ _, In.add _ _, In.add _ _, In.add _ _⟩
theorem blk_in (h : V8) (B : List UInt8) : (blk h B).In := add_in _ _
theorem H0_in : H0.In := by constructor <;> exact ⟨by decide, by decide⟩
theorem sch_length (W : List Int) (k : Nat) : (sch W k).length = W.length + k := by
  induction k with
  | zero => rfl
  | succ k ih => rw [sch, List.length_append, ih]; rfl
theorem wrds_length (B : List UInt8) : (wrds B).length = 16 := by simp [wrds]

/-! ### the bits of a word -/
theorem wraps_u32 (n : Int) (h₀ : 0 ≤ n) (h₁ : n < 2 ^ 32) : IntKind.u32.wrap n = n := by rw [IntKind.wrap_u32]; omega
theorem or_join (i : Nat) (x y : Int) (hx0 : 0 ≤ x) (hxi : x % 2 ^ i = 0) (hx : x < 4294967296) (hy0 : 0 ≤ y) (hy : y < 2 ^ i) (hy1 : y < 4294967296) : bits .or .u32 x y = x + y :=
  bits_join .u32 32 (by decide) wraps_u32 i x y hx0 hxi hx hy0 hy hy1

/-! ### blocks one behind the other -/
theorem run_lt {h : V8} {L : List UInt8} (hl : L.length < 64) : run h L = h := by rw [run, dif_neg (by omega)]
theorem run_ge {h : V8} {L : List UInt8} (hl : 64 ≤ L.length) : run h L = run (blk h (L.take 64)) (L.drop 64) := by rw [run, dif_pos hl]
theorem sum_length (s : List UInt8) : (sum s).length = 32 := by simp [sum, bytesOf]
end Go.Proofs.YthcjjekkjbidlaaDoor.Sh
/-
  The contracts of a word's turns: the program's and the reference's.
-/
namespace Go.Proofs.YthcjjekkjbidlaaDoor.Sh
open Go.RowKit

set_option maxRecDepth 100000 in
theorem turn_any (w : World) (x : Int) (a : Nat) (h1 : 1 ≤ a) (h2 : a ≤ 31) :
    Calls Tryd.prog 83 #[.int .u32 x, .int .i64 (a : Int)] w fun e w' => e = .returned (.int .u32 (rot a x)) ∧ ∃ n, w' = w.drewN n := by
  have hb : (0 : Int) ≤ 32 - (a : Int) := by omega
  go_enter Tryd.func83, Tryd.ntmps83
  go_wp2
  go_quiet (fail)
  go_wp2
  go_ret
  exact ⟨rfl, nq, rfl⟩
theorem turn_lit (w : World) (x : Int) (n : Int) (a : Nat) (h : n = (a : Int)) (h1 : 1 ≤ a) (h2 : a ≤ 31) :
    Calls Tryd.prog 83 #[.int .u32 x, .int .i64 n] w fun e w' => e = .returned (.int .u32 (rot a x)) ∧ ∃ n, w' = w.drewN n := by
  subst h; exact turn_any w x a h1 h2
end Go.Proofs.YthcjjekkjbidlaaDoor.Sh
