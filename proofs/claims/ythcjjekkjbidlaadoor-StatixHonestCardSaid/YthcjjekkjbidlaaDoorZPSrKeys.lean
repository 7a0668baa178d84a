import Derived.Test.YthcjjekkjbidlaaDoorZPStRefAt
import Derived.Laws.Bits64b
import Derived.Laws.BitsLemmas
import Derived.Test.YthcjjekkjbidlaaDoorZPNmLike
import Derived.Laws.Shifts
import Derived.Laws.Closers25b
import Derived.Laws.BitsAllLaws
import Derived.Test.YthcjjekkjbidlaaDoorZPSrWrite
import Derived.Test.YthcjjekkjbidlaaDoorZPStPut
import Derived.StillTailTactics
import Derived.Lib.Builder
import Derived.Lib.AppendStr
import Derived.Lib.UnsafeStr
import Derived.Laws.Externs
import Derived.Laws.BytesString
import Derived.Test.YthcjjekkjbidlaaDoorZPStStrs
import Derived.Stop.BytesEq
import Derived.Test.YthcjjekkjbidlaaDoorZPStDecPlain
import Derived.Deep.CutRange
import Derived.Deep.DeepCutAuto
set_option linter.unusedSimpArgs false
set_option linter.unusedVariables false
/-
  The sorted names of a folder (and of a node that is none).
-/
namespace Go.Proofs.YthcjjekkjbidlaaDoor.Sr
open Go.RowKit Go.Maps Go.WideMaps Go.Proofs.YthcjjekkjbidlaaDoor.Rf Go.Proofs.YthcjjekkjbidlaaDoor.Nm Go.Proofs.YthcjjekkjbidlaaDoor.St

abbrev MkT : TypeId := 94
theorem kid_names {L : List TE} (hs : SrtT L) (n : PN) {ss : List (List UInt8)} (h : ss.Perm (strKeys (toD ptr (kidsT L n)))) : ss.mergeSort (fun x y => decide (x ≤ y)) = (kidsT L n).map (·.1) := by
  rw [strKeys_toD] at h
  rw [mergeSort_of_perm h]
  refine List.mergeSort_of_pairwise ?_
  rw [List.pairwise_map]
  refine (kidsT_srt hs n).imp (fun {a b} hab => ?_)
  rw [decide_eq_true_iff]
  exact List.le_of_lt (lt_iff.1 hab)
def KeysPost (W : World) (K : List (List UInt8)) (x : Ending) (w' : World) : Prop :=
  ∃ v, x = .returned v ∧ w'.ownsRow W.heap.size 9 1 v K.length (K.map sv) ∧ Below W.heap.size W w'
theorem kids_sorted {B : Nat} {w : World} {r : Nat} {T : Tr} (h : TreeAt B w r T) {e : TE} (he : e ∈ T.L) (hl : (kidsT T.L e.nm).length ≤ 1000000) :
    Calls Tryd.prog 58 #[.func (.func 73) #[] #[.pointer (some ⟨w.heap.size, 0, none⟩)]] (w.alloc (.cells #[mapV e.m] MkT)) (KeysPost (w.alloc (.cells #[mapV e.m] MkT)) ((kidsT T.L e.nm).map (·.1))) := by
  cases hm : e.m with
  | some b =>
    have SK := Tryd.sortedKeysT b 1000000 _ _ w ((h.node e he).kids b hm) (by rw [toD_size]; unfold maxLen; omega) (by rw [toD_size]; omega)
    refine SK.mono ?_
    rintro x w' ⟨v, ss, rfl, hp, ho, _, hb⟩
    have hk := kid_names h.srt e.nm hp
    have hlen : ss.length = (kidsT T.L e.nm).length := by
      have := congrArg List.length hk
      rw [List.length_mergeSort, List.length_map] at this; exact this
    rw [hk, hlen] at ho
    refine ⟨v, rfl, ?_, hb⟩
    rw [List.length_map]
    exact ho
  | none =>
    have hk : kidsT T.L e.nm = [] := by
      rw [List.eq_nil_iff_forall_not_mem]
      intro k hk
      obtain ⟨x, hx, h1, _⟩ := kidsT_mem.1 hk
      obtain ⟨u, hu, h2, h3⟩ := h.par x hx _ _ h1
      rw [srtT_inj h.srt hu he h2] at h3
      exact h3 hm
    rw [hk]
    refine (Tryd.sortedNilT w).mono ?_
    rintro x w' ⟨v, ss, rfl, rfl, ho, _, hb⟩
    rw [List.mergeSort_nil] at ho
    exact ⟨v, rfl, ho, hb⟩
end Go.Proofs.YthcjjekkjbidlaaDoor.Sr
/-
  SHA-256 in plain words: the words of a block, its rounds, the sum of bytes.
-/
namespace Go.Proofs.YthcjjekkjbidlaaDoor.Sh

/-- A word, turned right. -/
def rot (n : Nat) (x : Int) : Int := bits .or .u32 (x / 2 ^ n) (x * 2 ^ (32 - n) % 4294967296)
abbrev xor (a b : Int) : Int := bits .xor .u32 a b
abbrev and (a b : Int) : Int := bits .and .u32 a b
abbrev add (a b : Int) : Int := (a + b) % 4294967296
/-- Three turns, joined. -/
def tri (a b c : Nat) (x : Int) : Int := xor (xor (rot a x) (rot b x)) (rot c x)
def sg0 (x : Int) : Int := xor (xor (rot 7 x) (rot 18 x)) (x / 8)
def sg1 (y : Int) : Int := xor (xor (rot 17 y) (rot 19 y)) (y / 1024)
/-- The next word. -/
def nxt (W : List Int) (t : Nat) : Int := add (add (add (sg1 (W.getD (t - 2) 0)) (W.getD (t - 7) 0)) (sg0 (W.getD (t - 15) 0))) (W.getD (t - 16) 0)
/-- Words up to the t-th. -/
def sch (W : List Int) : Nat → List Int
  | 0 => W
  | k + 1 => sch W k ++ [nxt (sch W k) (16 + k)]
/-- Eight words. -/
structure V8 where
  (a b c d e f g h : Int)
deriving DecidableEq
def V8.list (v : V8) : List Int := [v.a, v.b, v.c, v.d, v.e, v.f, v.g, v.h]
def inv (x : Int) : Int := bits .xor .u32 IntKind.u32.max x
def t1 (v : V8) (k x : Int) : Int := (v.h + tri 6 11 25 v.e + xor (and v.e v.f) (and (inv v.e) v.g) + k + x) % 4294967296
def t2 (v : V8) : Int := add (tri 2 13 22 v.a) (xor (xor (and v.a v.b) (and v.a v.c)) (and v.b v.c))
/-- A round. -/
def rnd (v : V8) (k x : Int) : V8 := ⟨add (t1 v k x) (t2 v), v.a, v.b, v.c, add v.d (t1 v k x), v.e, v.f, v.g⟩
def rnds (K W : List Int) (v : V8) : Nat → V8
  | 0 => v
  | t + 1 => rnd (rnds K W v t) (K.getD t 0) (W.getD t 0)
def V8.add (u v : V8) : V8 := ⟨Sh.add u.a v.a, Sh.add u.b v.b, Sh.add u.c v.c, Sh.add u.d v.d, Sh.add u.e v.e, Sh.add u.f v.f, Sh.add u.g v.g, Sh.add u.h v.h⟩
/-- A number of some bytes. -/
def num (B : List UInt8) : Int := B.foldl (fun x b => x * 256 + (b.toNat : Int)) 0
/-- The j-th word of a block. -/
def wrd (B : List UInt8) (j : Nat) : Int := num ((B.drop (4 * j)).take 4)
def wrds (B : List UInt8) : List Int := (List.range 16).map (wrd B)
def K64 : List Int := [0x428a2f98, 0x71374491, 0xb5c0fbcf, 0xe9b5dba5, 0x3956c25b, 0x59f111f1, 0x923f82a4, 0xab1c5ed5,
  0xd807aa98, 0x12835b01, 0x243185be, 0x550c7dc3, 0x72be5d74, 0x80deb1fe, 0x9bdc06a7, 0xc19bf174,
  0xe49b69c1, 0xefbe4786, 0x0fc19dc6, 0x240ca1cc, 0x2de92c6f, 0x4a7484aa, 0x5cb0a9dc, 0x76f988da,
  0x983e5152, 0xa831c66d, 0xb00327c8, 0xbf597fc7, 0xc6e00bf3, 0xd5a79147, 0x06ca6351, 0x14292967,
  0x27b70a85, 0x2e1b2138, 0x4d2c6dfc, 0x53380d13, 0x650a7354, 0x766a0abb, 0x81c2c92e, 0x92722c85,
  0xa2bfe8a1, 0xa81a664b, 0xc24b8b70, 0xc76c51a3, 0xd192e819, 0xd6990624, 0xf40e3585, 0x106aa070,
  0x19a4c116, 0x1e376c08, 0x2748774c, 0x34b0bcb5, 0x391c0cb3, 0x4ed8aa4a, 0x5b9cca4f, 0x682e6ff3,
  0x748f82ee, 0x78a5636f, 0x84c87814, 0x8cc70208, 0x90befffa, 0xa4506ceb, 0xbef9a3f7, 0xc67178f2]
def H0 : V8 := ⟨0x6a09e667, 0xbb67ae85, 0x3c6ef372, 0xa54ff53a, 0x510e527f, 0x9b05688c, 0x1f83d9ab, 0x5be0cd19⟩
/-- What a block makes of the eight words. -/
def blk (h : V8) (B : List UInt8) : V8 := h.add (rnds K64 (sch (wrds B) 48) h 64)
/-- All whole blocks. -/
def run (h : V8) (L : List UInt8) : V8 := if _h : 64 ≤ L.length then run (blk h (L.take 64)) (L.drop 64) else h
termination_by L.length
decreasing_by rw [List.length_drop]; omega
def rest (L : List UInt8) : List UInt8 := L.drop (L.length / 64 * 64)
def be8 (n : Nat) : List UInt8 := (List.range 8).map fun i => UInt8.ofNat (n / 256 ^ (7 - i))
def gap (n : Nat) : Nat := (119 - n % 64) % 64
/-- What stands behind the bytes. -/
def pad (n : Nat) : List UInt8 := 128 :: (List.replicate (gap n) 0 ++ be8 (8 * n))
def byteOf (v : V8) (i : Nat) : UInt8 := UInt8.ofNat ((v.list.getD (i / 4) 0 / 2 ^ (24 - 8 * (i % 4))).toNat)
def bytesOf (v : V8) : List UInt8 := (List.range 32).map (byteOf v)
/-- The sum of bytes. -/
def sum (s : List UInt8) : List UInt8 := bytesOf (run H0 (s ++ pad s.length))

/-! ### bounds -/
def In (x : Int) : Prop := 0 ≤ x ∧ x < 4294967296
theorem In.bits (op : BinOp) (a b : Int) : In (bits op .u32 a b) := by
  have h : ∀ n : Int, In (IntKind.u32.wrap n) := fun n => by rw [IntKind.wrap_u32]; exact ⟨by omega, by omega⟩
  exact h _
theorem In.wrap (n : Int) : In (IntKind.u32.wrap n) := by rw [IntKind.wrap_u32]; exact ⟨by omega, by omega⟩
theorem In.mod (n : Int) : In (n % 4294967296) := ⟨by omega, by omega⟩
theorem In.add (a b : Int) : In (add a b) := In.mod _
theorem In.xor (a b : Int) : In (xor a b) := In.bits _ _ _
theorem In.rot (n : Nat) (x : Int) : In (rot n x) := In.bits _ _ _
theorem In.sg0 (x : Int) : In (sg0 x) := In.xor _ _
theorem In.sg1 (x : Int) : In (sg1 x) := In.xor _ _
theorem In.nxt (W : List Int) (t : Nat) : In (nxt W t) := In.mod _
structure V8.In (v : V8) : Prop where
  (a : Sh.In v.a) (b : Sh.In v.b) (c : Sh.In v.c) (d : Sh.In v.d) (e : Sh.In v.e) (f : Sh.In v.f) (g : Sh.In v.g) (h : Sh.In v.h)
theorem add_in (u v : V8) : (u.add v).In := ⟨In.add _ _, In.add _ _, In.add _ _, In.add _ _, In.add _ _, In.add _ _, In.add _ _, In.add _ _⟩
theorem blk_in (h : V8) (B : List UInt8) : (blk h B).In := add_in _ _
theorem H0_in : H0.In := by constructor <;> exact ⟨by decide, by decide⟩
theorem sch_length (W : List Int) (k : Nat) : (sch W k).length = W.length + k := by
  induction k with
  | zero => rfl
  | succ k ih => rw [sch, List.length_append, ih]; rfl
theorem wrds_length (B : List UInt8) : (wrds B).length = 16 := by simp [wrds]

/-! ### the bits of a word -/
theorem wraps_u32 (n : Int) (h₀ : 0 ≤ n) (h₁ : n < 2 ^ 32) : IntKind.u32.wrap n = n := by rw [IntKind.wrap_u32]; omega
theorem or_join (i : Nat) (x y : Int) (hx0 : 0 ≤ x) (hxi : x % 2 ^ i = 0) (hx : x < 4294967296) (hy0 : 0 ≤ y) (hy : y < 2 ^ i) (hy1 : y < 4294967296) : bits .or .u32 x y = x + y :=
  bits_join .u32 32 (by decide) wraps_u32 i x y hx0 hxi hx hy0 hy hy1

/-! ### blocks one behind the other -/
theorem run_lt {h : V8} {L : List UInt8} (hl : L.length < 64) : run h L = h := by rw [run, dif_neg (by omega)]
theorem run_ge {h : V8} {L : List UInt8} (hl : 64 ≤ L.length) : run h L = run (blk h (L.take 64)) (L.drop 64) := by rw [run, dif_pos hl]
theorem sum_length (s : List UInt8) : (sum s).length = 32 := by simp [sum, bytesOf]
end Go.Proofs.YthcjjekkjbidlaaDoor.Sh
/-
  The contracts of a word's turns: the program's and the reference's.
-/
namespace Go.Proofs.YthcjjekkjbidlaaDoor.Sh
open Go.RowKit

set_option maxRecDepth 100000 in
theorem turn_any (w : World) (x : Int) (a : Nat) (h1 : 1 ≤ a) (h2 : a ≤ 31) :
    Calls Tryd.prog 83 #[.int .u32 x, .int .i64 (a : Int)] w fun e w' => e = .returned (.int .u32 (rot a x)) ∧ ∃ n, w' = w.drewN n := by
  have hb : (0 : Int) ≤ 32 - (a : Int) := by omega
  go_enter Tryd.func83, Tryd.ntmps83
  go_wp2
  go_quiet (fail)
  go_wp2
  go_ret
  exact ⟨rfl, nq, rfl⟩
theorem turn_lit (w : World) (x : Int) (n : Int) (a : Nat) (h : n = (a : Int)) (h1 : 1 ≤ a) (h2 : a ≤ 31) :
    Calls Tryd.prog 83 #[.int .u32 x, .int .i64 n] w fun e w' => e = .returned (.int .u32 (rot a x)) ∧ ∃ n, w' = w.drewN n := by
  subst h; exact turn_any w x a h1 h2
end Go.Proofs.YthcjjekkjbidlaaDoor.Sh
/-
  The contract of what a block makes of the eight words: the program's.
-/
namespace Go.Proofs.YthcjjekkjbidlaaDoor.Sh
open Go.RowKit Go.Proofs.YthcjjekkjbidlaaDoor.Rf Go.Proofs.YthcjjekkjbidlaaDoor.Rd

abbrev wdV (x : Int) : Value := .int .u32 x
def V8.cells (v : V8) : Array Value := #[wdV v.a, wdV v.b, wdV v.c, wdV v.d, wdV v.e, wdV v.f, wdV v.g, wdV v.h]
abbrev T8 : TypeId := 125
abbrev T64 : TypeId := 127
/-- A row of words as cells. -/
def wc (L : List Int) : Array Value := (L.map wdV).toArray
theorem wc_size (L : List Int) : (wc L).size = L.length := by simp [wc]
theorem wc_get {L : List Int} {j : Nat} (h : j < L.length) : (wc L)[j]? = some (wdV (L.getD j 0)) := by
  simp [wc, List.getD_eq_getElem?_getD, h]
theorem wc_set (L : List Int) (j : Nat) (x : Int) : (wc L).setIfInBounds j (wdV x) = wc (L.set j x) := by
  simp [wc]

theorem add_left (A x : Int) : (A % 4294967296 + x) % 4294967296 = (A + x) % 4294967296 := by omega
theorem ext_getD {A C : List Int} {n : Nat} (hA : A.length = n) (hC : C.length = n) (h : ∀ j, j < n → A.getD j 0 = C.getD j 0) : A = C := by
  apply List.ext_getElem (by omega)
  intro j h1 h2
  have := h j (by omega)
  rwa [List.getD_eq_getElem?_getD, List.getD_eq_getElem?_getD, List.getElem?_eq_getElem h1, List.getElem?_eq_getElem h2] at this
theorem getD_set (A : List Int) (i : Nat) (x : Int) (j : Nat) (hi : i < A.length) : (A.set i x).getD j 0 = if i = j then x else A.getD j 0 := by
  rw [List.getD_eq_getElem?_getD, List.getElem?_set]
  split
  · next h => subst h; simp
  · rw [List.getD_eq_getElem?_getD]
theorem getD_rep (n : Nat) (j : Nat) : (List.replicate n (0 : Int)).getD j 0 = 0 := by
  rw [List.getD_eq_getElem?_getD, List.getElem?_replicate]
  split <;> rfl
/-- The words when k more were reckoned. -/
def L2 (B : List UInt8) (k : Nat) : List Int := sch (wrds B) k ++ List.replicate (48 - k) 0
theorem L2_length (B : List UInt8) (k : Nat) (h : k ≤ 48) : (L2 B k).length = 64 := by rw [L2, List.length_append, sch_length, wrds_length, List.length_replicate]; omega
theorem L2_get (B : List UInt8) (k j : Nat) (h : j < 16 + k) : (L2 B k).getD j 0 = (sch (wrds B) k).getD j 0 := by
  rw [L2, List.getD_eq_getElem?_getD, List.getElem?_append_left (by rw [sch_length, wrds_length]; exact h), ← List.getD_eq_getElem?_getD]
theorem L2_step (B : List UInt8) (k : Nat) (h : k < 48) : (L2 B k).set (16 + k) (nxt (L2 B k) (16 + k)) = L2 B (k + 1) := by
  have e : nxt (L2 B k) (16 + k) = nxt (sch (wrds B) k) (16 + k) := by
    unfold nxt
    rw [L2_get _ _ _ (by omega), L2_get _ _ _ (by omega), L2_get _ _ _ (by omega), L2_get _ _ _ (by omega)]
  rw [e]
  have e2 : List.replicate (48 - k) (0 : Int) = 0 :: List.replicate (48 - (k + 1)) 0 := by
    rw [show 48 - k = (48 - (k + 1)) + 1 by omega]; rfl
  rw [L2, L2, e2, sch, List.set_append_right _ _ (by rw [sch_length, wrds_length]; omega), sch_length, wrds_length, show 16 + k - (16 + k) = 0 by omega, List.append_assoc]
  rfl
theorem L2_end (B : List UInt8) : L2 B 48 = sch (wrds B) 48 := by simp [L2]

theorem info8 (v : V8) : (Tryd.prog.info? T8).map (·.size) = some v.cells.size := by kernel_rfl
theorem info64 {L : List Int} (h : L.length = 64) : (Tryd.prog.info? T64).map (·.size) = some (wc L).size := by rw [wc_size, h]; kernel_rfl
theorem one8 (v : V8) : v.cells.all (·.oneCell') = true := by simp [V8.cells, Value.oneCell']
/-- The blocks under a block's rounds. -/
structure RSt (w : World) (kb a c d : Nat) (h z : V8) (W : List Int) (wr : World) : Prop where
  hh : wr.heap[a]? = some (.cells h.cells T8)
  hz : wr.heap[c]? = some (.cells z.cells T8)
  hw : wr.heap[d]? = some (.cells (wc W) T64)
  hk : wr.heap[kb]? = some (.cells (wc K64) T64)
  be : Below w.heap.size w wr
theorem RSt.drew {w : World} {kb a c d : Nat} {h z : V8} {W : List Int} {wr : World} (H : RSt w kb a c d h z W wr) : RSt w kb a c d h z W wr.drew := ⟨H.hh, H.hz, H.hw, H.hk, H.be.drew⟩
theorem RSt.drewN {w : World} {kb a c d : Nat} {h z : V8} {W : List Int} {wr : World} (H : RSt w kb a c d h z W wr) (n : Nat) : RSt w kb a c d h z W (wr.drewN n) :=
  ⟨by rw [World.heap_drewN]; exact H.hh, by rw [World.heap_drewN]; exact H.hz, by rw [World.heap_drewN]; exact H.hw, by rw [World.heap_drewN]; exact H.hk, H.be.trans ⟨rfl, rfl, rfl, Nat.le_of_eq (by rw [World.heap_drewN]), fun _ _ => by rw [World.heap_drewN]⟩⟩
theorem RSt.below {w : World} {kb a c d : Nat} {h z : V8} {W : List Int} {wr w' : World} (H : RSt w kb a c d h z W wr) (hb : Below wr.heap.size wr w') : RSt w kb a c d h z W w' :=
  ⟨(hb.block _ (lt_of_heap H.hh)).trans H.hh, (hb.block _ (lt_of_heap H.hz)).trans H.hz, (hb.block _ (lt_of_heap H.hw)).trans H.hw, (hb.block _ (lt_of_heap H.hk)).trans H.hk, H.be.trans (hb.mono H.be.size)⟩
/-- The words when i of them were added. -/
def L3 (h v : V8) (i : Nat) : List Int := (List.range 8).map fun j => if j < i then add (h.list.getD j 0) (v.list.getD j 0) else h.list.getD j 0
theorem L3_length (h v : V8) (i : Nat) : (L3 h v i).length = 8 := by simp [L3]
theorem L3_get (h v : V8) (i j : Nat) (hj : j < 8) : (L3 h v i).getD j 0 = if j < i then add (h.list.getD j 0) (v.list.getD j 0) else h.list.getD j 0 := by
  simp [L3, hj]
theorem L3_zero (h v : V8) : L3 h v 0 = h.list := by
  refine ext_getD (n := 8) (L3_length _ _ _) rfl (fun j hj => ?_)
  rw [L3_get _ _ _ _ hj, if_neg (by omega)]
theorem L3_step (h v : V8) (i : Nat) (hi : i < 8) : (L3 h v i).set i (add (h.list.getD i 0) (v.list.getD i 0)) = L3 h v (i + 1) := by
  refine ext_getD (n := 8) (by rw [List.length_set, L3_length]) (L3_length _ _ _) (fun j hj => ?_)
  rw [getD_set _ _ _ _ (by rw [L3_length]; omega), L3_get _ _ _ _ hj, L3_get _ _ _ _ hj]
  by_cases e : i = j
  · subst e; rw [if_pos rfl, if_pos (by omega)]
  · rw [if_neg e]
    by_cases h1 : j < i
    · rw [if_pos h1, if_pos (by omega)]
    · rw [if_neg h1, if_neg (by omega)]
/-- The blocks under the adding up. -/
structure ASt (w : World) (a c e : Nat) (L : List Int) (v z : V8) (wr : World) : Prop where
  hh : wr.heap[a]? = some (.cells (wc L) T8)
  hz : wr.heap[c]? = some (.cells z.cells T8)
  hv : wr.heap[e]? = some (.cells (wc v.list) T8)
  be : Below w.heap.size w wr
theorem ASt.set {w : World} {a c e : Nat} {L : List Int} {v z : V8} {wr : World} (H : ASt w a c e L v z wr) (hac : c ≠ a) (hae : e ≠ a) (hw : w.heap.size ≤ a) (j : Nat) (x : Int) : ASt w a c e (L.set j x) v z (wr.drew.setCell ⟨a, j, none⟩ (wdV x)) :=
  ⟨by rw [setCell_heap _ _ _ _ _ _ (show wr.drew.heap[a]? = _ from H.hh), wc_set], (Below.heap_setCell _ _ _ _ hac).trans H.hz, (Below.heap_setCell _ _ _ _ hae).trans H.hv, (H.be.drew).setCell hw _⟩
end Go.Proofs.YthcjjekkjbidlaaDoor.Sh
/-
  The contracts of strings.Builder's copyCheck and WriteString, at this program's translation of them.
-/
namespace Go.Proofs.YthcjjekkjbidlaaDoor.St
open Go.RowKit Go.Proofs.YthcjjekkjbidlaaDoor.Rf

theorem infoByte : (Tryd.prog.info? 5).map (fun i => (i.zero, i.size, i.bytes)) = some (some (.int .u8 0), 1, 1) := by kernel_rfl

end Go.Proofs.YthcjjekkjbidlaaDoor.St
/-
  The contract of the program's Encode.
-/
namespace Go.Proofs.YthcjjekkjbidlaaDoor.St
open Go.RowKit Go.Maps Go.WideMaps Go.Proofs.YthcjjekkjbidlaaDoor.Rf Go.Proofs.YthcjjekkjbidlaaDoor.Rd

theorem conv_row {w : World} {g o c : Nat} (l : List UInt8) (h : w.rangeAt g o (Lib.byteCells l)) : (convert 38 9 (.slice (some ⟨g, o, none⟩) l.length c)).run Tryd.prog w = .ok (.string ⟨l.toArray⟩) w :=
  run_convert_bytes_back w _ _ 5 ⟨g, o, none⟩ c l Tryd.underlying38 Tryd.underlying5 Tryd.underlying9 (fun j hj => by
    rw [Addr.add_lit]
    exact h j _ (by rw [Lib.byteCells, List.getElem?_map, List.getElem?_eq_getElem hj]; rfl))
theorem conv_at {w : World} {x : Nat} {b : UInt8} (h : w.heap[x]? = some (.cells #[.int .u8 (b.toNat : Int)] 5)) : (convert 38 9 (.slice (some ⟨x, 0, none⟩) 1 1)).run Tryd.prog w = .ok (.string ⟨[b].toArray⟩) w :=
  conv_row [b] (range_block h)
end Go.Proofs.YthcjjekkjbidlaaDoor.St
/-
  The contracts of the reference's Put and PutText.
-/
namespace Go.Proofs.YthcjjekkjbidlaaDoor.St
open Go.RowKit Go.Maps Go.WideMaps Go.Proofs.YthcjjekkjbidlaaDoor.Rf Go.Proofs.YthcjjekkjbidlaaDoor.Rd

theorem conv_val {w : World} {x : Nat} {b : UInt8} {n : Int} (hn : n = (b.toNat : Int)) (h : w.heap[x]? = some (.cells #[.int .u8 n] 5)) : (convert 38 9 (.slice (some ⟨x, 0, none⟩) 1 1)).run Tryd.prog w = .ok (.string ⟨[b].toArray⟩) w := by
  subst hn; exact conv_at h

end Go.Proofs.YthcjjekkjbidlaaDoor.St
/-
  The contracts of a number in eight bytes: the reference's.
-/
namespace Go.Proofs.YthcjjekkjbidlaaDoor.Sh
open Go.RowKit Go.Maps Go.Proofs.YthcjjekkjbidlaaDoor.Rf Go.Proofs.YthcjjekkjbidlaaDoor.Rd Go.Proofs.YthcjjekkjbidlaaDoor.St

def beB (n i : Nat) : UInt8 := UInt8.ofNat (n / 256 ^ (7 - i))
theorem be8_take (n j : Nat) (h : j < 8) : (be8 n).take (j + 1) = (be8 n).take j ++ [beB n j] := by
  have hl : j < (be8 n).length := by simp [be8]; exact h
  rw [List.take_succ_eq_append_getElem hl]
  simp [be8, beB]
theorem be8_length (n : Nat) : (be8 n).length = 8 := by simp [be8]
theorem shr_byte (n i : Nat) : (((n : Int) / 2 ^ (8 * i)) % 256) = ((UInt8.ofNat (n / 256 ^ i)).toNat : Int) := by
  have e : (2 : Int) ^ (8 * i) = ((256 ^ i : Nat) : Int) := by rw [show (256 : Nat) = 2 ^ 8 from rfl, ← Nat.pow_mul]; simp
  rw [e, UInt8.toNat_ofNat', ← Int.natCast_ediv]
  generalize n / 256 ^ i = m
  simp

set_option maxRecDepth 100000 in
theorem fits8 (w : World) (n : Nat) :
    Calls Tryd.prog 110 #[.int .u64 (n : Int), .int .i64 8] w fun e w' => e = .returned (.bool true) ∧ w' = w := by
  go_enter Tryd.func110, Tryd.ntmps110
  go_wp2
  go_ret
  exact ⟨rfl, rfl⟩
set_option maxHeartbeats 4000000 in
set_option maxRecDepth 100000 in
theorem ref_fixed8 (w : World) (l : List UInt8) (n : Nat) (hl : l.length ≤ 140737488355328) :
    Calls Tryd.prog 95 #[.string ⟨l.toArray⟩, .int .u64 (n : Int), .int .i64 8] w fun e w' => e = .returned (.tuple #[.string ⟨(l ++ be8 n).toArray⟩, .int .i64 0]) ∧ Below w.heap.size w w' := by
  have FI := Lib.hid (fits8 w n)
  go_enter Tryd.func95, Tryd.ntmps95
  go_wp2_with fail
  refine FI.out.mono ?_
  rintro e wx ⟨rfl, hwx⟩
  obtain rfl : w = wx := hwx.symm
  go_wp2
  go_loopw [0, 8] (fun vs vi w' => ∃ j : Nat, j ≤ 8 ∧ vs = .string ⟨(l ++ (be8 n).take j).toArray⟩ ∧ vi = .int .i64 (7 - (j : Int)) ∧ Hid (Below w.heap.size w w')) (fun _ vi _ => (RowKit.intOf vi + 1).toNat)
  case atStart => exact ⟨0, by omega, by simp, rfl, Lib.hid (Below.refl _ _)⟩
  case round =>
    obtain ⟨j, hj, rfl, rfl, HB⟩ := hrel
    obtain ⟨i, hi⟩ : ∃ i : Int, i = 7 - (j : Int) := ⟨_, rfl⟩
    rw [← hi]
    by_cases hlt : (0 : Int) ≤ i
    · have hj8 : j < 8 := by omega
      obtain ⟨k, hk⟩ : ∃ k : Nat, i = (k : Int) := ⟨7 - j, by omega⟩
      subst hk
      have hk7 : k ≤ 7 := by omega
      have hjk : 7 - j = k := by omega
      obtain ⟨d, hd⟩ : ∃ d, d = UInt8.ofNat (n / 256 ^ k) := ⟨_, rfl⟩
      have hv : (n : Int) / 2 ^ (8 * k) % 256 = (d.toNat : Int) := by rw [hd]; exact shr_byte n k
      have hcv := conv_val hv (MapKept.heap_alloc wr (.cells #[.int .u8 ((n : Int) / 2 ^ (8 * k) % 256)] 5)).1
      have HC : Hid ((⟨(l ++ (be8 n).take j).toArray⟩ : ByteArray) ++ ⟨[d].toArray⟩ = ⟨(l ++ (be8 n).take (j + 1)).toArray⟩) := Lib.hid (by rw [cat_list, ba_data, List.append_assoc, be8_take n j hj8, beB, hjk, hd])
      have HB2 := Lib.hid (HB.out.alloc HB.out.size (.cells #[.int .u8 ((n : Int) / 2 ^ (8 * k) % 256)] 5))
      have HK := Lib.hid hi
      have hpl : l.length + ((be8 n).take j).length + 1 ≤ 9223372036854775807 := by rw [List.length_take]; omega
      clear hv hd hi hjk HB
      go_wp2
      go_roundw
      case rel => exact ⟨j + 1, by omega, congrArg Value.string HC.out, congrArg (Value.int .i64) (by have := HK.out; omega), HB2⟩
      case measure => simp [RowKit.intOf]
    · obtain rfl : j = 8 := by omega
      have HE : Hid ((be8 n).take 8 = be8 n) := Lib.hid (List.take_of_length_le (by rw [be8_length]; omega))
      clear hi
      go_wp2
      go_ret2
      rw [HE.out]
      exact ⟨rfl, HB.out⟩

set_option maxRecDepth 100000 in
/-- A number in eight bytes. -/
theorem ref_Fixed8 (w : World) (n : Nat) :
    Calls Tryd.prog 82 #[.int .u64 (n : Int), .int .i64 8] w fun e w' => e = .returned (.string ⟨(be8 n).toArray⟩) ∧ Below w.heap.size w w' := by
  have FI := Lib.hid (ref_fixed8 w [] n (by decide))
  go_enter Tryd.func82, Tryd.ntmps82
  go_wp2_with fail
  refine FI.out.mono ?_
  rintro e w1 ⟨rfl, hb⟩
  have HB := Lib.hid hb
  clear hb
  go_wp2
  go_ret
  exact ⟨rfl, HB.out⟩

/-! ### the program's -/
theorem bc_set (L : List UInt8) (j : Nat) (b : UInt8) : (Lib.byteCells L).toArray.setIfInBounds j (.int .u8 (b.toNat : Int)) = (Lib.byteCells (L.set j b)).toArray := by
  simp [Lib.byteCells]
theorem bc_get {L : List UInt8} {j : Nat} {b : UInt8} (h : L[j]? = some b) : (Lib.byteCells L).toArray[j]? = some (.int .u8 (b.toNat : Int)) := by
  simp [Lib.byteCells, h]
end Go.Proofs.YthcjjekkjbidlaaDoor.Sh
