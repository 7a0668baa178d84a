import Derived.Test.YtkdkifciajfpnaaDoorZPSrAdd
import Derived.Test.YtkdkifciajfpnaaDoorZPSrIns
import Derived.Test.YtkdkifciajfpnaaDoorZPSrSort
import Derived.Test.YtkdkifciajfpnaaDoorZPStRefAt
import Derived.Laws.Bits64b
import Derived.Laws.BitsLemmas
import Derived.Test.YtkdkifciajfpnaaDoorZPNmPaths
import Derived.Laws.Shifts
import Derived.Laws.Closers25b
import Derived.Laws.BitsAllLaws
import Derived.Test.YtkdkifciajfpnaaDoorZPSrWrite
import Derived.Test.YtkdkifciajfpnaaDoorZPStKit
import Derived.StillTailTactics
set_option linter.unusedSimpArgs false
set_option linter.unusedVariables false
/-
  Rows of n cells an element: append, a row of one; the rows that a tree's Value is.
-/
namespace Go.Proofs.YtkdkifciajfpnaaDoor.Sr
open Go.RowKit Go.Maps Go.WideMaps Go.Proofs.YtkdkifciajfpnaaDoor.Rf Go.Proofs.YtkdkifciajfpnaaDoor.Nm Go.Proofs.YtkdkifciajfpnaaDoor.St

section
variable {P : Program}
theorem wp_appendN (size : Nat) (hpos : 0 < size) {o : Oper} {a : Act} {w : World} {K : Act → World → Prop} {Q : Exit → Act → World → Prop} (s x : Operand) (t : TypeId) (ho : o.op = .call { callee := .builtin .append, args := #[s, x], argTypes := #[t, t] })
    (base : Nat) (e : TypeId) (i : TypeInfo) (z : Value) (bytes : Nat) (ht : P.underlying t = some (.slice e)) (hi : P.info? e = some i) (hz : i.zero = some z)
    (hsize : i.size = size) (hby : i.bytes = bytes) (hzs : z.cells.size = size) (v : Value) (n : Nat) (xs : List Value) (hs : a.eval s = v) (hown : w.ownsRow base e size v n xs)
    (ad : Addr) (m c : Nat) (cs : List Value) (hxv : a.eval x = .slice (some ad) m c) (hx : ∀ j u, cs[j]? = some u → w.cell? (ad.add j) = some u) (hl : cs.length = m * size) (h1 : ∀ u ∈ cs, u.oneCell' = true) (h63 : n + m ≤ maxLen) (hbytes : (n + m) * bytes ≤ 140737488355328) (hbase : base ≤ w.heap.size)
    (h : ∀ v' w', w'.ownsRow base e size v' (n + m) (xs ++ cs) → w.grownBy w' v.ownBlock → (v'.ownBlock = v.ownBlock ∨ v'.ownBlock = some w.heap.size) → K (a.put o.dst v') w') : o.wp P a w K Q := by
  obtain ⟨v', w', hr, h2, h3, _, h4⟩ := run_append_own_at (P := P) w base t o.type e i z size bytes ht hi hz hsize hby hzs hpos v n xs hown ad m c cs hl hx h1 h63 hbytes hbase
  unfold Oper.wp execOp
  simp only [ho, resolve, invoke, builtin, Sem.run_bind, Sem.run_pure, Result.andThen_ok, List.map_toArray, List.map_cons, List.map_nil, hs, hxv, hr]
  exact h v' w' h2 h3 h4
theorem run_buildOneN (size : Nat) (hp0 : 0 < size) (hp1 : ¬ 16777216 < size) (w : World) (t e : TypeId) (i : TypeInfo) (z : Value) (cs : List Value) (ht : P.underlying t = some (.slice e)) (hi : P.info? e = some i) (hz : i.zero = some z) (hs : i.size = size) (hl : cs.length = size) :
    (Instr.buildSlice t 1 #[(0, .agg cs.toArray)]).run P w = .ok (.slice (some ⟨w.heap.size, 0, none⟩) 1 1) (w.alloc (.cells cs.toArray e)) := by
  simp [Instr.buildSlice, run_underlying ht, sizeOf, typeInfo, hi, hs, zeroValue, hz, Instr.fill, Value.cells, hl]
  rw [if_neg hp1, if_neg (by omega), fold_set cs 0 _ (by simp [hl])]
  simp [newRow, Result.andThen]
theorem wp_oneN (size : Nat) (hp0 : 0 < size) (hp1 : ¬ 16777216 < size) {o : Oper} {a : Act} {w : World} {K : Act → World → Prop} {Q : Exit → Act → World → Prop} (t e : TypeId) (x : Operand) (cs : List Value) (i : TypeInfo) (z : Value) (ho : o.op = .buildSlice t 1 #[(0, x)]) (hx : a.eval x = .agg cs.toArray)
    (ht : P.underlying t = some (.slice e)) (hi : P.info? e = some i) (hz : i.zero = some z) (hs : i.size = size) (hl : cs.length = size)
    (h : K (a.put o.dst (.slice (some ⟨w.heap.size, 0, none⟩) 1 1)) (w.alloc (.cells cs.toArray e))) : o.wp P a w K Q := by
  have hrun := run_buildOneN size hp0 hp1 w t e i z cs ht hi hz hs hl
  unfold Oper.wp
  have hp : (#[(0, x)] : Array (Nat × Operand)).map (fun p => (p.1, a.eval p.2)) = #[(0, .agg cs.toArray)] := by simp [hx]
  simp [execOp, ho, hx, hrun, Result.andThen]
  exact h
end

/-- A node's path. -/
def pathN (n : PN) : List UInt8 := if pathOf n = [] then [47] else pathOf n
/-- The eleven cells of a row of Value. -/
def vcells (e : TE) (xv : Value) : List Value := .string ⟨(pathN e.nm).toArray⟩ :: (e.at_.cells xv ++ [.string ⟨e.data.toArray⟩, .int .u64 (e.ino : Int), .int .i64 e.tick])
def vrows (R : List (TE × Value)) : List Value := R.flatMap fun p => vcells p.1 p.2
theorem vcells_len (e : TE) (xv : Value) : (vcells e xv).length = 11 := rfl
theorem vrows_append (A B : List (TE × Value)) : vrows (A ++ B) = vrows A ++ vrows B := by rw [vrows, List.flatMap_append]; rfl
abbrev VnT : TypeId := 67
def zeroVn : Value := .agg (.string ⟨#[]⟩ :: (zeroA.cells (.slice none 0 0) ++ [.string ⟨#[]⟩, .int .u64 0, .int .i64 0])).toArray
theorem infoVn : (Tryd.prog.info? VnT).map (fun i => (i.zero, i.size, i.bytes)) = some (some zeroVn, 11, 112) := by kernel_rfl
end Go.Proofs.YtkdkifciajfpnaaDoor.Sr
/-
  The sorted names of a folder (and of a node that is none).
-/
namespace Go.Proofs.YtkdkifciajfpnaaDoor.Sr
open Go.RowKit Go.Maps Go.WideMaps Go.Proofs.YtkdkifciajfpnaaDoor.Rf Go.Proofs.YtkdkifciajfpnaaDoor.Nm Go.Proofs.YtkdkifciajfpnaaDoor.St

abbrev MkT : TypeId := 55
theorem kid_names {L : List TE} (hs : SrtT L) (n : PN) {ss : List (List UInt8)} (h : ss.Perm (strKeys (toD ptr (kidsT L n)))) : ss.mergeSort (fun x y => decide (x ≤ y)) = (kidsT L n).map (·.1) := by
  rw [strKeys_toD] at h
  rw [mergeSort_of_perm h]
  refine List.mergeSort_of_pairwise ?_
  rw [List.pairwise_map]
  refine (kidsT_srt hs n).imp (fun {a b} hab => ?_)
  rw [decide_eq_true_iff]
  exact List.le_of_lt (lt_iff.1 hab)
def KeysPost (W : World) (K : List (List UInt8)) (x : Ending) (w' : World) : Prop :=
  ∃ v, x = .returned v ∧ w'.ownsRow W.heap.size 9 1 v K.length (K.map sv) ∧ Below W.heap.size W w'
theorem kids_sorted {B : Nat} {w : World} {r : Nat} {T : Tr} (h : TreeAt B w r T) {e : TE} (he : e ∈ T.L) (hl : (kidsT T.L e.nm).length ≤ 1000000) :
    Calls Tryd.prog 39 #[.func (.func 50) #[] #[.pointer (some ⟨w.heap.size, 0, none⟩)]] (w.alloc (.cells #[mapV e.m] MkT)) (KeysPost (w.alloc (.cells #[mapV e.m] MkT)) ((kidsT T.L e.nm).map (·.1))) := by
  cases hm : e.m with
  | some b =>
    have SK := Tryd.sortedKeysT b 1000000 _ _ w ((h.node e he).kids b hm) (by rw [toD_size]; unfold maxLen; omega) (by rw [toD_size]; omega)
    refine SK.mono ?_
    rintro x w' ⟨v, ss, rfl, hp, ho, _, hb⟩
    have hk := kid_names h.srt e.nm hp
    have hlen : ss.length = (kidsT T.L e.nm).length := by
      have := congrArg List.length hk
      rw [List.length_mergeSort, List.length_map] at this; exact this
    rw [hk, hlen] at ho
    refine ⟨v, rfl, ?_, hb⟩
    rw [List.length_map]
    exact ho
  | none =>
    have hk : kidsT T.L e.nm = [] := by
      rw [List.eq_nil_iff_forall_not_mem]
      intro k hk
      obtain ⟨x, hx, h1, _⟩ := kidsT_mem.1 hk
      obtain ⟨u, hu, h2, h3⟩ := h.par x hx _ _ h1
      rw [srtT_inj h.srt hu he h2] at h3
      exact h3 hm
    rw [hk]
    refine (Tryd.sortedNilT w).mono ?_
    rintro x w' ⟨v, ss, rfl, rfl, ho, _, hb⟩
    rw [List.mergeSort_nil] at ho
    exact ⟨v, rfl, ho, hb⟩
end Go.Proofs.YtkdkifciajfpnaaDoor.Sr
/-
  SHA-256 in plain words: the words of a block, its rounds, the sum of bytes.
-/
namespace Go.Proofs.YtkdkifciajfpnaaDoor.Sh

/-- A word, turned right. -/
def rot (n : Nat) (x : Int) : Int := bits .or .u32 (x / 2 ^ n) (x * 2 ^ (32 - n) % 4294967296)
abbrev xor (a b : Int) : Int := bits .xor .u32 a b
abbrev and (a b : Int) : Int := bits .and .u32 a b
abbrev add (a b : Int) : Int := (a + b) % 4294967296
/-- Three turns, joined. -/
def tri (a b c : Nat) (x : Int) : Int := xor (xor (rot a x) (rot b x)) (rot c x)
def sg0 (x : Int) : Int := xor (xor (rot 7 x) (rot 18 x)) (x / 8)
def sg1 (y : Int) : Int := xor (xor (rot 17 y) (rot 19 y)) (y / 1024)
/-- The next word. -/
def nxt (W : List Int) (t : Nat) : Int := add (add (add (sg1 (W.getD (t - 2) 0)) (W.getD (t - 7) 0)) (sg0 (W.getD (t - 15) 0))) (W.getD (t - 16) 0)
/-- Words up to the t-th. -/
def sch (W : List Int) : Nat → List Int
  | 0 => W
  | k + 1 => sch W k ++ [nxt (sch W k) (16 + k)]
/-- Eight words. -/
structure V8 where
  (a b c d e f g h : Int)
deriving DecidableEq
def V8.list (v : V8) : List Int := [v.a, v.b, v.c, v.d, v.e, v.f, v.g, v.h]
def inv (x : Int) : Int := bits .xor .u32 IntKind.u32.max x
def t1 (v : V8) (k x : Int) : Int := (v.h + tri 6 11 25 v.e + xor (and v.e v.f) (and (inv v.e) v.g) + k + x) % 4294967296
def t2 (v : V8) : Int := add (tri 2 13 22 v.a) (xor (xor (and v.a v.b) (and v.a v.c)) (and v.b v.c))
/-- A round. -/
def rnd (v : V8) (k x : Int) : V8 := ⟨add (t1 v k x) (t2 v), v.a, v.b, v.c, add v.d (t1 v k x), v.e, v.f, v.g⟩
def rnds (K W : List Int) (v : V8) : Nat → V8
  | 0 => v
  | t + 1 => rnd (rnds K W v t) (K.getD t 0) (W.getD t 0)
def V8.add (u v : V8) : V8 := ⟨Sh.add u.a v.a, Sh.add u.b v.b, Sh.add u.c v.c, Sh.add u.d v.d, Sh.add u.e v.e, Sh.add u.f v.f, Sh.add u.g v.g, Sh.add u.h v.h⟩
/-- A number of some bytes. -/
def num (B : List UInt8) : Int := B.foldl (fun x b => x * 256 + (b.toNat : Int)) 0
/-- The j-th word of a block. -/
def wrd (B : List UInt8) (j : Nat) : Int := num ((B.drop (4 * j)).take 4)
def wrds (B : List UInt8) : List Int := (List.range 16).map (wrd B)
def K64 : List Int := [0x428a2f98, 0x71374491, 0xb5c0fbcf, 0xe9b5dba5, 0x3956c25b, 0x59f111f1, 0x923f82a4, 0xab1c5ed5,
  0xd807aa98, 0x12835b01, 0x243185be, 0x550c7dc3, 0x72be5d74, 0x80deb1fe, 0x9bdc06a7, 0xc19bf174,
  0xe49b69c1, 0xefbe4786, 0x0fc19dc6, 0x240ca1cc, 0x2de92c6f, 0x4a7484aa, 0x5cb0a9dc, 0x76f988da,
  0x983e5152, 0xa831c66d, 0xb00327c8, 0xbf597fc7, 0xc6e00bf3, 0xd5a79147, 0x06ca6351, 0x14292967,
  0x27b70a85, 0x2e1b2138, 0x4d2c6dfc, 0x53380d13, 0x650a7354, 0x766a0abb, 0x81c2c92e, 0x92722c85,
  0xa2bfe8a1, 0xa81a664b, 0xc24b8b70, 0xc76c51a3, 0xd192e819, 0xd6990624, 0xf40e3585, 0x106aa070,
  0x19a4c116, 0x1e376c08, 0x2748774c, 0x34b0bcb5, 0x391c0cb3, 0x4ed8aa4a, 0x5b9cca4f, 0x682e6ff3,
  0x748f82ee, 0x78a5636f, 0x84c87814, 0x8cc70208, 0x90befffa, 0xa4506ceb, 0xbef9a3f7, 0xc67178f2]
/-- What a block makes of the eight words. -/
def blk (h : V8) (B : List UInt8) : V8 := h.add (rnds K64 (sch (wrds B) 48) h 64)
/-- All whole blocks. -/
def run (h : V8) (L : List UInt8) : V8 := if _h : 64 ≤ L.length then run (blk h (L.take 64)) (L.drop 64) else h
termination_by L.length
decreasing_by rw [List.length_drop]; omega
def rest (L : List UInt8) : List UInt8 := L.drop (L.length / 64 * 64)
def byteOf (v : V8) (i : Nat) : UInt8 := UInt8.ofNat ((v.list.getD (i / 4) 0 / 2 ^ (24 - 8 * (i % 4))).toNat)
def bytesOf (v : V8) : List UInt8 := (List.range 32).map (byteOf v)
/-! ### bounds -/
def In (x : Int) : Prop := 0 ≤ x ∧ x < 4294967296
theorem In.bits (op : BinOp) (a b : Int) : In (bits op .u32 a b) := by
  have h : ∀ n : Int, In (IntKind.u32.wrap n) := fun n => by rw [IntKind.wrap_u32]; exact ⟨by omega, by omega⟩
  exact h _
theorem In.wrap (n : Int) : In (IntKind.u32.wrap n) := by rw [IntKind.wrap_u32]; exact ⟨by omega, by omega⟩
theorem In.mod (n : Int) : In (n % 4294967296) := ⟨by omega, by omega⟩
theorem In.add (a b : Int) : In (add a b) := In.mod _
/-! ### the bits of a word -/
/-! ### blocks one behind the other -/
end Go.Proofs.YtkdkifciajfpnaaDoor.Sh
/-
  The contract of what a block makes of the eight words: the program's.
-/
namespace Go.Proofs.YtkdkifciajfpnaaDoor.Sh
open Go.RowKit Go.Proofs.YtkdkifciajfpnaaDoor.Rf Go.Proofs.YtkdkifciajfpnaaDoor.Rd

abbrev wdV (x : Int) : Value := .int .u32 x
def V8.cells (v : V8) : Array Value := #[wdV v.a, wdV v.b, wdV v.c, wdV v.d, wdV v.e, wdV v.f, wdV v.g, wdV v.h]
end Go.Proofs.YtkdkifciajfpnaaDoor.Sh
