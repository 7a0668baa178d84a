import Derived.Test.YthcjjekkjbidlaaDoorZPRfMap
import Derived.Lib.BufSteps
import Derived.Lib.Hide
import Derived.Laws.AppendOwn
import Derived.Maps.AppendAt
import Derived.OwnWalk
import Derived.BigRegion
import Derived.BigQuiet
import Derived.BigCall
import Derived.BigGuard
import Derived.Deep.QuietTactic
import Derived.Test.YthcjjekkjbidlaaDoorZPStPlain
import Derived.Laws.Tables
import Derived.Laws.ResultCell
import Derived.Deep.MidRow
import Derived.Deep.RegionHeld3
import Derived.Great.BuildSlice
set_option linter.unusedSimpArgs false
set_option linter.unusedVariables false
/-
  What may have turned; blocks and rows that a call owns.
-/
namespace Go.Proofs.YthcjjekkjbidlaaDoor.Rf
open Go.RowKit Go.Maps

/-- Only the blocks of X may have turned; what is new lies behind. -/
structure Turn (X : List Nat) (w w' : World) : Prop where
  os : w'.os = w.os
  tape : w'.tape = w.tape
  output : w'.output = w.output
  size : w.heap.size ≤ w'.heap.size
  block : ∀ k, k < w.heap.size → k ∉ X → w'.heap[k]? = w.heap[k]?

theorem Turn.refl (X : List Nat) (w : World) : Turn X w w := ⟨rfl, rfl, rfl, Nat.le_refl _, fun _ _ _ => rfl⟩
theorem Turn.trans {X Y : List Nat} {a b c : World} (h : Turn X a b) (k : Turn Y b c) (hY : ∀ y ∈ Y, y ∈ X ∨ a.heap.size ≤ y) : Turn X a c :=
  ⟨k.os.trans h.os, k.tape.trans h.tape, k.output.trans h.output, Nat.le_trans h.size k.size, fun j hj hx => by
    rw [k.block j (Nat.lt_of_lt_of_le hj h.size) (fun hy => (hY j hy).elim hx (by omega)), h.block j hj hx]⟩
theorem Turn.mono {X Y : List Nat} {a b : World} (h : Turn X a b) (hX : ∀ x ∈ X, x ∈ Y) : Turn Y a b :=
  ⟨h.os, h.tape, h.output, h.size, fun k hk hy => h.block k hk (fun hx => hy (hX k hx))⟩
theorem Turn.alloc {X : List Nat} {a b : World} (h : Turn X a b) (o : Obj) : Turn X a (b.alloc o) :=
  ⟨h.os, h.tape, h.output, Nat.le_trans h.size (by show b.heap.size ≤ (b.heap.push o).size; rw [Array.size_push]; omega), fun k hk hx => (Below.heap_alloc _ _ _ (Nat.lt_of_lt_of_le hk h.size)).trans (h.block k hk hx)⟩
theorem Turn.drew {X : List Nat} {a b : World} (h : Turn X a b) : Turn X a b.drew := ⟨h.os, h.tape, h.output, h.size, h.block⟩
theorem Turn.setCell {X : List Nat} {a b : World} (h : Turn X a b) {p : Addr} (hp : p.block ∈ X ∨ a.heap.size ≤ p.block) (v : Value) : Turn X a (b.setCell p v) :=
  ⟨h.os, h.tape, h.output, by simpa [World.setCell] using h.size, fun k hk hx => by
    rw [Below.heap_setCell _ _ _ _ (by intro e; subst e; exact hp.elim hx (by omega))]; exact h.block k hk hx⟩
theorem Turn.of_below {X : List Nat} {a b : World} (h : Below a.heap.size a b) : Turn X a b := ⟨h.os, h.tape, h.output, h.size, fun k hk _ => h.block k hk⟩
theorem Turn.below {X : List Nat} {B : Nat} {a b : World} (h : Turn X a b) (hX : ∀ x ∈ X, B ≤ x) (hB : B ≤ a.heap.size) : Below B a b :=
  ⟨h.os, h.tape, h.output, h.size, fun k hk => h.block k (by omega) (fun hx => by have := hX k hx; omega)⟩

theorem setCell_heap (w : World) (g j : Nat) (v : Value) (cur : Array Value) (T : TypeId) (h : w.heap[g]? = some (.cells cur T)) :
    (w.setCell ⟨g, j, none⟩ v).heap[g]? = some (.cells (cur.setIfInBounds j v) T) := by
  simp [World.setCell, Array.getElem?_modify, h]
theorem cell_of_heap {w : World} {g j : Nat} {cur : Array Value} {T : TypeId} (h : w.heap[g]? = some (.cells cur T)) : w.cell? ⟨g, j, none⟩ = cur[j]? := by
  simp [World.cell?, h]
theorem frozen_of_heap {w : World} {g j : Nat} {cur : Array Value} {T : TypeId} (h : w.heap[g]? = some (.cells cur T)) : w.frozen? ⟨g, j, none⟩ = false := by
  simp [World.frozen?, h]

def ob (v : Value) : List Nat := v.ownBlock.toList
abbrev ptr (n : Nat) : Value := .pointer (some ⟨n, 0, none⟩)
theorem ownsMap_block {w w' : World} {R : Value → Option (DataW Value × List MemPlace)} {k : TypeId} {b n : Nat} {D : DataW Value} (h : w.ownsMap Tryd.prog k R b n D) (hb : w'.heap[b]? = w.heap[b]?) : w'.ownsMap Tryd.prog k R b n D := by
  obtain ⟨es, clock, h1, h2⟩ := h
  exact ⟨es, clock, hb.trans h1, h2⟩
theorem lt_of_heap {w : World} {q : Nat} {o : Obj} (h : w.heap[q]? = some o) : q < w.heap.size := (Array.getElem?_eq_some_iff.1 h).1
theorem row_mono {w : World} {B B' : Nat} {e : TypeId} {size : Nat} {v : Value} {n : Nat} {xs : List Value} (h : w.ownsRow B e size v n xs) (hB : B' ≤ B) : w.ownsRow B' e size v n xs := by
  obtain ⟨h1, h2 | ⟨g, cap, cur, rfl, hg, rest⟩⟩ := h
  · exact ⟨h1, .inl h2⟩
  · exact ⟨h1, .inr ⟨g, cap, cur, rfl, Nat.le_trans hB hg, rest⟩⟩
end Go.Proofs.YthcjjekkjbidlaaDoor.Rf
/-
  How an entry, and an index of the program's and of the reference's, lie in memory.
-/
namespace Go.Proofs.YthcjjekkjbidlaaDoor.St
open Go.RowKit Go.Maps Go.WideMaps Go.Proofs.YthcjjekkjbidlaaDoor.Rf

/-- The four cells of an entry's stat. -/
def SE.stat (e : SE) : List Value := [.int .u8 (e.node : Int), .int .i64 e.size, .int .u64 (e.ino : Int), .int .i64 e.tick]
/-- An entry's 38 cells. -/
def SE.cells (e : SE) : List Value := .string ⟨e.path.toArray⟩ :: .int .u8 (e.node : Int) :: .int .i64 e.size :: .int .u64 (e.ino : Int) :: .int .i64 e.tick :: .int .u8 (e.kind : Int) :: Lib.byteCells e.id
abbrev enV (e : SE) : Value := .agg e.cells.toArray
structure SE.Fits (e : SE) : Prop where
  path : e.path.length ≤ 140737488355328
  node : e.node < 256
  size : -9223372036854775808 ≤ e.size ∧ e.size < 9223372036854775808
  ino : e.ino < 18446744073709551616
  tick : -9223372036854775808 ≤ e.tick ∧ e.tick < 9223372036854775808
  kind : e.kind < 256
  id : e.id.length = 32
/-- The entry of noughts. -/
def zeroS : SE := ⟨[], 0, 0, 0, 0, 0, List.replicate 32 0⟩
theorem zero_fits : zeroS.Fits := ⟨by decide, by decide, by decide, by decide, by decide, by decide, by decide⟩
theorem cells_size {e : SE} (h : e.id.length = 32) : e.cells.length = 38 := by simp [SE.cells, Lib.byteCells_length, h]
theorem cells_one (e : SE) : ∀ u ∈ e.cells, u.oneCell' = true := by
  intro u hu
  simp only [SE.cells, List.mem_cons, Lib.byteCells, List.mem_map] at hu
  rcases hu with rfl | rfl | rfl | rfl | rfl | rfl | ⟨b, _, rfl⟩ <;> rfl
theorem cells_all (e : SE) : e.cells.toArray.all (·.oneCell') = true := Array.all_eq_true_iff_forall_mem.2 (fun u hu => cells_one e u (by simpa using hu))
/-! ### rows of many cells -/
theorem rowS_kept {w w' : World} {B : Nat} {e : TypeId} {s : Nat} {v : Value} {n : Nat} {xs : List Value} (h : w.ownsRow B e s v n xs) (hb : ∀ b ∈ ob v, b < w.heap.size → w'.heap[b]? = w.heap[b]?) : w'.ownsRow B e s v n xs := by
  obtain ⟨h1, h2 | ⟨g, cap, cur, rfl, a, b, c⟩⟩ := h
  · exact ⟨h1, .inl h2⟩
  · exact ⟨h1, .inr ⟨g, cap, cur, rfl, a, (hb g (by simp [ob, Value.ownBlock]) (lt_of_heap b)).trans b, c⟩⟩
theorem rowS_lt {w : World} {B : Nat} {e : TypeId} {s : Nat} {v : Value} {n : Nat} {xs : List Value} (h : w.ownsRow B e s v n xs) : ∀ b ∈ ob v, b < w.heap.size := by
  obtain ⟨_, ⟨rfl, _⟩ | ⟨g, cap, cur, rfl, _, hh, _⟩⟩ := h
  · intro b hb; simp [ob, Value.ownBlock] at hb
  · intro b hb; simp [ob, Value.ownBlock] at hb; subst hb; exact lt_of_heap hh
theorem rowS_ge {w : World} {B : Nat} {e : TypeId} {s : Nat} {v : Value} {n : Nat} {xs : List Value} (h : w.ownsRow B e s v n xs) : ∀ b ∈ ob v, B ≤ b := by
  obtain ⟨_, ⟨rfl, _⟩ | ⟨g, cap, cur, rfl, hg, _⟩⟩ := h
  · intro b hb; simp [ob, Value.ownBlock] at hb
  · intro b hb; simp [ob, Value.ownBlock] at hb; subst hb; exact hg
theorem rowS_form {w : World} {B : Nat} {e : TypeId} {s : Nat} {v : Value} {n : Nat} {xs : List Value} (h : w.ownsRow B e s v n xs) (hn : n ≠ 0) : ∃ g cap, v = .slice (some ⟨g, 0, none⟩) n cap ∧ g < w.heap.size ∧ B ≤ g ∧ n ≤ cap ∧ ∀ (j : Nat) x, xs[j]? = some x → w.cell? ⟨g, j, none⟩ = some x := by
  obtain ⟨h1, ⟨_, h2⟩ | ⟨g, cap, cur, rfl, hg, hh, hc, _, _, ht⟩⟩ := h
  · exact absurd h2 hn
  · refine ⟨g, cap, rfl, lt_of_heap hh, hg, hc, fun j x hj => ?_⟩
    rw [cell_of_heap hh]
    have e1 := congrArg (fun l => l[j]?) ht
    rw [hj] at e1
    have hjl : j < n * s := by
      have := (List.getElem?_eq_some_iff.1 hj).1
      omega
    rw [List.getElem?_take_of_lt hjl, Array.getElem?_toList] at e1
    exact e1
theorem rowS_slice {w : World} {B : Nat} {e : TypeId} {s : Nat} {v : Value} {n : Nat} {xs : List Value} (h : w.ownsRow B e s v n xs) : ∃ a cap, v = .slice a n cap := by
  obtain ⟨_, ⟨rfl, rfl⟩ | ⟨g, cap, cur, rfl, _⟩⟩ := h
  · exact ⟨_, _, rfl⟩
  · exact ⟨_, _, rfl⟩
theorem rowS_nil (w : World) (B : Nat) (e : TypeId) (s : Nat) : w.ownsRow B e s (.slice none 0 0) 0 [] := World.ownsRow_nil _ _ _ _

/-! ### an index of the program's -/
structure IndexAt (B : Nat) (w : World) (g b : Nat) (L : List SE) : Prop where
  book : w.heap[g]? = some (.cells #[.map (some b)] 106)
  map : w.ownsMap Tryd.prog 9 Rv b 1000000 (toD enV (toZ L))
  gb : g ≠ b
  baseg : B ≤ g
  baseb : B ≤ b
  srt : Srt L
  fits : ∀ e ∈ L, e.Fits
  len : L.length ≤ 65536
theorem IndexAt.lt_g {B : Nat} {w : World} {g b : Nat} {L : List SE} (h : IndexAt B w g b L) : g < w.heap.size := lt_of_heap h.book
theorem IndexAt.lt_b {B : Nat} {w : World} {g b : Nat} {L : List SE} (h : IndexAt B w g b L) : b < w.heap.size := h.map.lt
theorem IndexAt.kept {B : Nat} {w w' : World} {g b : Nat} {L : List SE} (h : IndexAt B w g b L) (hg : w'.heap[g]? = w.heap[g]?) (hb : w'.heap[b]? = w.heap[b]?) : IndexAt B w' g b L :=
  ⟨hg.trans h.book, ownsMap_block h.map hb, h.gb, h.baseg, h.baseb, h.srt, h.fits, h.len⟩
theorem IndexAt.below {B : Nat} {w w' : World} {g b : Nat} {L : List SE} (h : IndexAt B w g b L) (hb : Below w.heap.size w w') : IndexAt B w' g b L := h.kept (hb.block _ h.lt_g) (hb.block _ h.lt_b)
theorem IndexAt.mono {B B' : Nat} {w : World} {g b : Nat} {L : List SE} (h : IndexAt B w g b L) (hB : B' ≤ B) : IndexAt B' w g b L :=
  ⟨h.book, h.map, h.gb, Nat.le_trans hB h.baseg, Nat.le_trans hB h.baseb, h.srt, h.fits, h.len⟩
theorem IndexAt.get {B : Nat} {w : World} {g b : Nat} {L : List SE} (h : IndexAt B w g b L) (p : List UInt8) : getM (toZ L) p = getL p L := toZ_get p h.srt
theorem IndexAt.fitsGet {B : Nat} {w : World} {g b : Nat} {L : List SE} (h : IndexAt B w g b L) (p : List UInt8) : ((getL p L).getD zeroS).Fits := by
  cases hg : getL p L with
  | none => exact zero_fits
  | some e => exact h.fits e (getL_path hg).2

/-! ### the entry of noughts, and variables of entries -/
theorem zeroEn (w : World) : (zeroValue 65).run Tryd.prog w = .ok (enV zeroS) w := by kernel_rfl
theorem infoEn {e : SE} (h : e.id.length = 32) : (Tryd.prog.info? 65).map (·.size) = some e.cells.toArray.size := by
  rw [List.size_toArray, cells_size h]; kernel_rfl
/-- A look-up by a text. -/
theorem IndexAt.look {B : Nat} {w : World} {g b : Nat} {L : List SE} (h : IndexAt B w g b L) (S : ByteArray) (hS : S.size ≤ maxLen) :
    (Instr.lookup 104 (.map (some b)) (.string S) true).run Tryd.prog w = .ok (.tuple #[enV ((getL S.data.toList L).getD zeroS), .bool (getL S.data.toList L).isSome]) w := by
  have := look_run Tryd.underlying104 zeroEn h.map S hS
  rw [h.get] at this
  rw [this]
  cases getL S.data.toList L <;> rfl
/-- A variable that is written whole. -/
theorem store_new (w : World) (T : TypeId) (old cs : Array Value) : ((w.alloc (.cells old T)).setRow w.heap.size cs).heap[w.heap.size]? = some (.cells cs T) ∧ Below w.heap.size w ((w.alloc (.cells old T)).setRow w.heap.size cs) := by
  refine ⟨setRow_heap _ _ _ _ _ _ (MapKept.heap_alloc w _).1, ?_⟩
  refine ((Below.refl _ w).alloc (Nat.le_refl _) (.cells old T)).trans ⟨rfl, rfl, rfl, by simp [World.setRow], fun k hk => ?_⟩
  exact setRow_other _ _ _ _ (by omega)
theorem setRow_size (w : World) (g : Nat) (cs : Array Value) : (w.setRow g cs).heap.size = w.heap.size := by simp [World.setRow]
theorem below_setRow {B g : Nat} {w0 w : World} (hb : Below B w0 w) (hBg : B ≤ g) (cs : Array Value) : Below B w0 (w.setRow g cs) :=
  hb.trans ⟨rfl, rfl, rfl, by simp [World.setRow], fun k hk => setRow_other _ _ _ _ (by omega)⟩
theorem range_block {w : World} {g : Nat} {cs : Array Value} {T : TypeId} (h : w.heap[g]? = some (.cells cs T)) : w.rangeAt g 0 cs.toList := fun j v hv => by
  rw [Nat.zero_add, cell_of_heap h, ← Array.getElem?_toList]; exact hv
theorem one_size (w : World) (A : Obj) : (w.alloc A).heap.size = w.heap.size + 1 := by show (w.heap.push _).size = _; simp
theorem at_alloc {w : World} {x : Nat} {o : Obj} (h : w.heap[x]? = some o) (A : Obj) : (w.alloc A).heap[x]? = some o := (Below.heap_alloc _ _ _ (lt_of_heap h)).trans h
theorem map_tight {w : World} {b n n' : Nat} {α : Type} {enc : α → Value} {m : MV α} (h : w.ownsMap Tryd.prog 9 Rv b n (toD enc m)) (hs : m.length ≤ n') : w.ownsMap Tryd.prog 9 Rv b n' (toD enc m) := by
  obtain ⟨es, clock, h1, h2, h3, h4⟩ := h
  refine ⟨es, clock, h1, h2, ?_, h4⟩
  have := congrArg Maps.size h4
  rw [toD_size, Maps.size_eq, length_sorted] at this
  simp at this
  omega

set_option maxRecDepth 100000 in
theorem new_any (w : World) :
    Calls Tryd.prog 22 #[] w fun e w' => ∃ g b, e = .returned (ptr g) ∧ IndexAt w.heap.size w' g b [] ∧ Below w.heap.size w w' := by
  have hmm := @run_makeMap Tryd.prog
  go_enter Tryd.func22, Tryd.ntmps22
  go_wp2
  go_ret
  have hs : (w.alloc (.map #[] 0)).heap.size = w.heap.size + 1 := by show (w.heap.push _).size = _; simp
  refine ⟨w.heap.size + 1, w.heap.size, rfl, ?_, ((Below.refl _ _).alloc (Nat.le_refl _) _).alloc (by rw [hs]; omega) _⟩
  refine ⟨?_, ?_, by omega, by omega, by omega, List.Pairwise.nil, by simp, by simp⟩
  · have := (MapKept.heap_alloc (w.alloc (.map #[] 0)) (.cells #[.map (some w.heap.size)] 106)).1
    rwa [hs] at this
  · exact map_tight (enc := enV) (m := toZ []) ((World.ownsMap_made w Tryd.prog 9 Rv).alloc _) (by decide)

set_option maxRecDepth 100000 in
theorem len_any (B : Nat) (w : World) (g b : Nat) (L : List SE) (h : IndexAt B w g b L) :
    Calls Tryd.prog 30 #[ptr g] w fun e w' => e = .returned (.int .i64 (L.length : Int)) ∧ w' = w := by
  have c0 : w.cell? ⟨g, 0, none⟩ = some (.map (some b)) := cell_of_heap h.book
  have hlen := h.map.len Tryd.underlying104
  simp only [toD_size, toZ_length] at hlen
  unfold ptr
  go_enter Tryd.func30, Tryd.ntmps30
  go_wp2
  go_ret
  exact ⟨rfl, rfl⟩
end Go.Proofs.YthcjjekkjbidlaaDoor.St
