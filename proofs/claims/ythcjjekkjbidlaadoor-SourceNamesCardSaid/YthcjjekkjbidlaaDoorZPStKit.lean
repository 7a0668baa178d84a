import Derived.Test.YthcjjekkjbidlaaDoorZPNmPaths
import Derived.Test.YthcjjekkjbidlaaDoorZPSrPlain
import Derived.Laws.Tables
import Derived.Laws.ResultCell
import Derived.Deep.MidRow
import Derived.Deep.RegionHeld3
import Derived.Great.BuildSlice
set_option linter.unusedSimpArgs false
set_option linter.unusedVariables false
/-
  How an entry, and an index of the program's and of the reference's, lie in memory.
-/
namespace Go.Proofs.YthcjjekkjbidlaaDoor.St
open Go.RowKit Go.Maps Go.WideMaps Go.Proofs.YthcjjekkjbidlaaDoor.Rf

/-- The four cells of an entry's stat. -/
def SE.stat (e : SE) : List Value := [.int .u8 (e.node : Int), .int .i64 e.size, .int .u64 (e.ino : Int), .int .i64 e.tick]
/-- An entry's 38 cells. -/
def SE.cells (e : SE) : List Value := .string ⟨e.path.toArray⟩ :: .int .u8 (e.node : Int) :: .int .i64 e.size :: .int .u64 (e.ino : Int) :: .int .i64 e.tick :: .int .u8 (e.kind : Int) :: Lib.byteCells e.id
abbrev enV (e : SE) : Value := .agg e.cells.toArray
structure SE.Fits (e : SE) : Prop where
  path : e.path.length ≤ 140737488355328
  node : e.node < 256
  size : -9223372036854775808 ≤ e.size ∧ e.size < 9223372036854775808
  ino : e.ino < 18446744073709551616
  tick : -9223372036854775808 ≤ e.tick ∧ e.tick < 9223372036854775808
  kind : e.kind < 256
  id : e.id.length = 32
/-- The entry of noughts. -/
def zeroS : SE := ⟨[], 0, 0, 0, 0, 0, List.replicate 32 0⟩
theorem zero_fits : zeroS.Fits := ⟨by decide, by decide, by decide, by decide, by decide, by decide, by decide⟩
theorem cells_size {e : SE} (h : e.id.length = 32) : e.cells.length = 38 := by simp [SE.cells, Lib.byteCells_length, h]
theorem cells_one (e : SE) : ∀ u ∈ e.cells, u.oneCell' = true := by
  intro u hu
  simp only [SE.cells, List.mem_cons, Lib.byteCells, List.mem_map] at hu
  rcases hu with rfl | rfl | rfl | rfl | rfl | rfl | ⟨b, _, rfl⟩ <;> rfl
theorem cells_all (e : SE) : e.cells.toArray.all (·.oneCell') = true := Array.all_eq_true_iff_forall_mem.2 (fun u hu => cells_one e u (by simpa using hu))
/-! ### rows of many cells -/
theorem rowS_kept {w w' : World} {B : Nat} {e : TypeId} {s : Nat} {v : Value} {n : Nat} {xs : List Value} (h : w.ownsRow B e s v n xs) (hb : ∀ b ∈ ob v, b < w.heap.size → w'.heap[b]? = w.heap[b]?) : w'.ownsRow B e s v n xs := by
  obtain ⟨h1, h2 | ⟨g, cap, cur, rfl, a, b, c⟩⟩ := h
  · exact ⟨h1, .inl h2⟩
  · exact ⟨h1, .inr ⟨g, cap, cur, rfl, a, (hb g (by simp [ob, Value.ownBlock]) (lt_of_heap b)).trans b, c⟩⟩
theorem rowS_ge {w : World} {B : Nat} {e : TypeId} {s : Nat} {v : Value} {n : Nat} {xs : List Value} (h : w.ownsRow B e s v n xs) : ∀ b ∈ ob v, B ≤ b := by
  obtain ⟨_, ⟨rfl, _⟩ | ⟨g, cap, cur, rfl, hg, _⟩⟩ := h
  · intro b hb; simp [ob, Value.ownBlock] at hb
  · intro b hb; simp [ob, Value.ownBlock] at hb; subst hb; exact hg
theorem rowS_form {w : World} {B : Nat} {e : TypeId} {s : Nat} {v : Value} {n : Nat} {xs : List Value} (h : w.ownsRow B e s v n xs) (hn : n ≠ 0) : ∃ g cap, v = .slice (some ⟨g, 0, none⟩) n cap ∧ g < w.heap.size ∧ B ≤ g ∧ n ≤ cap ∧ ∀ (j : Nat) x, xs[j]? = some x → w.cell? ⟨g, j, none⟩ = some x := by
  obtain ⟨h1, ⟨_, h2⟩ | ⟨g, cap, cur, rfl, hg, hh, hc, _, _, ht⟩⟩ := h
  · exact absurd h2 hn
  · refine ⟨g, cap, rfl, lt_of_heap hh, hg, hc, fun j x hj => ?_⟩
    rw [cell_of_heap hh]
    have e1 := congrArg (fun l => l[j]?) ht
    rw [hj] at e1
    have hjl : j < n * s := by
      have := (List.getElem?_eq_some_iff.1 hj).1
      omega
    rw [List.getElem?_take_of_lt hjl, Array.getElem?_toList] at e1
    exact e1
theorem rowS_slice {w : World} {B : Nat} {e : TypeId} {s : Nat} {v : Value} {n : Nat} {xs : List Value} (h : w.ownsRow B e s v n xs) : ∃ a cap, v = .slice a n cap := by
  obtain ⟨_, ⟨rfl, rfl⟩ | ⟨g, cap, cur, rfl, _⟩⟩ := h
  · exact ⟨_, _, rfl⟩
  · exact ⟨_, _, rfl⟩
theorem rowS_nil (w : World) (B : Nat) (e : TypeId) (s : Nat) : w.ownsRow B e s (.slice none 0 0) 0 [] := World.ownsRow_nil _ _ _ _

/-! ### an index of the program's -/
structure IndexAt (B : Nat) (w : World) (g b : Nat) (L : List SE) : Prop where
  book : w.heap[g]? = some (.cells #[.map (some b)] 106)
  map : w.ownsMap Tryd.prog 9 Rv b 1000000 (toD enV (toZ L))
  gb : g ≠ b
  baseg : B ≤ g
  baseb : B ≤ b
  srt : Srt L
  fits : ∀ e ∈ L, e.Fits
  len : L.length ≤ 65536
theorem IndexAt.lt_g {B : Nat} {w : World} {g b : Nat} {L : List SE} (h : IndexAt B w g b L) : g < w.heap.size := lt_of_heap h.book
theorem IndexAt.lt_b {B : Nat} {w : World} {g b : Nat} {L : List SE} (h : IndexAt B w g b L) : b < w.heap.size := h.map.lt
theorem IndexAt.kept {B : Nat} {w w' : World} {g b : Nat} {L : List SE} (h : IndexAt B w g b L) (hg : w'.heap[g]? = w.heap[g]?) (hb : w'.heap[b]? = w.heap[b]?) : IndexAt B w' g b L :=
  ⟨hg.trans h.book, ownsMap_block h.map hb, h.gb, h.baseg, h.baseb, h.srt, h.fits, h.len⟩
theorem IndexAt.below {B : Nat} {w w' : World} {g b : Nat} {L : List SE} (h : IndexAt B w g b L) (hb : Below w.heap.size w w') : IndexAt B w' g b L := h.kept (hb.block _ h.lt_g) (hb.block _ h.lt_b)
theorem IndexAt.mono {B B' : Nat} {w : World} {g b : Nat} {L : List SE} (h : IndexAt B w g b L) (hB : B' ≤ B) : IndexAt B' w g b L :=
  ⟨h.book, h.map, h.gb, Nat.le_trans hB h.baseg, Nat.le_trans hB h.baseb, h.srt, h.fits, h.len⟩
theorem IndexAt.get {B : Nat} {w : World} {g b : Nat} {L : List SE} (h : IndexAt B w g b L) (p : List UInt8) : getM (toZ L) p = getL p L := toZ_get p h.srt
theorem IndexAt.fitsGet {B : Nat} {w : World} {g b : Nat} {L : List SE} (h : IndexAt B w g b L) (p : List UInt8) : ((getL p L).getD zeroS).Fits := by
  cases hg : getL p L with
  | none => exact zero_fits
  | some e => exact h.fits e (getL_path hg).2

/-! ### the entry of noughts, and variables of entries -/
theorem zeroEn (w : World) : (zeroValue 65).run Tryd.prog w = .ok (enV zeroS) w := by kernel_rfl
theorem infoEn {e : SE} (h : e.id.length = 32) : (Tryd.prog.info? 65).map (·.size) = some e.cells.toArray.size := by
  rw [List.size_toArray, cells_size h]; kernel_rfl
/-- A look-up by a text. -/
theorem IndexAt.look {B : Nat} {w : World} {g b : Nat} {L : List SE} (h : IndexAt B w g b L) (S : ByteArray) (hS : S.size ≤ maxLen) :
    (Instr.lookup 104 (.map (some b)) (.string S) true).run Tryd.prog w = .ok (.tuple #[enV ((getL S.data.toList L).getD zeroS), .bool (getL S.data.toList L).isSome]) w := by
  have := look_run Tryd.underlying104 zeroEn h.map S hS
  rw [h.get] at this
  rw [this]
  cases getL S.data.toList L <;> rfl
/-- A variable that is written whole. -/
theorem store_new (w : World) (T : TypeId) (old cs : Array Value) : ((w.alloc (.cells old T)).setRow w.heap.size cs).heap[w.heap.size]? = some (.cells cs T) ∧ Below w.heap.size w ((w.alloc (.cells old T)).setRow w.heap.size cs) := by
  refine ⟨setRow_heap _ _ _ _ _ _ (MapKept.heap_alloc w _).1, ?_⟩
  refine ((Below.refl _ w).alloc (Nat.le_refl _) (.cells old T)).trans ⟨rfl, rfl, rfl, by simp [World.setRow], fun k hk => ?_⟩
  exact setRow_other _ _ _ _ (by omega)
theorem setRow_size (w : World) (g : Nat) (cs : Array Value) : (w.setRow g cs).heap.size = w.heap.size := by simp [World.setRow]
theorem range_block {w : World} {g : Nat} {cs : Array Value} {T : TypeId} (h : w.heap[g]? = some (.cells cs T)) : w.rangeAt g 0 cs.toList := fun j v hv => by
  rw [Nat.zero_add, cell_of_heap h, ← Array.getElem?_toList]; exact hv
theorem one_size (w : World) (A : Obj) : (w.alloc A).heap.size = w.heap.size + 1 := by show (w.heap.push _).size = _; simp
theorem at_alloc {w : World} {x : Nat} {o : Obj} (h : w.heap[x]? = some o) (A : Obj) : (w.alloc A).heap[x]? = some o := (Below.heap_alloc _ _ _ (lt_of_heap h)).trans h
theorem map_tight {w : World} {b n n' : Nat} {α : Type} {enc : α → Value} {m : MV α} (h : w.ownsMap Tryd.prog 9 Rv b n (toD enc m)) (hs : m.length ≤ n') : w.ownsMap Tryd.prog 9 Rv b n' (toD enc m) := by
  obtain ⟨es, clock, h1, h2, h3, h4⟩ := h
  refine ⟨es, clock, h1, h2, ?_, h4⟩
  have := congrArg Maps.size h4
  rw [toD_size, Maps.size_eq, length_sorted] at this
  simp at this
  omega

end Go.Proofs.YthcjjekkjbidlaaDoor.St
