import Derived.Test.YtkdkifciajfpnaaDoorZPNmPaths
import Derived.Laws.Tables
import Derived.Laws.ResultCell
import Derived.Deep.MidRow
import Derived.Deep.RegionHeld3
import Derived.Great.BuildSlice
import Derived.Laws.Shifts
import Derived.Laws.Closers25b
import Derived.Lib.ConvBytes
import Derived.Laws.Bits64
import Derived.Laws.Bits64b
import Derived.Test.YtkdkifciajfpnaaDoorZPRowKit
import Derived.Lib.UnsafeStr
import Derived.Laws.BitsAllLaws
set_option linter.unusedSimpArgs false
set_option linter.unusedVariables false
/-
  How an entry, and an index of the program's and of the reference's, lie in memory.
-/
namespace Go.Proofs.YtkdkifciajfpnaaDoor.St
open Go.RowKit Go.Maps Go.WideMaps Go.Proofs.YtkdkifciajfpnaaDoor.Rf

/-- The four cells of an entry's stat. -/
def SE.stat (e : SE) : List Value := [.int .u8 (e.node : Int), .int .i64 e.size, .int .u64 (e.ino : Int), .int .i64 e.tick]
/-- An entry's 38 cells. -/
def SE.cells (e : SE) : List Value := .string ⟨e.path.toArray⟩ :: .int .u8 (e.node : Int) :: .int .i64 e.size :: .int .u64 (e.ino : Int) :: .int .i64 e.tick :: .int .u8 (e.kind : Int) :: Lib.byteCells e.id
structure SE.Fits (e : SE) : Prop where
  path : e.path.length ≤ 140737488355328
  node : e.node < 256
  size : -9223372036854775808 ≤ e.size ∧ e.size < 9223372036854775808
  ino : e.ino < 18446744073709551616
  tick : -9223372036854775808 ≤ e.tick ∧ e.tick < 9223372036854775808
  kind : e.kind < 256
  id : e.id.length = 32
/-- The entry of noughts. -/
def zeroS : SE := ⟨[], 0, 0, 0, 0, 0, List.replicate 32 0⟩
/-! ### rows of many cells -/
theorem rowS_kept {w w' : World} {B : Nat} {e : TypeId} {s : Nat} {v : Value} {n : Nat} {xs : List Value} (h : w.ownsRow B e s v n xs) (hb : ∀ b ∈ ob v, b < w.heap.size → w'.heap[b]? = w.heap[b]?) : w'.ownsRow B e s v n xs := by
  obtain ⟨h1, h2 | ⟨g, cap, cur, rfl, a, b, c⟩⟩ := h
  · exact ⟨h1, .inl h2⟩
  · exact ⟨h1, .inr ⟨g, cap, cur, rfl, a, (hb g (by simp [ob, Value.ownBlock]) (lt_of_heap b)).trans b, c⟩⟩
theorem rowS_lt {w : World} {B : Nat} {e : TypeId} {s : Nat} {v : Value} {n : Nat} {xs : List Value} (h : w.ownsRow B e s v n xs) : ∀ b ∈ ob v, b < w.heap.size := by
  obtain ⟨_, ⟨rfl, _⟩ | ⟨g, cap, cur, rfl, _, hh, _⟩⟩ := h
  · intro b hb; simp [ob, Value.ownBlock] at hb
  · intro b hb; simp [ob, Value.ownBlock] at hb; subst hb; exact lt_of_heap hh
theorem rowS_ge {w : World} {B : Nat} {e : TypeId} {s : Nat} {v : Value} {n : Nat} {xs : List Value} (h : w.ownsRow B e s v n xs) : ∀ b ∈ ob v, B ≤ b := by
  obtain ⟨_, ⟨rfl, _⟩ | ⟨g, cap, cur, rfl, hg, _⟩⟩ := h
  · intro b hb; simp [ob, Value.ownBlock] at hb
  · intro b hb; simp [ob, Value.ownBlock] at hb; subst hb; exact hg
theorem rowS_form {w : World} {B : Nat} {e : TypeId} {s : Nat} {v : Value} {n : Nat} {xs : List Value} (h : w.ownsRow B e s v n xs) (hn : n ≠ 0) : ∃ g cap, v = .slice (some ⟨g, 0, none⟩) n cap ∧ g < w.heap.size ∧ B ≤ g ∧ n ≤ cap ∧ ∀ (j : Nat) x, xs[j]? = some x → w.cell? ⟨g, j, none⟩ = some x := by
  obtain ⟨h1, ⟨_, h2⟩ | ⟨g, cap, cur, rfl, hg, hh, hc, _, _, ht⟩⟩ := h
  · exact absurd h2 hn
  · refine ⟨g, cap, rfl, lt_of_heap hh, hg, hc, fun j x hj => ?_⟩
    rw [cell_of_heap hh]
    have e1 := congrArg (fun l => l[j]?) ht
    rw [hj] at e1
    have hjl : j < n * s := by
      have := (List.getElem?_eq_some_iff.1 hj).1
      omega
    rw [List.getElem?_take_of_lt hjl, Array.getElem?_toList] at e1
    exact e1
theorem rowS_slice {w : World} {B : Nat} {e : TypeId} {s : Nat} {v : Value} {n : Nat} {xs : List Value} (h : w.ownsRow B e s v n xs) : ∃ a cap, v = .slice a n cap := by
  obtain ⟨_, ⟨rfl, rfl⟩ | ⟨g, cap, cur, rfl, _⟩⟩ := h
  · exact ⟨_, _, rfl⟩
  · exact ⟨_, _, rfl⟩
theorem rowS_nil (w : World) (B : Nat) (e : TypeId) (s : Nat) : w.ownsRow B e s (.slice none 0 0) 0 [] := World.ownsRow_nil _ _ _ _

/-! ### an index of the program's -/
/-! ### the entry of noughts, and variables of entries -/
/-- A variable that is written whole. -/
theorem store_new (w : World) (T : TypeId) (old cs : Array Value) : ((w.alloc (.cells old T)).setRow w.heap.size cs).heap[w.heap.size]? = some (.cells cs T) ∧ Below w.heap.size w ((w.alloc (.cells old T)).setRow w.heap.size cs) := by
  refine ⟨setRow_heap _ _ _ _ _ _ (MapKept.heap_alloc w _).1, ?_⟩
  refine ((Below.refl _ w).alloc (Nat.le_refl _) (.cells old T)).trans ⟨rfl, rfl, rfl, by simp [World.setRow], fun k hk => ?_⟩
  exact setRow_other _ _ _ _ (by omega)
theorem setRow_size (w : World) (g : Nat) (cs : Array Value) : (w.setRow g cs).heap.size = w.heap.size := by simp [World.setRow]
theorem range_block {w : World} {g : Nat} {cs : Array Value} {T : TypeId} (h : w.heap[g]? = some (.cells cs T)) : w.rangeAt g 0 cs.toList := fun j v hv => by
  rw [Nat.zero_add, cell_of_heap h, ← Array.getElem?_toList]; exact hv
theorem one_size (w : World) (A : Obj) : (w.alloc A).heap.size = w.heap.size + 1 := by show (w.heap.push _).size = _; simp
theorem at_alloc {w : World} {x : Nat} {o : Obj} (h : w.heap[x]? = some o) (A : Obj) : (w.alloc A).heap[x]? = some o := (Below.heap_alloc _ _ _ (lt_of_heap h)).trans h
theorem map_tight {w : World} {b n n' : Nat} {α : Type} {enc : α → Value} {m : MV α} (h : w.ownsMap Tryd.prog 9 Rv b n (toD enc m)) (hs : m.length ≤ n') : w.ownsMap Tryd.prog 9 Rv b n' (toD enc m) := by
  obtain ⟨es, clock, h1, h2, h3, h4⟩ := h
  refine ⟨es, clock, h1, h2, ?_, h4⟩
  have := congrArg Maps.size h4
  rw [toD_size, Maps.size_eq, length_sorted] at this
  simp at this
  omega

end Go.Proofs.YtkdkifciajfpnaaDoor.St
/-
  Steps of a walk over variables of many cells: written whole, loaded whole, looked up in an index.
-/
namespace Go.Proofs.YtkdkifciajfpnaaDoor.St
open Go.RowKit Go.Maps Go.WideMaps Go.Proofs.YtkdkifciajfpnaaDoor.Rf

section
variable {P : Program} {ops : Array Oper} {rest : List Oper} {o : Oper} {a : Act} {w : World} {Q : Exit → Act → World → Prop}
/-- A fresh variable is written whole. -/
theorem wpList_store_new {old : Array Value} {T : TypeId} {p : Nat} (hp : p = w.heap.size) (hgd : o.guard = none) (ty : TypeId) (x y : Operand) (ho : o.op = .store ty x y)
    (cs : Array Value) (hx : a.eval x = .pointer (some ⟨p, 0, none⟩)) (hy : a.eval y = .agg cs) (hi : (P.info? ty).map (·.size) = some cs.size) (hold : old.size = cs.size) (h1 : cs.all (·.oneCell') = true)
    (h : ∀ w2 : World, w2.heap[p]? = some (.cells cs T) → Below p w w2 → w2.heap.size = p + 1 → wpList P ops Q rest (a.put o.dst undef) w2) :
    wpList P ops Q (o :: rest) a (w.alloc (.cells old T)) := by
  subst hp
  refine wpList_store_row hgd ty x y ho w.heap.size cs hx hy T old (MapKept.heap_alloc w _).1 hi hold h1 ?_
  obtain ⟨a1, a2⟩ := store_new w T old cs
  exact h _ a1 a2 (by rw [setRow_size, one_size])
/-- A variable is written whole. -/
theorem wpList_store_at {old : Array Value} {T : TypeId} {g : Nat} (hg : w.heap[g]? = some (.cells old T)) (hgd : o.guard = none) (ty : TypeId) (x y : Operand) (ho : o.op = .store ty x y)
    (cs : Array Value) (hx : a.eval x = .pointer (some ⟨g, 0, none⟩)) (hy : a.eval y = .agg cs) (hi : (P.info? ty).map (·.size) = some cs.size) (hold : old.size = cs.size) (h1 : cs.all (·.oneCell') = true)
    (h : ∀ w2 : World, w2.heap[g]? = some (.cells cs T) → Turn [g] w w2 → w2.heap.size = w.heap.size → wpList P ops Q rest (a.put o.dst undef) w2) :
    wpList P ops Q (o :: rest) a w := by
  refine wpList_store_row hgd ty x y ho g cs hx hy T old hg hi hold h1 ?_
  exact h _ (setRow_heap _ _ _ _ _ _ hg) ⟨rfl, rfl, rfl, by simp [World.setRow], fun k _ hk => setRow_other _ _ _ _ (by simpa using hk)⟩ (setRow_size _ _ _)
end

section
variable {ops : Array Oper} {rest : List Oper} {o : Oper} {a : Act} {w : World} {Q : Exit → Act → World → Prop} {B g b : Nat} {L : List SE}
end

/-! ### Get -/
end Go.Proofs.YtkdkifciajfpnaaDoor.St
/-
  Steps of a region that draws its order, over variables of many cells.
-/
namespace Go.Proofs.YtkdkifciajfpnaaDoor.St
open Go.RowKit Go.Maps Go.WideMaps Go.Proofs.YtkdkifciajfpnaaDoor.Rf

section
variable {P : Program} {ops : Array Oper} {o : Oper} {a : Act} {w : World} {K : Act → World → Prop} {Q : Exit → Act → World → Prop} {E : Prop}
theorem step_wp (hgd : o.guard = none) (h : Oper.wp P o a w K Q) : if Region.wanted o (yielded ops a.tmps) = true then Oper.wp P o a w K Q else E := by
  have hw : Region.wanted o (yielded ops a.tmps) = true := by simp [Region.wanted, hgd]
  rw [if_pos hw]
  exact h
theorem wp_store_new {old : Array Value} {T : TypeId} {p : Nat} (hp : p = w.heap.size) (ty : TypeId) (x y : Operand) (ho : o.op = .store ty x y)
    (cs : Array Value) (hx : a.eval x = .pointer (some ⟨p, 0, none⟩)) (hy : a.eval y = .agg cs) (hi : (P.info? ty).map (·.size) = some cs.size) (hold : old.size = cs.size) (h1 : cs.all (·.oneCell') = true)
    (h : ∀ w2 : World, w2.heap[p]? = some (.cells cs T) → Below p w w2 → w2.heap.size = p + 1 → K (a.put o.dst undef) w2) :
    o.wp P a (w.alloc (.cells old T)) K Q := by
  subst hp
  refine wp_store_row ty x y ho w.heap.size cs hx hy T old (MapKept.heap_alloc w _).1 hi hold h1 ?_
  obtain ⟨a1, a2⟩ := store_new w T old cs
  exact h _ a1 a2 (by rw [setRow_size, one_size])
theorem wp_store_at {old : Array Value} {T : TypeId} {g : Nat} (hg : w.heap[g]? = some (.cells old T)) (ty : TypeId) (x y : Operand) (ho : o.op = .store ty x y)
    (cs : Array Value) (hx : a.eval x = .pointer (some ⟨g, 0, none⟩)) (hy : a.eval y = .agg cs) (hi : (P.info? ty).map (·.size) = some cs.size) (hold : old.size = cs.size) (h1 : cs.all (·.oneCell') = true)
    (h : ∀ w2 : World, w2.heap[g]? = some (.cells cs T) → Turn [g] w w2 → w2.heap.size = w.heap.size → K (a.put o.dst undef) w2) :
    o.wp P a w K Q := by
  refine wp_store_row ty x y ho g cs hx hy T old hg hi hold h1 ?_
  exact h _ (setRow_heap _ _ _ _ _ _ hg) ⟨rfl, rfl, rfl, by simp [World.setRow], fun k _ hk => setRow_other _ _ _ _ (by simpa using hk)⟩ (setRow_size _ _ _)
end

end Go.Proofs.YtkdkifciajfpnaaDoor.St
/-
  The contracts of Put and PutText.
-/
namespace Go.Proofs.YtkdkifciajfpnaaDoor.Rf
open Go.RowKit Go.Maps

theorem cat_list (S : ByteArray) (l : List UInt8) : S ++ ⟨l.toArray⟩ = (⟨(S.data.toList ++ l).toArray⟩ : ByteArray) := by
  congr 1
end Go.Proofs.YtkdkifciajfpnaaDoor.Rf
/-
  The contracts of the reader at any bytes: short, Uint, Take, Text, End.
-/
namespace Go.Proofs.YtkdkifciajfpnaaDoor.Rd
open Go.RowKit Go.Maps Go.WideMaps Go.Proofs.YtkdkifciajfpnaaDoor.Rf

theorem ba_ext {A B : ByteArray} (h : A.data.toList = B.data.toList) : A = B := by
  cases A; cases B
  congr 1
  exact Array.toList_inj.1 h
theorem ba_mk (s : ByteArray) : (⟨s.data.toList.toArray⟩ : ByteArray) = s := ba_ext (by simp)
theorem one_size (w : World) (A : Obj) : (w.alloc A).heap.size = w.heap.size + 1 := by show (w.heap.push _).size = _; simp

end Go.Proofs.YtkdkifciajfpnaaDoor.Rd
/-
  The contracts of the reader at any bytes: Uint, Take, Text, End.
-/
namespace Go.Proofs.YtkdkifciajfpnaaDoor.Rd
open Go.RowKit Go.Maps Go.WideMaps Go.Proofs.YtkdkifciajfpnaaDoor.Rf

/-- What is left behind a short number. -/
def shR (L : List UInt8) : List UInt8 := match rd0 L with | some p => L.drop p.2 | none => L
def tkR (n : Nat) (L : List UInt8) : List UInt8 := if n ≤ L.length then L.drop n else L
/-- A text with its length ahead: the text and what is left. -/
def txt (most : Nat) (L : List UInt8) : Option (List UInt8 × List UInt8) :=
  match rd0 L with
  | none => none
  | some p => if p.1 ≤ most ∧ p.1 ≤ L.length - p.2 then some ((L.drop p.2).take p.1, (L.drop p.2).drop p.1) else none
def txR (most : Nat) (L : List UInt8) : List UInt8 := match txt most L with | some p => p.2 | none => L
end Go.Proofs.YtkdkifciajfpnaaDoor.Rd
