import Derived.Test.YtpbhkaokgpacoaaGreatDoorZStPlain
import Derived.Test.YtpbhkaokgpacoaaGreatDoorZRfKit
import Derived.Laws.Tables
import Derived.Laws.ResultCell
import Derived.Deep.MidRow
import Derived.Deep.RegionHeld3
import Derived.Great.BuildSlice
import Derived.Laws.Shifts
import Derived.Laws.Closers25b
import Derived.Lib.ConvBytes
import Derived.Laws.Bits64
import Derived.Laws.Bits64b
import Derived.Test.YtpbhkaokgpacoaaGreatDoorZRfWire
import Derived.Lib.UnsafeStr
import Derived.Laws.BitsAllLaws
/-
  How an entry, and an index of the program's and of the reference's, lie in memory.
-/
namespace Go.Proofs.YtpbhkaokgpacoaaGreatDoor.St
open Go.RowKit Go.Maps Go.WideMaps Go.Proofs.YtpbhkaokgpacoaaGreatDoor.Rf

/-- The four cells of an entry's stat. -/
def SE.stat (e : SE) : List Value := [.int .u8 (e.node : Int), .int .i64 e.size, .int .u64 (e.ino : Int), .int .i64 e.tick]
/-- An entry's 38 cells. -/
def SE.cells (e : SE) : List Value := .string ⟨e.path.toArray⟩ :: .int .u8 (e.node : Int) :: .int .i64 e.size :: .int .u64 (e.ino : Int) :: .int .i64 e.tick :: .int .u8 (e.kind : Int) :: Lib.byteCells e.id
abbrev enV (e : SE) : Value := .agg e.cells.toArray
structure SE.Fits (e : SE) : Prop where
  path : e.path.length ≤ 140737488355328
  node : e.node < 256
  size : -9223372036854775808 ≤ e.size ∧ e.size < 9223372036854775808
  ino : e.ino < 18446744073709551616
  tick : -9223372036854775808 ≤ e.tick ∧ e.tick < 9223372036854775808
  kind : e.kind < 256
  id : e.id.length = 32
/-- The entry of noughts. -/
def zeroS : SE := ⟨[], 0, 0, 0, 0, 0, List.replicate 32 0⟩
theorem zero_fits : zeroS.Fits := ⟨by decide, by decide, by decide, by decide, by decide, by decide, by decide⟩
theorem cells_size {e : SE} (h : e.id.length = 32) : e.cells.length = 38 := by simp [SE.cells, Lib.byteCells_length, h]
theorem cells_one (e : SE) : ∀ u ∈ e.cells, u.oneCell' = true := by
  intro u hu
  simp only [SE.cells, List.mem_cons, Lib.byteCells, List.mem_map] at hu
  rcases hu with rfl | rfl | rfl | rfl | rfl | rfl | ⟨b, _, rfl⟩ <;> rfl
theorem cells_all (e : SE) : e.cells.toArray.all (·.oneCell') = true := Array.all_eq_true_iff_forall_mem.2 (fun u hu => cells_one e u (by simpa using hu))
def cellsS (L : List SE) : List Value := L.flatMap SE.cells
theorem cellsS_length {L : List SE} (h : ∀ e ∈ L, e.id.length = 32) : (cellsS L).length = 38 * L.length := by
  induction L with
  | nil => rfl
  | cons e r ih =>
    have h2 : (cellsS r).length = 38 * r.length := ih (fun x hx => h x (by simp [hx]))
    rw [cellsS, List.flatMap_cons, List.length_append, cells_size (h e (by simp)), ← cellsS, h2, List.length_cons]; omega
theorem cellsS_one {L : List SE} : ∀ u ∈ cellsS L, u.oneCell' = true := by
  intro u hu
  obtain ⟨e, _, hu⟩ := List.mem_flatMap.1 hu
  exact cells_one e u hu
theorem cellsS_append (A B : List SE) : cellsS (A ++ B) = cellsS A ++ cellsS B := by rw [cellsS, List.flatMap_append]; rfl
theorem cellsS_cons (e : SE) (B : List SE) : cellsS (e :: B) = e.cells ++ cellsS B := by rw [cellsS, List.flatMap_cons]; rfl
theorem cellsS_at {l : List SE} (h : ∀ e ∈ l, e.id.length = 32) {j : Nat} {e : SE} (hj : l[j]? = some e) {t : Nat} {v : Value} (hv : e.cells[t]? = some v) : (cellsS l)[j * 38 + t]? = some v := by
  obtain ⟨hjl, rfl⟩ := List.getElem?_eq_some_iff.1 hj
  have e1 : l = l.take j ++ (l[j] :: l.drop (j + 1)) := by rw [← List.drop_eq_getElem_cons hjl, List.take_append_drop]
  have h2 : (cellsS (l.take j)).length = 38 * j := by
    rw [cellsS_length (fun e he => h e (List.mem_of_mem_take he)), List.length_take, Nat.min_eq_left (by omega)]
  have ht := (List.getElem?_eq_some_iff.1 hv).1
  have e2 : cellsS l = cellsS (l.take j) ++ (l[j].cells ++ cellsS (l.drop (j + 1))) := by
    conv => lhs; rw [e1]
    rw [cellsS_append, cellsS_cons]
  rw [e2, List.getElem?_append_right (by omega), h2, show j * 38 + t - 38 * j = t by omega, List.getElem?_append_left ht]
  exact hv

/-! ### rows of many cells -/
theorem rowS_kept {w w' : World} {B : Nat} {e : TypeId} {s : Nat} {v : Value} {n : Nat} {xs : List Value} (h : w.ownsRow B e s v n xs) (hb : ∀ b ∈ ob v, b < w.heap.size → w'.heap[b]? = w.heap[b]?) : w'.ownsRow B e s v n xs := by
  obtain ⟨h1, h2 | ⟨g, cap, cur, rfl, a, b, c⟩⟩ := h
  · exact ⟨h1, .inl h2⟩
  · exact ⟨h1, .inr ⟨g, cap, cur, rfl, a, (hb g (by simp [ob, Value.ownBlock]) (lt_of_heap b)).trans b, c⟩⟩
theorem rowS_lt {w : World} {B : Nat} {e : TypeId} {s : Nat} {v : Value} {n : Nat} {xs : List Value} (h : w.ownsRow B e s v n xs) : ∀ b ∈ ob v, b < w.heap.size := by
  obtain ⟨_, ⟨rfl, _⟩ | ⟨g, cap, cur, rfl, _, hh, _⟩⟩ := h
  · intro b hb; simp [ob, Value.ownBlock] at hb
  · intro b hb; simp [ob, Value.ownBlock] at hb; subst hb; exact lt_of_heap hh
theorem rowS_ge {w : World} {B : Nat} {e : TypeId} {s : Nat} {v : Value} {n : Nat} {xs : List Value} (h : w.ownsRow B e s v n xs) : ∀ b ∈ ob v, B ≤ b := by
  obtain ⟨_, ⟨rfl, _⟩ | ⟨g, cap, cur, rfl, hg, _⟩⟩ := h
  · intro b hb; simp [ob, Value.ownBlock] at hb
  · intro b hb; simp [ob, Value.ownBlock] at hb; subst hb; exact hg
theorem rowS_form {w : World} {B : Nat} {e : TypeId} {s : Nat} {v : Value} {n : Nat} {xs : List Value} (h : w.ownsRow B e s v n xs) (hn : n ≠ 0) : ∃ g cap, v = .slice (some ⟨g, 0, none⟩) n cap ∧ g < w.heap.size ∧ B ≤ g ∧ n ≤ cap ∧ ∀ (j : Nat) x, xs[j]? = some x → w.cell? ⟨g, j, none⟩ = some x := by
  obtain ⟨h1, ⟨_, h2⟩ | ⟨g, cap, cur, rfl, hg, hh, hc, _, _, ht⟩⟩ := h
  · exact absurd h2 hn
  · refine ⟨g, cap, rfl, lt_of_heap hh, hg, hc, fun j x hj => ?_⟩
    rw [cell_of_heap hh]
    have e1 := congrArg (fun l => l[j]?) ht
    rw [hj] at e1
    have hjl : j < n * s := by
      have := (List.getElem?_eq_some_iff.1 hj).1
      omega
    rw [List.getElem?_take_of_lt hjl, Array.getElem?_toList] at e1
    exact e1
theorem rowS_slice {w : World} {B : Nat} {e : TypeId} {s : Nat} {v : Value} {n : Nat} {xs : List Value} (h : w.ownsRow B e s v n xs) : ∃ a cap, v = .slice a n cap := by
  obtain ⟨_, ⟨rfl, rfl⟩ | ⟨g, cap, cur, rfl, _⟩⟩ := h
  · exact ⟨_, _, rfl⟩
  · exact ⟨_, _, rfl⟩
theorem rowS_nil (w : World) (B : Nat) (e : TypeId) (s : Nat) : w.ownsRow B e s (.slice none 0 0) 0 [] := World.ownsRow_nil _ _ _ _

/-! ### an index of the program's -/
structure IndexAt (B : Nat) (w : World) (g b : Nat) (L : List SE) : Prop where
  book : w.heap[g]? = some (.cells #[.map (some b)] 92)
  map : w.ownsMap Tryz.prog 9 Rv b 1000000 (toD enV (toZ L))
  gb : g ≠ b
  baseg : B ≤ g
  baseb : B ≤ b
  srt : Srt L
  fits : ∀ e ∈ L, e.Fits
  len : L.length ≤ 65536
theorem IndexAt.lt_g {B : Nat} {w : World} {g b : Nat} {L : List SE} (h : IndexAt B w g b L) : g < w.heap.size := lt_of_heap h.book
theorem IndexAt.lt_b {B : Nat} {w : World} {g b : Nat} {L : List SE} (h : IndexAt B w g b L) : b < w.heap.size := h.map.lt
theorem IndexAt.kept {B : Nat} {w w' : World} {g b : Nat} {L : List SE} (h : IndexAt B w g b L) (hg : w'.heap[g]? = w.heap[g]?) (hb : w'.heap[b]? = w.heap[b]?) : IndexAt B w' g b L :=
  ⟨hg.trans h.book, ownsMap_block h.map hb, h.gb, h.baseg, h.baseb, h.srt, h.fits, h.len⟩
theorem IndexAt.below {B : Nat} {w w' : World} {g b : Nat} {L : List SE} (h : IndexAt B w g b L) (hb : Below w.heap.size w w') : IndexAt B w' g b L := h.kept (hb.block _ h.lt_g) (hb.block _ h.lt_b)
theorem IndexAt.mono {B B' : Nat} {w : World} {g b : Nat} {L : List SE} (h : IndexAt B w g b L) (hB : B' ≤ B) : IndexAt B' w g b L :=
  ⟨h.book, h.map, h.gb, Nat.le_trans hB h.baseg, Nat.le_trans hB h.baseb, h.srt, h.fits, h.len⟩
theorem IndexAt.get {B : Nat} {w : World} {g b : Nat} {L : List SE} (h : IndexAt B w g b L) (p : List UInt8) : getM (toZ L) p = getL p L := toZ_get p h.srt
theorem IndexAt.fitsGet {B : Nat} {w : World} {g b : Nat} {L : List SE} (h : IndexAt B w g b L) (p : List UInt8) : ((getL p L).getD zeroS).Fits := by
  cases hg : getL p L with
  | none => exact zero_fits
  | some e => exact h.fits e (getL_path hg).2

/-! ### the entry of noughts, and variables of entries -/
theorem zeroEn (w : World) : (zeroValue 44).run Tryz.prog w = .ok (enV zeroS) w := by kernel_rfl
theorem zeroEnR (w : World) : (zeroValue 49).run Tryz.prog w = .ok (enV zeroS) w := by kernel_rfl
theorem built0 : Tryz.prog.built 44 [] = some zeroS.cells.toArray := by kernel_rfl
theorem built0R : Tryz.prog.built 49 [] = some zeroS.cells.toArray := by kernel_rfl
theorem infoEn {e : SE} (h : e.id.length = 32) : (Tryz.prog.info? 44).map (·.size) = some e.cells.toArray.size := by
  rw [List.size_toArray, cells_size h]; kernel_rfl
theorem infoEnR {e : SE} (h : e.id.length = 32) : (Tryz.prog.info? 49).map (·.size) = some e.cells.toArray.size := by
  rw [List.size_toArray, cells_size h]; kernel_rfl
/-- A look-up by a text. -/
theorem IndexAt.look {B : Nat} {w : World} {g b : Nat} {L : List SE} (h : IndexAt B w g b L) (S : ByteArray) (hS : S.size ≤ maxLen) :
    (Instr.lookup 90 (.map (some b)) (.string S) true).run Tryz.prog w = .ok (.tuple #[enV ((getL S.data.toList L).getD zeroS), .bool (getL S.data.toList L).isSome]) w := by
  have := look_run Tryz.underlying90 zeroEn h.map S hS
  rw [h.get] at this
  rw [this]
  cases getL S.data.toList L <;> rfl
theorem IndexAt.look1 {B : Nat} {w : World} {g b : Nat} {L : List SE} (h : IndexAt B w g b L) (S : ByteArray) (hS : S.size ≤ maxLen) :
    (Instr.lookup 90 (.map (some b)) (.string S) false).run Tryz.prog w = .ok (enV ((getL S.data.toList L).getD zeroS)) w := by
  have := look_run1 Tryz.underlying90 zeroEn h.map S hS
  rw [h.get] at this
  rw [this]
  cases getL S.data.toList L <;> rfl
/-- A variable that is written whole. -/
theorem store_new (w : World) (T : TypeId) (old cs : Array Value) : ((w.alloc (.cells old T)).setRow w.heap.size cs).heap[w.heap.size]? = some (.cells cs T) ∧ Below w.heap.size w ((w.alloc (.cells old T)).setRow w.heap.size cs) := by
  refine ⟨setRow_heap _ _ _ _ _ _ (MapKept.heap_alloc w _).1, ?_⟩
  refine ((Below.refl _ w).alloc (Nat.le_refl _) (.cells old T)).trans ⟨rfl, rfl, rfl, by simp [World.setRow], fun k hk => ?_⟩
  exact setRow_other _ _ _ _ (by omega)
theorem setRow_size (w : World) (g : Nat) (cs : Array Value) : (w.setRow g cs).heap.size = w.heap.size := by simp [World.setRow]
theorem below_setRow {B g : Nat} {w0 w : World} (hb : Below B w0 w) (hBg : B ≤ g) (cs : Array Value) : Below B w0 (w.setRow g cs) :=
  hb.trans ⟨rfl, rfl, rfl, by simp [World.setRow], fun k hk => setRow_other _ _ _ _ (by omega)⟩
theorem range_block {w : World} {g : Nat} {cs : Array Value} {T : TypeId} (h : w.heap[g]? = some (.cells cs T)) : w.rangeAt g 0 cs.toList := fun j v hv => by
  rw [Nat.zero_add, cell_of_heap h, ← Array.getElem?_toList]; exact hv
theorem one_size (w : World) (A : Obj) : (w.alloc A).heap.size = w.heap.size + 1 := by show (w.heap.push _).size = _; simp
theorem at_alloc {w : World} {x : Nat} {o : Obj} (h : w.heap[x]? = some o) (A : Obj) : (w.alloc A).heap[x]? = some o := (Below.heap_alloc _ _ _ (lt_of_heap h)).trans h
theorem at_setRow {w : World} {x g : Nat} {o : Obj} (h : w.heap[x]? = some o) (hne : x ≠ g) (cs : Array Value) : (w.setRow g cs).heap[x]? = some o := (setRow_other _ _ _ _ hne).trans h

theorem delM_length {α : Type} (m : MV α) (k : List UInt8) : (delM m k).length ≤ m.length := List.length_filter_le _ _
theorem putM_length {α : Type} (m : MV α) (k : List UInt8) (n : α) : (putM m k n).length ≤ m.length + 1 := by
  rw [(put_perm k n m).length_eq, List.length_cons]; have := delM_length m k; omega
theorem map_tight {w : World} {b n n' : Nat} {α : Type} {enc : α → Value} {m : MV α} (h : w.ownsMap Tryz.prog 9 Rv b n (toD enc m)) (hs : m.length ≤ n') : w.ownsMap Tryz.prog 9 Rv b n' (toD enc m) := by
  obtain ⟨es, clock, h1, h2, h3, h4⟩ := h
  refine ⟨es, clock, h1, h2, ?_, h4⟩
  have := congrArg Maps.size h4
  rw [toD_size, Maps.size_eq, length_sorted] at this
  simp at this
  omega

set_option maxRecDepth 100000 in
theorem new_any (w : World) :
    Calls Tryz.prog 7 #[] w fun e w' => ∃ g b, e = .returned (ptr g) ∧ IndexAt w.heap.size w' g b [] ∧ Below w.heap.size w w' := by
  have hmm := @run_makeMap Tryz.prog
  go_enter Tryz.func7, Tryz.ntmps7
  go_wp2
  go_ret
  have hs : (w.alloc (.map #[] 0)).heap.size = w.heap.size + 1 := by show (w.heap.push _).size = _; simp
  refine ⟨w.heap.size + 1, w.heap.size, rfl, ?_, ((Below.refl _ _).alloc (Nat.le_refl _) _).alloc (by rw [hs]; omega) _⟩
  refine ⟨?_, ?_, by omega, by omega, by omega, List.Pairwise.nil, by simp, by simp⟩
  · have := (MapKept.heap_alloc (w.alloc (.map #[] 0)) (.cells #[.map (some w.heap.size)] 92)).1
    rwa [hs] at this
  · exact map_tight (enc := enV) (m := toZ []) ((World.ownsMap_made w Tryz.prog 9 Rv).alloc _) (by decide)

set_option maxRecDepth 100000 in
theorem len_any (B : Nat) (w : World) (g b : Nat) (L : List SE) (h : IndexAt B w g b L) :
    Calls Tryz.prog 34 #[ptr g] w fun e w' => e = .returned (.int .i64 (L.length : Int)) ∧ w' = w := by
  have c0 : w.cell? ⟨g, 0, none⟩ = some (.map (some b)) := cell_of_heap h.book
  have hlen := h.map.len Tryz.underlying90
  simp only [toD_size, toZ_length] at hlen
  unfold ptr
  go_enter Tryz.func34, Tryz.ntmps34
  go_wp2
  go_ret
  exact ⟨rfl, rfl⟩
end Go.Proofs.YtpbhkaokgpacoaaGreatDoor.St
/-
  Steps of a walk over variables of many cells: written whole, loaded whole, looked up in an index.
-/
namespace Go.Proofs.YtpbhkaokgpacoaaGreatDoor.St
open Go.RowKit Go.Maps Go.WideMaps Go.Proofs.YtpbhkaokgpacoaaGreatDoor.Rf

section
variable {P : Program} {ops : Array Oper} {rest : List Oper} {o : Oper} {a : Act} {w : World} {Q : Exit → Act → World → Prop}
/-- A fresh variable is written whole. -/
theorem wpList_store_new {old : Array Value} {T : TypeId} {p : Nat} (hp : p = w.heap.size) (hgd : o.guard = none) (ty : TypeId) (x y : Operand) (ho : o.op = .store ty x y)
    (cs : Array Value) (hx : a.eval x = .pointer (some ⟨p, 0, none⟩)) (hy : a.eval y = .agg cs) (hi : (P.info? ty).map (·.size) = some cs.size) (hold : old.size = cs.size) (h1 : cs.all (·.oneCell') = true)
    (h : ∀ w2 : World, w2.heap[p]? = some (.cells cs T) → Below p w w2 → w2.heap.size = p + 1 → wpList P ops Q rest (a.put o.dst undef) w2) :
    wpList P ops Q (o :: rest) a (w.alloc (.cells old T)) := by
  subst hp
  refine wpList_store_row hgd ty x y ho w.heap.size cs hx hy T old (MapKept.heap_alloc w _).1 hi hold h1 ?_
  obtain ⟨a1, a2⟩ := store_new w T old cs
  exact h _ a1 a2 (by rw [setRow_size, one_size])
/-- A variable is written whole. -/
theorem wpList_store_at {old : Array Value} {T : TypeId} {g : Nat} (hg : w.heap[g]? = some (.cells old T)) (hgd : o.guard = none) (ty : TypeId) (x y : Operand) (ho : o.op = .store ty x y)
    (cs : Array Value) (hx : a.eval x = .pointer (some ⟨g, 0, none⟩)) (hy : a.eval y = .agg cs) (hi : (P.info? ty).map (·.size) = some cs.size) (hold : old.size = cs.size) (h1 : cs.all (·.oneCell') = true)
    (h : ∀ w2 : World, w2.heap[g]? = some (.cells cs T) → Turn [g] w w2 → w2.heap.size = w.heap.size → wpList P ops Q rest (a.put o.dst undef) w2) :
    wpList P ops Q (o :: rest) a w := by
  refine wpList_store_row hgd ty x y ho g cs hx hy T old hg hi hold h1 ?_
  exact h _ (setRow_heap _ _ _ _ _ _ hg) ⟨rfl, rfl, rfl, by simp [World.setRow], fun k _ hk => setRow_other _ _ _ _ (by simpa using hk)⟩ (setRow_size _ _ _)
end

section
variable {ops : Array Oper} {rest : List Oper} {o : Oper} {a : Act} {w : World} {Q : Exit → Act → World → Prop} {B g b : Nat} {L : List SE}
theorem wpList_look (h : IndexAt B w g b L) (hgd : o.guard = none) (m x : Operand) (ho : o.op = .lookup 90 m x true) (hm : a.eval m = .map (some b)) (S : ByteArray) (hx : a.eval x = .string S) (hS : S.size ≤ maxLen)
    (k : wpList Tryz.prog ops Q rest (a.put o.dst (.tuple #[enV ((getL S.data.toList L).getD zeroS), .bool (getL S.data.toList L).isSome])) w) : wpList Tryz.prog ops Q (o :: rest) a w :=
  wpList_plain hgd fun _ hK => by
    unfold Oper.wp
    simp [execOp, ho, hm, hx, h.look S hS, Result.andThen]
    exact hK _ _ k
theorem wpList_look1 (h : IndexAt B w g b L) (hgd : o.guard = none) (m x : Operand) (ho : o.op = .lookup 90 m x false) (hm : a.eval m = .map (some b)) (S : ByteArray) (hx : a.eval x = .string S) (hS : S.size ≤ maxLen)
    (k : wpList Tryz.prog ops Q rest (a.put o.dst (enV ((getL S.data.toList L).getD zeroS))) w) : wpList Tryz.prog ops Q (o :: rest) a w :=
  wpList_plain hgd fun _ hK => by
    unfold Oper.wp
    simp [execOp, ho, hm, hx, h.look1 S hS, Result.andThen]
    exact hK _ _ k
end

/-! ### Get -/
def getV (p : List UInt8) (L : List SE) : SE := (getL p L).getD zeroS
def getE (p : List UInt8) (L : List SE) : Int := if (getL p L).isSome then 0 else 6

/-- The facts that a variable for an entry asks for. -/
structure EnOk (e : SE) : Prop where
  info : (Tryz.prog.info? 44).map (·.size) = some e.cells.toArray.size
  infoL : (Tryz.prog.info? 44).map (·.size) = some e.cells.length
  z : 38 = e.cells.toArray.size
  one : e.cells.toArray.all (·.oneCell') = true
theorem SE.Fits.en {e : SE} (h : e.Fits) : EnOk e :=
  ⟨infoEn h.id, by rw [cells_size h.id]; kernel_rfl, by rw [List.size_toArray, cells_size h.id], cells_all e⟩

set_option maxHeartbeats 4000000 in
set_option maxRecDepth 100000 in
theorem get_any (B : Nat) (w : World) (g b : Nat) (L : List SE) (S : ByteArray) (hS : S.size ≤ maxLen) (h : IndexAt B w g b L) :
    Calls Tryz.prog 20 #[ptr g, .string S] w fun e w' => e = .returned (.tuple #[enV (getV S.data.toList L), .int .i64 (getE S.data.toList L)]) ∧ Below w.heap.size w w' := by
  have c0 : w.cell? ⟨g, 0, none⟩ = some (.map (some b)) := cell_of_heap h.book
  have hgl := h.lt_g
  have LK : Hid (∀ W : World, Below w.heap.size w W → IndexAt B W g b L) := Lib.hid (fun W hb => h.below hb)
  have ZOK := Lib.hid zero_fits.en
  have hfit := h.fits
  clear h
  unfold ptr getV getE
  cases hg : getL S.data.toList L with
  | none =>
    have HG := Lib.hid hg
    clear hg hfit
    go_enter Tryz.func20, Tryz.ntmps20
    go_wp2_with (first
      | (refine wpList_look (LK.out _ ((Below.refl _ _).alloc (Nat.le_refl _) _)) rfl _ _ rfl rfl S rfl hS ?_; rw [HG.out])
      | (refine wpList_store_new (by first | rfl | rw [one_size]) rfl _ _ _ rfl zeroS.cells.toArray rfl rfl ZOK.out.info ZOK.out.z ZOK.out.one ?_
         intro w2 hq2 hb2 hs2
         have hq1 : w2.heap[w.heap.size]? = some (.cells zeroS.cells.toArray 44) := (hb2.block _ (Nat.lt_succ_self _)).trans (MapKept.heap_alloc w _).1
         have HB := Lib.hid (((Below.refl w.heap.size w).alloc (Nat.le_refl _) _).trans (hb2.mono (Nat.le_succ _)))
         have HQ1 := Lib.hid hq1
         clear hq2 hb2 hs2 hq1)
      | (refine wpList_store_at HQ1.out rfl _ _ _ rfl zeroS.cells.toArray rfl rfl ZOK.out.info rfl ZOK.out.one ?_
         intro w3 hq3 ht3 hs3
         have HQ3 := Lib.hid hq3; have HT3 := Lib.hid ht3
         clear hq3 ht3 hs3))
    have hld := run_loadVar_row (P := Tryz.prog) w3 w.heap.size _ 44 zeroS.cells.toArray _ _ HQ3.out Tryz.underlying44 rfl ZOK.out.info
    refine bodyPost_ret (v := .tuple #[enV zeroS, .int .i64 6]) ?_ rfl ?_
    · rw [results_cell_tmp (fn := Tryz.f20) rfl]
      show ((asAddr (.pointer (some ⟨w.heap.size, 0, none⟩))).run Tryz.prog _).andThen _ = _
      simp only [asAddr, Sem.run_pure, Result.andThen_ok, hld]
      rfl
    · exact ⟨rfl, HB.out.trans (HT3.out.below (by simp) HB.out.size)⟩
  | some en =>
    have HG := Lib.hid hg
    have EOK := Lib.hid (hfit en (getL_path hg).2).en
    clear hg hfit
    go_enter Tryz.func20, Tryz.ntmps20
    go_wp2_with (first
      | (refine wpList_look (LK.out _ ((Below.refl _ _).alloc (Nat.le_refl _) _)) rfl _ _ rfl rfl S rfl hS ?_; rw [HG.out])
      | (refine wpList_store_new (by first | rfl | rw [one_size]) rfl _ _ _ rfl en.cells.toArray rfl rfl EOK.out.info EOK.out.z EOK.out.one ?_
         intro w2 hq2 hb2 hs2
         have hq1 : w2.heap[w.heap.size]? = some (.cells zeroS.cells.toArray 44) := (hb2.block _ (Nat.lt_succ_self _)).trans (MapKept.heap_alloc w _).1
         have HB := Lib.hid (((Below.refl w.heap.size w).alloc (Nat.le_refl _) _).trans (hb2.mono (Nat.le_succ _)))
         have HQ1 := Lib.hid hq1; have HQ2 := Lib.hid hq2
         clear hq2 hb2 hs2 hq1)
      | (refine wpList_load_mid rfl _ _ rfl (w.heap.size + 1) 0 rfl en.cells _ (range_block HQ2.out) Tryz.underlying44 rfl EOK.out.infoL ?_)
      | (refine wpList_store_at HQ1.out rfl _ _ _ rfl en.cells.toArray rfl rfl EOK.out.info EOK.out.z EOK.out.one ?_
         intro w3 hq3 ht3 hs3
         have HQ3 := Lib.hid hq3; have HT3 := Lib.hid ht3
         clear hq3 ht3 hs3))
    have hld := run_loadVar_row (P := Tryz.prog) w3 w.heap.size _ 44 en.cells.toArray _ _ HQ3.out Tryz.underlying44 rfl EOK.out.info
    refine bodyPost_ret (v := .tuple #[enV en, .int .i64 0]) ?_ rfl ?_
    · rw [results_cell_tmp (fn := Tryz.f20) rfl]
      show ((asAddr (.pointer (some ⟨w.heap.size, 0, none⟩))).run Tryz.prog _).andThen _ = _
      simp only [asAddr, Sem.run_pure, Result.andThen_ok, hld]
      rfl
    · exact ⟨rfl, HB.out.trans (HT3.out.below (by simp) HB.out.size)⟩
end Go.Proofs.YtpbhkaokgpacoaaGreatDoor.St
/-
  Steps of a region that draws its order, over variables of many cells.
-/
namespace Go.Proofs.YtpbhkaokgpacoaaGreatDoor.St
open Go.RowKit Go.Maps Go.WideMaps Go.Proofs.YtpbhkaokgpacoaaGreatDoor.Rf

theorem run_look {o : Oper} {a : Act} {w : World} {m x : Operand} {c : Bool} {T : TypeId} {mv k v : Value} (ho : o.op = .lookup T m x c) (hm : a.eval m = mv) (hx : a.eval x = k) (h : (Instr.lookup T mv k c).run Tryz.prog w = .ok v w) : (execOp a.eval o).run Tryz.prog w = .ok (.value v) w := by
  simp [execOp, ho, hm, hx, h, Result.andThen]

section
variable {P : Program} {ops : Array Oper} {o : Oper} {a : Act} {w : World} {K : Act → World → Prop} {Q : Exit → Act → World → Prop} {E : Prop}
theorem step_wp (hgd : o.guard = none) (h : Oper.wp P o a w K Q) : if Region.wanted o (yielded ops a.tmps) = true then Oper.wp P o a w K Q else E := by
  have hw : Region.wanted o (yielded ops a.tmps) = true := by simp [Region.wanted, hgd]
  rw [if_pos hw]
  exact h
theorem wp_store_new {old : Array Value} {T : TypeId} {p : Nat} (hp : p = w.heap.size) (ty : TypeId) (x y : Operand) (ho : o.op = .store ty x y)
    (cs : Array Value) (hx : a.eval x = .pointer (some ⟨p, 0, none⟩)) (hy : a.eval y = .agg cs) (hi : (P.info? ty).map (·.size) = some cs.size) (hold : old.size = cs.size) (h1 : cs.all (·.oneCell') = true)
    (h : ∀ w2 : World, w2.heap[p]? = some (.cells cs T) → Below p w w2 → w2.heap.size = p + 1 → K (a.put o.dst undef) w2) :
    o.wp P a (w.alloc (.cells old T)) K Q := by
  subst hp
  refine wp_store_row ty x y ho w.heap.size cs hx hy T old (MapKept.heap_alloc w _).1 hi hold h1 ?_
  obtain ⟨a1, a2⟩ := store_new w T old cs
  exact h _ a1 a2 (by rw [setRow_size, one_size])
/-- A load of many cells, under a guard that holds. -/
theorem wpList_want_load {rest : List Oper} {Q : Exit → Act → World → Prop} (hw : Region.wanted o (yielded ops a.tmps) = true) (ty : TypeId) (x : Operand) (ho : o.op = .load ty x)
    (b off : Nat) (hx : a.eval x = .pointer (some ⟨b, off, none⟩)) (cs : List Value) (d : TypeDesc) (hc : w.rangeAt b off cs)
    (hu : P.underlying ty = some d) (hd : d.isRow = true) (hi : (P.info? ty).map (·.size) = some cs.length)
    (h : wpList P ops Q rest (a.put o.dst (.agg cs.toArray)) w) : wpList P ops Q (o :: rest) a w := by
  unfold wpList
  rw [if_pos hw]
  exact .inl (wp_load_mid ty x ho b off hx cs d hc hu hd hi h)
/-- An op whose value is known, under a guard that holds. -/
theorem wpList_want_run {rest : List Oper} {Q : Exit → Act → World → Prop} (hw : Region.wanted o (yielded ops a.tmps) = true) (v : Value) (hrun : (execOp a.eval o).run P w = .ok (.value v) w)
    (h : wpList P ops Q rest (a.put o.dst v) w) : wpList P ops Q (o :: rest) a w := by
  unfold wpList
  rw [if_pos hw]
  refine .inl ?_
  unfold Oper.wp
  rw [hrun]
  exact h
theorem wp_store_at {old : Array Value} {T : TypeId} {g : Nat} (hg : w.heap[g]? = some (.cells old T)) (ty : TypeId) (x y : Operand) (ho : o.op = .store ty x y)
    (cs : Array Value) (hx : a.eval x = .pointer (some ⟨g, 0, none⟩)) (hy : a.eval y = .agg cs) (hi : (P.info? ty).map (·.size) = some cs.size) (hold : old.size = cs.size) (h1 : cs.all (·.oneCell') = true)
    (h : ∀ w2 : World, w2.heap[g]? = some (.cells cs T) → Turn [g] w w2 → w2.heap.size = w.heap.size → K (a.put o.dst undef) w2) :
    o.wp P a w K Q := by
  refine wp_store_row ty x y ho g cs hx hy T old hg hi hold h1 ?_
  exact h _ (setRow_heap _ _ _ _ _ _ hg) ⟨rfl, rfl, rfl, by simp [World.setRow], fun k _ hk => setRow_other _ _ _ _ (by simpa using hk)⟩ (setRow_size _ _ _)
end

theorem cell_turn {X : List Nat} {w w' : World} (h : Turn X w w') {x j : Nat} {v : Value} (hx : x < w.heap.size) (hn : x ∉ X) (hc : w.cell? ⟨x, j, none⟩ = some v) : w'.cell? ⟨x, j, none⟩ = some v :=
  (World.cell?_of_block (a := ⟨x, j, none⟩) (h.block x hx hn)).trans hc
theorem range_turn {X : List Nat} {w w' : World} (h : Turn X w w') {x o : Nat} {cs : List Value} (hx : x < w.heap.size) (hn : x ∉ X) (hc : w.rangeAt x o cs) : w'.rangeAt x o cs :=
  fun j v hv => cell_turn h hx hn (hc j v hv)
/-- An entry laid into an index's map. -/
theorem IndexAt.store {B : Nat} {w : World} {g b : Nat} {L : List SE} (h : IndexAt B w g b L) {e : SE} (he : e.Fits) (hl : (insL e L).length ≤ 65536) :
    ∃ w', (Instr.mapUpdate 90 (.map (some b)) (.string ⟨e.path.toArray⟩) (enV e)).run Tryz.prog w = .ok () w' ∧ IndexAt B w' g b (insL e L) ∧ Turn [b] w w' := by
  obtain ⟨w', hrun, hown, ht⟩ := h.map.store law Tryz.underlying90 (by decide) (val := enV e) (keyK ⟨e.path.toArray⟩ (by show e.path.length ≤ _; have := he.path; unfold maxLen; omega)) rfl
  have t := ht.grown
  have hT : Turn [b] w w' := ⟨t.os, t.tape, t.output, t.size, fun k hk hx => t.block k hk (by simpa using hx)⟩
  refine ⟨w', hrun, ⟨(hT.block _ h.lt_g (by simpa using h.gb)).trans h.book, ?_, h.gb, h.baseg, h.baseb, insL_srt e h.srt, fun x hx => ?_, hl⟩, hT⟩
  · have e1 : (⟨e.path.toArray⟩ : ByteArray).data.toList = e.path := by simp
    rw [e1, toD_put enV (toZ L) e.path e, toZ_put h.srt] at hown
    exact map_tight hown (by rw [toZ_length]; omega)
  · rcases mem_insL hx with rfl | hx
    · exact he
    · exact h.fits x hx
theorem insL_same {e : SE} : ∀ {L : List SE}, (getL e.path L).isSome = true → (insL e L).length = L.length
  | [], h => by simp [getL] at h
  | y :: r, h => by
    rw [getL] at h; rw [insL]
    split
    · next hy => rw [if_pos hy] at h; simp [insL_same h]
    · next hy =>
      rw [if_neg hy] at h
      split
      · rfl
      · next hp => rw [if_neg hp] at h; cases h
end Go.Proofs.YtpbhkaokgpacoaaGreatDoor.St
/-
  The contracts of Drop and Fresh.
-/
namespace Go.Proofs.YtpbhkaokgpacoaaGreatDoor.St
open Go.RowKit Go.Maps Go.WideMaps Go.Proofs.YtpbhkaokgpacoaaGreatDoor.Rf

theorem IndexAt.delete {B : Nat} {w w' : World} {g b : Nat} {L : List SE} (h : IndexAt B w g b L) {p : List UInt8} (hown : w'.ownsMap Tryz.prog 9 Rv b 1000000 ((toD enV (toZ L)).del (.string p))) (ht : Turn [b] w w') : IndexAt B w' g b (remL p L) := by
  rw [toD_del, toZ_del p h.srt] at hown
  have hs := remL_sub p L
  exact ⟨(ht.block _ h.lt_g (by simpa using h.gb)).trans h.book, hown, h.gb, h.baseg, h.baseb, remL_srt h.srt, fun x hx => h.fits x (hs.mem hx), Nat.le_trans hs.length_le h.len⟩

set_option maxHeartbeats 4000000 in
set_option maxRecDepth 100000 in
theorem drop_any (B : Nat) (w : World) (g b : Nat) (L : List SE) (S : ByteArray) (hS : S.size ≤ maxLen) (h : IndexAt B w g b L) :
    Calls Tryz.prog 14 #[ptr g, .string S] w fun e w' => e = .returned (.int .i64 (getE S.data.toList L)) ∧ IndexAt B w' g b (remL S.data.toList L) ∧ Turn [b] w w' := by
  have GT := Lib.hid (get_any B w g b L S hS h)
  have VOK := Lib.hid (h.fitsGet S.data.toList).en
  have H := Lib.hid h
  unfold ptr getE getV at *
  obtain ⟨V, hV⟩ : ∃ V, V = (getL S.data.toList L).getD zeroS := ⟨_, rfl⟩
  rw [← hV] at GT VOK
  clear hV h
  cases hg : getL S.data.toList L with
  | none =>
    rw [hg] at GT
    have HRN := Lib.hid (remL_none hg)
    clear hg
    go_enter Tryz.func14, Tryz.ntmps14
    go_wp2_with fail
    refine GT.out.mono ?_
    rintro e w1 ⟨rfl, hb1⟩
    have HB1 := Lib.hid hb1
    clear hb1 GT
    go_wp2_with (first
      | (refine wpList_store_new (by first | rfl | rw [one_size]) rfl _ _ _ rfl V.cells.toArray rfl rfl VOK.out.info VOK.out.z VOK.out.one ?_
         intro w2 hq2 hb2 hs2
         have HB2 := Lib.hid (HB1.out.trans (hb2.mono HB1.out.size))
         clear hq2 hb2 hs2))
    go_ret
    rw [HRN.out]
    exact ⟨rfl, H.out.below HB2.out, Turn.of_below HB2.out⟩
  | some en =>
    rw [hg] at GT
    clear hg
    go_enter Tryz.func14, Tryz.ntmps14
    go_wp2_with fail
    refine GT.out.mono ?_
    rintro e w1 ⟨rfl, hb1⟩
    have HB1 := Lib.hid hb1
    clear hb1 GT
    go_wp2_with (first
      | (refine wpList_store_new (by first | rfl | rw [one_size]) rfl _ _ _ rfl V.cells.toArray rfl rfl VOK.out.info VOK.out.z VOK.out.one ?_
         intro w2 hq2 hb2 hs2
         have HB2 := Lib.hid (HB1.out.trans (hb2.mono HB1.out.size))
         have H2 := Lib.hid (H.out.below HB2.out)
         have c2 : w2.cell? ⟨g, 0, none⟩ = some (.map (some b)) := cell_of_heap H2.out.book
         have HM := Lib.hid H2.out.map
         clear hq2 hb2 hs2)
      | (at_delete
         refine wpList_delete_own _ rfl _ _ 90 9 rfl 44 law Tryz.underlying90 _ b 1000000 _ rfl HM.out _ _ rfl (keyK S hS) ?_
         intro w3 hown3 hturn3
         have HO := Lib.hid hown3; have HT := Lib.hid hturn3
         clear hown3 hturn3))
    go_ret
    have t := HT.out.grown
    have hT : Turn [b] w2 w3 := ⟨t.os, t.tape, t.output, t.size, fun k hk hx => t.block k hk (by simpa using hx)⟩
    exact ⟨rfl, H2.out.delete HO.out hT, (Turn.of_below HB2.out : Turn [b] w w2).trans hT (fun y hy => .inl hy)⟩

/-- Is an entry's stat this one? -/
def statIs (e s : SE) : Bool := decide (e.node = s.node) && decide (e.size = s.size) && decide (e.ino = s.ino) && decide (e.tick = s.tick)
def freshX (p : List UInt8) (s : SE) (L : List SE) : SE × Bool :=
  match getL p L with
  | none => (zeroS, false)
  | some e => if statIs e s then (e, true) else (zeroS, false)
theorem neq_stat (w : World) (e s : SE) : (binOp .neq 40 (.agg e.stat.toArray) (.agg s.stat.toArray)).run Tryz.prog w = .ok (.bool (!statIs e s)) w := by
  unfold SE.stat statIs
  go_simp
  by_cases h1 : e.node = s.node
  · by_cases h2 : e.size = s.size
    · by_cases h3 : e.ino = s.ino
      · by_cases h4 : e.tick = s.tick
        · simp [h1, h2, h3, h4]
        · simp [h1, h2, h3, h4]
      · have h3' : ¬ (e.ino : Int) = (s.ino : Int) := by omega
        simp [h1, h2, h3, h3']
    · simp [h1, h2]
  · have h1' : ¬ (e.node : Int) = (s.node : Int) := by omega
    simp [h1, h1']
end Go.Proofs.YtpbhkaokgpacoaaGreatDoor.St
/-
  The contracts of Put and PutText.
-/
namespace Go.Proofs.YtpbhkaokgpacoaaGreatDoor.Rf
open Go.RowKit Go.Maps

/-- An array of N bytes whose first ones are written. -/
def buf (pre : List UInt8) (N : Nat) : Array Value := (Lib.byteCells pre ++ List.replicate (N - pre.length) (Value.int .u8 0)).toArray
theorem buf_size (pre : List UInt8) (N : Nat) (h : pre.length ≤ N) : (buf pre N).size = N := by
  simp [buf, Lib.byteCells_length]; omega
theorem buf_get (pre : List UInt8) (N : Nat) (h : pre.length < N) : (buf pre N)[pre.length]? = some (.int .u8 0) := by
  rw [buf, List.getElem?_toArray, List.getElem?_append_right (by simp [Lib.byteCells_length]), Lib.byteCells_length, Nat.sub_self, List.getElem?_replicate, if_pos (by omega)]
theorem buf_set (pre : List UInt8) (N : Nat) (b : UInt8) (h : pre.length < N) : (buf pre N).setIfInBounds pre.length (.int .u8 b.toNat) = buf (pre ++ [b]) N := by
  unfold buf
  obtain ⟨d, hd⟩ : ∃ d, N - pre.length = d + 1 := ⟨N - pre.length - 1, by omega⟩
  have e : N - (pre ++ [b]).length = d := by simp; omega
  rw [e, hd, List.setIfInBounds_toArray, List.set_append_right _ _ (by simp [Lib.byteCells_length]), Lib.byteCells_length, Nat.sub_self, List.replicate_succ, List.set_cons_zero]
  simp [Lib.byteCells]
theorem buf_cell (pre : List UInt8) (N j : Nat) (h : j < pre.length) : (buf pre N)[j]? = some (.int .u8 (pre[j].toNat : Int)) := by
  rw [buf, List.getElem?_toArray, List.getElem?_append_left (by simpa [Lib.byteCells_length] using h), Lib.byteCells, List.getElem?_map, List.getElem?_eq_getElem h]; rfl

theorem conv_pre (w : World) (g c : Nat) (T : TypeId) (pre : List UInt8) (N : Nat) (h : w.heap[g]? = some (.cells (buf pre N) T)) :
    (convert 87 9 (.slice (some ⟨g, 0, none⟩) pre.length c)).run Tryz.prog w = .ok (.string ⟨pre.toArray⟩) w :=
  run_convert_bytes_back w _ _ 5 ⟨g, 0, none⟩ c pre Tryz.underlying87 Tryz.underlying5 Tryz.underlying9 (fun j hj => by
    rw [Addr.add_lit, Nat.zero_add, cell_of_heap h, buf_cell _ _ _ hj])

theorem arr10 : Tryz.prog.arrayLen 153 = 10 := by kernel_rfl
theorem und10 : Tryz.prog.underlying 153 = some (.array (Tryz.prog.arrayLen 153) (Tryz.prog.elem 153)) := by kernel_rfl
theorem elem10 : (Tryz.prog.info? (Tryz.prog.elem 153)).map (fun i => i.size) = some 1 := by kernel_rfl
theorem slice10 (w : World) (b j : Nat) (hj : j ≤ 10) :
    (Instr.sliceAt 153 (.pointer (some ⟨b, 0, none⟩)) none (some (.int .i64 (j : Int))) none).run Tryz.prog w = .ok (.slice (some ⟨b, 0, none⟩) j 10) w := by
  rw [run_sliceAt_array_h (P := Tryz.prog) w 153 ⟨b, 0, none⟩ und10 .i64 (j : Int) (by omega) (by rw [arr10]; omega)]
  obtain ⟨i, hi, hs⟩ := Option.map_eq_some_iff.1 elem10
  have hz : (sizeOf (Tryz.prog.elem 153)).run Tryz.prog w = .ok 1 w := by simp [sizeOf, typeInfo, hi, hs]
  rw [hz]
  simp only [Result.andThen, Int.toNat_natCast, arr10, slicedAt]
  rw [if_neg (by omega), Addr.add_lit]; simp

theorem cat_list (S : ByteArray) (l : List UInt8) : S ++ ⟨l.toArray⟩ = (⟨(S.data.toList ++ l).toArray⟩ : ByteArray) := by
  congr 1
theorem cat (S T : ByteArray) : S ++ T = (⟨(S.data.toList ++ T.data.toList).toArray⟩ : ByteArray) := by
  conv => lhs; rw [show T = ⟨T.data.toList.toArray⟩ by simp]
  exact cat_list S _
theorem or128 (m : Nat) : bits .or .u8 ((m : Int) % 256) 128 = ((UInt8.ofNat (m % 128 + 128)).toNat : Int) := by
  have h1 := u8_or_nat (m % 256) 128 (by omega) (by decide)
  have e : ((m % 256 : Nat) : Int) = (m : Int) % 256 := by omega
  rw [e] at h1
  rw [show (128 : Int) = ((128 : Nat) : Int) from rfl, h1]
  have h2 : ∀ x : Fin 256, x.val ||| 128 = x.val % 128 + 128 := by decide +kernel
  rw [h2 ⟨m % 256, by omega⟩]
  simp; omega

set_option maxHeartbeats 2000000 in
set_option maxRecDepth 100000 in
theorem put_any (w : World) (S : ByteArray) (n : Nat) (hn : n < 18446744073709551616) (hS : S.size ≤ 1099511627776) :
    Calls Tryz.prog 43 #[.string S, .int .u64 (n : Int)] w fun e w' => e = .returned (.string ⟨(S.data.toList ++ sh n).toArray⟩) ∧ Below w.heap.size w w' := by
  go_enter Tryz.func43, Tryz.ntmps43
  go_wp2
  go_loopw [1, 6] (fun vn vk w' => ∃ (k m : Nat) (pre : List UInt8), k ≤ 9 ∧ vn = .int .u64 (m : Int) ∧ vk = .int .i64 k ∧ w'.heap[w.heap.size]? = some (.cells (buf pre 10) 153) ∧ Below w.heap.size w w' ∧ Hid (pre.length = k ∧ sh n = pre ++ shF (9 - k) m ∧ m < 2 ^ (64 - 7 * k) ∧ (0 < k → 0 < m))) (fun _ k _ => 9 - (RowKit.intOf k).toNat)
  case atStart => exact ⟨0, n, [], by omega, rfl, rfl, (MapKept.heap_alloc w _).1, (Below.refl _ _).alloc (Nat.le_refl _) _, Lib.hid ⟨rfl, rfl, by simpa using hn, by omega⟩⟩
  case round =>
    obtain ⟨k, m, pre, hk, rfl, rfl, hh, hb, hid⟩ := hrel
    have HH := Lib.hid hh; have HB := Lib.hid hb
    have hlt : w.heap.size < wr.heap.size := lt_of_heap hh
    have hfz : ∀ j, wr.frozen? ⟨w.heap.size, j, none⟩ = false := fun j => frozen_of_heap hh
    have hck : wr.cell? ⟨w.heap.size, k, none⟩ = some (.int .u8 0) := by
      rw [cell_of_heap hh, ← hid.out.1]; exact buf_get _ _ (by have := hid.out.1; omega)
    by_cases h128 : (128 : Int) ≤ (m : Int)
    · have hk9 : k < 9 := by
        have := hid.out.2.2.1
        by_cases e : k = 9
        · subst e; simp at this; omega
        · omega
      have hm64 : m < 18446744073709551616 := Nat.lt_of_lt_of_le hid.out.2.2.1 (show 2 ^ (64 - 7 * k) ≤ 2 ^ 64 from Nat.pow_le_pow_right (by decide) (by omega))
      have HO := Lib.hid (or128 m)
      have HS : Hid ((wr.setCell ⟨w.heap.size, k, none⟩ (.int .u8 ((UInt8.ofNat (m % 128 + 128)).toNat : Int))).heap[w.heap.size]? = some (.cells (buf (pre ++ [UInt8.ofNat (m % 128 + 128)]) 10) 153)) :=
        Lib.hid (by rw [setCell_heap _ _ _ _ _ _ hh, ← hid.out.1, buf_set _ _ _ (by have := hid.out.1; omega)])
      have HB2 := Lib.hid (hb.setCell (Nat.le_refl _) (p := ⟨w.heap.size, k, none⟩) (.int .u8 ((UInt8.ofNat (m % 128 + 128)).toNat : Int)))
      clear hh hb
      go_wp2
      rw [HO.out]
      go_roundw
      case rel =>
        refine ⟨k + 1, m / 128, _, by omega, by simp, by simp, HS.out, HB2.out, Lib.hid ?_⟩
        obtain ⟨a1, a2, a3, a4⟩ := hid.out
        refine ⟨by simp [a1], ?_, ?_, fun _ => by omega⟩
        · rw [a2, List.append_assoc]
          have e : 9 - k = (9 - (k + 1)) + 1 := by omega
          rw [e, shF_step (by omega)]; rfl
        · rw [Nat.div_lt_iff_lt_mul (by decide)]
          have e : 64 - 7 * k = (64 - 7 * (k + 1)) + 7 := by omega
          rw [e, Nat.pow_add] at a3
          exact a3
      case measure => simp [RowKit.intOf]; omega
    · have HS : Hid ((wr.setCell ⟨w.heap.size, k, none⟩ (.int .u8 (m : Int))).heap[w.heap.size]? = some (.cells (buf (pre ++ [UInt8.ofNat m]) 10) 153)) :=
        Lib.hid (by
          rw [setCell_heap _ _ _ _ _ _ hh]
          have e : (m : Int) = ((UInt8.ofNat m).toNat : Int) := by simp; omega
          rw [e, ← hid.out.1, buf_set _ _ _ (by have := hid.out.1; omega)])
      have HB2 := Lib.hid (hb.setCell (Nat.le_refl _) (p := ⟨w.heap.size, k, none⟩) (.int .u8 (m : Int)))
      have hsl := slice10 (wr.setCell ⟨w.heap.size, k, none⟩ (.int .u8 (m : Int))) w.heap.size (k + 1) (by omega)
      have hcv := conv_pre _ _ 10 _ _ _ HS.out
      have hpl : (pre ++ [UInt8.ofNat m]).length = k + 1 := by simp [hid.out.1]
      rw [hpl] at hcv
      have e1 : ((k + 1 : Nat) : Int) = (k : Int) + 1 := by omega
      rw [e1] at hsl
      have HE : Hid (sh n = pre ++ [UInt8.ofNat m]) := Lib.hid (by rw [hid.out.2.1, shF_small (by omega)])
      have hpre : pre.length ≤ 9 := by rw [hid.out.1]; exact hk
      clear hh hb hpl
      go_wp2
      go_ret
      refine ⟨?_, HB2.out⟩
      rw [HE.out, cat_list]
      rfl

set_option maxRecDepth 100000 in
theorem putText_any (w : World) (S T : ByteArray) (hS : S.size ≤ 1099511627776) (hT : T.size ≤ 1099511627776) :
    Calls Tryz.prog 44 #[.string S, .string T] w fun e w' => e = .returned (.string ⟨(S.data.toList ++ putText T.data.toList).toArray⟩) ∧ Below w.heap.size w w' := by
  have hsz := Lib.size_eq T
  have K := Lib.hid (put_any w S T.size (by omega) hS)
  have hw : (T.size : Int) % 18446744073709551616 = (T.size : Int) := by omega
  have HW := Lib.hid hw
  have hln : ((⟨(S.data.toList ++ sh T.size).toArray⟩ : ByteArray)).size ≤ S.size + 10 := by
    rw [Lib.size_eq, Lib.size_eq]; simp; have := sh_length T.size; omega
  obtain ⟨U, hU⟩ : ∃ U, U = (⟨(S.data.toList ++ sh T.size).toArray⟩ : ByteArray) := ⟨_, rfl⟩
  rw [← hU] at hln K
  have HU : Hid (U.data.toList = S.data.toList ++ sh T.data.toList.length) := Lib.hid (by rw [hU, hsz])
  clear hw hU hsz
  go_enter Tryz.func44, Tryz.ntmps44
  go_wp2_with fail
  refine K.out.mono ?_
  rintro e w3 ⟨rfl, hb⟩
  have HB := Lib.hid hb
  clear hb
  go_wp2
  go_ret
  refine ⟨?_, HB.out⟩
  rw [cat, HU.out, putText, List.append_assoc]
  rfl
end Go.Proofs.YtpbhkaokgpacoaaGreatDoor.Rf
