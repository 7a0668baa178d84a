import Derived.Test.YthcjjekkjbidlaaGreatDoorZPStReg
import Derived.Test.YthcjjekkjbidlaaGreatDoorZPStDrop
import Derived.Maps.AppendAt
import Derived.Laws.OwnMore
set_option linter.unusedSimpArgs false
set_option linter.unusedVariables false
/-
  A region that draws its order and whose LAST operation writes what its loads read: the loads may be taken first, for that operation waits for them.
-/
namespace Go.Proofs.YthcjjekkjbidlaaGreatDoor.St
open Go.RowKit Go.Maps Go.WideMaps Go.Proofs.YthcjjekkjbidlaaGreatDoor.Rf

section
variable {P : Program} {ops : Array Oper} {Q : Exit → Act → World → Prop} {md : Region.Mode} {S : World → Prop} {k : Nat}

/-- Whatever order is picked, S holds behind each operation but number k. -/
def Held (P : Program) (md : Region.Mode) (ops : Array Oper) (Q : Exit → Act → World → Prop) (S : World → Prop) (k : Nat) : Nat → Array Bool → Act → World → Prop
  | 0, listed, a, w => Region.ready md ops listed = [] ∧ Q .normal a w
  | n + 1, listed, a, w => (Region.ready md ops listed = [] → Q .normal a w) ∧
      ∀ j ∈ Region.ready md ops listed, wpOp P ops Q j (fun b u => (j ≠ k → S u) ∧ Held P md ops Q S k n (listed.setIfInBounds j true) b u) a w

theorem Held.any : ∀ (n : Nat) (listed : Array Bool) (a : Act) (w : World), Held P md ops Q S k n listed a w → wpAny P md ops Q n listed a w
  | 0, _, _, _, h => h
  | n + 1, _, _, _, h => ⟨h.1, fun j hj => wpOp_mono (fun b u h' => Held.any n _ b u h'.2) (h.2 j hj)⟩
/-- The operations that may come up next. -/
def AllHeld (P : Program) (md : Region.Mode) (ops : Array Oper) (Q : Exit → Act → World → Prop) (S : World → Prop) (k n : Nat) (listed : Array Bool) (a : Act) (w : World) (rs : List Nat) : Prop :=
  ∀ i ∈ rs, wpOp P ops Q i (fun b u => (i ≠ k → S u) ∧ Held P md ops Q S k n (listed.setIfInBounds i true) b u) a w
theorem AllHeld.nil {n : Nat} {listed : Array Bool} {a : Act} {w : World} : AllHeld P md ops Q S k n listed a w [] := fun _ h => by cases h
theorem AllHeld.cons {n : Nat} {listed : Array Bool} {a : Act} {w : World} {i : Nat} {o : Oper} {rs : List Nat} (ho : ops[i]? = some o)
    (h : ∀ K' : Act → World → Prop, Shut (∀ a w, (i ≠ k → S w) → ((i ≠ k → S w) → Held P md ops Q S k n (listed.setIfInBounds i true) a w) → K' a w) → if Region.wanted o (yielded ops a.tmps) = true then Oper.wp P o a w K' Q else K' (a.put o.dst undef) w)
    (hs : AllHeld P md ops Q S k n listed a w rs) : AllHeld P md ops Q S k n listed a w (i :: rs) := fun j hj => by
  rcases List.mem_cons.1 hj with rfl | hj
  · exact wpOp_step ho (fun K' hK => h K' (fun a w hS hW => hK a w ⟨hS, hW hS⟩))
  · exact hs j hj
end
end Go.Proofs.YthcjjekkjbidlaaGreatDoor.St
/-
  Rows of entries put together: append of whatever holds entries, a row of none, a row of one; slices of a row.
-/
namespace Go.Proofs.YthcjjekkjbidlaaGreatDoor.St
open Go.RowKit Go.Maps Go.WideMaps Go.Proofs.YthcjjekkjbidlaaGreatDoor.Rf Go.Proofs.YthcjjekkjbidlaaGreatDoor.Rd

/-- A slice value that holds cells. -/
def Holds (w : World) (x : Value) (m : Nat) (cs : List Value) : Prop :=
  (∃ a c, x = .slice (some a) m c ∧ ∀ j u, cs[j]? = some u → w.cell? (a.add j) = some u) ∨ (x = .slice none 0 0 ∧ m = 0 ∧ cs = [])

section
variable {P : Program}
theorem run_append_holds {w : World} (base : Nat) (t ty e : TypeId) (i : TypeInfo) (z : Value) (bytes : Nat) (ht : P.underlying t = some (.slice e)) (hi : P.info? e = some i) (hz : i.zero = some z)
    (hsize : i.size = 38) (hby : i.bytes = bytes) (hzs : z.cells.size = 38) (v : Value) (n : Nat) (xs : List Value) (hown : w.ownsRow base e 38 v n xs)
    (x : Value) (m : Nat) (cs : List Value) (hx : Holds w x m cs) (hl : cs.length = m * 38) (h1 : ∀ u ∈ cs, u.oneCell' = true) (h63 : n + m ≤ maxLen) (hbytes : (n + m) * bytes ≤ 140737488355328) (hbase : base ≤ w.heap.size) :
    ∃ v' w', (Builtin.append_ #[t, t] ty #[v, x]).run P w = .ok v' w' ∧ w'.ownsRow base e 38 v' (n + m) (xs ++ cs) ∧ w.grownBy w' v.ownBlock ∧ (v'.ownBlock = v.ownBlock ∨ v'.ownBlock = some w.heap.size) := by
  rcases hx with ⟨a, c, rfl, hc⟩ | ⟨rfl, rfl, rfl⟩
  · obtain ⟨v', w', h1, h2, h3, _, h5⟩ := run_append_own_at (P := P) w base t ty e i z 38 bytes ht hi hz hsize hby hzs (by decide) v n xs hown a m c cs hl hc h1 h63 hbytes hbase
    exact ⟨v', w', h1, h2, h3, h5⟩
  · exact ⟨v, w, run_append_owned_none (P := P) (w := w) base t ty e i 38 ht hi v n xs hown, by simpa using hown, ⟨rfl, rfl, rfl, Nat.le_refl _, fun _ _ _ => rfl⟩, .inl rfl⟩
theorem wp_append_holds {o : Oper} {a : Act} {w : World} {K : Act → World → Prop} {Q : Exit → Act → World → Prop} (s x : Operand) (t : TypeId) (ho : o.op = .call { callee := .builtin .append, args := #[s, x], argTypes := #[t, t] })
    (base : Nat) (e : TypeId) (i : TypeInfo) (z : Value) (bytes : Nat) (ht : P.underlying t = some (.slice e)) (hi : P.info? e = some i) (hz : i.zero = some z)
    (hsize : i.size = 38) (hby : i.bytes = bytes) (hzs : z.cells.size = 38) (v : Value) (n : Nat) (xs : List Value) (hs : a.eval s = v) (hown : w.ownsRow base e 38 v n xs)
    (xv : Value) (m : Nat) (cs : List Value) (hxv : a.eval x = xv) (hx : Holds w xv m cs) (hl : cs.length = m * 38) (h1 : ∀ u ∈ cs, u.oneCell' = true) (h63 : n + m ≤ maxLen) (hbytes : (n + m) * bytes ≤ 140737488355328) (hbase : base ≤ w.heap.size)
    (h : ∀ v' w', w'.ownsRow base e 38 v' (n + m) (xs ++ cs) → w.grownBy w' v.ownBlock → (v'.ownBlock = v.ownBlock ∨ v'.ownBlock = some w.heap.size) → K (a.put o.dst v') w') : o.wp P a w K Q := by
  obtain ⟨v', w', hr, h2, h3, h4⟩ := run_append_holds (P := P) base t o.type e i z bytes ht hi hz hsize hby hzs v n xs hown xv m cs hx hl h1 h63 hbytes hbase
  unfold Oper.wp execOp
  simp only [ho, resolve, invoke, builtin, Sem.run_bind, Sem.run_pure, Result.andThen_ok, List.map_toArray, List.map_cons, List.map_nil, hs, hxv, hr]
  exact h v' w' h2 h3 h4

theorem fold_set (cs : List Value) : ∀ (k : Nat) (acc : Array Value), acc.size = k + cs.length → (cs.zipIdx k).foldl (fun a p => a.setIfInBounds p.2 p.1) acc = (acc.toList.take k ++ cs).toArray := by
  induction cs with
  | nil => intro k acc h; simp at h; simp; rw [List.take_of_length_le (by simp; omega)]
  | cons c r ih =>
    intro k acc h
    rw [List.zipIdx_cons, List.foldl_cons, ih (k + 1) _ (by simp at h ⊢; omega)]
    congr 1
    have hk : k < acc.toList.length := by simp at h ⊢; omega
    simp only [Array.toList_setIfInBounds]
    rw [List.take_add_one, List.take_set_of_le (Nat.le_refl _)]
    simp at hk
    simp [hk]
theorem run_buildOne (w : World) (t e : TypeId) (i : TypeInfo) (z : Value) (cs : List Value) (ht : P.underlying t = some (.slice e)) (hi : P.info? e = some i) (hz : i.zero = some z) (hs : i.size = 38) (hl : cs.length = 38) :
    (Instr.buildSlice t 1 #[(0, .agg cs.toArray)]).run P w = .ok (.slice (some ⟨w.heap.size, 0, none⟩) 1 1) (w.alloc (.cells cs.toArray e)) := by
  simp [Instr.buildSlice, run_underlying ht, sizeOf, typeInfo, hi, hs, zeroValue, hz, Instr.fill, Value.cells, hl]
  rw [fold_set cs 0 _ (by simp [hl])]
  simp [newRow, Result.andThen]
theorem wp_buildOne {o : Oper} {a : Act} {w : World} {K : Act → World → Prop} {Q : Exit → Act → World → Prop} (t e : TypeId) (x : Operand) (cs : List Value) (i : TypeInfo) (z : Value) (ho : o.op = .buildSlice t 1 #[(0, x)]) (hx : a.eval x = .agg cs.toArray)
    (ht : P.underlying t = some (.slice e)) (hi : P.info? e = some i) (hz : i.zero = some z) (hs : i.size = 38) (hl : cs.length = 38)
    (h : K (a.put o.dst (.slice (some ⟨w.heap.size, 0, none⟩) 1 1)) (w.alloc (.cells cs.toArray e))) : o.wp P a w K Q := by
  have hrun := run_buildOne w t e i z cs ht hi hz hs hl
  unfold Oper.wp
  have hp : (#[(0, x)] : Array (Nat × Operand)).map (fun p => (p.1, a.eval p.2)) = #[(0, .agg cs.toArray)] := by simp [hx]
  simp [execOp, ho, hx, hrun, Result.andThen]
  exact h
end

theorem infoZ : (Tryz.prog.info? 44).map (fun i => (i.zero, i.size, i.bytes)) = some (some (enV zeroS), 38, 88) := by kernel_rfl
theorem addr_block (a : Addr) (n : Nat) : (a.add n).block = a.block := by unfold Addr.add; split <;> rfl
theorem Holds.block {w w' : World} {x : Value} {m : Nat} {cs : List Value} (h : Holds w x m cs) (hb : ∀ a c, x = .slice (some a) m c → w'.heap[a.block]? = w.heap[a.block]?) : Holds w' x m cs := by
  rcases h with ⟨a, c, rfl, hc⟩ | h
  · exact .inl ⟨a, c, rfl, fun j u hj => (World.cell?_of_block (by rw [addr_block]; exact hb a c rfl)).trans (hc j u hj)⟩
  · exact .inr h
section
variable {P : Program} {o : Oper} {a : Act} {w : World} {K : Act → World → Prop} {Q : Exit → Act → World → Prop}
/-- A row of one, as a step. -/
theorem wp_one (t e : TypeId) (x : Operand) (cs : List Value) (i : TypeInfo) (z : Value) (ho : o.op = .buildSlice t 1 #[(0, x)]) (hx : a.eval x = .agg cs.toArray)
    (ht : P.underlying t = some (.slice e)) (hi : P.info? e = some i) (hz : i.zero = some z) (hs : i.size = 38) (hl : cs.length = 38)
    (h : ∀ y w2, Holds w2 y 1 cs → w.grownBy w2 none → (∀ ad c, y = .slice (some ad) 1 c → ad.block = w.heap.size) → w.heap.size < w2.heap.size → K (a.put o.dst y) w2) : o.wp P a w K Q := by
  refine wp_buildOne t e x cs i z ho hx ht hi hz hs hl (h _ _ (.inl ⟨⟨w.heap.size, 0, none⟩, 1, rfl, fun j u hj => ?_⟩) (World.grownBy_alloc w _ _) (fun ad c e => by injection e with e1; injection e1 with e1; rw [← e1]) (by rw [one_size]; omega))
  rw [Addr.add_lit, Nat.zero_add, cell_of_heap (MapKept.heap_alloc w _).1, List.getElem?_toArray]; exact hj
end
theorem Holds.grown {w w' : World} {x : Value} {m : Nat} {cs : List Value} {row : Option Nat} (h : Holds w x m cs) (hg : w.grownBy w' row) (hb : ∀ a c, x = .slice (some a) m c → a.block < w.heap.size ∧ some a.block ≠ row) : Holds w' x m cs :=
  h.block (fun a c e => hg.block _ (hb a c e).1 (hb a c e).2)
theorem Holds.below {w w' : World} {x : Value} {m : Nat} {cs : List Value} {n : Nat} (h : Holds w x m cs) (hg : Below n w w') (hb : ∀ a c, x = .slice (some a) m c → a.block < n) : Holds w' x m cs :=
  h.block (fun a c e => hg.block _ (hb a c e))
end Go.Proofs.YthcjjekkjbidlaaGreatDoor.St
/-
  Steps of a walk over rows of entries: a row of one, an append.
-/
namespace Go.Proofs.YthcjjekkjbidlaaGreatDoor.St
open Go.RowKit Go.Maps Go.WideMaps Go.Proofs.YthcjjekkjbidlaaGreatDoor.Rf

section
variable {P : Program} {ops : Array Oper} {rest : List Oper} {o : Oper} {a : Act} {w : World} {Q : Exit → Act → World → Prop}
theorem wpList_one (hgd : o.guard = none) (t e : TypeId) (x : Operand) (cs : List Value) (i : TypeInfo) (z : Value) (ho : o.op = .buildSlice t 1 #[(0, x)]) (hx : a.eval x = .agg cs.toArray)
    (ht : P.underlying t = some (.slice e)) (hi : P.info? e = some i) (hz : i.zero = some z) (hs : i.size = 38) (hl : cs.length = 38)
    (h : ∀ y w2, Holds w2 y 1 cs → w.grownBy w2 none → (∀ ad c, y = .slice (some ad) 1 c → ad.block = w.heap.size) → w.heap.size < w2.heap.size → wpList P ops Q rest (a.put o.dst y) w2) : wpList P ops Q (o :: rest) a w :=
  wpList_plain hgd fun _ hK => wp_one t e x cs i z ho hx ht hi hz hs hl (fun y w2 a b c d => hK _ _ (h y w2 a b c d))
theorem wpList_append38 (hgd : o.guard = none) (s x : Operand) (t : TypeId) (ho : o.op = .call { callee := .builtin .append, args := #[s, x], argTypes := #[t, t] })
    (base : Nat) (e : TypeId) (i : TypeInfo) (z : Value) (bytes : Nat) (ht : P.underlying t = some (.slice e)) (hi : P.info? e = some i) (hz : i.zero = some z)
    (hsize : i.size = 38) (hby : i.bytes = bytes) (hzs : z.cells.size = 38) (v : Value) (n : Nat) (xs : List Value) (hs : a.eval s = v) (hown : w.ownsRow base e 38 v n xs)
    (xv : Value) (m : Nat) (cs : List Value) (hxv : a.eval x = xv) (hx : Holds w xv m cs) (hl : cs.length = m * 38) (h1 : ∀ u ∈ cs, u.oneCell' = true) (h63 : n + m ≤ maxLen) (hbytes : (n + m) * bytes ≤ 140737488355328) (hbase : base ≤ w.heap.size)
    (h : ∀ v' w', w'.ownsRow base e 38 v' (n + m) (xs ++ cs) → w.grownBy w' v.ownBlock → (v'.ownBlock = v.ownBlock ∨ v'.ownBlock = some w.heap.size) → wpList P ops Q rest (a.put o.dst v') w') : wpList P ops Q (o :: rest) a w :=
  wpList_plain hgd fun _ hK => wp_append_holds s x t ho base e i z bytes ht hi hz hsize hby hzs v n xs hs hown xv m cs hxv hx hl h1 h63 hbytes hbase (fun v' w' a b c => hK _ _ (h v' w' a b c))
end
/-- Behind an append of one entry. -/
theorem take_cells {L : List SE} {k : Nat} {e : SE} (h : L[k]? = some e) : cellsS (L.take k) ++ e.cells = cellsS (L.take (k + 1)) := by
  rw [List.take_add_one, h, cellsS_append]
  show _ = cellsS (L.take k) ++ cellsS [e]
  rw [cellsS_cons]; simp [cellsS]
end Go.Proofs.YthcjjekkjbidlaaGreatDoor.St
