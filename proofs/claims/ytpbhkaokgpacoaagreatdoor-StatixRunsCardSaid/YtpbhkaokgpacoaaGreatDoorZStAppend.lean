import Derived.Test.YtpbhkaokgpacoaaGreatDoorZStStrs
import Derived.Maps.AppendAt
import Derived.Laws.OwnMore
set_option linter.unusedSimpArgs false
set_option linter.unusedVariables false
/-
  Rows of entries put together: append of whatever holds entries, a row of none, a row of one; slices of a row.
-/
namespace Go.Proofs.YtpbhkaokgpacoaaGreatDoor.St
open Go.RowKit Go.Maps Go.WideMaps Go.Proofs.YtpbhkaokgpacoaaGreatDoor.Rf Go.Proofs.YtpbhkaokgpacoaaGreatDoor.Rd

/-- A slice value that holds cells. -/
def Holds (w : World) (x : Value) (m : Nat) (cs : List Value) : Prop :=
  (∃ a c, x = .slice (some a) m c ∧ ∀ j u, cs[j]? = some u → w.cell? (a.add j) = some u) ∨ (x = .slice none 0 0 ∧ m = 0 ∧ cs = [])

section
variable {P : Program}
theorem run_append_holds {w : World} (base : Nat) (t ty e : TypeId) (i : TypeInfo) (z : Value) (bytes : Nat) (ht : P.underlying t = some (.slice e)) (hi : P.info? e = some i) (hz : i.zero = some z)
    (hsize : i.size = 38) (hby : i.bytes = bytes) (hzs : z.cells.size = 38) (v : Value) (n : Nat) (xs : List Value) (hown : w.ownsRow base e 38 v n xs)
    (x : Value) (m : Nat) (cs : List Value) (hx : Holds w x m cs) (hl : cs.length = m * 38) (h1 : ∀ u ∈ cs, u.oneCell' = true) (h63 : n + m ≤ maxLen) (hbytes : (n + m) * bytes ≤ 140737488355328) (hbase : base ≤ w.heap.size) :
    ∃ v' w', (Builtin.append_ #[t, t] ty #[v, x]).run P w = .ok v' w' ∧ w'.ownsRow base e 38 v' (n + m) (xs ++ cs) ∧ w.grownBy w' v.ownBlock ∧ (v'.ownBlock = v.ownBlock ∨ v'.ownBlock = some w.heap.size) := by
  rcases hx with ⟨a, c, rfl, hc⟩ | ⟨rfl, rfl, rfl⟩
  · obtain ⟨v', w', h1, h2, h3, _, h5⟩ := run_append_own_at (P := P) w base t ty e i z 38 bytes ht hi hz hsize hby hzs (by decide) v n xs hown a m c cs hl hc h1 h63 hbytes hbase
    exact ⟨v', w', h1, h2, h3, h5⟩
  · exact ⟨v, w, run_append_owned_none (P := P) (w := w) base t ty e i 38 ht hi v n xs hown, by simpa using hown, ⟨rfl, rfl, rfl, Nat.le_refl _, fun _ _ _ => rfl⟩, .inl rfl⟩
theorem wp_append_holds {o : Oper} {a : Act} {w : World} {K : Act → World → Prop} {Q : Exit → Act → World → Prop} (s x : Operand) (t : TypeId) (ho : o.op = .call { callee := .builtin .append, args := #[s, x], argTypes := #[t, t] })
    (base : Nat) (e : TypeId) (i : TypeInfo) (z : Value) (bytes : Nat) (ht : P.underlying t = some (.slice e)) (hi : P.info? e = some i) (hz : i.zero = some z)
    (hsize : i.size = 38) (hby : i.bytes = bytes) (hzs : z.cells.size = 38) (v : Value) (n : Nat) (xs : List Value) (hs : a.eval s = v) (hown : w.ownsRow base e 38 v n xs)
    (xv : Value) (m : Nat) (cs : List Value) (hxv : a.eval x = xv) (hx : Holds w xv m cs) (hl : cs.length = m * 38) (h1 : ∀ u ∈ cs, u.oneCell' = true) (h63 : n + m ≤ maxLen) (hbytes : (n + m) * bytes ≤ 140737488355328) (hbase : base ≤ w.heap.size)
    (h : ∀ v' w', w'.ownsRow base e 38 v' (n + m) (xs ++ cs) → w.grownBy w' v.ownBlock → (v'.ownBlock = v.ownBlock ∨ v'.ownBlock = some w.heap.size) → K (a.put o.dst v') w') : o.wp P a w K Q := by
  obtain ⟨v', w', hr, h2, h3, h4⟩ := run_append_holds (P := P) base t o.type e i z bytes ht hi hz hsize hby hzs v n xs hown xv m cs hx hl h1 h63 hbytes hbase
  unfold Oper.wp execOp
  simp only [ho, resolve, invoke, builtin, Sem.run_bind, Sem.run_pure, Result.andThen_ok, List.map_toArray, List.map_cons, List.map_nil, hs, hxv, hr]
  exact h v' w' h2 h3 h4

theorem fold_set (cs : List Value) : ∀ (k : Nat) (acc : Array Value), acc.size = k + cs.length → (cs.zipIdx k).foldl (fun a p => a.setIfInBounds p.2 p.1) acc = (acc.toList.take k ++ cs).toArray := by
  induction cs with
  | nil => intro k acc h; simp at h; simp; rw [List.take_of_length_le (by simp; omega)]
  | cons c r ih =>
    intro k acc h
    rw [List.zipIdx_cons, List.foldl_cons, ih (k + 1) _ (by simp at h ⊢; omega)]
    congr 1
    have hk : k < acc.toList.length := by simp at h ⊢; omega
    simp only [Array.toList_setIfInBounds]
    rw [List.take_add_one, List.take_set_of_le (Nat.le_refl _)]
    simp at hk
    simp [hk]
theorem run_buildOne (w : World) (t e : TypeId) (i : TypeInfo) (z : Value) (cs : List Value) (ht : P.underlying t = some (.slice e)) (hi : P.info? e = some i) (hz : i.zero = some z) (hs : i.size = 38) (hl : cs.length = 38) :
    (Instr.buildSlice t 1 #[(0, .agg cs.toArray)]).run P w = .ok (.slice (some ⟨w.heap.size, 0, none⟩) 1 1) (w.alloc (.cells cs.toArray e)) := by
  simp [Instr.buildSlice, run_underlying ht, sizeOf, typeInfo, hi, hs, zeroValue, hz, Instr.fill, Value.cells, hl]
  rw [fold_set cs 0 _ (by simp [hl])]
  simp [newRow, Result.andThen]
theorem run_buildNone (w : World) (t e : TypeId) (i : TypeInfo) (z : Value) (ht : P.underlying t = some (.slice e)) (hi : P.info? e = some i) (hz : i.zero = some z) (hs : i.size = 38) :
    (Instr.buildSlice t 0 #[]).run P w = .ok (.slice (some ⟨w.heap.size, 0, none⟩) 0 0) (w.alloc (.cells #[] e)) := by
  simp [Instr.buildSlice, run_underlying ht, sizeOf, typeInfo, hi, hs, zeroValue, hz, Instr.fill, newRow, Result.andThen]
  have hr0 : Array.range 0 = #[] := by simp [Array.range]
  rw [hr0]; simp
theorem wp_buildOne {o : Oper} {a : Act} {w : World} {K : Act → World → Prop} {Q : Exit → Act → World → Prop} (t e : TypeId) (x : Operand) (cs : List Value) (i : TypeInfo) (z : Value) (ho : o.op = .buildSlice t 1 #[(0, x)]) (hx : a.eval x = .agg cs.toArray)
    (ht : P.underlying t = some (.slice e)) (hi : P.info? e = some i) (hz : i.zero = some z) (hs : i.size = 38) (hl : cs.length = 38)
    (h : K (a.put o.dst (.slice (some ⟨w.heap.size, 0, none⟩) 1 1)) (w.alloc (.cells cs.toArray e))) : o.wp P a w K Q := by
  have hrun := run_buildOne w t e i z cs ht hi hz hs hl
  unfold Oper.wp
  have hp : (#[(0, x)] : Array (Nat × Operand)).map (fun p => (p.1, a.eval p.2)) = #[(0, .agg cs.toArray)] := by simp [hx]
  simp [execOp, ho, hx, hrun, Result.andThen]
  exact h
theorem wp_buildNone {o : Oper} {a : Act} {w : World} {K : Act → World → Prop} {Q : Exit → Act → World → Prop} (t e : TypeId) (i : TypeInfo) (z : Value) (ho : o.op = .buildSlice t 0 #[])
    (ht : P.underlying t = some (.slice e)) (hi : P.info? e = some i) (hz : i.zero = some z) (hs : i.size = 38)
    (h : K (a.put o.dst (.slice (some ⟨w.heap.size, 0, none⟩) 0 0)) (w.alloc (.cells #[] e))) : o.wp P a w K Q := by
  have hrun := run_buildNone w t e i z ht hi hz hs
  unfold Oper.wp
  simp [execOp, ho, hrun, Result.andThen]
  exact h
end

theorem infoZ : (Tryz.prog.info? 44).map (fun i => (i.zero, i.size, i.bytes)) = some (some (enV zeroS), 38, 88) := by kernel_rfl
theorem infoZR : (Tryz.prog.info? 49).map (fun i => (i.zero, i.size, i.bytes)) = some (some (enV zeroS), 38, 88) := by kernel_rfl

/-- A fresh row of none. -/
theorem own_none (w : World) (e : TypeId) : (w.alloc (.cells #[] e)).ownsRow w.heap.size e 38 (.slice (some ⟨w.heap.size, 0, none⟩) 0 0) 0 [] :=
  World.ownsRow_lit w #[] 0 (Nat.le_refl _) (Nat.zero_le _) rfl
theorem addr_block (a : Addr) (n : Nat) : (a.add n).block = a.block := by unfold Addr.add; split <;> rfl
theorem Holds.block {w w' : World} {x : Value} {m : Nat} {cs : List Value} (h : Holds w x m cs) (hb : ∀ a c, x = .slice (some a) m c → w'.heap[a.block]? = w.heap[a.block]?) : Holds w' x m cs := by
  rcases h with ⟨a, c, rfl, hc⟩ | h
  · exact .inl ⟨a, c, rfl, fun j u hj => (World.cell?_of_block (by rw [addr_block]; exact hb a c rfl)).trans (hc j u hj)⟩
  · exact .inr h
theorem undER : Tryz.prog.underlying 27 = some (.slice (Tryz.prog.elem 27)) := by kernel_rfl
theorem sizeER (w : World) : (sizeOf (Tryz.prog.elem 27)).run Tryz.prog w = .ok 38 w := by kernel_rfl
/-- The front of a row, as a slice value. -/
theorem slice_front {w : World} {B r : Nat} {v : Value} {L : List SE} (h : RefAt B w r v L) {i : Nat} (hi : i ≤ L.length) :
    ∃ x, (∀ w', (Instr.slice 27 v none (some (.int .i64 (i : Int))) none).run Tryz.prog w' = .ok x w') ∧ Holds w x i (cellsS (L.take i)) ∧ (∀ a c, x = .slice (some a) i c → a.block ∈ ob v) := by
  obtain ⟨h1, ⟨rfl, h2⟩ | ⟨g, cap, cur, rfl, a1, a2, a3, a4, a5, a6⟩⟩ := h.row
  · have h0 : L = [] := List.eq_nil_of_length_eq_zero h2
    subst h0
    obtain rfl : i = 0 := by simpa using hi
    refine ⟨.slice none 0 0, fun w' => ?_, .inr ⟨rfl, rfl, rfl⟩, fun a c e => (by cases e)⟩
    rw [run_slice_h w' _ _ _ _ undER .i64 _ (by omega) (by simp), sizeER]
    rfl
  · have hrow := cellsS_length (fitsId h.fits)
    refine ⟨.slice (some ⟨g, 0, none⟩) i cap, fun w' => ?_, .inl ⟨⟨g, 0, none⟩, cap, rfl, fun j u hj => ?_⟩, fun a c e => ?_⟩
    · rw [run_slice_h w' _ _ _ _ undER .i64 _ (by omega) (by omega), sizeER]
      simp only [Result.andThen, sliced, Int.toNat_natCast, Nat.zero_mul, Nat.sub_zero, Option.map_some, Addr.add_lit, Nat.add_zero]
      split <;> rfl
    · rw [Addr.add_lit, Nat.zero_add, cell_of_heap a2]
      have hlt := (List.getElem?_eq_some_iff.1 hj).1
      have hl2 := cellsS_length (L := L.take i) (fun e he => (h.fits e (List.mem_of_mem_take he)).id)
      rw [List.length_take, Nat.min_eq_left hi] at hl2
      have hc : (cellsS L)[j]? = some u := by
        conv => lhs; rw [← List.take_append_drop i L, cellsS_append]
        rw [List.getElem?_append_left hlt]; exact hj
      rw [← a6, List.getElem?_take_of_lt (by omega), Array.getElem?_toList] at hc
      exact hc
    · injection e with e1 e2 e3
      injection e1 with e1
      subst e1
      simp [ob, Value.ownBlock]
/-- What lies behind a place of a row, as a slice value. -/
theorem slice_back {w : World} {B r : Nat} {v : Value} {L : List SE} (h : RefAt B w r v L) {i : Nat} (hi : i ≤ L.length) :
    ∃ x, (∀ w', (Instr.slice 27 v (some (.int .i64 (i : Int))) none none).run Tryz.prog w' = .ok x w') ∧ Holds w x (L.length - i) (cellsS (L.drop i)) ∧ (∀ a c, x = .slice (some a) (L.length - i) c → a.block ∈ ob v) := by
  obtain ⟨h1, ⟨rfl, h2⟩ | ⟨g, cap, cur, rfl, a1, a2, a3, a4, a5, a6⟩⟩ := h.row
  · have h0 : L = [] := List.eq_nil_of_length_eq_zero h2
    subst h0
    obtain rfl : i = 0 := by simpa using hi
    refine ⟨.slice none 0 0, fun w' => ?_, .inr ⟨rfl, rfl, rfl⟩, fun a c e => (by cases e)⟩
    rw [run_slice_l w' _ _ _ _ undER .i64 _ (by omega) (by simp), sizeER]
    rfl
  · have hrow := cellsS_length (fitsId h.fits)
    refine ⟨sliced (some ⟨g, 0, none⟩) i L.length cap 38, fun w' => ?_, ?_, fun a c e => ?_⟩
    · rw [run_slice_l w' _ _ _ _ undER .i64 _ (by omega) (by omega), sizeER]
      rfl
    · unfold sliced
      by_cases hci : cap = i
      · rw [if_pos hci]
        have : L.drop i = [] := List.drop_eq_nil_of_le (by omega)
        rw [this]
        exact .inl ⟨_, _, rfl, fun j u hj => by simp [cellsS] at hj⟩
      · rw [if_neg hci]
        refine .inl ⟨⟨g, i * 38, none⟩, _, by rw [Option.map_some, Addr.add_lit, Nat.zero_add], fun j u hj => ?_⟩
        rw [Addr.add_lit, cell_of_heap a2]
        have hl2 := cellsS_length (L := L.take i) (fun e he => (h.fits e (List.mem_of_mem_take he)).id)
        rw [List.length_take, Nat.min_eq_left hi] at hl2
        have hc : (cellsS L)[i * 38 + j]? = some u := by
          conv => lhs; rw [← List.take_append_drop i L, cellsS_append]
          rw [List.getElem?_append_right (by omega), show i * 38 + j - (cellsS (L.take i)).length = j by omega]; exact hj
        have hlt := (List.getElem?_eq_some_iff.1 hc).1
        rw [← a6, List.getElem?_take_of_lt (by omega), Array.getElem?_toList] at hc
        exact hc
    · unfold sliced at e
      injection e with e1 e2 e3
      split at e1
      · injection e1 with e1
        subst e1
        simp [ob, Value.ownBlock]
      · rw [Option.map_some] at e1
        injection e1 with e1
        subst e1
        simp [ob, Value.ownBlock, addr_block]
theorem exec_slice {o : Oper} {a : Act} {w : World} (x : Operand) (lo hi : Option Operand) (v xv : Value) (lv hv : Option Value) (ho : o.op = .slice 27 x lo hi none) (hx : a.eval x = v) (hl : lo.map a.eval = lv) (hh : hi.map a.eval = hv)
    (hr : (Instr.slice 27 v lv hv none).run Tryz.prog w = .ok xv w) : (execOp a.eval o).run Tryz.prog w = .ok (.value xv) w := by
  unfold execOp
  simp only [ho, hx, hl, hh, Option.map_none, Sem.run_bind, run_sliceAt_slice w _ _ _ _ _ undER, hr, Result.andThen_ok]
  rfl

section
variable {P : Program} {o : Oper} {a : Act} {w : World} {K : Act → World → Prop} {Q : Exit → Act → World → Prop}
/-- A row of none, as a step. -/
theorem wp_none (t e : TypeId) (i : TypeInfo) (z : Value) (ho : o.op = .buildSlice t 0 #[]) (ht : P.underlying t = some (.slice e)) (hi : P.info? e = some i) (hz : i.zero = some z) (hs : i.size = 38)
    (h : ∀ x w2, w2.ownsRow w.heap.size e 38 x 0 [] → w.grownBy w2 none → (∀ b, x.ownBlock = some b → b = w.heap.size) → K (a.put o.dst x) w2) : o.wp P a w K Q :=
  wp_buildNone t e i z ho ht hi hz hs (h _ _ (own_none w e) (World.grownBy_alloc w _ _) (fun b hb => by simpa [Value.ownBlock] using hb.symm))
/-- A row of one, as a step. -/
theorem wp_one (t e : TypeId) (x : Operand) (cs : List Value) (i : TypeInfo) (z : Value) (ho : o.op = .buildSlice t 1 #[(0, x)]) (hx : a.eval x = .agg cs.toArray)
    (ht : P.underlying t = some (.slice e)) (hi : P.info? e = some i) (hz : i.zero = some z) (hs : i.size = 38) (hl : cs.length = 38)
    (h : ∀ y w2, Holds w2 y 1 cs → w.grownBy w2 none → (∀ ad c, y = .slice (some ad) 1 c → ad.block = w.heap.size) → w.heap.size < w2.heap.size → K (a.put o.dst y) w2) : o.wp P a w K Q := by
  refine wp_buildOne t e x cs i z ho hx ht hi hz hs hl (h _ _ (.inl ⟨⟨w.heap.size, 0, none⟩, 1, rfl, fun j u hj => ?_⟩) (World.grownBy_alloc w _ _) (fun ad c e => by injection e with e1; injection e1 with e1; rw [← e1]) (by rw [one_size]; omega))
  rw [Addr.add_lit, Nat.zero_add, cell_of_heap (MapKept.heap_alloc w _).1, List.getElem?_toArray]; exact hj
end
theorem Holds.grown {w w' : World} {x : Value} {m : Nat} {cs : List Value} {row : Option Nat} (h : Holds w x m cs) (hg : w.grownBy w' row) (hb : ∀ a c, x = .slice (some a) m c → a.block < w.heap.size ∧ some a.block ≠ row) : Holds w' x m cs :=
  h.block (fun a c e => hg.block _ (hb a c e).1 (hb a c e).2)
theorem Holds.below {w w' : World} {x : Value} {m : Nat} {cs : List Value} {n : Nat} (h : Holds w x m cs) (hg : Below n w w') (hb : ∀ a c, x = .slice (some a) m c → a.block < n) : Holds w' x m cs :=
  h.block (fun a c e => hg.block _ (hb a c e))
end Go.Proofs.YtpbhkaokgpacoaaGreatDoor.St
