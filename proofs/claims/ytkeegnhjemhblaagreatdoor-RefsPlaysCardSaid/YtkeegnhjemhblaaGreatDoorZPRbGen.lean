import Derived.Test.YtkeegnhjemhblaaGreatDoorZPRfKit
import Derived.ProofKit
import Derived.Maps.AppendAt
import Derived.Laws.OwnMore
import Derived.Deep.CutBlock
set_option linter.unusedSimpArgs false
set_option linter.unusedVariables false
/-
  Rows of n cells an element, in general: append, rows of none and of one, fronts and backs.
-/
set_option linter.unusedSimpArgs false
set_option linter.unusedVariables false
namespace Go.Proofs.YtkeegnhjemhblaaGreatDoor.Rb
open Go.RowKit Go.Maps Go.WideMaps Go.Proofs.YtkeegnhjemhblaaGreatDoor.Rf

theorem one_size (w : World) (A : Obj) : (w.alloc A).heap.size = w.heap.size + 1 := by show (w.heap.push _).size = _; simp
theorem addr_block (a : Addr) (n : Nat) : (a.add n).block = a.block := by unfold Addr.add; split <;> rfl
theorem fold_set (cs : List Value) : ∀ (k : Nat) (acc : Array Value), acc.size = k + cs.length → (cs.zipIdx k).foldl (fun a p => a.setIfInBounds p.2 p.1) acc = (acc.toList.take k ++ cs).toArray := by
  induction cs with
  | nil => intro k acc h; simp at h; simp; rw [List.take_of_length_le (by simp; omega)]
  | cons c r ih =>
    intro k acc h
    rw [List.zipIdx_cons, List.foldl_cons, ih (k + 1) _ (by simp at h ⊢; omega)]
    congr 1
    have hk : k < acc.toList.length := by simp at h ⊢; omega
    simp only [Array.toList_setIfInBounds]
    rw [List.take_add_one, List.take_set_of_le (Nat.le_refl _)]
    simp at hk
    simp [hk]
section
variable {P : Program}
theorem run_buildOneN (size : Nat) (hp0 : 0 < size) (hp1 : ¬ 16777216 < size) (w : World) (t e : TypeId) (i : TypeInfo) (z : Value) (cs : List Value) (ht : P.underlying t = some (.slice e)) (hi : P.info? e = some i) (hz : i.zero = some z) (hs : i.size = size) (hl : cs.length = size) :
    (Instr.buildSlice t 1 #[(0, .agg cs.toArray)]).run P w = .ok (.slice (some ⟨w.heap.size, 0, none⟩) 1 1) (w.alloc (.cells cs.toArray e)) := by
  simp [Instr.buildSlice, run_underlying ht, sizeOf, typeInfo, hi, hs, zeroValue, hz, Instr.fill, Value.cells, hl]
  rw [if_neg hp1, if_neg (by omega), fold_set cs 0 _ (by simp [hl])]
  simp [newRow, Result.andThen]
theorem wp_oneN (size : Nat) (hp0 : 0 < size) (hp1 : ¬ 16777216 < size) {o : Oper} {a : Act} {w : World} {K : Act → World → Prop} {Q : Exit → Act → World → Prop} (t e : TypeId) (x : Operand) (cs : List Value) (i : TypeInfo) (z : Value) (ho : o.op = .buildSlice t 1 #[(0, x)]) (hx : a.eval x = .agg cs.toArray)
    (ht : P.underlying t = some (.slice e)) (hi : P.info? e = some i) (hz : i.zero = some z) (hs : i.size = size) (hl : cs.length = size)
    (h : K (a.put o.dst (.slice (some ⟨w.heap.size, 0, none⟩) 1 1)) (w.alloc (.cells cs.toArray e))) : o.wp P a w K Q := by
  have hrun := run_buildOneN size hp0 hp1 w t e i z cs ht hi hz hs hl
  unfold Oper.wp
  have hp : (#[(0, x)] : Array (Nat × Operand)).map (fun p => (p.1, a.eval p.2)) = #[(0, .agg cs.toArray)] := by simp [hx]
  simp [execOp, ho, hx, hrun, Result.andThen]
  exact h
end

/-- A slice value that holds cells. -/
def HoldN (w : World) (x : Value) (m : Nat) (cs : List Value) : Prop :=
  (∃ a c, x = .slice (some a) m c ∧ ∀ (j : Nat) u, cs[j]? = some u → w.cell? (a.add j) = some u) ∨ (∃ c, x = .slice none 0 c ∧ m = 0 ∧ cs = [])
theorem HoldN.kept {w w' : World} {x : Value} {m : Nat} {cs : List Value} (h : HoldN w x m cs) (hb : ∀ a c, x = .slice (some a) m c → cs ≠ [] → w'.heap[a.block]? = w.heap[a.block]?) : HoldN w' x m cs := by
  rcases h with ⟨a, c, rfl, hc⟩ | h
  · refine .inl ⟨a, c, rfl, fun j u hj => (World.cell?_of_block (by rw [addr_block]; exact hb a c rfl (by rintro rfl; cases hj))).trans (hc j u hj)⟩
  · exact .inr h
section
variable {P : Program}
theorem run_append_holdN (size : Nat) (hpos : 0 < size) {w : World} (base : Nat) (t ty e : TypeId) (i : TypeInfo) (z : Value) (bytes : Nat) (ht : P.underlying t = some (.slice e)) (hi : P.info? e = some i) (hz : i.zero = some z)
    (hsize : i.size = size) (hby : i.bytes = bytes) (hzs : z.cells.size = size) (v : Value) (n : Nat) (xs : List Value) (hown : w.ownsRow base e size v n xs)
    (x : Value) (m : Nat) (cs : List Value) (hx : HoldN w x m cs) (hl : cs.length = m * size) (h1 : ∀ u ∈ cs, u.oneCell' = true) (h63 : n + m ≤ maxLen) (hbytes : (n + m) * bytes ≤ 140737488355328) (hbase : base ≤ w.heap.size) :
    ∃ v' w', (Builtin.append_ #[t, t] ty #[v, x]).run P w = .ok v' w' ∧ w'.ownsRow base e size v' (n + m) (xs ++ cs) ∧ w.grownBy w' v.ownBlock ∧ (v'.ownBlock = v.ownBlock ∨ v'.ownBlock = some w.heap.size) := by
  rcases hx with ⟨a, c, rfl, hc⟩ | ⟨c, rfl, rfl, rfl⟩
  · obtain ⟨v', w', h1, h2, h3, _, h5⟩ := run_append_own_at (P := P) w base t ty e i z size bytes ht hi hz hsize hby hzs hpos v n xs hown a m c cs hl hc h1 h63 hbytes hbase
    exact ⟨v', w', h1, h2, h3, h5⟩
  · refine ⟨v, w, ?_, by simpa using hown, ⟨rfl, rfl, rfl, Nat.le_refl _, fun _ _ _ => rfl⟩, .inl rfl⟩
    rcases hown.2 with ⟨rfl, rfl⟩ | ⟨g, cap, cur, rfl, _, _, hnc, _⟩
    · simp [Builtin.append_, run_underlying ht, sizeOf, typeInfo, hi, Builtin.lenOf, Builtin.firstCells]
    · simp [Builtin.append_, run_underlying ht, sizeOf, typeInfo, hi, Builtin.lenOf, Builtin.firstCells, hnc, storeCells]
theorem wp_append_holdN (size : Nat) (hpos : 0 < size) {o : Oper} {a : Act} {w : World} {K : Act → World → Prop} {Q : Exit → Act → World → Prop} (s x : Operand) (t : TypeId) (ho : o.op = .call { callee := .builtin .append, args := #[s, x], argTypes := #[t, t] })
    (base : Nat) (e : TypeId) (i : TypeInfo) (z : Value) (bytes : Nat) (ht : P.underlying t = some (.slice e)) (hi : P.info? e = some i) (hz : i.zero = some z)
    (hsize : i.size = size) (hby : i.bytes = bytes) (hzs : z.cells.size = size) (v : Value) (n : Nat) (xs : List Value) (hs : a.eval s = v) (hown : w.ownsRow base e size v n xs)
    (xv : Value) (m : Nat) (cs : List Value) (hxv : a.eval x = xv) (hx : HoldN w xv m cs) (hl : cs.length = m * size) (h1 : ∀ u ∈ cs, u.oneCell' = true) (h63 : n + m ≤ maxLen) (hbytes : (n + m) * bytes ≤ 140737488355328) (hbase : base ≤ w.heap.size)
    (h : ∀ v' w', w'.ownsRow base e size v' (n + m) (xs ++ cs) → w.grownBy w' v.ownBlock → (v'.ownBlock = v.ownBlock ∨ v'.ownBlock = some w.heap.size) → K (a.put o.dst v') w') : o.wp P a w K Q := by
  obtain ⟨v', w', hr, h2, h3, h4⟩ := run_append_holdN (P := P) size hpos base t o.type e i z bytes ht hi hz hsize hby hzs v n xs hown xv m cs hx hl h1 h63 hbytes hbase
  unfold Oper.wp execOp
  simp only [ho, resolve, invoke, builtin, Sem.run_bind, Sem.run_pure, Result.andThen_ok, List.map_toArray, List.map_cons, List.map_nil, hs, hxv, hr]
  exact h v' w' h2 h3 h4
theorem run_buildNoneN (size : Nat) (w : World) (t e : TypeId) (i : TypeInfo) (z : Value) (ht : P.underlying t = some (.slice e)) (hi : P.info? e = some i) (hz : i.zero = some z) (hs : i.size = size) :
    (Instr.buildSlice t 0 #[]).run P w = .ok (.slice (some ⟨w.heap.size, 0, none⟩) 0 0) (w.alloc (.cells #[] e)) := by
  simp [Instr.buildSlice, run_underlying ht, sizeOf, typeInfo, hi, hs, zeroValue, hz, Instr.fill, newRow, Result.andThen]
  have hr0 : Array.range 0 = #[] := by simp [Array.range]
  rw [hr0]; simp
theorem own_noneN (size : Nat) (w : World) (e : TypeId) : (w.alloc (.cells #[] e)).ownsRow w.heap.size e size (.slice (some ⟨w.heap.size, 0, none⟩) 0 0) 0 [] :=
  World.ownsRow_lit w #[] 0 (Nat.le_refl _) (Nat.zero_le _) (by simp)
theorem wp_noneN (size : Nat) {o : Oper} {a : Act} {w : World} {K : Act → World → Prop} {Q : Exit → Act → World → Prop} (t e : TypeId) (i : TypeInfo) (z : Value) (ho : o.op = .buildSlice t 0 #[]) (ht : P.underlying t = some (.slice e)) (hi : P.info? e = some i) (hz : i.zero = some z) (hs : i.size = size)
    (h : ∀ x w2, w2.ownsRow w.heap.size e size x 0 [] → w.grownBy w2 none → (∀ b, x.ownBlock = some b → b = w.heap.size) → K (a.put o.dst x) w2) : o.wp P a w K Q := by
  have hrun := run_buildNoneN size w t e i z ht hi hz hs
  have h2 := h _ _ (own_noneN size w e) (World.grownBy_alloc w _ _) (fun b hb => by simpa [Value.ownBlock] using hb.symm)
  unfold Oper.wp
  simp [execOp, ho, hrun, Result.andThen]
  exact h2
theorem wp_oneH (size : Nat) (hp0 : 0 < size) (hp1 : ¬ 16777216 < size) {o : Oper} {a : Act} {w : World} {K : Act → World → Prop} {Q : Exit → Act → World → Prop} (t e : TypeId) (x : Operand) (cs : List Value) (i : TypeInfo) (z : Value) (ho : o.op = .buildSlice t 1 #[(0, x)]) (hx : a.eval x = .agg cs.toArray)
    (ht : P.underlying t = some (.slice e)) (hi : P.info? e = some i) (hz : i.zero = some z) (hs : i.size = size) (hl : cs.length = size)
    (h : ∀ y w2, HoldN w2 y 1 cs → w.grownBy w2 none → (∀ ad c, y = .slice (some ad) 1 c → ad.block = w.heap.size) → w.heap.size < w2.heap.size → K (a.put o.dst y) w2) : o.wp P a w K Q := by
  refine wp_oneN size hp0 hp1 t e x cs i z ho hx ht hi hz hs hl (h _ _ (.inl ⟨⟨w.heap.size, 0, none⟩, 1, rfl, fun j u hj => ?_⟩) (World.grownBy_alloc w _ _) (fun ad c e => by injection e with e1; injection e1 with e1; rw [← e1]) (by rw [one_size]; omega))
  rw [Addr.add_lit, Nat.zero_add, cell_of_heap (MapKept.heap_alloc w _).1, List.getElem?_toArray]; exact hj
end
section
variable {P : Program} {ops : Array Oper} {Q : Exit → Act → World → Prop} {o : Oper} {rest : List Oper} {a : Act} {w : World}
theorem wpList_appendN (size : Nat) (hpos : 0 < size) (hgd : o.guard = none) (s x : Operand) (t : TypeId) (ho : o.op = .call { callee := .builtin .append, args := #[s, x], argTypes := #[t, t] })
    (base : Nat) (e : TypeId) (i : TypeInfo) (z : Value) (bytes : Nat) (ht : P.underlying t = some (.slice e)) (hi : P.info? e = some i) (hz : i.zero = some z)
    (hsize : i.size = size) (hby : i.bytes = bytes) (hzs : z.cells.size = size) (v : Value) (n : Nat) (xs : List Value) (hs : a.eval s = v) (hown : w.ownsRow base e size v n xs)
    (xv : Value) (m : Nat) (cs : List Value) (hxv : a.eval x = xv) (hx : HoldN w xv m cs) (hl : cs.length = m * size) (h1 : ∀ u ∈ cs, u.oneCell' = true) (h63 : n + m ≤ maxLen) (hbytes : (n + m) * bytes ≤ 140737488355328) (hbase : base ≤ w.heap.size)
    (h : ∀ v' w', w'.ownsRow base e size v' (n + m) (xs ++ cs) → w.grownBy w' v.ownBlock → (v'.ownBlock = v.ownBlock ∨ v'.ownBlock = some w.heap.size) → wpList P ops Q rest (a.put o.dst v') w') : wpList P ops Q (o :: rest) a w :=
  wpList_plain hgd fun _ hK => wp_append_holdN size hpos s x t ho base e i z bytes ht hi hz hsize hby hzs v n xs hs hown xv m cs hxv hx hl h1 h63 hbytes hbase (fun v' w' a b c => hK _ _ (h v' w' a b c))
theorem wpList_oneH (size : Nat) (hp0 : 0 < size) (hp1 : ¬ 16777216 < size) (hgd : o.guard = none) (t e : TypeId) (x : Operand) (cs : List Value) (i : TypeInfo) (z : Value) (ho : o.op = .buildSlice t 1 #[(0, x)]) (hx : a.eval x = .agg cs.toArray)
    (ht : P.underlying t = some (.slice e)) (hi : P.info? e = some i) (hz : i.zero = some z) (hs : i.size = size) (hl : cs.length = size)
    (h : ∀ y w2, HoldN w2 y 1 cs → w.grownBy w2 none → (∀ ad c, y = .slice (some ad) 1 c → ad.block = w.heap.size) → w.heap.size < w2.heap.size → wpList P ops Q rest (a.put o.dst y) w2) : wpList P ops Q (o :: rest) a w :=
  wpList_plain hgd fun _ hK => wp_oneH size hp0 hp1 t e x cs i z ho hx ht hi hz hs hl (fun y w2 h1 h2 h3 h4 => hK _ _ (h y w2 h1 h2 h3 h4))
end

section
variable {P : Program}
/-- The front of a row, as a slice value. -/
theorem slice_frontN (size : Nat) {w : World} {B n : Nat} {t e : TypeId} {v : Value} {xs : List Value} (hu : P.underlying t = some (.slice (P.elem t))) (hz : ∀ w, (sizeOf (P.elem t)).run P w = .ok size w) (h : w.ownsRow B e size v n xs) (h63 : n ≤ maxLen) {i : Nat} (hi : i ≤ n) :
    ∃ x, (∀ w', (Instr.slice t v none (some (.int .i64 (i : Int))) none).run P w' = .ok x w') ∧ HoldN w x i (xs.take (i * size)) ∧ (∀ a c, x = .slice (some a) i c → a.block ∈ ob v) := by
  obtain ⟨h1, ⟨rfl, h2⟩ | ⟨g, cap, cur, rfl, a1, a2, a3, a4, a5, a6⟩⟩ := h
  · subst h2
    obtain rfl : i = 0 := by omega
    have h0 : xs = [] := List.eq_nil_of_length_eq_zero (by simpa using h1)
    subst h0
    refine ⟨.slice none 0 0, fun w' => ?_, .inr ⟨0, rfl, rfl, by simp⟩, fun a c e => (by cases e)⟩
    rw [run_slice_h w' _ _ _ _ hu .i64 _ (by omega) (by simp), hz]
    rfl
  · refine ⟨.slice (some ⟨g, 0, none⟩) i cap, fun w' => ?_, .inl ⟨⟨g, 0, none⟩, cap, rfl, fun j u hj => ?_⟩, fun a c e => ?_⟩
    · rw [run_slice_h w' _ _ _ _ hu .i64 _ (by omega) (by omega), hz]
      simp only [Result.andThen, sliced, Int.toNat_natCast, Nat.zero_mul, Nat.sub_zero, Option.map_some, Addr.add_lit, Nat.add_zero]
      split <;> rfl
    · rw [Addr.add_lit, Nat.zero_add, cell_of_heap a2]
      have hlt := (List.getElem?_eq_some_iff.1 hj).1
      rw [List.length_take] at hlt
      rw [List.getElem?_take_of_lt (by omega), ← a6, List.getElem?_take_of_lt (by omega), Array.getElem?_toList] at hj
      exact hj
    · injection e with e1 e2 e3
      injection e1 with e1
      subst e1
      simp [ob, Value.ownBlock]
/-- What lies behind a place of a row, as a slice value. -/
theorem slice_backN (size : Nat) {w : World} {B n : Nat} {t e : TypeId} {v : Value} {xs : List Value} (hu : P.underlying t = some (.slice (P.elem t))) (hz : ∀ w, (sizeOf (P.elem t)).run P w = .ok size w) (h : w.ownsRow B e size v n xs) (h63 : n ≤ maxLen) {i : Nat} (hi : i ≤ n) :
    ∃ x, (∀ w', (Instr.slice t v (some (.int .i64 (i : Int))) none none).run P w' = .ok x w') ∧ HoldN w x (n - i) (xs.drop (i * size)) ∧ (∀ a c, x = .slice (some a) (n - i) c → a.block ∈ ob v) := by
  obtain ⟨h1, ⟨rfl, h2⟩ | ⟨g, cap, cur, rfl, a1, a2, a3, a4, a5, a6⟩⟩ := h
  · subst h2
    obtain rfl : i = 0 := by omega
    have h0 : xs = [] := List.eq_nil_of_length_eq_zero (by simpa using h1)
    subst h0
    refine ⟨.slice none 0 0, fun w' => ?_, .inr ⟨0, rfl, rfl, by simp⟩, fun a c e => (by cases e)⟩
    rw [run_slice_l w' _ _ _ _ hu .i64 _ (by omega) (by simp), hz]
    rfl
  · refine ⟨sliced (some ⟨g, 0, none⟩) i n cap size, fun w' => ?_, ?_, fun a c e => ?_⟩
    · rw [run_slice_l w' _ _ _ _ hu .i64 _ (by omega) (by omega), hz]
      rfl
    · unfold sliced
      by_cases hci : cap = i
      · rw [if_pos hci]
        have : xs.drop (i * size) = [] := List.drop_eq_nil_of_le (by rw [h1]; exact Nat.mul_le_mul_right _ (by omega))
        rw [this]
        exact .inl ⟨_, _, rfl, fun j u hj => by simp at hj⟩
      · rw [if_neg hci]
        refine .inl ⟨⟨g, i * size, none⟩, _, by rw [Option.map_some, Addr.add_lit, Nat.zero_add], fun j u hj => ?_⟩
        rw [Addr.add_lit, cell_of_heap a2]
        rw [List.getElem?_drop] at hj
        have hlt := (List.getElem?_eq_some_iff.1 hj).1
        rw [← a6, List.getElem?_take_of_lt (by rw [h1] at hlt; omega), Array.getElem?_toList] at hj
        exact hj
    · unfold sliced at e
      injection e with e1 e2 e3
      split at e1
      · injection e1 with e1
        subst e1
        simp [ob, Value.ownBlock]
      · rw [Option.map_some] at e1
        injection e1 with e1
        subst e1
        simp [ob, Value.ownBlock, addr_block]
theorem exec_sliceN {o : Oper} {a : Act} {w : World} (t : TypeId) (x : Operand) (lo hi : Option Operand) (v xv : Value) (lv hv : Option Value) (hu : P.underlying t = some (.slice (P.elem t))) (ho : o.op = .slice t x lo hi none) (hx : a.eval x = v) (hl : lo.map a.eval = lv) (hh : hi.map a.eval = hv)
    (hr : (Instr.slice t v lv hv none).run P w = .ok xv w) : (execOp a.eval o).run P w = .ok (.value xv) w := by
  unfold execOp
  simp only [ho, hx, hl, hh, Option.map_none, Sem.run_bind, run_sliceAt_slice w _ _ _ _ _ hu, hr, Result.andThen_ok]
  rfl
end
end Go.Proofs.YtkeegnhjemhblaaGreatDoor.Rb
