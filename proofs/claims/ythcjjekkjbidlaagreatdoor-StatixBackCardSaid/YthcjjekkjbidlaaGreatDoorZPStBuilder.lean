import Derived.Test.YthcjjekkjbidlaaGreatDoorZPRowKit
import Derived.Lib.Builder
import Derived.Lib.AppendStr
import Derived.Lib.UnsafeStr
import Derived.Laws.Externs
import Derived.Laws.BytesString
set_option linter.unusedSimpArgs false
set_option linter.unusedVariables false
/-
  The contracts of strings.Builder's copyCheck and WriteString, at this program's translation of them.
-/
namespace Go.Proofs.YthcjjekkjbidlaaGreatDoor.St
open Go.RowKit Go.Proofs.YthcjjekkjbidlaaGreatDoor.Rf

abbrev BdT : TypeId := 123
theorem sizeBuilder : (Tryz.prog.info? BdT).map (·.size) = some 2 := by kernel_rfl
theorem liesBuilder : liesAt Tryz.prog Tryz.prog.depth BdT (2 / Tryz.prog.cellsOf BdT) 0 BdT 1 = true := by kernel_rfl
theorem infoByte : (Tryz.prog.info? 5).map (fun i => (i.zero, i.size, i.bytes)) = some (some (.int .u8 0), 1, 1) := by kernel_rfl

set_option maxHeartbeats 2000000 in
set_option maxRecDepth 100000 in
theorem copyCheck_used (b : Nat) (w : World) (h0 : w.cell? ⟨b, 0, none⟩ = some (.pointer (some ⟨b, 0, none⟩))) :
    Calls Tryz.prog 121 #[.pointer (some ⟨b, 0, none⟩)] w fun e w' => e = .returned (.tuple #[]) ∧ w' = w := by
  obtain ⟨j, hj, _⟩ := Option.map_eq_some_iff.1 sizeBuilder
  go_enter Tryz.func121, Tryz.ntmps121
  go_wp2
  rw [Lib.run_neq_ptr_same w _ Tryz.underlying121 hj]
  go_wp2
  go_end0
  exact ⟨rfl, rfl⟩

set_option maxHeartbeats 2000000 in
set_option maxRecDepth 100000 in
theorem copyCheck_fresh (b : Nat) (w : World) (h0 : w.cell? ⟨b, 0, none⟩ = some (.pointer none)) (hsh : w.shape? b = some (BdT, 2)) (hfz : w.frozen? ⟨b, 0, none⟩ = false) :
    Calls Tryz.prog 121 #[.pointer (some ⟨b, 0, none⟩)] w fun e w' => e = .returned (.tuple #[]) ∧ w' = w.setCell ⟨b, 0, none⟩ (.pointer (some ⟨b, 0, none⟩)) := by
  obtain ⟨j, hj, hjs⟩ := Option.map_eq_some_iff.1 sizeBuilder
  go_enter Tryz.func121, Tryz.ntmps121
  go_wp2
  rw [Lib.run_to_unsafe w ⟨b, 0, none⟩ Tryz.underlying121 Tryz.underlying238 hj (by rw [hjs]; decide) hsh (Nat.zero_lt_succ 1)]
  simp only [Result.andThen]
  rw [Oper.upon_value]
  go_wp2
  rw [run_callFunc_extern Tryz.func170 (by kernel_rfl) (by kernel_rfl) (by kernel_rfl) (e := Extern.AbiNoEscape.same) (by kernel_rfl)]
  rw [Lib.run_noEscape]
  simp only [Result.andThen]
  rw [Oper.upon_value]
  go_wp2
  rw [Lib.run_from_unsafe w ⟨b, 0, none⟩ Tryz.underlying238 Tryz.underlying121 hj hsh liesBuilder]
  simp only [Result.andThen]
  rw [Oper.upon_value]
  go_wp2
  go_end0
  exact ⟨rfl, rfl⟩

end Go.Proofs.YthcjjekkjbidlaaGreatDoor.St
/-
  A builder whose row is told: what WriteString turns, and nothing else.
-/
namespace Go.Proofs.YthcjjekkjbidlaaGreatDoor.St
open Go.RowKit Go.Proofs.YthcjjekkjbidlaaGreatDoor.Rf

/-- A builder, and the row of its bytes. -/
structure BdAt (B b : Nat) (v : Value) (l : List UInt8) (w : World) : Prop where
  blk : w.heap[b]? = some (.cells #[.pointer none, v] BdT) ∨ w.heap[b]? = some (.cells #[.pointer (some ⟨b, 0, none⟩), v] BdT)
  row : w.ownsRow B 5 1 v (Lib.byteCells l).length (Lib.byteCells l)
  ne : b ∉ ob v
  base : B ≤ b
theorem BdAt.lt {B b : Nat} {v : Value} {l : List UInt8} {w : World} (h : BdAt B b v l w) : b < w.heap.size := by
  rcases h.blk with k | k <;> exact lt_of_heap k
theorem BdAt.kept {B b : Nat} {v : Value} {l : List UInt8} {w w' : World} (h : BdAt B b v l w) (h1 : w'.heap[b]? = w.heap[b]?) (h2 : ∀ x ∈ ob v, x < w.heap.size → w'.heap[x]? = w.heap[x]?) : BdAt B b v l w' :=
  ⟨by rw [h1]; exact h.blk, row_kept h.row h2, h.ne, h.base⟩
theorem BdAt.below {B b : Nat} {v : Value} {l : List UInt8} {w w' : World} (h : BdAt B b v l w) (hb : Below w.heap.size w w') : BdAt B b v l w' :=
  h.kept (hb.block _ h.lt) (fun x _ hl => hb.block x hl)
theorem BdAt.is {B b : Nat} {v : Value} {l : List UInt8} {w : World} (h : BdAt B b v l w) : Lib.IsBuilder BdT 5 B b (Lib.byteCells l) w := by
  have hne : v.ownBlock ≠ some b := fun e => h.ne (by simp [ob, e])
  rcases h.blk with k | k
  · exact .inl ⟨h.base, v, k, h.row, hne⟩
  · exact .inr ⟨h.base, v, k, h.row, hne⟩
theorem bd_fresh (w : World) : BdAt w.heap.size w.heap.size (.slice none 0 0) [] (w.alloc (.cells #[.pointer none, .slice none 0 0] BdT)) :=
  ⟨.inl (MapKept.heap_alloc w _).1, World.ownsRow_nil _ _ _ _, by simp [ob, Value.ownBlock], Nat.le_refl _⟩
theorem copyCheck_bd (B b : Nat) (v : Value) (l : List UInt8) (w : World) (h : BdAt B b v l w) :
    Calls Tryz.prog 121 #[.pointer (some ⟨b, 0, none⟩)] w fun e w' => e = .returned (.tuple #[]) ∧ BdAt B b v l w' ∧ w'.heap[b]? = some (.cells #[.pointer (some ⟨b, 0, none⟩), v] BdT) ∧ Turn [b] w w' := by
  rcases h.blk with k | k
  · refine (copyCheck_fresh b w (by rw [cell_of_heap k]; rfl) (by simp [World.shape?, k]) (frozen_of_heap k)).mono ?_
    rintro e w' ⟨rfl, rfl⟩
    have hk : (w.setCell ⟨b, 0, none⟩ (.pointer (some ⟨b, 0, none⟩))).heap[b]? = some (.cells #[.pointer (some ⟨b, 0, none⟩), v] BdT) := by rw [setCell_heap _ _ _ _ _ _ k]; rfl
    refine ⟨rfl, ⟨.inr hk, row_kept h.row (fun x hx _ => Below.heap_setCell _ _ _ _ (fun e => h.ne (by have e : x = b := e; exact e ▸ hx))), h.ne, h.base⟩, hk, (Turn.refl _ _).setCell (.inl (by simp)) _⟩
  · refine (copyCheck_used b w (by rw [cell_of_heap k]; rfl)).mono ?_
    rintro e w' ⟨rfl, rfl⟩
    exact ⟨rfl, h, k, Turn.refl _ _⟩

section
variable {P : Program} {w : World}
/-- The row behind an append of a text is the old one, or a new one. -/
theorem append_str_at (base : Nat) (t u ty e : TypeId) (i : TypeInfo) (ht : P.underlying t = some (.slice e)) (hu : P.underlying u = some .string) (hi : P.info? e = some i) (hz : i.zero = some (.int .u8 0))
    (hsize : i.size = 1) (hby : i.bytes = 1) (v : Value) (n : Nat) (xs : List Value) (hown : w.ownsRow base e 1 v n xs) (s : ByteArray)
    (h63 : n + s.size ≤ maxLen) (hbytes : n + s.size ≤ 140737488355328) (hbase : base ≤ w.heap.size) :
    ∃ v' w', (Builtin.append_ #[t, u] ty #[v, .string s]).run P w = .ok v' w' ∧ w'.ownsRow base e 1 v' (n + s.size) (xs ++ Lib.strCells s) ∧ w.grownBy w' v.ownBlock ∧ ∀ x ∈ ob v', x ∈ ob v ∨ w.heap.size ≤ x := by
  obtain ⟨v', w', hr, h2, h3, _⟩ := Lib.run_append_own_string (P := P) w base t u ty e i ht hu hi hz hsize hby v n xs hown s h63 hbytes hbase
  refine ⟨v', w', hr, h2, h3, fun x hx => ?_⟩
  have hxl : xs.length = n := by simpa using hown.1
  rcases hown.2 with ⟨rfl, rfl⟩ | ⟨g, cap, cur, rfl, hbg, hg, hnc, hcm, hcs, htake⟩
  · have hx0 : xs = [] := List.eq_nil_of_length_eq_zero hxl
    subst hx0
    obtain ⟨v2, w2, hr2, k2, _, _⟩ := Lib.run_append_own_string (P := P) w w.heap.size t u ty e i ht hu hi hz hsize hby (.slice none 0 0) 0 [] (World.ownsRow_nil _ _ _ _) s h63 hbytes (Nat.le_refl _)
    rw [hr] at hr2
    injection hr2 with e1 e2
    subst e1
    exact .inr (row_ge k2 x hx)
  · by_cases hroom : n + s.size ≤ cap
    · have hcs' : cur.size = cap := by simpa using hcs
      have hr2 := Lib.run_append_room_string (P := P) w t u ty e i ht hu hi hsize g n cap cur hg s hroom (by omega)
      rw [hr] at hr2
      injection hr2 with e1 e2
      subst e1
      exact .inl (by simpa [ob, Value.ownBlock] using hx)
    · have holds : ∀ j u, xs[j]? = some u → w.cell? ((⟨g, 0, none⟩ : Addr).add j) = some u := hown.cells (g := g) rfl
      have hr2 := Lib.run_append_grow_string (P := P) w t u ty e i (.int .u8 0) ht hu hi hz ⟨g, 0, none⟩ n cap xs (by rw [hsize]; simpa using hxl) holds s (by omega) (by simp only [maxLen] at h63; omega) (by rw [hby]; exact growslice_fits (by omega) (by omega))
      rw [hr] at hr2
      injection hr2 with e1 e2
      subst e1
      have : x = w.heap.size := by simpa [ob, Value.ownBlock] using hx
      exact .inr (by omega)
theorem wp_append_str {o : Oper} {a : Act} {K : Act → World → Prop} {Q : Exit → Act → World → Prop} (sl x : Operand) (t u : TypeId)
    (ho : o.op = .call { callee := .builtin .append, args := #[sl, x], argTypes := #[t, u] })
    (base : Nat) (e : TypeId) (i : TypeInfo) (ht : P.underlying t = some (.slice e)) (hu : P.underlying u = some .string) (hi : P.info? e = some i) (hz : i.zero = some (.int .u8 0))
    (hsize : i.size = 1) (hby : i.bytes = 1)
    (v : Value) (n : Nat) (xs : List Value) (hs : a.eval sl = v) (hown : w.ownsRow base e 1 v n xs) (s : ByteArray) (hx : a.eval x = .string s)
    (h63 : n + s.size ≤ maxLen) (hbytes : n + s.size ≤ 140737488355328) (hbase : base ≤ w.heap.size)
    (h : ∀ v' w', w'.ownsRow base e 1 v' (n + s.size) (xs ++ Lib.strCells s) → w.grownBy w' v.ownBlock → (∀ x ∈ ob v', x ∈ ob v ∨ w.heap.size ≤ x) → K (a.put o.dst v') w') : o.wp P a w K Q := by
  obtain ⟨v', w', hr, h2, h3, h4⟩ := append_str_at (P := P) base t u o.type e i ht hu hi hz hsize hby v n xs hown s h63 hbytes hbase
  unfold Oper.wp execOp
  simp only [ho, resolve, invoke, builtin, Sem.run_bind, Sem.run_pure, Result.andThen_ok, List.map_toArray, List.map_cons, List.map_nil, hs, hx, hr]
  exact h v' w' h2 h3 h4
theorem wpList_append_str {ops : Array Oper} {rest : List Oper} {o : Oper} {a : Act} {Q : Exit → Act → World → Prop} (hgd : o.guard = none) (sl x : Operand) (t u : TypeId)
    (ho : o.op = .call { callee := .builtin .append, args := #[sl, x], argTypes := #[t, u] })
    (base : Nat) (e : TypeId) (i : TypeInfo) (ht : P.underlying t = some (.slice e)) (hu : P.underlying u = some .string) (hi : P.info? e = some i) (hz : i.zero = some (.int .u8 0))
    (hsize : i.size = 1) (hby : i.bytes = 1)
    (v : Value) (n : Nat) (xs : List Value) (hs : a.eval sl = v) (hown : w.ownsRow base e 1 v n xs) (s : ByteArray) (hx : a.eval x = .string s)
    (h63 : n + s.size ≤ maxLen) (hbytes : n + s.size ≤ 140737488355328) (hbase : base ≤ w.heap.size)
    (h : ∀ v' w', w'.ownsRow base e 1 v' (n + s.size) (xs ++ Lib.strCells s) → w.grownBy w' v.ownBlock → (∀ x ∈ ob v', x ∈ ob v ∨ w.heap.size ≤ x) → wpList P ops Q rest (a.put o.dst v') w') : wpList P ops Q (o :: rest) a w :=
  wpList_plain hgd fun _ hK => wp_append_str sl x t u ho base e i ht hu hi hz hsize hby v n xs hs hown s hx h63 hbytes hbase (fun v' w' a b c => hK _ _ (h v' w' a b c))
end

/-- What a text written behind leaves. -/
def WrPost (B b : Nat) (v : Value) (l : List UInt8) (n : Nat) (w : World) (e : Ending) (w' : World) : Prop :=
  ∃ v', e = .returned (.tuple #[.int .i64 (n : Int), .nilIface]) ∧ BdAt B b v' l w' ∧ Turn (b :: ob v) w w' ∧ ∀ x ∈ ob v', x ∈ ob v ∨ w.heap.size ≤ x

set_option maxHeartbeats 2000000 in
set_option maxRecDepth 100000 in
/-- A text written behind a builder's bytes. -/
theorem write_any (B b : Nat) (v : Value) (l t : List UInt8) (w : World) (h : BdAt B b v l w) (hlen : l.length + t.length ≤ 140737488355328) (hBw : B ≤ w.heap.size) :
    Calls Tryz.prog 56 #[.pointer (some ⟨b, 0, none⟩), .string ⟨t.toArray⟩] w (WrPost B b v (l ++ t) t.length w) := by
  obtain ⟨i0, hi, hzz⟩ := Option.map_eq_some_iff.1 infoByte
  obtain ⟨hz0, hz1, hz2⟩ : i0.zero = some (.int .u8 0) ∧ i0.size = 1 ∧ i0.bytes = 1 := by injection hzz with a b; injection b with b c; exact ⟨a, b, c⟩
  have CC := Lib.hid (copyCheck_bd B b v l w h)
  have HW := Lib.hid h
  have hbl : (Lib.byteCells l).length = l.length := Lib.byteCells_length l
  have hst : (⟨t.toArray⟩ : ByteArray).size = t.length := rfl
  clear hzz h
  go_enter Tryz.func56, Tryz.ntmps56
  go_wp2_with (go_at_call 121; refine CC.out.mono ?_)
  rintro e w1 ⟨rfl, h1, hbk, ht1⟩
  have hown := h1.row
  have hne := h1.ne
  have c0 : w1.cell? ⟨b, 0, none⟩ = some (.pointer (some ⟨b, 0, none⟩)) := by rw [Lib.cell_of_heap hbk]; rfl
  have c1 : w1.cell? ⟨b, 1, none⟩ = some v := by rw [Lib.cell_of_heap hbk]; rfl
  have H1 := Lib.hid h1; have HT1 := Lib.hid ht1
  clear h1 ht1
  go_wp2_with (at_builtin; refine wpList_append_str rfl _ _ 114 9 rfl B 5 i0 Tryz.underlying114 Tryz.underlying9 hi hz0 hz1 hz2 _ _ _ rfl hown ⟨t.toArray⟩ rfl ?c3 ?c4 ?c5 ?_)
  case c3 => unfold maxLen; rw [hbl, hst]; omega
  case c4 => rw [hbl, hst]; omega
  case c5 => have := HT1.out.size; omega
  intro v' w2 hown' hgrow hv2
  have hlt : b < w1.heap.size := lt_of_heap hbk
  have hb2 : w2.heap[b]? = some (.cells #[.pointer (some ⟨b, 0, none⟩), v] BdT (0, 0)) := by
    rw [hgrow.block b hlt (fun e => hne (by simp [ob, e]))]
    exact hbk
  have d0 : w2.cell? ⟨b, 0, none⟩ = some (.pointer (some ⟨b, 0, none⟩)) := by rw [Lib.cell_of_heap hb2]; rfl
  have d1 : w2.cell? ⟨b, 1, none⟩ = some v := by rw [Lib.cell_of_heap hb2]; rfl
  have f1 : w2.frozen? ⟨b, 1, none⟩ = false := Lib.frozen_of_heap hb2 1
  obtain ⟨ao, n', cap, rfl⟩ : ∃ ao n' cap, v' = .slice ao n' cap := by
    rcases hown'.2 with ⟨hv, _⟩ | ⟨g, cap, cur, hv, _⟩
    · exact ⟨_, _, _, hv⟩
    · exact ⟨_, _, _, hv⟩
  have HO := Lib.hid hown'; have HG := Lib.hid hgrow; have HV := Lib.hid hv2; have HB2 := Lib.hid hb2; have HOW := Lib.hid hown
  clear hown' hgrow hv2 hb2 hown
  go_wp2
  go_ret2
  have hT : Turn (b :: ob v) w w2 := (HT1.out.mono (Y := b :: ob v) (fun x hx => by simp at hx; simp [hx])).trans (Y := ob v) ⟨HG.out.os, HG.out.tape, HG.out.output, HG.out.size, fun k hk hx => HG.out.block k hk (fun e => hx (by simp [ob, e]))⟩ (fun y hy => .inl (by simp [hy]))
  have hge := HV.out
  have hnb : b ∉ ob (.slice ao n' cap) := fun hx => by
    rcases hge b hx with k | k
    · exact hne k
    · omega
  refine ⟨.slice ao n' cap, rfl, ⟨.inr ?_, ?_, hnb, HW.out.base⟩, hT.setCell (.inl (by simp)) _, fun x hx => (hge x hx).imp_right (fun k => Nat.le_trans HT1.out.size k)⟩
  · rw [setCell_heap _ _ _ _ _ _ HB2.out]; rfl
  · have e1 : Lib.byteCells (l ++ t) = Lib.byteCells l ++ Lib.strCells ⟨t.toArray⟩ := by simp [Lib.byteCells, Lib.strCells]
    rw [e1, List.length_append, Lib.strCells_length]
    have ho := HO.out
    rw [← hbl] at ho
    exact row_kept ho (fun x hx _ => Below.heap_setCell _ _ _ _ (fun e => hnb (by have e : x = b := e; exact e ▸ hx)))
end Go.Proofs.YthcjjekkjbidlaaGreatDoor.St
