import Derived.Test.YtpbhkaokgpacoaaGreatDoorZStDec2
import Derived.Test.YtpbhkaokgpacoaaGreatDoorZStRow
set_option linter.unusedSimpArgs false
set_option linter.unusedVariables false
/-
  Decode: what its loop's body carries along.
-/
namespace Go.Proofs.YtpbhkaokgpacoaaGreatDoor.St
open Go.RowKit Go.Maps Go.WideMaps Go.Proofs.YtpbhkaokgpacoaaGreatDoor.Rf Go.Proofs.YtpbhkaokgpacoaaGreatDoor.Rd

/-- In the body of the loop: Decode's variables, the index, the entry that is being read. -/
structure BdSt (w : World) (A q r g b E : Nat) (S : List SE) (W : World) (R : List UInt8) (ok : Bool) (e : SE) : Prop where
  ds : DSt A q r W R ok
  ix : IndexAt (r + 2) W g b S
  he : W.heap[E]? = some (.cells e.cells.toArray 44)
  be : Below w.heap.size w W
  rE : r + 2 ≤ E
  eg : E ≠ g
  eb : E ≠ b
  wa : w.heap.size ≤ A
section
variable {w : World} {A q r g b E : Nat} {S : List SE} {W W' : World} {R R' : List UInt8} {ok ok' : Bool} {e e' : SE}
theorem BdSt.bounds (h : BdSt w A q r g b E S W R ok e) : A < q ∧ q < r ∧ r + 2 ≤ g ∧ r + 2 ≤ b ∧ r + 2 ≤ E ∧ w.heap.size ≤ A := ⟨h.ds.Aq, h.ds.qr, h.ix.baseg, h.ix.baseb, h.rE, h.wa⟩
theorem BdSt.step (h : BdSt w A q r g b E S W R ok e) (hd : DSt A q r W' R' ok') (hT : Turn [A, q] W W') : BdSt w A q r g b E S W' R' ok' e := by
  obtain ⟨h1, h2, h3, h4, h5, h6⟩ := h.bounds
  refine ⟨hd, h.ix.kept (hT.block _ h.ix.lt_g (by simp; omega)) (hT.block _ h.ix.lt_b (by simp; omega)), (hT.block _ (lt_of_heap h.he) (by simp; omega)).trans h.he, h.be.trans (hT.below (by intro x hx; simp at hx; omega) h.be.size), h.rE, h.eg, h.eb, h.wa⟩
theorem BdSt.ent (h : BdSt w A q r g b E S W R ok e) (hT : Turn [E] W W') (he : W'.heap[E]? = some (.cells e'.cells.toArray 44)) : BdSt w A q r g b E S W' R ok e' := by
  obtain ⟨h1, h2, h3, h4, h5, h6⟩ := h.bounds
  have hA := lt_of_heap h.ds.ov
  have hq := lt_of_heap h.ds.rd
  have hg := h.eg; have hb := h.eb
  refine ⟨h.ds.turn hT (by intro x hx; simp at hx; omega) ((hT.block _ hA (by simp; omega)).trans h.ds.ov) ((hT.block _ hq (by simp; omega)).trans h.ds.rd), h.ix.kept (hT.block _ h.ix.lt_g (by simp; omega)) (hT.block _ h.ix.lt_b (by simp; omega)), he, h.be.trans (hT.below (by intro x hx; simp at hx; omega) h.be.size), h.rE, h.eg, h.eb, h.wa⟩
theorem BdSt.okd (h : BdSt w A q r g b E S W R ok e) (ho : OkAt W' A ok') (hT : Turn [A] W W') : BdSt w A q r g b E S W' R ok' e := by
  obtain ⟨h1, h2, h3, h4, h5, h6⟩ := h.bounds
  have hq := lt_of_heap h.ds.rd
  exact h.step (h.ds.turn hT (by intro x hx; simp at hx; omega) ho ((hT.block _ hq (by simp; omega)).trans h.ds.rd)) (hT.mono (by simp))
theorem BdSt.cells (h : BdSt w A q r g b E S W R ok e) : W.cell? ⟨A, 0, none⟩ = some (.bool ok) ∧ W.frozen? ⟨A, 0, none⟩ = false ∧ W.cell? ⟨r, 0, none⟩ = some (.pointer (some ⟨q, 0, none⟩)) ∧ W.cell? ⟨r + 1, 0, none⟩ = some (.func (.func 48) #[] #[.pointer (some ⟨A, 0, none⟩)]) :=
  ⟨cell_of_heap h.ds.ov, frozen_of_heap h.ds.ov, cell_of_heap h.ds.rv, cell_of_heap h.ds.kv⟩
theorem BdSt.fz (h : BdSt w A q r g b E S W R ok e) (j : Nat) : W.frozen? ⟨E, j, none⟩ = false := frozen_of_heap h.he
end
theorem ent0 (p : List UInt8) : Tryz.prog.built 44 [(0, .string ⟨p.toArray⟩)] = some (SE.cells ⟨p, 0, 0, 0, 0, 0, List.replicate 32 0⟩).toArray := by kernel_rfl
section
variable {W : World} {E : Nat} {e : SE} {T : TypeId}
theorem ent1 (h : W.heap[E]? = some (.cells e.cells.toArray T)) (n : Nat) : (W.setCell ⟨E, 1, none⟩ (.int .u8 (n : Int))).heap[E]? = some (.cells (SE.cells ⟨e.path, n, e.size, e.ino, e.tick, e.kind, e.id⟩).toArray T) := by rw [setCell_heap _ _ _ _ _ _ h]; simp [SE.cells]
theorem ent2 (h : W.heap[E]? = some (.cells e.cells.toArray T)) (n : Int) : (W.setCell ⟨E, 2, none⟩ (.int .i64 n)).heap[E]? = some (.cells (SE.cells ⟨e.path, e.node, n, e.ino, e.tick, e.kind, e.id⟩).toArray T) := by rw [setCell_heap _ _ _ _ _ _ h]; simp [SE.cells]
theorem ent3 (h : W.heap[E]? = some (.cells e.cells.toArray T)) (n : Nat) : (W.setCell ⟨E, 3, none⟩ (.int .u64 (n : Int))).heap[E]? = some (.cells (SE.cells ⟨e.path, e.node, e.size, n, e.tick, e.kind, e.id⟩).toArray T) := by rw [setCell_heap _ _ _ _ _ _ h]; simp [SE.cells]
theorem ent4 (h : W.heap[E]? = some (.cells e.cells.toArray T)) (n : Int) : (W.setCell ⟨E, 4, none⟩ (.int .i64 n)).heap[E]? = some (.cells (SE.cells ⟨e.path, e.node, e.size, e.ino, n, e.kind, e.id⟩).toArray T) := by rw [setCell_heap _ _ _ _ _ _ h]; simp [SE.cells]
theorem ent5 (h : W.heap[E]? = some (.cells e.cells.toArray T)) (n : Nat) : (W.setCell ⟨E, 5, none⟩ (.int .u8 (n : Int))).heap[E]? = some (.cells (SE.cells ⟨e.path, e.node, e.size, e.ino, e.tick, n, e.id⟩).toArray T) := by rw [setCell_heap _ _ _ _ _ _ h]; simp [SE.cells]
theorem ent6 (h : W.heap[E]? = some (.cells e.cells.toArray T)) (hi : e.id.length = 32) (l : List UInt8) (hl : l.length = 32) : (W.setCells E 6 (Lib.byteCells l)).heap[E]? = some (.cells (SE.cells ⟨e.path, e.node, e.size, e.ino, e.tick, e.kind, l⟩).toArray T) ∧ W.there E 6 32 ∧ Turn [E] W (W.setCells E 6 (Lib.byteCells l)) := by
  have h38 : e.cells.toArray.size = 38 := by rw [List.size_toArray, cells_size hi]
  obtain ⟨cur', h1, h2, h3⟩ := heap_setCells (Lib.byteCells l) 6 W e.cells.toArray h (by rw [Lib.byteCells_length, hl, h38]; decide)
  refine ⟨?_, ?_, turn_setCells _ _ _ _⟩
  · rw [h1]
    congr 2
    apply Array.toList_inj.1
    rw [h3, Lib.byteCells_length, hl, List.drop_eq_nil_of_le (by rw [Array.length_toList, h38]; decide)]
    simp [SE.cells]
  · intro j hj
    refine ⟨?_, frozen_of_heap h⟩
    rw [cell_of_heap h, Array.getElem?_eq_getElem (by omega)]
    rfl
theorem cell_ent (h : W.heap[E]? = some (.cells e.cells.toArray T)) : W.cell? ⟨E, 1, none⟩ = some (.int .u8 (e.node : Int)) ∧ W.cell? ⟨E, 2, none⟩ = some (.int .i64 e.size) ∧ W.cell? ⟨E, 3, none⟩ = some (.int .u64 (e.ino : Int)) ∧ W.cell? ⟨E, 4, none⟩ = some (.int .i64 e.tick) ∧ W.cell? ⟨E, 5, none⟩ = some (.int .u8 (e.kind : Int)) := by
  refine ⟨?_, ?_, ?_, ?_, ?_⟩ <;> (rw [cell_of_heap h]; rfl)
end
theorem wpList_build0 {ops : Array Oper} {rest : List Oper} {o : Oper} {a : Act} {w : World} {Q : Exit → Act → World → Prop} (hgd : o.guard = none) (x : Operand) (ho : o.op = .build 44 #[(0, x)]) (p : List UInt8) (hx : a.eval x = .string ⟨p.toArray⟩)
    (h : wpList Tryz.prog ops Q rest (a.put o.dst (enV ⟨p, 0, 0, 0, 0, 0, List.replicate 32 0⟩)) w) : wpList Tryz.prog ops Q (o :: rest) a w :=
  wpList_plain hgd fun _ hK => by
    have hc := run_build (P := Tryz.prog) w 44 #[(0, .string ⟨p.toArray⟩)] (SE.cells ⟨p, 0, 0, 0, 0, 0, List.replicate 32 0⟩).toArray (ent0 p)
    unfold Oper.wp execOp
    simp only [ho, List.map_toArray, List.map_cons, List.map_nil, hx, Sem.run_bind, hc, Result.andThen_ok]
    exact hK _ _ h
theorem txE_dec (n : Nat) (R : List UInt8) : decide (txE n R = 0) = txB n R := by
  unfold txE txB; cases (txt n R).isSome <;> simp
theorem tk_one {w : World} {B : Nat} {v : Value} {R : List UInt8} (h : RowM w B v (tkF 1 R)) : ∃ (g cap nd : Nat), nd = ((tkF 1 R).headD 0).toNat ∧ v = .slice (some ⟨g, 0, none⟩) 1 cap ∧ w.cell? ⟨g, 0, none⟩ = some (.int .u8 (nd : Int)) := by
  have h0 := h
  obtain ⟨g, cap, cur, fz, rfl, _⟩ := h
  refine ⟨g, cap, _, rfl, by rw [tkF_len], ?_⟩
  have hl := tkF_len 1 R
  match hh : tkF 1 R, hl with
  | [c], _ =>
    rw [hh] at h0
    exact h0.range 0 _ rfl
theorem tk_id {w : World} {B : Nat} {v : Value} {R : List UInt8} (h : RowM w B v (tkF 32 R)) : ∃ g cap, v = .slice (some ⟨g, 0, none⟩) 32 cap ∧ w.rangeAt g 0 (Lib.byteCells (tkF 32 R)) := by
  have h0 := h
  obtain ⟨g, cap, cur, fz, rfl, _⟩ := h
  exact ⟨g, cap, by rw [tkF_len], h0.range⟩
end Go.Proofs.YtpbhkaokgpacoaaGreatDoor.St
