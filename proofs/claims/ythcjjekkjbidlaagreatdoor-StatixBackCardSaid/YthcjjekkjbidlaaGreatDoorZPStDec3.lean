import Derived.Test.YthcjjekkjbidlaaGreatDoorZPStDec1
import Derived.Test.YthcjjekkjbidlaaGreatDoorZPStRow
import Derived.Test.YthcjjekkjbidlaaGreatDoorZPShUnhex
set_option linter.unusedSimpArgs false
set_option linter.unusedVariables false
/-
  Decode: what its loop's body carries along.
-/
namespace Go.Proofs.YthcjjekkjbidlaaGreatDoor.St
open Go.RowKit Go.Maps Go.WideMaps Go.Proofs.YthcjjekkjbidlaaGreatDoor.Rf Go.Proofs.YthcjjekkjbidlaaGreatDoor.Rd

/-- In the body of the loop: Decode's variables, the index, the entry that is being read. -/
structure BdSt (w : World) (A q r g b E : Nat) (S : List SE) (W : World) (R : List UInt8) (ok : Bool) (e : SE) : Prop where
  ds : DSt A q r W R ok
  ix : IndexAt (r + 2) W g b S
  he : W.heap[E]? = some (.cells e.cells.toArray 44)
  be : Below w.heap.size w W
  rE : r + 2 ≤ E
  eg : E ≠ g
  eb : E ≠ b
  wa : w.heap.size ≤ A
section
variable {w : World} {A q r g b E : Nat} {S : List SE} {W W' : World} {R R' : List UInt8} {ok ok' : Bool} {e e' : SE}
theorem BdSt.bounds (h : BdSt w A q r g b E S W R ok e) : A < q ∧ q < r ∧ r + 2 ≤ g ∧ r + 2 ≤ b ∧ r + 2 ≤ E ∧ w.heap.size ≤ A := ⟨h.ds.Aq, h.ds.qr, h.ix.baseg, h.ix.baseb, h.rE, h.wa⟩
theorem BdSt.step (h : BdSt w A q r g b E S W R ok e) (hd : DSt A q r W' R' ok') (hT : Turn [A, q] W W') : BdSt w A q r g b E S W' R' ok' e := by
  obtain ⟨h1, h2, h3, h4, h5, h6⟩ := h.bounds
  refine ⟨hd, h.ix.kept (hT.block _ h.ix.lt_g (by simp; omega)) (hT.block _ h.ix.lt_b (by simp; omega)), (hT.block _ (lt_of_heap h.he) (by simp; omega)).trans h.he, h.be.trans (hT.below (by intro x hx; simp at hx; omega) h.be.size), h.rE, h.eg, h.eb, h.wa⟩
theorem BdSt.ent (h : BdSt w A q r g b E S W R ok e) (hT : Turn [E] W W') (he : W'.heap[E]? = some (.cells e'.cells.toArray 44)) : BdSt w A q r g b E S W' R ok e' := by
  obtain ⟨h1, h2, h3, h4, h5, h6⟩ := h.bounds
  have hA := lt_of_heap h.ds.ov
  have hq := lt_of_heap h.ds.rd
  have hg := h.eg; have hb := h.eb
  refine ⟨h.ds.turn hT (by intro x hx; simp at hx; omega) ((hT.block _ hA (by simp; omega)).trans h.ds.ov) ((hT.block _ hq (by simp; omega)).trans h.ds.rd), h.ix.kept (hT.block _ h.ix.lt_g (by simp; omega)) (hT.block _ h.ix.lt_b (by simp; omega)), he, h.be.trans (hT.below (by intro x hx; simp at hx; omega) h.be.size), h.rE, h.eg, h.eb, h.wa⟩
theorem BdSt.cells (h : BdSt w A q r g b E S W R ok e) : W.cell? ⟨A, 0, none⟩ = some (.bool ok) ∧ W.frozen? ⟨A, 0, none⟩ = false ∧ W.cell? ⟨r, 0, none⟩ = some (.pointer (some ⟨q, 0, none⟩)) ∧ W.cell? ⟨r + 1, 0, none⟩ = some (.func (.func 62) #[] #[.pointer (some ⟨A, 0, none⟩)]) :=
  ⟨cell_of_heap h.ds.ov, frozen_of_heap h.ds.ov, cell_of_heap h.ds.rv, cell_of_heap h.ds.kv⟩
theorem BdSt.fz (h : BdSt w A q r g b E S W R ok e) (j : Nat) : W.frozen? ⟨E, j, none⟩ = false := frozen_of_heap h.he
end
theorem ent0 (p : List UInt8) : Tryz.prog.built 44 [(0, .string ⟨p.toArray⟩)] = some (SE.cells ⟨p, 0, 0, 0, 0, 0, List.replicate 32 0⟩).toArray := by kernel_rfl
section
variable {W : World} {E : Nat} {e : SE} {T : TypeId}
theorem ent1 (h : W.heap[E]? = some (.cells e.cells.toArray T)) (n : Nat) : (W.setCell ⟨E, 1, none⟩ (.int .u8 (n : Int))).heap[E]? = some (.cells (SE.cells ⟨e.path, n, e.size, e.ino, e.tick, e.kind, e.id⟩).toArray T) := by rw [setCell_heap _ _ _ _ _ _ h]; simp [SE.cells]
theorem ent2 (h : W.heap[E]? = some (.cells e.cells.toArray T)) (n : Int) : (W.setCell ⟨E, 2, none⟩ (.int .i64 n)).heap[E]? = some (.cells (SE.cells ⟨e.path, e.node, n, e.ino, e.tick, e.kind, e.id⟩).toArray T) := by rw [setCell_heap _ _ _ _ _ _ h]; simp [SE.cells]
theorem ent3 (h : W.heap[E]? = some (.cells e.cells.toArray T)) (n : Nat) : (W.setCell ⟨E, 3, none⟩ (.int .u64 (n : Int))).heap[E]? = some (.cells (SE.cells ⟨e.path, e.node, e.size, n, e.tick, e.kind, e.id⟩).toArray T) := by rw [setCell_heap _ _ _ _ _ _ h]; simp [SE.cells]
theorem ent4 (h : W.heap[E]? = some (.cells e.cells.toArray T)) (n : Int) : (W.setCell ⟨E, 4, none⟩ (.int .i64 n)).heap[E]? = some (.cells (SE.cells ⟨e.path, e.node, e.size, e.ino, n, e.kind, e.id⟩).toArray T) := by rw [setCell_heap _ _ _ _ _ _ h]; simp [SE.cells]
theorem ent5 (h : W.heap[E]? = some (.cells e.cells.toArray T)) (n : Nat) : (W.setCell ⟨E, 5, none⟩ (.int .u8 (n : Int))).heap[E]? = some (.cells (SE.cells ⟨e.path, e.node, e.size, e.ino, e.tick, n, e.id⟩).toArray T) := by rw [setCell_heap _ _ _ _ _ _ h]; simp [SE.cells]
theorem ent6 (h : W.heap[E]? = some (.cells e.cells.toArray T)) (hi : e.id.length = 32) (l : List UInt8) (hl : l.length = 32) : (W.setCells E 6 (Lib.byteCells l)).heap[E]? = some (.cells (SE.cells ⟨e.path, e.node, e.size, e.ino, e.tick, e.kind, l⟩).toArray T) ∧ W.there E 6 32 ∧ Turn [E] W (W.setCells E 6 (Lib.byteCells l)) := by
  have h38 : e.cells.toArray.size = 38 := by rw [List.size_toArray, cells_size hi]
  obtain ⟨cur', h1, h2, h3⟩ := heap_setCells (Lib.byteCells l) 6 W e.cells.toArray h (by rw [Lib.byteCells_length, hl, h38]; decide)
  refine ⟨?_, ?_, turn_setCells _ _ _ _⟩
  · rw [h1]
    congr 2
    apply Array.toList_inj.1
    rw [h3, Lib.byteCells_length, hl, List.drop_eq_nil_of_le (by rw [Array.length_toList, h38]; decide)]
    simp [SE.cells]
  · intro j hj
    refine ⟨?_, frozen_of_heap h⟩
    rw [cell_of_heap h, Array.getElem?_eq_getElem (by omega)]
    rfl
theorem cell_ent (h : W.heap[E]? = some (.cells e.cells.toArray T)) : W.cell? ⟨E, 1, none⟩ = some (.int .u8 (e.node : Int)) ∧ W.cell? ⟨E, 2, none⟩ = some (.int .i64 e.size) ∧ W.cell? ⟨E, 3, none⟩ = some (.int .u64 (e.ino : Int)) ∧ W.cell? ⟨E, 4, none⟩ = some (.int .i64 e.tick) ∧ W.cell? ⟨E, 5, none⟩ = some (.int .u8 (e.kind : Int)) := by
  refine ⟨?_, ?_, ?_, ?_, ?_⟩ <;> (rw [cell_of_heap h]; rfl)
end
theorem wpList_build0 {ops : Array Oper} {rest : List Oper} {o : Oper} {a : Act} {w : World} {Q : Exit → Act → World → Prop} (hgd : o.guard = none) (x : Operand) (ho : o.op = .build 44 #[(0, x)]) (p : List UInt8) (hx : a.eval x = .string ⟨p.toArray⟩)
    (h : wpList Tryz.prog ops Q rest (a.put o.dst (enV ⟨p, 0, 0, 0, 0, 0, List.replicate 32 0⟩)) w) : wpList Tryz.prog ops Q (o :: rest) a w :=
  wpList_plain hgd fun _ hK => by
    have hc := run_build (P := Tryz.prog) w 44 #[(0, .string ⟨p.toArray⟩)] (SE.cells ⟨p, 0, 0, 0, 0, 0, List.replicate 32 0⟩).toArray (ent0 p)
    unfold Oper.wp execOp
    simp only [ho, List.map_toArray, List.map_cons, List.map_nil, hx, Sem.run_bind, hc, Result.andThen_ok]
    exact hK _ _ h
theorem txE_dec (n : Nat) (R : List UInt8) : decide (txE n R = 0) = txB n R := by
  unfold txE txB; cases (txt n R).isSome <;> simp
theorem tk_one {w : World} {B : Nat} {v : Value} {R : List UInt8} (h : RowM w B v (tkF 1 R)) : ∃ (g cap nd : Nat), nd = ((tkF 1 R).headD 0).toNat ∧ v = .slice (some ⟨g, 0, none⟩) 1 cap ∧ w.cell? ⟨g, 0, none⟩ = some (.int .u8 (nd : Int)) := by
  have h0 := h
  obtain ⟨g, cap, cur, fz, rfl, _⟩ := h
  refine ⟨g, cap, _, rfl, by rw [tkF_len], ?_⟩
  have hl := tkF_len 1 R
  match hh : tkF 1 R, hl with
  | [c], _ =>
    rw [hh] at h0
    exact h0.range 0 _ rfl
theorem tk_id {w : World} {B : Nat} {v : Value} {R : List UInt8} (h : RowM w B v (tkF 32 R)) : ∃ g cap, v = .slice (some ⟨g, 0, none⟩) 32 cap ∧ w.rangeAt g 0 (Lib.byteCells (tkF 32 R)) := by
  have h0 := h
  obtain ⟨g, cap, cur, fz, rfl, _⟩ := h
  exact ⟨g, cap, by rw [tkF_len], h0.range⟩
end Go.Proofs.YthcjjekkjbidlaaGreatDoor.St
/-
  The contract of a name out of digits.
-/
namespace Go.Proofs.YthcjjekkjbidlaaGreatDoor.Sh
open Go.RowKit Go.Maps Go.Proofs.YthcjjekkjbidlaaGreatDoor.Rf Go.Proofs.YthcjjekkjbidlaaGreatDoor.Rd Go.Proofs.YthcjjekkjbidlaaGreatDoor.St

/-- Are they the digits of a sum? -/
def paB (l : List UInt8) : Bool := match unhx l with | some m => decide (m.length = 32) | none => false
def paE (l : List UInt8) : Int := if paB l then 0 else 4
def PaPost (w : World) (l : List UInt8) (e : Ending) (w' : World) : Prop := ∃ id : List UInt8, id.length = 32 ∧ e = .returned (.tuple #[.agg (Lib.byteCells id).toArray, .int .i64 (paE l)]) ∧ Below w.heap.size w w'
set_option maxHeartbeats 4000000 in
set_option maxRecDepth 100000 in
theorem parse_any (w : World) (l : List UInt8) (hl : l.length ≤ 140737488355328) : Calls Tryz.prog 91 #[.string ⟨l.toArray⟩] w (PaPost w l) := by
  have HB0 := Lib.hid ((Below.refl w.heap.size w).alloc (Nat.le_refl _) (.cells zeroI IdT'))
  have HA0 : Hid ((w.alloc (.cells zeroI IdT')).heap[w.heap.size]? = some (.cells zeroI IdT')) := Lib.hid (at_new _ _)
  have UX := Lib.hid (fun w => unhex_any w l hl)
  have IZ : Hid ((Tryz.prog.info? IdT').map (·.size) = some zeroI.size) := Lib.hid (by kernel_rfl)
  have OZ : Hid (zeroI.all (·.oneCell') = true) := Lib.hid (oneId (List.replicate 32 0))
  obtain ⟨a, ha⟩ : ∃ a, a = w.heap.size := ⟨_, rfl⟩
  rw [← ha] at HA0
  cases hu : unhx l with
  | none =>
    have e1 : uhT l = [] := by rw [uhT, hu]; rfl
    have e2 : uhE l = 4 := by rw [uhE, hu]; rfl
    rw [e1, e2] at UX
    have HP : Hid (paE l = 4) := Lib.hid (by rw [paE, paB, hu]; rfl)
    clear hu e1 e2
    go_enter Tryz.func91, Tryz.ntmps91
    go_wp2_with fail
    refine (UX.out _).mono ?_
    rintro e w1 ⟨rfl, hb1⟩
    have HA1 : Hid (w1.heap[a]? = some (.cells zeroI IdT')) := Lib.hid ((hb1.block a (lt_of_heap HA0.out)).trans HA0.out)
    have HB1 : Hid (Below w.heap.size w w1) := Lib.hid (HB0.out.trans (hb1.mono HB0.out.size))
    clear hb1 UX HA0 HB0
    go_wp2_with (first
      | (refine wpList_build_is rfl IdT' _ rfl zeroI (by kernel_rfl) ?_)
      | (refine wpList_store_at (g := a) HA1.out rfl IdT' (.tmp 2) (.tmp 18) rfl zeroI (by rw [ha]; rfl) rfl IZ.out rfl OZ.out ?_
         intro w2 hq2 ht2 hs2
         have HQ2 := Lib.hid hq2; have HT2 := Lib.hid ht2
         clear hq2 ht2 hs2))
    have hld := run_loadVar_row (P := Tryz.prog) w2 a _ IdT' zeroI _ _ HQ2.out Tryz.underlying42 rfl IZ.out
    refine bodyPost_ret (v := .tuple #[.agg zeroI, .int .i64 4]) ?_ rfl ⟨List.replicate 32 0, by simp, by rw [HP.out]; rfl, ?_⟩
    · rw [results_cell_tmp (fn := Tryz.f91) rfl]
      rw [ha] at hld
      show ((asAddr (.pointer (some ⟨w.heap.size, 0, none⟩))).run Tryz.prog _).andThen _ = _
      simp only [asAddr, Sem.run_pure, Result.andThen_ok, hld]
      rfl
    · exact HB1.out.trans (HT2.out.below (by intro x hx; simp at hx; omega) HB1.out.size)
  | some m =>
    have e1 : uhT l = m := by rw [uhT, hu]; rfl
    have e2 : uhE l = 0 := by rw [uhE, hu]; rfl
    rw [e1, e2] at UX
    have hmb : m.length ≤ 140737488355328 := by have := unhx_length l m hu; omega
    have hms : (⟨m.toArray⟩ : ByteArray).size = m.length := rfl
    clear e1 e2
    by_cases hm : m.length = 32
    · have HP : Hid (paE l = 0) := Lib.hid (by simp [paE, paB, hu, hm])
      have I32 := Lib.hid (infoId hm)
      have O32 := Lib.hid (oneId m)
      have Z32 : Hid (zeroI.size = (Lib.byteCells m).toArray.size) := Lib.hid (by
        have e : (Lib.byteCells m).toArray.size = 32 := by rw [List.size_toArray, Lib.byteCells_length, hm]
        exact e.symm)
      have HML := Lib.hid hm
      clear hu hmb
      have hm2 : (m.length : Int) = 32 := by omega
      clear hm
      go_enter Tryz.func91, Tryz.ntmps91
      go_wp2_with fail
      refine (UX.out _).mono ?_
      rintro e w1 ⟨rfl, hb1⟩
      have HA1 : Hid (w1.heap[a]? = some (.cells zeroI IdT')) := Lib.hid ((hb1.block a (lt_of_heap HA0.out)).trans HA0.out)
      have HB1 : Hid (Below w.heap.size w w1) := Lib.hid (HB0.out.trans (hb1.mono HB0.out.size))
      obtain ⟨w3, hw3⟩ : ∃ w3, w3 = Lib.bytesWorld w1 5 ⟨m.toArray⟩ := ⟨_, rfl⟩
      obtain ⟨cm, hcm⟩ : ∃ c, c = grownCap w1 m.length 0 5 := ⟨_, rfl⟩
      obtain ⟨gm, hgm⟩ : ∃ g, g = w1.heap.size := ⟨_, rfl⟩
      have hcv : (convert 9 114 (.string ⟨m.toArray⟩)).run Tryz.prog w1 = .ok (.slice (some ⟨gm, 0, none⟩) m.length cm) w3 := by
        rw [hw3, hcm, hgm]; exact Lib.run_convert_string_bytes (P := Tryz.prog) w1 9 114 5 ⟨m.toArray⟩ Tryz.underlying9 Tryz.underlying114 Tryz.underlying5
      have HM3 : Hid (RowM w3 w.heap.size (.slice (some ⟨gm, 0, none⟩) m.length cm) m) := Lib.hid (by rw [hw3, hcm, hgm]; exact rowM_conv w1 w.heap.size HB1.out.size m (by rw [HML.out]; decide))
      have hb13 : Below w1.heap.size w1 w3 := by rw [hw3]; exact bytesWorld_below _ _ _
      have HA3 : Hid (w3.heap[a]? = some (.cells zeroI IdT')) := Lib.hid ((hb13.block a (lt_of_heap HA1.out)).trans HA1.out)
      have HB3 : Hid (Below w.heap.size w w3) := Lib.hid (HB1.out.trans (hb13.mono HB1.out.size))
      have hag : a < gm := by rw [hgm]; exact lt_of_heap HA1.out
      rw [HML.out] at hcv HM3
      have harr : (Instr.arrayAt 42 (.slice (some ⟨gm, 0, none⟩) 32 cm)).run Tryz.prog w3 = .ok (.pointer (some ⟨gm, 0, none⟩)) w3 := run_arrayAt w3 _ _ 32 _ _ _ Tryz.underlying42 (by decide)
      have IL : Hid ((Tryz.prog.info? IdT').map (·.size) = some (Lib.byteCells m).length) := Lib.hid (by have := I32.out; rwa [List.size_toArray] at this)
      clear hb1 UX HA0 HB0 hw3 hcm hgm hb13 HA1 HB1
      go_wp2_with (first
        | (refine wpList_load_mid rfl IdT' (.tmp 21) rfl gm 0 rfl (Lib.byteCells m) _ HM3.out.range Tryz.underlying42 rfl IL.out ?_)
        | (refine wpList_store_at (g := a) HA3.out rfl IdT' (.tmp 2) (.tmp 22) rfl (Lib.byteCells m).toArray (by rw [ha]; rfl) rfl I32.out Z32.out O32.out ?_
           intro w2 hq2 ht2 hs2
           have HQ2 := Lib.hid hq2; have HT2 := Lib.hid ht2
           clear hq2 ht2 hs2))
      have hld := run_loadVar_row (P := Tryz.prog) w2 a _ IdT' (Lib.byteCells m).toArray _ _ HQ2.out Tryz.underlying42 rfl I32.out
      refine bodyPost_ret (v := .tuple #[.agg (Lib.byteCells m).toArray, .int .i64 0]) ?_ rfl ⟨m, HML.out, by rw [HP.out], ?_⟩
      · rw [results_cell_tmp (fn := Tryz.f91) rfl]
        rw [ha] at hld
        show ((asAddr (.pointer (some ⟨w.heap.size, 0, none⟩))).run Tryz.prog _).andThen _ = _
        simp only [asAddr, Sem.run_pure, Result.andThen_ok, hld]
        rfl
      · exact HB3.out.trans (HT2.out.below (by intro x hx; simp at hx; omega) HB3.out.size)
    · skip
      have HP : Hid (paE l = 4) := Lib.hid (by simp [paE, paB, hu, hm])
      have hne : ((m.length : Int) == 32) = false := by rw [beq_eq_false_iff_ne]; omega
      have hne2 : ((m.length : Int) != 32) = true := by rw [bne, hne]; rfl
      clear hu hm
      go_enter Tryz.func91, Tryz.ntmps91
      go_wp2_with fail
      refine (UX.out _).mono ?_
      rintro e w1 ⟨rfl, hb1⟩
      have HA1 : Hid (w1.heap[a]? = some (.cells zeroI IdT')) := Lib.hid ((hb1.block a (lt_of_heap HA0.out)).trans HA0.out)
      have HB1 : Hid (Below w.heap.size w w1) := Lib.hid (HB0.out.trans (hb1.mono HB0.out.size))
      clear hb1 UX HA0 HB0
      go_wp2_with (first
        | (refine wpList_build_is rfl IdT' _ rfl zeroI (by kernel_rfl) ?_)
        | (refine wpList_store_at (g := a) HA1.out rfl IdT' (.tmp 2) (.tmp 18) rfl zeroI (by rw [ha]; rfl) rfl IZ.out rfl OZ.out ?_
           intro w2 hq2 ht2 hs2
           have HQ2 := Lib.hid hq2; have HT2 := Lib.hid ht2
           clear hq2 ht2 hs2))
      have hld := run_loadVar_row (P := Tryz.prog) w2 a _ IdT' zeroI _ _ HQ2.out Tryz.underlying42 rfl IZ.out
      refine bodyPost_ret (v := .tuple #[.agg zeroI, .int .i64 4]) ?_ rfl ⟨List.replicate 32 0, by simp, by rw [HP.out]; rfl, ?_⟩
      · rw [results_cell_tmp (fn := Tryz.f91) rfl]
        rw [ha] at hld
        show ((asAddr (.pointer (some ⟨w.heap.size, 0, none⟩))).run Tryz.prog _).andThen _ = _
        simp only [asAddr, Sem.run_pure, Result.andThen_ok, hld]
        rfl
      · exact HB1.out.trans (HT2.out.below (by intro x hx; simp at hx; omega) HB1.out.size)
end Go.Proofs.YthcjjekkjbidlaaGreatDoor.Sh
/-
  The contract of the reference's Named at a stat index's name.
-/
namespace Go.Proofs.YthcjjekkjbidlaaGreatDoor.Sh
open Go.RowKit Go.Maps Go.Proofs.YthcjjekkjbidlaaGreatDoor.Rf Go.Proofs.YthcjjekkjbidlaaGreatDoor.Rd Go.Proofs.YthcjjekkjbidlaaGreatDoor.St

def preL : List UInt8 := [115, 116, 97, 116, 45]
def sufL : List UInt8 := [46, 115, 120]
def hexB (c : UInt8) : Bool := decide (dg c < 16)
def midL (N : List UInt8) : List UInt8 := (N.drop 5).take 64
/-- Is it a name? -/
def namB (N : List UInt8) : Bool := decide (N.length = 72 ∧ N.take 5 = preL ∧ N.drop 69 = sufL ∧ (midL N).all hexB = true)
end Go.Proofs.YthcjjekkjbidlaaGreatDoor.Sh
