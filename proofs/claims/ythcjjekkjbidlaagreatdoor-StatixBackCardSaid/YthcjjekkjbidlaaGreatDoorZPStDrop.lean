import Derived.Test.YthcjjekkjbidlaaGreatDoorZPStReg
set_option linter.unusedSimpArgs false
set_option linter.unusedVariables false
/-
  The contracts of Drop and Fresh.
-/
namespace Go.Proofs.YthcjjekkjbidlaaGreatDoor.St
open Go.RowKit Go.Maps Go.WideMaps Go.Proofs.YthcjjekkjbidlaaGreatDoor.Rf

theorem IndexAt.delete {B : Nat} {w w' : World} {g b : Nat} {L : List SE} (h : IndexAt B w g b L) {p : List UInt8} (hown : w'.ownsMap Tryz.prog 9 Rv b 1000000 ((toD enV (toZ L)).del (.string p))) (ht : Turn [b] w w') : IndexAt B w' g b (remL p L) := by
  rw [toD_del, toZ_del p h.srt] at hown
  have hs := remL_sub p L
  exact ⟨(ht.block _ h.lt_g (by simpa using h.gb)).trans h.book, hown, h.gb, h.baseg, h.baseb, remL_srt h.srt, fun x hx => h.fits x (hs.mem hx), Nat.le_trans hs.length_le h.len⟩

set_option maxHeartbeats 4000000 in
set_option maxRecDepth 100000 in
theorem drop_any (B : Nat) (w : World) (g b : Nat) (L : List SE) (S : ByteArray) (hS : S.size ≤ maxLen) (h : IndexAt B w g b L) :
    Calls Tryz.prog 16 #[ptr g, .string S] w fun e w' => e = .returned (.int .i64 (getE S.data.toList L)) ∧ IndexAt B w' g b (remL S.data.toList L) ∧ Turn [b] w w' := by
  have GT := Lib.hid (get_any B w g b L S hS h)
  have VOK := Lib.hid (h.fitsGet S.data.toList).en
  have H := Lib.hid h
  unfold ptr getE getV at *
  obtain ⟨V, hV⟩ : ∃ V, V = (getL S.data.toList L).getD zeroS := ⟨_, rfl⟩
  rw [← hV] at GT VOK
  clear hV h
  cases hg : getL S.data.toList L with
  | none =>
    rw [hg] at GT
    have HRN := Lib.hid (remL_none hg)
    clear hg
    go_enter Tryz.func16, Tryz.ntmps16
    go_wp2_with fail
    refine GT.out.mono ?_
    rintro e w1 ⟨rfl, hb1⟩
    have HB1 := Lib.hid hb1
    clear hb1 GT
    go_wp2_with (first
      | (refine wpList_store_new (by first | rfl | rw [one_size]) rfl _ _ _ rfl V.cells.toArray rfl rfl VOK.out.info VOK.out.z VOK.out.one ?_
         intro w2 hq2 hb2 hs2
         have HB2 := Lib.hid (HB1.out.trans (hb2.mono HB1.out.size))
         clear hq2 hb2 hs2))
    go_ret
    rw [HRN.out]
    exact ⟨rfl, H.out.below HB2.out, Turn.of_below HB2.out⟩
  | some en =>
    rw [hg] at GT
    clear hg
    go_enter Tryz.func16, Tryz.ntmps16
    go_wp2_with fail
    refine GT.out.mono ?_
    rintro e w1 ⟨rfl, hb1⟩
    have HB1 := Lib.hid hb1
    clear hb1 GT
    go_wp2_with (first
      | (refine wpList_store_new (by first | rfl | rw [one_size]) rfl _ _ _ rfl V.cells.toArray rfl rfl VOK.out.info VOK.out.z VOK.out.one ?_
         intro w2 hq2 hb2 hs2
         have HB2 := Lib.hid (HB1.out.trans (hb2.mono HB1.out.size))
         have H2 := Lib.hid (H.out.below HB2.out)
         have c2 : w2.cell? ⟨g, 0, none⟩ = some (.map (some b)) := cell_of_heap H2.out.book
         have HM := Lib.hid H2.out.map
         clear hq2 hb2 hs2)
      | (at_delete
         refine wpList_delete_own _ rfl _ _ 116 9 rfl 44 law Tryz.underlying116 _ b 1000000 _ rfl HM.out _ _ rfl (keyK S hS) ?_
         intro w3 hown3 hturn3
         have HO := Lib.hid hown3; have HT := Lib.hid hturn3
         clear hown3 hturn3))
    go_ret
    have t := HT.out.grown
    have hT : Turn [b] w2 w3 := ⟨t.os, t.tape, t.output, t.size, fun k hk hx => t.block k hk (by simpa using hx)⟩
    exact ⟨rfl, H2.out.delete HO.out hT, (Turn.of_below HB2.out : Turn [b] w w2).trans hT (fun y hy => .inl hy)⟩

/-- Is an entry's stat this one? -/
def statIs (e s : SE) : Bool := decide (e.node = s.node) && decide (e.size = s.size) && decide (e.ino = s.ino) && decide (e.tick = s.tick)
def freshX (p : List UInt8) (s : SE) (L : List SE) : SE × Bool :=
  match getL p L with
  | none => (zeroS, false)
  | some e => if statIs e s then (e, true) else (zeroS, false)
theorem neq_stat (w : World) (e s : SE) : (binOp .neq 40 (.agg e.stat.toArray) (.agg s.stat.toArray)).run Tryz.prog w = .ok (.bool (!statIs e s)) w := by
  unfold SE.stat statIs
  go_simp
  by_cases h1 : e.node = s.node
  · by_cases h2 : e.size = s.size
    · by_cases h3 : e.ino = s.ino
      · by_cases h4 : e.tick = s.tick
        · simp [h1, h2, h3, h4]
        · simp [h1, h2, h3, h4]
      · have h3' : ¬ (e.ino : Int) = (s.ino : Int) := by omega
        simp [h1, h2, h3, h3']
    · simp [h1, h2]
  · have h1' : ¬ (e.node : Int) = (s.node : Int) := by omega
    simp [h1, h1']
end Go.Proofs.YthcjjekkjbidlaaGreatDoor.St
/-
  The contracts of the reference's Get and of both Freshs.
-/
namespace Go.Proofs.YthcjjekkjbidlaaGreatDoor.St
open Go.RowKit Go.Maps Go.WideMaps Go.Proofs.YthcjjekkjbidlaaGreatDoor.Rf Go.Proofs.YthcjjekkjbidlaaGreatDoor.Rd

theorem range_stat {w : World} {x : Nat} {e : SE} {T : TypeId} (h : w.heap[x]? = some (.cells e.cells.toArray T)) : w.rangeAt x 1 e.stat := fun j v hv => by
  rw [cell_of_heap h]
  match j, hv with
  | 0, hv => exact hv
  | 1, hv => exact hv
  | 2, hv => exact hv
  | 3, hv => exact hv
theorem RefAt.fitsGet {B : Nat} {w : World} {r : Nat} {v : Value} {L : List SE} (h : RefAt B w r v L) (p : List UInt8) : ((getL p L).getD zeroS).Fits := by
  cases hg : getL p L with
  | none => exact zero_fits
  | some e => exact h.fits e (getL_path hg).2
end Go.Proofs.YthcjjekkjbidlaaGreatDoor.St
/-
  The law's in and want: an entry in plain words, as the program's and as the reference's.
-/
namespace Go.Proofs.YthcjjekkjbidlaaGreatDoor.St
open Go.RowKit Go.Maps Go.WideMaps Go.Proofs.YthcjjekkjbidlaaGreatDoor.Rf Go.Proofs.YthcjjekkjbidlaaGreatDoor.Rd

/-- An entry in plain words. -/
structure It where
  path : List UInt8
  node : UInt8
  size : Int
  ino : Nat
  tick : Int
  kind : UInt8
  idt : List UInt8
instance : Inhabited It := ⟨⟨[], 0, 0, 0, 0, 0, []⟩⟩
structure It.Fits (x : It) : Prop where
  path : x.path.length ≤ 140737488355328
  size : -9223372036854775808 ≤ x.size ∧ x.size < 9223372036854775808
  ino : x.ino < 18446744073709551616
  tick : -9223372036854775808 ≤ x.tick ∧ x.tick < 9223372036854775808
  idt : x.idt.length ≤ 140737488355328
/-- Its seven cells. -/
def It.cells (x : It) : List Value := [.string ⟨x.path.toArray⟩, .int .u8 (x.node.toNat : Int), .int .i64 x.size, .int .u64 (x.ino : Int), .int .i64 x.tick, .int .u8 (x.kind.toNat : Int), .string ⟨x.idt.toArray⟩]
/-- As an entry. -/
def It.se (x : It) : SE := ⟨x.path, x.node.toNat, x.size, x.ino, x.tick, x.kind.toNat, idOf x.idt⟩
theorem It.fits {x : It} (h : x.Fits) : x.se.Fits :=
  ⟨h.path, UInt8.toNat_lt x.node, h.size, h.ino, h.tick, UInt8.toNat_lt x.kind, idOf_length _⟩

theorem arg_turn {X : List Nat} {w w' : World} (h : Turn X w w') {q : Nat} {x : It} (hn : q ∉ X) (hq : q < w.heap.size)
    (k : w.cell? ⟨q, 0, none⟩ = some (.string ⟨x.path.toArray⟩) ∧ w.cell? ⟨q, 1, none⟩ = some (.int .u8 (x.node.toNat : Int)) ∧ w.cell? ⟨q, 2, none⟩ = some (.int .i64 x.size) ∧ w.cell? ⟨q, 3, none⟩ = some (.int .u64 (x.ino : Int)) ∧ w.cell? ⟨q, 4, none⟩ = some (.int .i64 x.tick) ∧ w.cell? ⟨q, 5, none⟩ = some (.int .u8 (x.kind.toNat : Int)) ∧ w.cell? ⟨q, 6, none⟩ = some (.string ⟨x.idt.toArray⟩)) :
    w'.cell? ⟨q, 0, none⟩ = some (.string ⟨x.path.toArray⟩) ∧ w'.cell? ⟨q, 1, none⟩ = some (.int .u8 (x.node.toNat : Int)) ∧ w'.cell? ⟨q, 2, none⟩ = some (.int .i64 x.size) ∧ w'.cell? ⟨q, 3, none⟩ = some (.int .u64 (x.ino : Int)) ∧ w'.cell? ⟨q, 4, none⟩ = some (.int .i64 x.tick) ∧ w'.cell? ⟨q, 5, none⟩ = some (.int .u8 (x.kind.toNat : Int)) ∧ w'.cell? ⟨q, 6, none⟩ = some (.string ⟨x.idt.toArray⟩) := by
  obtain ⟨k0, k1, k2, k3, k4, k5, k6⟩ := k
  exact ⟨cell_turn h hq hn k0, cell_turn h hq hn k1, cell_turn h hq hn k2, cell_turn h hq hn k3, cell_turn h hq hn k4, cell_turn h hq hn k5, cell_turn h hq hn k6⟩
theorem built_stat (n s i t : Int) : Tryz.prog.built 40 [(0, .int .u8 n), (1, .int .i64 s), (2, .int .u64 i), (3, .int .i64 t)] = some #[.int .u8 n, .int .i64 s, .int .u64 i, .int .i64 t] := by kernel_rfl
theorem built_en32 (p : ByteArray) (n s i t k : Int) (b0 b1 b2 b3 b4 b5 b6 b7 b8 b9 b10 b11 b12 b13 b14 b15 b16 b17 b18 b19 b20 b21 b22 b23 b24 b25 b26 b27 b28 b29 b30 b31 : UInt8) :
    Tryz.prog.built 44 [(0, .string p), (1, .agg #[.int .u8 n, .int .i64 s, .int .u64 i, .int .i64 t]), (2, .int .u8 k), (3, .agg (Lib.byteCells [b0, b1, b2, b3, b4, b5, b6, b7, b8, b9, b10, b11, b12, b13, b14, b15, b16, b17, b18, b19, b20, b21, b22, b23, b24, b25, b26, b27, b28, b29, b30, b31]).toArray)] = some (.string p :: .int .u8 n :: .int .i64 s :: .int .u64 i :: .int .i64 t :: .int .u8 k :: Lib.byteCells [b0, b1, b2, b3, b4, b5, b6, b7, b8, b9, b10, b11, b12, b13, b14, b15, b16, b17, b18, b19, b20, b21, b22, b23, b24, b25, b26, b27, b28, b29, b30, b31]).toArray := by kernel_rfl
theorem built_en (p : ByteArray) (n s i t k : Int) (l : List UInt8) (hl : l.length = 32) :
    Tryz.prog.built 44 [(0, .string p), (1, .agg #[.int .u8 n, .int .i64 s, .int .u64 i, .int .i64 t]), (2, .int .u8 k), (3, .agg (Lib.byteCells l).toArray)] = some (.string p :: .int .u8 n :: .int .i64 s :: .int .u64 i :: .int .i64 t :: .int .u8 k :: Lib.byteCells l).toArray :=
  match l, hl with
  | [b0, b1, b2, b3, b4, b5, b6, b7, b8, b9, b10, b11, b12, b13, b14, b15, b16, b17, b18, b19, b20, b21, b22, b23, b24, b25, b26, b27, b28, b29, b30, b31], _ => built_en32 p n s i t k b0 b1 b2 b3 b4 b5 b6 b7 b8 b9 b10 b11 b12 b13 b14 b15 b16 b17 b18 b19 b20 b21 b22 b23 b24 b25 b26 b27 b28 b29 b30 b31
theorem exec_bstat {o : Oper} {a : Act} {w : World} {x0 x1 x2 x3 : Operand} (n s i t : Int) (ho : o.op = .build 40 #[(0, x0), (1, x1), (2, x2), (3, x3)])
    (h0 : a.eval x0 = .int .u8 n) (h1 : a.eval x1 = .int .i64 s) (h2 : a.eval x2 = .int .u64 i) (h3 : a.eval x3 = .int .i64 t) :
    (execOp a.eval o).run Tryz.prog w = .ok (.value (.agg #[.int .u8 n, .int .i64 s, .int .u64 i, .int .i64 t])) w := by
  have hb := run_build (P := Tryz.prog) w 40 #[(0, .int .u8 n), (1, .int .i64 s), (2, .int .u64 i), (3, .int .i64 t)] _ (built_stat n s i t)
  unfold execOp
  simp only [ho, List.map_toArray, List.map_cons, List.map_nil, h0, h1, h2, h3, Sem.run_bind, hb, Result.andThen_ok]
  rfl
theorem exec_ben {o : Oper} {a : Act} {w : World} {x0 x1 x2 x3 : Operand} (p : ByteArray) (n s i t k : Int) (l : List UInt8) (hl : l.length = 32) (ho : o.op = .build 44 #[(0, x0), (1, x1), (2, x2), (3, x3)])
    (h0 : a.eval x0 = .string p) (h1 : a.eval x1 = .agg #[.int .u8 n, .int .i64 s, .int .u64 i, .int .i64 t]) (h2 : a.eval x2 = .int .u8 k) (h3 : a.eval x3 = .agg (Lib.byteCells l).toArray) :
    (execOp a.eval o).run Tryz.prog w = .ok (.value (.agg (.string p :: .int .u8 n :: .int .i64 s :: .int .u64 i :: .int .i64 t :: .int .u8 k :: Lib.byteCells l).toArray)) w := by
  have hb := run_build (P := Tryz.prog) w 44 #[(0, .string p), (1, .agg #[.int .u8 n, .int .i64 s, .int .u64 i, .int .i64 t]), (2, .int .u8 k), (3, .agg (Lib.byteCells l).toArray)] _ (built_en p n s i t k l hl)
  unfold execOp
  simp only [ho, List.map_toArray, List.map_cons, List.map_nil, h0, h1, h2, h3, Sem.run_bind, hb, Result.andThen_ok]
  rfl
set_option linter.unusedSimpArgs false in
set_option maxHeartbeats 4000000 in
set_option maxRecDepth 100000 in
theorem in_any (w : World) (x : It) (hx : x.Fits) :
    Calls Tryz.prog 11 #[.agg x.cells.toArray] w fun e w' => e = .returned (enV x.se) ∧ Below w.heap.size w w' := by
  obtain ⟨W2, hW⟩ : ∃ W2, W2 = (w.alloc (.cells x.cells.toArray 33)).alloc (.cells zeroS.cells.toArray 44) := ⟨_, rfl⟩
  have hb2 : Below w.heap.size w W2 := by rw [hW]; exact ((Below.refl _ _).alloc (Nat.le_refl _) _).alloc (by rw [one_size]; omega) _
  have hq0 : W2.heap[w.heap.size]? = some (.cells x.cells.toArray 33) := by rw [hW]; exact at_alloc (MapKept.heap_alloc w _).1 _
  have hq1 : W2.heap[w.heap.size + 1]? = some (.cells zeroS.cells.toArray 44) := by
    have := (MapKept.heap_alloc (w.alloc (.cells x.cells.toArray 33)) (.cells zeroS.cells.toArray 44)).1
    rw [one_size] at this
    rw [hW]; exact this
  have HB2 := Lib.hid hb2; have HW := Lib.hid hW
  have ID := Lib.hid (fun w => id_any w x.idt (by have := hx.idt; unfold maxLen; omega))
  have EOK := Lib.hid (It.fits hx).en
  have FC : Hid (∀ w' : World, Below W2.heap.size W2 w' → (w'.cell? ⟨w.heap.size, 0, none⟩ = some (.string ⟨x.path.toArray⟩) ∧ w'.cell? ⟨w.heap.size, 1, none⟩ = some (.int .u8 (x.node.toNat : Int)) ∧ w'.cell? ⟨w.heap.size, 2, none⟩ = some (.int .i64 x.size) ∧ w'.cell? ⟨w.heap.size, 3, none⟩ = some (.int .u64 (x.ino : Int)) ∧ w'.cell? ⟨w.heap.size, 4, none⟩ = some (.int .i64 x.tick) ∧ w'.cell? ⟨w.heap.size, 5, none⟩ = some (.int .u8 (x.kind.toNat : Int)) ∧ w'.cell? ⟨w.heap.size, 6, none⟩ = some (.string ⟨x.idt.toArray⟩)) ∧ w.heap.size < w'.heap.size ∧ w'.heap[w.heap.size + 1]? = some (.cells zeroS.cells.toArray 44)) := Lib.hid (fun w' hb => by
    have h0 := (hb.block _ (lt_of_heap hq0)).trans hq0
    exact ⟨⟨by rw [cell_of_heap h0]; rfl, by rw [cell_of_heap h0]; rfl, by rw [cell_of_heap h0]; rfl, by rw [cell_of_heap h0]; rfl, by rw [cell_of_heap h0]; rfl, by rw [cell_of_heap h0]; rfl, by rw [cell_of_heap h0]; rfl⟩, lt_of_heap h0, (hb.block _ (lt_of_heap hq1)).trans hq1⟩)
  clear hb2 hq0 hq1 hW hx
  go_enter Tryz.func11, Tryz.ntmps11
  go_wp2
  change Code.wp _ _ _ _ ((w.alloc (.cells x.cells.toArray 33)).alloc (.cells zeroS.cells.toArray 44))
  rw [← HW.out]
  go_wp2
  refine wp_region_held_drew (S := (fun w' : World => w'.cell? ⟨w.heap.size, 0, none⟩ = some (.string ⟨x.path.toArray⟩) ∧ w'.cell? ⟨w.heap.size, 1, none⟩ = some (.int .u8 (x.node.toNat : Int)) ∧ w'.cell? ⟨w.heap.size, 2, none⟩ = some (.int .i64 x.size) ∧ w'.cell? ⟨w.heap.size, 3, none⟩ = some (.int .u64 (x.ino : Int)) ∧ w'.cell? ⟨w.heap.size, 4, none⟩ = some (.int .i64 x.tick) ∧ w'.cell? ⟨w.heap.size, 5, none⟩ = some (.int .u8 (x.kind.toNat : Int)) ∧ w'.cell? ⟨w.heap.size, 6, none⟩ = some (.string ⟨x.idt.toArray⟩))) (by kernel_rfl) (FC.out _ (Below.refl _ _).drew).1 (fun hHeld => ?_)
  refine wpAnyH_take (i := 0) (v := ?_) rfl (by kernel_rfl) (by kernel_rfl) (by kernel_rfl) (fun _ _ _ h => h) (Or.inl ⟨by rfl, ?z0⟩) hHeld ?_
  case z0 =>
    intro wS hSw
    obtain ⟨k0, k1, k2, k3, k4, k5, k6⟩ := hSw
    go_simp
    try with_reducible rfl
  try simp only [Act.put, List.getElem_toArray, List.getElem_cons_zero, List.getElem_cons_succ, List.setIfInBounds_toArray, List.set_cons_zero, List.set_cons_succ]
  refine wpAnyH_take (i := 1) (v := ?_) rfl (by kernel_rfl) (by kernel_rfl) (by kernel_rfl) (fun _ _ _ h => h) (Or.inl ⟨by rfl, ?z1⟩) hHeld ?_
  case z1 =>
    intro wS hSw
    obtain ⟨k0, k1, k2, k3, k4, k5, k6⟩ := hSw
    go_simp
    try with_reducible rfl
  try simp only [Act.put, List.getElem_toArray, List.getElem_cons_zero, List.getElem_cons_succ, List.setIfInBounds_toArray, List.set_cons_zero, List.set_cons_succ]
  refine wpAnyH_take (i := 2) (v := ?_) rfl (by kernel_rfl) (by kernel_rfl) (by kernel_rfl) (fun _ _ _ h => h) (Or.inl ⟨by rfl, ?z2⟩) hHeld ?_
  case z2 =>
    intro wS hSw
    obtain ⟨k0, k1, k2, k3, k4, k5, k6⟩ := hSw
    go_simp
    try with_reducible rfl
  try simp only [Act.put, List.getElem_toArray, List.getElem_cons_zero, List.getElem_cons_succ, List.setIfInBounds_toArray, List.set_cons_zero, List.set_cons_succ]
  refine wpAnyH_take (i := 3) (v := ?_) rfl (by kernel_rfl) (by kernel_rfl) (by kernel_rfl) (fun _ _ _ h => h) (Or.inl ⟨by rfl, ?z3⟩) hHeld ?_
  case z3 =>
    intro wS hSw
    obtain ⟨k0, k1, k2, k3, k4, k5, k6⟩ := hSw
    go_simp
    try with_reducible rfl
  try simp only [Act.put, List.getElem_toArray, List.getElem_cons_zero, List.getElem_cons_succ, List.setIfInBounds_toArray, List.set_cons_zero, List.set_cons_succ]
  refine wpAnyH_take (i := 4) (v := ?_) rfl (by kernel_rfl) (by kernel_rfl) (by kernel_rfl) (fun _ _ _ h => h) (Or.inl ⟨by rfl, ?z4⟩) hHeld ?_
  case z4 =>
    intro wS hSw
    obtain ⟨k0, k1, k2, k3, k4, k5, k6⟩ := hSw
    go_simp
    try with_reducible rfl
  try simp only [Act.put, List.getElem_toArray, List.getElem_cons_zero, List.getElem_cons_succ, List.setIfInBounds_toArray, List.set_cons_zero, List.set_cons_succ]
  refine wpAnyH_take (i := 5) (v := ?_) rfl (by kernel_rfl) (by kernel_rfl) (by kernel_rfl) (fun _ _ _ h => h) (Or.inl ⟨by rfl, ?z5⟩) hHeld ?_
  case z5 =>
    intro wS hSw
    obtain ⟨k0, k1, k2, k3, k4, k5, k6⟩ := hSw
    go_simp
    try with_reducible rfl
  try simp only [Act.put, List.getElem_toArray, List.getElem_cons_zero, List.getElem_cons_succ, List.setIfInBounds_toArray, List.set_cons_zero, List.set_cons_succ]
  refine wpAnyH_take (i := 6) (v := ?_) rfl (by kernel_rfl) (by kernel_rfl) (by kernel_rfl) (fun _ _ _ h => h) (Or.inl ⟨by rfl, ?z6⟩) hHeld ?_
  case z6 =>
    intro wS hSw
    obtain ⟨k0, k1, k2, k3, k4, k5, k6⟩ := hSw
    go_simp
    try with_reducible rfl
  try simp only [Act.put, List.getElem_toArray, List.getElem_cons_zero, List.getElem_cons_succ, List.setIfInBounds_toArray, List.set_cons_zero, List.set_cons_succ]
  refine wpAnyH_take (i := 7) (v := ?_) rfl (by kernel_rfl) (by kernel_rfl) (by kernel_rfl) (fun _ _ _ h => h) (Or.inl ⟨by rfl, ?z7⟩) hHeld ?_
  case z7 =>
    intro wS hSw
    obtain ⟨k0, k1, k2, k3, k4, k5, k6⟩ := hSw
    go_simp
    try with_reducible rfl
  try simp only [Act.put, List.getElem_toArray, List.getElem_cons_zero, List.getElem_cons_succ, List.setIfInBounds_toArray, List.set_cons_zero, List.set_cons_succ]
  refine wpAnyH_take (i := 8) (v := ?_) rfl (by kernel_rfl) (by kernel_rfl) (by kernel_rfl) (fun _ _ _ h => h) (Or.inl ⟨by rfl, ?z8⟩) hHeld ?_
  case z8 =>
    intro wS hSw
    obtain ⟨k0, k1, k2, k3, k4, k5, k6⟩ := hSw
    go_simp
    try with_reducible rfl
  try simp only [Act.put, List.getElem_toArray, List.getElem_cons_zero, List.getElem_cons_succ, List.setIfInBounds_toArray, List.set_cons_zero, List.set_cons_succ]
  refine wpAnyH_take (i := 9) (v := ?_) rfl (by kernel_rfl) (by kernel_rfl) (by kernel_rfl) (fun _ _ _ h => h) (Or.inl ⟨by rfl, ?z9⟩) hHeld ?_
  case z9 =>
    intro wS hSw
    obtain ⟨k0, k1, k2, k3, k4, k5, k6⟩ := hSw
    go_simp
    try with_reducible rfl
  try simp only [Act.put, List.getElem_toArray, List.getElem_cons_zero, List.getElem_cons_succ, List.setIfInBounds_toArray, List.set_cons_zero, List.set_cons_succ]
  refine wpAnyH_take (i := 10) (v := .agg #[.int .u8 (x.node.toNat : Int), .int .i64 x.size, .int .u64 (x.ino : Int), .int .i64 x.tick]) rfl (by kernel_rfl) (by kernel_rfl) (by kernel_rfl) (fun _ _ _ h => h) (Or.inl ⟨by rfl, ?z10⟩) hHeld ?_
  case z10 =>
    intro wS hSw
    refine exec_bstat (x0 := .tmp 6) (x1 := .tmp 8) (x2 := .tmp 10) (x3 := .tmp 12) (x.node.toNat : Int) x.size (x.ino : Int) x.tick ?_ ?_ ?_ ?_ ?_
    all_goals kernel_rfl
  try simp only [Act.put, List.getElem_toArray, List.getElem_cons_zero, List.getElem_cons_succ, List.setIfInBounds_toArray, List.set_cons_zero, List.set_cons_succ]
  refine wpAnyH_take (i := 11) (v := ?_) rfl (by kernel_rfl) (by kernel_rfl) (by kernel_rfl) (fun _ _ _ h => h) (Or.inl ⟨by rfl, ?z11⟩) hHeld ?_
  case z11 =>
    intro wS hSw
    obtain ⟨k0, k1, k2, k3, k4, k5, k6⟩ := hSw
    go_simp
    try with_reducible rfl
  try simp only [Act.put, List.getElem_toArray, List.getElem_cons_zero, List.getElem_cons_succ, List.setIfInBounds_toArray, List.set_cons_zero, List.set_cons_succ]
  refine wpAnyH_take (i := 12) (v := ?_) rfl (by kernel_rfl) (by kernel_rfl) (by kernel_rfl) (fun _ _ _ h => h) (Or.inl ⟨by rfl, ?z12⟩) hHeld ?_
  case z12 =>
    intro wS hSw
    obtain ⟨k0, k1, k2, k3, k4, k5, k6⟩ := hSw
    go_simp
    try with_reducible rfl
  try simp only [Act.put, List.getElem_toArray, List.getElem_cons_zero, List.getElem_cons_succ, List.setIfInBounds_toArray, List.set_cons_zero, List.set_cons_succ]
  refine wpAnyH_take (i := 13) (v := ?_) rfl (by kernel_rfl) (by kernel_rfl) (by kernel_rfl) (fun _ _ _ h => h) (Or.inl ⟨by rfl, ?z13⟩) hHeld ?_
  case z13 =>
    intro wS hSw
    obtain ⟨k0, k1, k2, k3, k4, k5, k6⟩ := hSw
    go_simp
    try with_reducible rfl
  try simp only [Act.put, List.getElem_toArray, List.getElem_cons_zero, List.getElem_cons_succ, List.setIfInBounds_toArray, List.set_cons_zero, List.set_cons_succ]
  refine wpAnyH_take (i := 14) (v := ?_) rfl (by kernel_rfl) (by kernel_rfl) (by kernel_rfl) (fun _ _ _ h => h) (Or.inl ⟨by rfl, ?z14⟩) hHeld ?_
  case z14 =>
    intro wS hSw
    obtain ⟨k0, k1, k2, k3, k4, k5, k6⟩ := hSw
    go_simp
    try with_reducible rfl
  try simp only [Act.put, List.getElem_toArray, List.getElem_cons_zero, List.getElem_cons_succ, List.setIfInBounds_toArray, List.set_cons_zero, List.set_cons_succ]
  refine wpAnyH_ready (rs := [15]) (by kernel_rfl) (by simp) ?_
  refine AllReadyH.cons rfl (fun K hK => ?_) AllReadyH.nil
  go_simp
  refine (ID.out _).mono ?_
  rintro e7 w7 ⟨rfl, hb7⟩
  have HB7 : Hid (Below W2.heap.size W2 w7) := Lib.hid ((Below.refl W2.heap.size W2).drew.trans hb7)
  clear hb7
  go_wp2_with fail
  refine hK.out _ _ (FC.out _ HB7.out).1 (fun hHeld2 => ?_)
  clear hK K hHeld
  try simp only [Act.put, List.getElem_toArray, List.getElem_cons_zero, List.getElem_cons_succ, List.setIfInBounds_toArray, List.set_cons_zero, List.set_cons_succ]
  refine wpAnyH_take (i := 16) (v := enV x.se) rfl (by kernel_rfl) (by kernel_rfl) (by kernel_rfl) (fun _ _ _ h => h) (Or.inl ⟨by rfl, ?z16⟩) hHeld2 ?_
  case z16 =>
    intro wS hSw
    refine exec_ben (x0 := .tmp 4) (x1 := .tmp 13) (x2 := .tmp 15) (x3 := .tmp 18) ⟨x.path.toArray⟩ (x.node.toNat : Int) x.size (x.ino : Int) x.tick (x.kind.toNat : Int) (idOf x.idt) (idOf_length _) ?_ ?_ ?_ ?_ ?_
    all_goals kernel_rfl
  try simp only [Act.put, List.getElem_toArray, List.getElem_cons_zero, List.getElem_cons_succ, List.setIfInBounds_toArray, List.set_cons_zero, List.set_cons_succ]
  refine wpAnyH_ready (rs := [17]) (by kernel_rfl) (by simp) ?_
  refine AllReadyH.cons rfl (fun K hK => ?_) AllReadyH.nil
  refine step_wp rfl ?_
  refine wp_store_at (FC.out _ HB7.out).2.2 _ _ _ rfl x.se.cells.toArray rfl rfl EOK.out.info EOK.out.z EOK.out.one ?_
  intro w8 hq8 ht8 hs8
  have HQ8 := Lib.hid hq8
  have HB8 : Hid (Below w.heap.size w w8) := Lib.hid ((HB2.out.trans (HB7.out.mono HB2.out.size)).trans (ht8.below (by simp) (Nat.le_trans HB2.out.size HB7.out.size)))
  clear hq8 hs8
  refine hK.out _ _ (arg_turn ht8 (by simp) (FC.out _ HB7.out).2.1 (FC.out _ HB7.out).1) (fun hHeld3 => ?_)
  clear hK K hHeld2
  try simp only [Act.put, List.getElem_toArray, List.getElem_cons_zero, List.getElem_cons_succ, List.setIfInBounds_toArray, List.set_cons_zero, List.set_cons_succ]
  refine wpAnyH_done (by kernel_rfl) ?_ _
  clear hHeld3
  try simp only [Act.put, List.getElem_toArray, List.getElem_cons_zero, List.getElem_cons_succ, List.setIfInBounds_toArray, List.set_cons_zero, List.set_cons_succ]
  go_wp2
  refine bodyPost_ret (v := enV x.se) (results_cell_row (fn := Tryz.f11) rfl _ _ (w.heap.size + 1) _ _ _ _ rfl HQ8.out Tryz.underlying44 rfl EOK.out.info) rfl ?_
  exact ⟨rfl, HB8.out⟩
end Go.Proofs.YthcjjekkjbidlaaGreatDoor.St
