import Derived.Test.YthcjjekkjbidlaaDoorZPSrHapp
import Derived.Test.YthcjjekkjbidlaaDoorZPStRefAt
import Derived.Test.YthcjjekkjbidlaaDoorZPSrHonPlain
import Derived.Test.YthcjjekkjbidlaaDoorZPStMay
set_option linter.unusedSimpArgs false
set_option linter.unusedVariables false
/-
  The law's in and want: an entry in plain words, as the program's and as the reference's.
-/
namespace Go.Proofs.YthcjjekkjbidlaaDoor.St
open Go.RowKit Go.Maps Go.WideMaps Go.Proofs.YthcjjekkjbidlaaDoor.Rf Go.Proofs.YthcjjekkjbidlaaDoor.Rd

/-- An entry in plain words. -/
structure It where
  path : List UInt8
  node : UInt8
  size : Int
  ino : Nat
  tick : Int
  kind : UInt8
  idt : List UInt8
instance : Inhabited It := ⟨⟨[], 0, 0, 0, 0, 0, []⟩⟩
structure It.Fits (x : It) : Prop where
  path : x.path.length ≤ 140737488355328
  size : -9223372036854775808 ≤ x.size ∧ x.size < 9223372036854775808
  ino : x.ino < 18446744073709551616
  tick : -9223372036854775808 ≤ x.tick ∧ x.tick < 9223372036854775808
  idt : x.idt.length ≤ 140737488355328
/-- Its seven cells. -/
def It.cells (x : It) : List Value := [.string ⟨x.path.toArray⟩, .int .u8 (x.node.toNat : Int), .int .i64 x.size, .int .u64 (x.ino : Int), .int .i64 x.tick, .int .u8 (x.kind.toNat : Int), .string ⟨x.idt.toArray⟩]
/-- As an entry. -/
def It.se (x : It) : SE := ⟨x.path, x.node.toNat, x.size, x.ino, x.tick, x.kind.toNat, idOf x.idt⟩
theorem It.fits {x : It} (h : x.Fits) : x.se.Fits :=
  ⟨h.path, UInt8.toNat_lt x.node, h.size, h.ino, h.tick, UInt8.toNat_lt x.kind, idOf_length _⟩

theorem arg_turn {X : List Nat} {w w' : World} (h : Turn X w w') {q : Nat} {x : It} (hn : q ∉ X) (hq : q < w.heap.size)
    (k : w.cell? ⟨q, 0, none⟩ = some (.string ⟨x.path.toArray⟩) ∧ w.cell? ⟨q, 1, none⟩ = some (.int .u8 (x.node.toNat : Int)) ∧ w.cell? ⟨q, 2, none⟩ = some (.int .i64 x.size) ∧ w.cell? ⟨q, 3, none⟩ = some (.int .u64 (x.ino : Int)) ∧ w.cell? ⟨q, 4, none⟩ = some (.int .i64 x.tick) ∧ w.cell? ⟨q, 5, none⟩ = some (.int .u8 (x.kind.toNat : Int)) ∧ w.cell? ⟨q, 6, none⟩ = some (.string ⟨x.idt.toArray⟩)) :
    w'.cell? ⟨q, 0, none⟩ = some (.string ⟨x.path.toArray⟩) ∧ w'.cell? ⟨q, 1, none⟩ = some (.int .u8 (x.node.toNat : Int)) ∧ w'.cell? ⟨q, 2, none⟩ = some (.int .i64 x.size) ∧ w'.cell? ⟨q, 3, none⟩ = some (.int .u64 (x.ino : Int)) ∧ w'.cell? ⟨q, 4, none⟩ = some (.int .i64 x.tick) ∧ w'.cell? ⟨q, 5, none⟩ = some (.int .u8 (x.kind.toNat : Int)) ∧ w'.cell? ⟨q, 6, none⟩ = some (.string ⟨x.idt.toArray⟩) := by
  obtain ⟨k0, k1, k2, k3, k4, k5, k6⟩ := k
  exact ⟨cell_turn h hq hn k0, cell_turn h hq hn k1, cell_turn h hq hn k2, cell_turn h hq hn k3, cell_turn h hq hn k4, cell_turn h hq hn k5, cell_turn h hq hn k6⟩
theorem built_stat (n s i t : Int) : Tryd.prog.built 25 [(0, .int .u8 n), (1, .int .i64 s), (2, .int .u64 i), (3, .int .i64 t)] = some #[.int .u8 n, .int .i64 s, .int .u64 i, .int .i64 t] := by kernel_rfl
theorem built_en32 (p : ByteArray) (n s i t k : Int) (b0 b1 b2 b3 b4 b5 b6 b7 b8 b9 b10 b11 b12 b13 b14 b15 b16 b17 b18 b19 b20 b21 b22 b23 b24 b25 b26 b27 b28 b29 b30 b31 : UInt8) :
    Tryd.prog.built 65 [(0, .string p), (1, .agg #[.int .u8 n, .int .i64 s, .int .u64 i, .int .i64 t]), (2, .int .u8 k), (3, .agg (Lib.byteCells [b0, b1, b2, b3, b4, b5, b6, b7, b8, b9, b10, b11, b12, b13, b14, b15, b16, b17, b18, b19, b20, b21, b22, b23, b24, b25, b26, b27, b28, b29, b30, b31]).toArray)] = some (.string p :: .int .u8 n :: .int .i64 s :: .int .u64 i :: .int .i64 t :: .int .u8 k :: Lib.byteCells [b0, b1, b2, b3, b4, b5, b6, b7, b8, b9, b10, b11, b12, b13, b14, b15, b16, b17, b18, b19, b20, b21, b22, b23, b24, b25, b26, b27, b28, b29, b30, b31]).toArray := by kernel_rfl
theorem built_en (p : ByteArray) (n s i t k : Int) (l : List UInt8) (hl : l.length = 32) :
    Tryd.prog.built 65 [(0, .string p), (1, .agg #[.int .u8 n, .int .i64 s, .int .u64 i, .int .i64 t]), (2, .int .u8 k), (3, .agg (Lib.byteCells l).toArray)] = some (.string p :: .int .u8 n :: .int .i64 s :: .int .u64 i :: .int .i64 t :: .int .u8 k :: Lib.byteCells l).toArray :=
  match l, hl with
  | [b0, b1, b2, b3, b4, b5, b6, b7, b8, b9, b10, b11, b12, b13, b14, b15, b16, b17, b18, b19, b20, b21, b22, b23, b24, b25, b26, b27, b28, b29, b30, b31], _ => built_en32 p n s i t k b0 b1 b2 b3 b4 b5 b6 b7 b8 b9 b10 b11 b12 b13 b14 b15 b16 b17 b18 b19 b20 b21 b22 b23 b24 b25 b26 b27 b28 b29 b30 b31
theorem exec_bstat {o : Oper} {a : Act} {w : World} {x0 x1 x2 x3 : Operand} (n s i t : Int) (ho : o.op = .build 25 #[(0, x0), (1, x1), (2, x2), (3, x3)])
    (h0 : a.eval x0 = .int .u8 n) (h1 : a.eval x1 = .int .i64 s) (h2 : a.eval x2 = .int .u64 i) (h3 : a.eval x3 = .int .i64 t) :
    (execOp a.eval o).run Tryd.prog w = .ok (.value (.agg #[.int .u8 n, .int .i64 s, .int .u64 i, .int .i64 t])) w := by
  have hb := run_build (P := Tryd.prog) w 25 #[(0, .int .u8 n), (1, .int .i64 s), (2, .int .u64 i), (3, .int .i64 t)] _ (built_stat n s i t)
  unfold execOp
  simp only [ho, List.map_toArray, List.map_cons, List.map_nil, h0, h1, h2, h3, Sem.run_bind, hb, Result.andThen_ok]
  rfl
theorem exec_ben {o : Oper} {a : Act} {w : World} {x0 x1 x2 x3 : Operand} (p : ByteArray) (n s i t k : Int) (l : List UInt8) (hl : l.length = 32) (ho : o.op = .build 65 #[(0, x0), (1, x1), (2, x2), (3, x3)])
    (h0 : a.eval x0 = .string p) (h1 : a.eval x1 = .agg #[.int .u8 n, .int .i64 s, .int .u64 i, .int .i64 t]) (h2 : a.eval x2 = .int .u8 k) (h3 : a.eval x3 = .agg (Lib.byteCells l).toArray) :
    (execOp a.eval o).run Tryd.prog w = .ok (.value (.agg (.string p :: .int .u8 n :: .int .i64 s :: .int .u64 i :: .int .i64 t :: .int .u8 k :: Lib.byteCells l).toArray)) w := by
  have hb := run_build (P := Tryd.prog) w 65 #[(0, .string p), (1, .agg #[.int .u8 n, .int .i64 s, .int .u64 i, .int .i64 t]), (2, .int .u8 k), (3, .agg (Lib.byteCells l).toArray)] _ (built_en p n s i t k l hl)
  unfold execOp
  simp only [ho, List.map_toArray, List.map_cons, List.map_nil, h0, h1, h2, h3, Sem.run_bind, hb, Result.andThen_ok]
  rfl
set_option linter.unusedSimpArgs false in
set_option maxHeartbeats 4000000 in
set_option maxRecDepth 100000 in
theorem in_any (w : World) (x : It) (hx : x.Fits) :
    Calls Tryd.prog 28 #[.agg x.cells.toArray] w fun e w' => e = .returned (enV x.se) ∧ Below w.heap.size w w' := by
  obtain ⟨W2, hW⟩ : ∃ W2, W2 = (w.alloc (.cells x.cells.toArray 68)).alloc (.cells zeroS.cells.toArray 65) := ⟨_, rfl⟩
  have hb2 : Below w.heap.size w W2 := by rw [hW]; exact ((Below.refl _ _).alloc (Nat.le_refl _) _).alloc (by rw [one_size]; omega) _
  have hq0 : W2.heap[w.heap.size]? = some (.cells x.cells.toArray 68) := by rw [hW]; exact at_alloc (MapKept.heap_alloc w _).1 _
  have hq1 : W2.heap[w.heap.size + 1]? = some (.cells zeroS.cells.toArray 65) := by
    have := (MapKept.heap_alloc (w.alloc (.cells x.cells.toArray 68)) (.cells zeroS.cells.toArray 65)).1
    rw [one_size] at this
    rw [hW]; exact this
  have HB2 := Lib.hid hb2; have HW := Lib.hid hW
  have ID := Lib.hid (fun w => id_any w x.idt (by have := hx.idt; unfold maxLen; omega))
  have EOK := Lib.hid (It.fits hx).en
  have FC : Hid (∀ w' : World, Below W2.heap.size W2 w' → (w'.cell? ⟨w.heap.size, 0, none⟩ = some (.string ⟨x.path.toArray⟩) ∧ w'.cell? ⟨w.heap.size, 1, none⟩ = some (.int .u8 (x.node.toNat : Int)) ∧ w'.cell? ⟨w.heap.size, 2, none⟩ = some (.int .i64 x.size) ∧ w'.cell? ⟨w.heap.size, 3, none⟩ = some (.int .u64 (x.ino : Int)) ∧ w'.cell? ⟨w.heap.size, 4, none⟩ = some (.int .i64 x.tick) ∧ w'.cell? ⟨w.heap.size, 5, none⟩ = some (.int .u8 (x.kind.toNat : Int)) ∧ w'.cell? ⟨w.heap.size, 6, none⟩ = some (.string ⟨x.idt.toArray⟩)) ∧ w.heap.size < w'.heap.size ∧ w'.heap[w.heap.size + 1]? = some (.cells zeroS.cells.toArray 65)) := Lib.hid (fun w' hb => by
    have h0 := (hb.block _ (lt_of_heap hq0)).trans hq0
    exact ⟨⟨by rw [cell_of_heap h0]; rfl, by rw [cell_of_heap h0]; rfl, by rw [cell_of_heap h0]; rfl, by rw [cell_of_heap h0]; rfl, by rw [cell_of_heap h0]; rfl, by rw [cell_of_heap h0]; rfl, by rw [cell_of_heap h0]; rfl⟩, lt_of_heap h0, (hb.block _ (lt_of_heap hq1)).trans hq1⟩)
  clear hb2 hq0 hq1 hW hx
  go_enter Tryd.func28, Tryd.ntmps28
  go_wp2
  change Code.wp _ _ _ _ ((w.alloc (.cells x.cells.toArray 68)).alloc (.cells zeroS.cells.toArray 65))
  rw [← HW.out]
  go_wp2
  refine wp_region_held_drew (S := (fun w' : World => w'.cell? ⟨w.heap.size, 0, none⟩ = some (.string ⟨x.path.toArray⟩) ∧ w'.cell? ⟨w.heap.size, 1, none⟩ = some (.int .u8 (x.node.toNat : Int)) ∧ w'.cell? ⟨w.heap.size, 2, none⟩ = some (.int .i64 x.size) ∧ w'.cell? ⟨w.heap.size, 3, none⟩ = some (.int .u64 (x.ino : Int)) ∧ w'.cell? ⟨w.heap.size, 4, none⟩ = some (.int .i64 x.tick) ∧ w'.cell? ⟨w.heap.size, 5, none⟩ = some (.int .u8 (x.kind.toNat : Int)) ∧ w'.cell? ⟨w.heap.size, 6, none⟩ = some (.string ⟨x.idt.toArray⟩))) (by kernel_rfl) (FC.out _ (Below.refl _ _).drew).1 (fun hHeld => ?_)
  refine wpAnyH_take (i := 0) (v := ?_) rfl (by kernel_rfl) (by kernel_rfl) (by kernel_rfl) (fun _ _ _ h => h) (Or.inl ⟨by rfl, ?z0⟩) hHeld ?_
  case z0 =>
    intro wS hSw
    obtain ⟨k0, k1, k2, k3, k4, k5, k6⟩ := hSw
    go_simp
    try with_reducible rfl
  try simp only [Act.put, List.getElem_toArray, List.getElem_cons_zero, List.getElem_cons_succ, List.setIfInBounds_toArray, List.set_cons_zero, List.set_cons_succ]
  refine wpAnyH_take (i := 1) (v := ?_) rfl (by kernel_rfl) (by kernel_rfl) (by kernel_rfl) (fun _ _ _ h => h) (Or.inl ⟨by rfl, ?z1⟩) hHeld ?_
  case z1 =>
    intro wS hSw
    obtain ⟨k0, k1, k2, k3, k4, k5, k6⟩ := hSw
    go_simp
    try with_reducible rfl
  try simp only [Act.put, List.getElem_toArray, List.getElem_cons_zero, List.getElem_cons_succ, List.setIfInBounds_toArray, List.set_cons_zero, List.set_cons_succ]
  refine wpAnyH_take (i := 2) (v := ?_) rfl (by kernel_rfl) (by kernel_rfl) (by kernel_rfl) (fun _ _ _ h => h) (Or.inl ⟨by rfl, ?z2⟩) hHeld ?_
  case z2 =>
    intro wS hSw
    obtain ⟨k0, k1, k2, k3, k4, k5, k6⟩ := hSw
    go_simp
    try with_reducible rfl
  try simp only [Act.put, List.getElem_toArray, List.getElem_cons_zero, List.getElem_cons_succ, List.setIfInBounds_toArray, List.set_cons_zero, List.set_cons_succ]
  refine wpAnyH_take (i := 3) (v := ?_) rfl (by kernel_rfl) (by kernel_rfl) (by kernel_rfl) (fun _ _ _ h => h) (Or.inl ⟨by rfl, ?z3⟩) hHeld ?_
  case z3 =>
    intro wS hSw
    obtain ⟨k0, k1, k2, k3, k4, k5, k6⟩ := hSw
    go_simp
    try with_reducible rfl
  try simp only [Act.put, List.getElem_toArray, List.getElem_cons_zero, List.getElem_cons_succ, List.setIfInBounds_toArray, List.set_cons_zero, List.set_cons_succ]
  refine wpAnyH_take (i := 4) (v := ?_) rfl (by kernel_rfl) (by kernel_rfl) (by kernel_rfl) (fun _ _ _ h => h) (Or.inl ⟨by rfl, ?z4⟩) hHeld ?_
  case z4 =>
    intro wS hSw
    obtain ⟨k0, k1, k2, k3, k4, k5, k6⟩ := hSw
    go_simp
    try with_reducible rfl
  try simp only [Act.put, List.getElem_toArray, List.getElem_cons_zero, List.getElem_cons_succ, List.setIfInBounds_toArray, List.set_cons_zero, List.set_cons_succ]
  refine wpAnyH_take (i := 5) (v := ?_) rfl (by kernel_rfl) (by kernel_rfl) (by kernel_rfl) (fun _ _ _ h => h) (Or.inl ⟨by rfl, ?z5⟩) hHeld ?_
  case z5 =>
    intro wS hSw
    obtain ⟨k0, k1, k2, k3, k4, k5, k6⟩ := hSw
    go_simp
    try with_reducible rfl
  try simp only [Act.put, List.getElem_toArray, List.getElem_cons_zero, List.getElem_cons_succ, List.setIfInBounds_toArray, List.set_cons_zero, List.set_cons_succ]
  refine wpAnyH_take (i := 6) (v := ?_) rfl (by kernel_rfl) (by kernel_rfl) (by kernel_rfl) (fun _ _ _ h => h) (Or.inl ⟨by rfl, ?z6⟩) hHeld ?_
  case z6 =>
    intro wS hSw
    obtain ⟨k0, k1, k2, k3, k4, k5, k6⟩ := hSw
    go_simp
    try with_reducible rfl
  try simp only [Act.put, List.getElem_toArray, List.getElem_cons_zero, List.getElem_cons_succ, List.setIfInBounds_toArray, List.set_cons_zero, List.set_cons_succ]
  refine wpAnyH_take (i := 7) (v := ?_) rfl (by kernel_rfl) (by kernel_rfl) (by kernel_rfl) (fun _ _ _ h => h) (Or.inl ⟨by rfl, ?z7⟩) hHeld ?_
  case z7 =>
    intro wS hSw
    obtain ⟨k0, k1, k2, k3, k4, k5, k6⟩ := hSw
    go_simp
    try with_reducible rfl
  try simp only [Act.put, List.getElem_toArray, List.getElem_cons_zero, List.getElem_cons_succ, List.setIfInBounds_toArray, List.set_cons_zero, List.set_cons_succ]
  refine wpAnyH_take (i := 8) (v := ?_) rfl (by kernel_rfl) (by kernel_rfl) (by kernel_rfl) (fun _ _ _ h => h) (Or.inl ⟨by rfl, ?z8⟩) hHeld ?_
  case z8 =>
    intro wS hSw
    obtain ⟨k0, k1, k2, k3, k4, k5, k6⟩ := hSw
    go_simp
    try with_reducible rfl
  try simp only [Act.put, List.getElem_toArray, List.getElem_cons_zero, List.getElem_cons_succ, List.setIfInBounds_toArray, List.set_cons_zero, List.set_cons_succ]
  refine wpAnyH_take (i := 9) (v := ?_) rfl (by kernel_rfl) (by kernel_rfl) (by kernel_rfl) (fun _ _ _ h => h) (Or.inl ⟨by rfl, ?z9⟩) hHeld ?_
  case z9 =>
    intro wS hSw
    obtain ⟨k0, k1, k2, k3, k4, k5, k6⟩ := hSw
    go_simp
    try with_reducible rfl
  try simp only [Act.put, List.getElem_toArray, List.getElem_cons_zero, List.getElem_cons_succ, List.setIfInBounds_toArray, List.set_cons_zero, List.set_cons_succ]
  refine wpAnyH_take (i := 10) (v := .agg #[.int .u8 (x.node.toNat : Int), .int .i64 x.size, .int .u64 (x.ino : Int), .int .i64 x.tick]) rfl (by kernel_rfl) (by kernel_rfl) (by kernel_rfl) (fun _ _ _ h => h) (Or.inl ⟨by rfl, ?z10⟩) hHeld ?_
  case z10 =>
    intro wS hSw
    refine exec_bstat (x0 := .tmp 6) (x1 := .tmp 8) (x2 := .tmp 10) (x3 := .tmp 12) (x.node.toNat : Int) x.size (x.ino : Int) x.tick ?_ ?_ ?_ ?_ ?_
    all_goals kernel_rfl
  try simp only [Act.put, List.getElem_toArray, List.getElem_cons_zero, List.getElem_cons_succ, List.setIfInBounds_toArray, List.set_cons_zero, List.set_cons_succ]
  refine wpAnyH_take (i := 11) (v := ?_) rfl (by kernel_rfl) (by kernel_rfl) (by kernel_rfl) (fun _ _ _ h => h) (Or.inl ⟨by rfl, ?z11⟩) hHeld ?_
  case z11 =>
    intro wS hSw
    obtain ⟨k0, k1, k2, k3, k4, k5, k6⟩ := hSw
    go_simp
    try with_reducible rfl
  try simp only [Act.put, List.getElem_toArray, List.getElem_cons_zero, List.getElem_cons_succ, List.setIfInBounds_toArray, List.set_cons_zero, List.set_cons_succ]
  refine wpAnyH_take (i := 12) (v := ?_) rfl (by kernel_rfl) (by kernel_rfl) (by kernel_rfl) (fun _ _ _ h => h) (Or.inl ⟨by rfl, ?z12⟩) hHeld ?_
  case z12 =>
    intro wS hSw
    obtain ⟨k0, k1, k2, k3, k4, k5, k6⟩ := hSw
    go_simp
    try with_reducible rfl
  try simp only [Act.put, List.getElem_toArray, List.getElem_cons_zero, List.getElem_cons_succ, List.setIfInBounds_toArray, List.set_cons_zero, List.set_cons_succ]
  refine wpAnyH_take (i := 13) (v := ?_) rfl (by kernel_rfl) (by kernel_rfl) (by kernel_rfl) (fun _ _ _ h => h) (Or.inl ⟨by rfl, ?z13⟩) hHeld ?_
  case z13 =>
    intro wS hSw
    obtain ⟨k0, k1, k2, k3, k4, k5, k6⟩ := hSw
    go_simp
    try with_reducible rfl
  try simp only [Act.put, List.getElem_toArray, List.getElem_cons_zero, List.getElem_cons_succ, List.setIfInBounds_toArray, List.set_cons_zero, List.set_cons_succ]
  refine wpAnyH_take (i := 14) (v := ?_) rfl (by kernel_rfl) (by kernel_rfl) (by kernel_rfl) (fun _ _ _ h => h) (Or.inl ⟨by rfl, ?z14⟩) hHeld ?_
  case z14 =>
    intro wS hSw
    obtain ⟨k0, k1, k2, k3, k4, k5, k6⟩ := hSw
    go_simp
    try with_reducible rfl
  try simp only [Act.put, List.getElem_toArray, List.getElem_cons_zero, List.getElem_cons_succ, List.setIfInBounds_toArray, List.set_cons_zero, List.set_cons_succ]
  refine wpAnyH_ready (rs := [15]) (by kernel_rfl) (by simp) ?_
  refine AllReadyH.cons rfl (fun K hK => ?_) AllReadyH.nil
  go_simp
  refine (ID.out _).mono ?_
  rintro e7 w7 ⟨rfl, hb7⟩
  have HB7 : Hid (Below W2.heap.size W2 w7) := Lib.hid ((Below.refl W2.heap.size W2).drew.trans hb7)
  clear hb7
  go_wp2_with fail
  refine hK.out _ _ (FC.out _ HB7.out).1 (fun hHeld2 => ?_)
  clear hK K hHeld
  try simp only [Act.put, List.getElem_toArray, List.getElem_cons_zero, List.getElem_cons_succ, List.setIfInBounds_toArray, List.set_cons_zero, List.set_cons_succ]
  refine wpAnyH_take (i := 16) (v := enV x.se) rfl (by kernel_rfl) (by kernel_rfl) (by kernel_rfl) (fun _ _ _ h => h) (Or.inl ⟨by rfl, ?z16⟩) hHeld2 ?_
  case z16 =>
    intro wS hSw
    refine exec_ben (x0 := .tmp 4) (x1 := .tmp 13) (x2 := .tmp 15) (x3 := .tmp 18) ⟨x.path.toArray⟩ (x.node.toNat : Int) x.size (x.ino : Int) x.tick (x.kind.toNat : Int) (idOf x.idt) (idOf_length _) ?_ ?_ ?_ ?_ ?_
    all_goals kernel_rfl
  try simp only [Act.put, List.getElem_toArray, List.getElem_cons_zero, List.getElem_cons_succ, List.setIfInBounds_toArray, List.set_cons_zero, List.set_cons_succ]
  refine wpAnyH_ready (rs := [17]) (by kernel_rfl) (by simp) ?_
  refine AllReadyH.cons rfl (fun K hK => ?_) AllReadyH.nil
  refine step_wp rfl ?_
  refine wp_store_at (FC.out _ HB7.out).2.2 _ _ _ rfl x.se.cells.toArray rfl rfl EOK.out.info EOK.out.z EOK.out.one ?_
  intro w8 hq8 ht8 hs8
  have HQ8 := Lib.hid hq8
  have HB8 : Hid (Below w.heap.size w w8) := Lib.hid ((HB2.out.trans (HB7.out.mono HB2.out.size)).trans (ht8.below (by simp) (Nat.le_trans HB2.out.size HB7.out.size)))
  clear hq8 hs8
  refine hK.out _ _ (arg_turn ht8 (by simp) (FC.out _ HB7.out).2.1 (FC.out _ HB7.out).1) (fun hHeld3 => ?_)
  clear hK K hHeld2
  try simp only [Act.put, List.getElem_toArray, List.getElem_cons_zero, List.getElem_cons_succ, List.setIfInBounds_toArray, List.set_cons_zero, List.set_cons_succ]
  refine wpAnyH_done (by kernel_rfl) ?_ _
  clear hHeld3
  try simp only [Act.put, List.getElem_toArray, List.getElem_cons_zero, List.getElem_cons_succ, List.setIfInBounds_toArray, List.set_cons_zero, List.set_cons_succ]
  go_wp2
  refine bodyPost_ret (v := enV x.se) (results_cell_row (fn := Tryd.f28) rfl _ _ (w.heap.size + 1) _ _ _ _ rfl HQ8.out Tryd.underlying65 rfl EOK.out.info) rfl ?_
  exact ⟨rfl, HB8.out⟩
end Go.Proofs.YthcjjekkjbidlaaDoor.St
/-
  How the law of StatixHonest keeps its things: the tree, the index, the bytes, the numbers.
-/
namespace Go.Proofs.YthcjjekkjbidlaaDoor.Sr
open Go.RowKit Go.Maps Go.WideMaps Go.Proofs.YthcjjekkjbidlaaDoor.Rf Go.Proofs.YthcjjekkjbidlaaDoor.Nm Go.Proofs.YthcjjekkjbidlaaDoor.St

def strD (l : List UInt8) : Value := .string ⟨l.toArray⟩
def nodK (x : Nat × Int) : Value := .agg (.string ⟨#[]⟩ :: (zeroA.cells (.slice none 0 0) ++ [.string ⟨#[]⟩, .int .u64 (x.1 : Int), .int .i64 x.2])).toArray
structure LawSt (B : Nat) (w : World) (r : Nat) (T : Tr) (g b : Nat) (X : List SE) (db : Nat) (D : MV (List UInt8)) (kb : Nat) (K : MV (Nat × Int)) : Prop where
  tree : TreeAt B w r T
  idx : IndexAt B w g b X
  dat : w.ownsMap Tryd.prog 9 Rv db 1000000 (toD strD D)
  kep : w.ownsMap Tryd.prog 9 Rv kb 1000000 (toD nodK K)
  off : ∀ x ∈ r :: (ownL T.L ++ xobL T.L), x ≠ g ∧ x ≠ b ∧ x ≠ db ∧ x ≠ kb
  ne : g ≠ db ∧ g ≠ kb ∧ b ≠ db ∧ b ≠ kb ∧ db ≠ kb
  base : B ≤ db ∧ B ≤ kb
section
variable {B : Nat} {w w' : World} {r : Nat} {T : Tr} {g b : Nat} {X : List SE} {db : Nat} {D : MV (List UInt8)} {kb : Nat} {K : MV (Nat × Int)}
theorem LawSt.size (h : LawSt B w r T g b X db D kb K) : B ≤ w.heap.size := Nat.le_trans h.idx.baseg (Nat.le_of_lt h.idx.lt_g)
theorem LawSt.below (h : LawSt B w r T g b X db D kb K) (hb : Below w.heap.size w w') : LawSt B w' r T g b X db D kb K :=
  ⟨h.tree.below hb, h.idx.below hb, ownsMap_block h.dat (hb.block _ h.dat.lt), ownsMap_block h.kep (hb.block _ h.kep.lt), h.off, h.ne, h.base⟩
theorem LawSt.turnT (h : LawSt B w r T g b X db D kb K) {T' : Tr} {Y : List Nat} (ht : TreeAt B w' r T') (hu : Turn Y w w') (hY : ∀ y ∈ Y, y ∈ r :: (ownL T.L ++ xobL T.L)) (ho : ∀ x ∈ ownL T'.L ++ xobL T'.L, x ∈ ownL T.L ++ xobL T.L ∨ w.heap.size ≤ x) : LawSt B w' r T' g b X db D kb K := by
  have hg : g ∉ Y := fun hy => (h.off g (hY g hy)).1 rfl
  have hb : b ∉ Y := fun hy => (h.off b (hY b hy)).2.1 rfl
  have hd : db ∉ Y := fun hy => (h.off db (hY db hy)).2.2.1 rfl
  have hk : kb ∉ Y := fun hy => (h.off kb (hY kb hy)).2.2.2 rfl
  refine ⟨ht, h.idx.kept (hu.block g h.idx.lt_g hg) (hu.block b h.idx.lt_b hb), ownsMap_block h.dat (hu.block _ h.dat.lt hd), ownsMap_block h.kep (hu.block _ h.kep.lt hk), fun x hx => ?_, h.ne, h.base⟩
  rw [List.mem_cons] at hx
  rcases hx with rfl | hx
  · exact h.off _ (by simp)
  · rcases ho x hx with h1 | h1
    · exact h.off x (List.mem_cons_of_mem _ h1)
    · have := h.idx.lt_g; have := h.idx.lt_b; have := h.dat.lt; have := h.kep.lt
      omega
theorem LawSt.call (h : LawSt B w r T g b X db D kb K) {T' : Tr} (hc : CallT B w r T w' T') : LawSt B w' r T' g b X db D kb K :=
  h.turnT hc.tree hc.turn (fun y hy => by
    rw [List.mem_cons] at hy ⊢
    exact hy.imp id (fun h => List.mem_append_left _ h)) hc.own
theorem LawSt.read (h : LawSt B w r T g b X db D kb K) {n : Nat} (ht : TreeAt B w' r { T with reads := n }) (hu : Turn [r] w w') : LawSt B w' r { T with reads := n } g b X db D kb K :=
  h.turnT ht hu (fun y hy => by rw [List.mem_singleton] at hy; rw [hy]; simp) (fun _ h => .inl h)
theorem LawSt.set (h : LawSt B w r T g b X db D kb K) {X' : List SE} (hi : IndexAt B w' g b X') (hu : Turn [b] w w') : LawSt B w' r T g b X' db D kb K :=
  ⟨h.tree.turn hu (fun x hx hb => (h.off x hx).2.1 (by simpa using hb)), hi, ownsMap_block h.dat (hu.block _ h.dat.lt (by have := h.ne.2.2.1; simp; exact Ne.symm this)), ownsMap_block h.kep (hu.block _ h.kep.lt (by have := h.ne.2.2.2.1; simp; exact Ne.symm this)), h.off, h.ne, h.base⟩
theorem LawSt.putD (h : LawSt B w r T g b X db D kb K) {D' : MV (List UInt8)} (hd : w'.ownsMap Tryd.prog 9 Rv db 1000000 (toD strD D')) (hu : Turn [db] w w') : LawSt B w' r T g b X db D' kb K :=
  ⟨h.tree.turn hu (fun x hx hb => (h.off x hx).2.2.1 (by simpa using hb)), h.idx.kept (hu.block _ h.idx.lt_g (by have := h.ne.1; simpa using this)) (hu.block _ h.idx.lt_b (by have := h.ne.2.2.1; simpa using this)), hd, ownsMap_block h.kep (hu.block _ h.kep.lt (by have := h.ne.2.2.2.2; simp; exact Ne.symm this)), h.off, h.ne, h.base⟩
theorem LawSt.putK (h : LawSt B w r T g b X db D kb K) {K' : MV (Nat × Int)} (hk : w'.ownsMap Tryd.prog 9 Rv kb 1000000 (toD nodK K')) (hu : Turn [kb] w w') : LawSt B w' r T g b X db D kb K' :=
  ⟨h.tree.turn hu (fun x hx hb => (h.off x hx).2.2.2 (by simpa using hb)), h.idx.kept (hu.block _ h.idx.lt_g (by have := h.ne.2.1; simpa using this)) (hu.block _ h.idx.lt_b (by have := h.ne.2.2.2.1; simpa using this)), ownsMap_block h.dat (hu.block _ h.dat.lt (by have := h.ne.2.2.2.2; simpa using this)), hk, h.off, h.ne, h.base⟩
end
/-- Laid into a map by a text's key. -/
theorem map_store {α : Type} {enc : α → Value} {t e : TypeId} (hT : Tryd.prog.underlying t = some (.map 9 e)) {w : World} {b : Nat} {m : MV α} (h : w.ownsMap Tryd.prog 9 Rv b 1000000 (toD enc m)) (s : List UInt8) (hs : s.length ≤ maxLen) (v : α) (hl : (putM m s v).length ≤ 1000000) :
    ∃ w', (Instr.mapUpdate t (.map (some b)) (.string ⟨s.toArray⟩) (enc v)).run Tryd.prog w = .ok () w' ∧ w'.ownsMap Tryd.prog 9 Rv b 1000000 (toD enc (putM m s v)) ∧ Turn [b] w w' := by
  obtain ⟨w', hrun, hown, ht⟩ := h.store law hT (by decide) (val := enc v) (keyK ⟨s.toArray⟩ hs) rfl
  have t := ht.grown
  have hU : Turn [b] w w' := ⟨t.os, t.tape, t.output, t.size, fun k hk hx => t.block k hk (by simpa using hx)⟩
  have e1 : (⟨s.toArray⟩ : ByteArray).data.toList = s := by simp
  rw [e1, toD_put] at hown
  exact ⟨w', hrun, map_tight hown hl, hU⟩
theorem putM_len {α : Type} (m : MV α) (s : List UInt8) (v : α) : (putM m s v).length ≤ m.length + 1 := by
  rw [(put_perm s v m).length_eq, List.length_cons]
  have : (delM m s).length ≤ m.length := List.length_filter_le _ _
  omega
end Go.Proofs.YthcjjekkjbidlaaDoor.Sr
