import Derived.Test.YtkdkifciajfpnaaDoorZPSrTwinT
set_option linter.unusedSimpArgs false
set_option linter.unusedVariables false
/-
  The contracts of attrs.Same and of munimentlaw18's same, where the two are equal.
-/
namespace Go.Proofs.YtkdkifciajfpnaaDoor.Sr
open Go.RowKit Go.Maps Go.WideMaps Go.Proofs.YtkdkifciajfpnaaDoor.Rf Go.Proofs.YtkdkifciajfpnaaDoor.Nm Go.Proofs.YtkdkifciajfpnaaDoor.St

set_option linter.unusedSimpArgs false in
set_option maxHeartbeats 8000000 in
set_option maxRecDepth 100000 in
theorem atSame_any (w : World) (A : XA) (v u : Value) (hv : XsAt w v A.xs) (hu : XsAt w u A.xs) :
    Calls Tryd.prog 41 #[.agg (A.cells v).toArray, .agg (A.cells u).toArray] w fun e w' => e = .returned (.bool true) ∧ Below w.heap.size w w' := by
  obtain ⟨W, hW⟩ : ∃ W, W = (w.alloc (.cells (A.cells v).toArray AtT)).alloc (.cells (A.cells u).toArray AtT) := ⟨_, rfl⟩
  have hb0 : Below w.heap.size w W := by rw [hW]; exact ((Below.refl _ _).alloc (Nat.le_refl _) _).alloc (by rw [one_size]; omega) _
  have hq0 : W.heap[w.heap.size]? = some (.cells (A.cells v).toArray AtT) := by rw [hW]; exact at_alloc (MapKept.heap_alloc w _).1 _
  have hr0 : W.heap[w.heap.size + 1]? = some (.cells (A.cells u).toArray AtT) := by
    have := (MapKept.heap_alloc (w.alloc (.cells (A.cells v).toArray AtT)) (.cells (A.cells u).toArray AtT)).1
    rw [one_size] at this
    rw [hW]; exact this
  obtain ⟨W2, hW2⟩ : ∃ W2, W2 = (W.setCell ⟨w.heap.size, 6, none⟩ (.slice none 0 0)).drew := ⟨_, rfl⟩
  have hq2 : W2.heap[w.heap.size]? = some (.cells (A.cells (.slice none 0 0)).toArray AtT) := by rw [hW2]; show (W.setCell _ _).heap[_]? = _; rw [setCell_heap _ _ _ _ _ _ hq0]; rfl
  have hr2 : W2.heap[w.heap.size + 1]? = some (.cells (A.cells u).toArray AtT) := by rw [hW2]; exact (Below.heap_setCell _ _ _ _ (show w.heap.size + 1 ≠ w.heap.size by omega)).trans hr0
  obtain ⟨W3, hW3⟩ : ∃ W3, W3 = ((W.setCell ⟨w.heap.size, 6, none⟩ (.slice none 0 0)).setCell ⟨w.heap.size + 1, 6, none⟩ (.slice none 0 0)).drew := ⟨_, rfl⟩
  have hW32 : W3.heap = (W2.setCell ⟨w.heap.size + 1, 6, none⟩ (.slice none 0 0)).heap := by rw [hW3, hW2]; rfl
  have hq3 : W3.heap[w.heap.size]? = some (.cells (A.cells (.slice none 0 0)).toArray AtT) := by rw [hW32]; exact (Below.heap_setCell _ _ _ _ (show w.heap.size ≠ w.heap.size + 1 by omega)).trans hq2
  have hr3 : W3.heap[w.heap.size + 1]? = some (.cells (A.cells (.slice none 0 0)).toArray AtT) := by rw [hW32, setCell_heap _ _ _ _ _ _ hr2]; rfl
  have hb3 : Below w.heap.size w W3 := by rw [hW3]; exact ((hb0.setCell (Nat.le_refl _) _).setCell (Nat.le_succ _) _).drew
  have ca0 : ((W.setCell ⟨w.heap.size, 6, none⟩ (.slice none 0 0)).setCell ⟨w.heap.size + 1, 6, none⟩ (.slice none 0 0)).drew.cell? ⟨w.heap.size, 0, none⟩ = some (.int .u8 (A.node : Int)) := by rw [← hW3]; exact cell_of_heap hq3
  have ca1 : ((W.setCell ⟨w.heap.size, 6, none⟩ (.slice none 0 0)).setCell ⟨w.heap.size + 1, 6, none⟩ (.slice none 0 0)).drew.cell? ⟨w.heap.size, 1, none⟩ = some (.int .u32 (A.mode : Int)) := by rw [← hW3]; exact cell_of_heap hq3
  have ca2 : ((W.setCell ⟨w.heap.size, 6, none⟩ (.slice none 0 0)).setCell ⟨w.heap.size + 1, 6, none⟩ (.slice none 0 0)).drew.cell? ⟨w.heap.size, 2, none⟩ = some (.int .u32 (A.uid : Int)) := by rw [← hW3]; exact cell_of_heap hq3
  have ca3 : ((W.setCell ⟨w.heap.size, 6, none⟩ (.slice none 0 0)).setCell ⟨w.heap.size + 1, 6, none⟩ (.slice none 0 0)).drew.cell? ⟨w.heap.size, 3, none⟩ = some (.int .u32 (A.gid : Int)) := by rw [← hW3]; exact cell_of_heap hq3
  have ca4 : ((W.setCell ⟨w.heap.size, 6, none⟩ (.slice none 0 0)).setCell ⟨w.heap.size + 1, 6, none⟩ (.slice none 0 0)).drew.cell? ⟨w.heap.size, 4, none⟩ = some (.int .i64 A.mtime) := by rw [← hW3]; exact cell_of_heap hq3
  have ca5 : ((W.setCell ⟨w.heap.size, 6, none⟩ (.slice none 0 0)).setCell ⟨w.heap.size + 1, 6, none⟩ (.slice none 0 0)).drew.cell? ⟨w.heap.size, 5, none⟩ = some (.string ⟨A.target.toArray⟩) := by rw [← hW3]; exact cell_of_heap hq3
  have cb0 : ((W.setCell ⟨w.heap.size, 6, none⟩ (.slice none 0 0)).setCell ⟨w.heap.size + 1, 6, none⟩ (.slice none 0 0)).drew.cell? ⟨w.heap.size + 1, 0, none⟩ = some (.int .u8 (A.node : Int)) := by rw [← hW3]; exact cell_of_heap hr3
  have cb1 : ((W.setCell ⟨w.heap.size, 6, none⟩ (.slice none 0 0)).setCell ⟨w.heap.size + 1, 6, none⟩ (.slice none 0 0)).drew.cell? ⟨w.heap.size + 1, 1, none⟩ = some (.int .u32 (A.mode : Int)) := by rw [← hW3]; exact cell_of_heap hr3
  have cb2 : ((W.setCell ⟨w.heap.size, 6, none⟩ (.slice none 0 0)).setCell ⟨w.heap.size + 1, 6, none⟩ (.slice none 0 0)).drew.cell? ⟨w.heap.size + 1, 2, none⟩ = some (.int .u32 (A.uid : Int)) := by rw [← hW3]; exact cell_of_heap hr3
  have cb3 : ((W.setCell ⟨w.heap.size, 6, none⟩ (.slice none 0 0)).setCell ⟨w.heap.size + 1, 6, none⟩ (.slice none 0 0)).drew.cell? ⟨w.heap.size + 1, 3, none⟩ = some (.int .u32 (A.gid : Int)) := by rw [← hW3]; exact cell_of_heap hr3
  have cb4 : ((W.setCell ⟨w.heap.size, 6, none⟩ (.slice none 0 0)).setCell ⟨w.heap.size + 1, 6, none⟩ (.slice none 0 0)).drew.cell? ⟨w.heap.size + 1, 4, none⟩ = some (.int .i64 A.mtime) := by rw [← hW3]; exact cell_of_heap hr3
  have cb5 : ((W.setCell ⟨w.heap.size, 6, none⟩ (.slice none 0 0)).setCell ⟨w.heap.size + 1, 6, none⟩ (.slice none 0 0)).drew.cell? ⟨w.heap.size + 1, 5, none⟩ = some (.string ⟨A.target.toArray⟩) := by rw [← hW3]; exact cell_of_heap hr3
  have d0 : W.drew.cell? ⟨w.heap.size, 6, none⟩ = some v := cell_of_heap hq0
  have f0 : W.drew.frozen? ⟨w.heap.size, 6, none⟩ = false := frozen_of_heap hq0
  have d1 : (W.setCell ⟨w.heap.size, 6, none⟩ (.slice none 0 0)).drew.cell? ⟨w.heap.size + 1, 6, none⟩ = some u := by rw [← hW2]; exact cell_of_heap hr2
  have f1 : (W.setCell ⟨w.heap.size, 6, none⟩ (.slice none 0 0)).drew.frozen? ⟨w.heap.size + 1, 6, none⟩ = false := by rw [← hW2]; exact frozen_of_heap hr2
  have XE := Lib.hid (xeq_any W3 A.xs v u (hv.kept hb3.size (fun b hb => hb3.block b (hv.lt b hb))) (hu.kept hb3.size (fun b hb => hb3.block b (hu.lt b hb))))
  have HS : Hid (W.drew.cell? ⟨w.heap.size, 6, none⟩ = some v ∧ W.drew.cell? ⟨w.heap.size + 1, 6, none⟩ = some u) := Lib.hid ⟨cell_of_heap hq0, cell_of_heap hr0⟩
  have HB3 := Lib.hid hb3; have HW := Lib.hid hW; have HW3 := Lib.hid hW3
  clear hb0 hq0 hr0 hq2 hr2 hq3 hr3 hb3 hW hW2 hW3 hW32
  have hvo := xs_one hv
  have huo := xs_one hu
  obtain ⟨va, vc, rfl, _⟩ := hv
  obtain ⟨ua, uc, rfl, _⟩ := hu
  go_enter Tryd.func41, Tryd.ntmps41
  go_wp2_with fail
  change Code.wp _ _ _ _ ((w.alloc (.cells (A.cells (.slice va A.xs.length vc)).toArray AtT)).alloc (.cells (A.cells (.slice ua A.xs.length uc)).toArray AtT))
  rw [← HW.out]
  refine wp_region_held_drew (S := (fun w' : World => w'.cell? ⟨w.heap.size, 6, none⟩ = some (.slice va A.xs.length vc) ∧ w'.cell? ⟨w.heap.size + 1, 6, none⟩ = some (.slice ua A.xs.length uc))) (by kernel_rfl) HS.out (fun hHeld => ?_)
  refine wpAnyH_take (i := 0) (v := ?_) rfl (by kernel_rfl) (by kernel_rfl) (by kernel_rfl) (fun _ _ _ h => h) (Or.inl ⟨by rfl, ?sm0⟩) hHeld ?_
  case sm0 =>
    intro wS hSw
    obtain ⟨k0, k1⟩ := hSw
    go_simp
    try with_reducible rfl
  try simp only [Act.put, List.getElem_toArray, List.getElem_cons_zero, List.getElem_cons_succ, List.setIfInBounds_toArray, List.set_cons_zero, List.set_cons_succ]
  refine wpAnyH_take (i := 1) (v := ?_) rfl (by kernel_rfl) (by kernel_rfl) (by kernel_rfl) (fun _ _ _ h => h) (Or.inl ⟨by rfl, ?sm1⟩) hHeld ?_
  case sm1 =>
    intro wS hSw
    obtain ⟨k0, k1⟩ := hSw
    go_simp
    try with_reducible rfl
  try simp only [Act.put, List.getElem_toArray, List.getElem_cons_zero, List.getElem_cons_succ, List.setIfInBounds_toArray, List.set_cons_zero, List.set_cons_succ]
  refine wpAnyH_take (i := 2) (v := ?_) rfl (by kernel_rfl) (by kernel_rfl) (by kernel_rfl) (fun _ _ _ h => h) (Or.inl ⟨by rfl, ?sm2⟩) hHeld ?_
  case sm2 =>
    intro wS hSw
    obtain ⟨k0, k1⟩ := hSw
    go_simp
    try with_reducible rfl
  try simp only [Act.put, List.getElem_toArray, List.getElem_cons_zero, List.getElem_cons_succ, List.setIfInBounds_toArray, List.set_cons_zero, List.set_cons_succ]
  refine wpAnyH_take (i := 3) (v := ?_) rfl (by kernel_rfl) (by kernel_rfl) (by kernel_rfl) (fun _ _ _ h => h) (Or.inl ⟨by rfl, ?sm3⟩) hHeld ?_
  case sm3 =>
    intro wS hSw
    obtain ⟨k0, k1⟩ := hSw
    go_simp
    try with_reducible rfl
  try simp only [Act.put, List.getElem_toArray, List.getElem_cons_zero, List.getElem_cons_succ, List.setIfInBounds_toArray, List.set_cons_zero, List.set_cons_succ]
  refine wpAnyH_take (i := 4) (v := ?_) rfl (by kernel_rfl) (by kernel_rfl) (by kernel_rfl) (fun _ _ _ h => h) (Or.inl ⟨by rfl, ?sm4⟩) hHeld ?_
  case sm4 =>
    intro wS hSw
    obtain ⟨k0, k1⟩ := hSw
    go_simp
    try with_reducible rfl
  try simp only [Act.put, List.getElem_toArray, List.getElem_cons_zero, List.getElem_cons_succ, List.setIfInBounds_toArray, List.set_cons_zero, List.set_cons_succ]
  refine wpAnyH_take (i := 5) (v := ?_) rfl (by kernel_rfl) (by kernel_rfl) (by kernel_rfl) (fun _ _ _ h => h) (Or.inl ⟨by rfl, ?sm5⟩) hHeld ?_
  case sm5 =>
    intro wS hSw
    obtain ⟨k0, k1⟩ := hSw
    go_simp
    try with_reducible rfl
  try simp only [Act.put, List.getElem_toArray, List.getElem_cons_zero, List.getElem_cons_succ, List.setIfInBounds_toArray, List.set_cons_zero, List.set_cons_succ]
  refine wpAnyH_done (by kernel_rfl) ?_ _
  clear hHeld
  try simp only [Act.put, List.getElem_toArray, List.getElem_cons_zero, List.getElem_cons_succ, List.setIfInBounds_toArray, List.set_cons_zero, List.set_cons_succ]
  go_wp2_with fail
  rw [← HW3.out]
  refine XE.out.mono ?_
  rintro ex w4 ⟨rfl, hb4⟩
  have HB4 := Lib.hid (HB3.out.trans (hb4.mono HB3.out.size))
  clear hb4 XE
  go_wp2
  go_ret
  exact ⟨rfl, HB4.out⟩

/-- A node's eleven cells, in Value's words. -/
def ncells (s : ByteArray) (A : XA) (xv : Value) (d : ByteArray) (i : Nat) (t : Int) : List Value := .string s :: (A.cells xv ++ [.string d, .int .u64 (i : Int), .int .i64 t])
theorem vcells_n (e : TE) (xv : Value) : vcells e xv = ncells ⟨(pathN e.nm).toArray⟩ e.at_ xv ⟨e.data.toArray⟩ e.ino e.tick := rfl
set_option linter.unusedSimpArgs false in
set_option maxHeartbeats 8000000 in
set_option maxRecDepth 100000 in
theorem same18_any (w : World) (s1 s2 : ByteArray) (A : XA) (d : ByteArray) (i : Nat) (t : Int) (v u : Value) (hv : XsAt w v A.xs) (hu : XsAt w u A.xs) :
    Calls Tryd.prog 26 #[.agg (ncells s1 A v d i t).toArray, .agg (ncells s2 A u d i t).toArray] w fun e w' => e = .returned (.bool true) ∧ Below w.heap.size w w' := by
  obtain ⟨W, hW⟩ : ∃ W, W = (w.alloc (.cells (ncells s1 A v d i t).toArray VnT)).alloc (.cells (ncells s2 A u d i t).toArray VnT) := ⟨_, rfl⟩
  have hb0 : Below w.heap.size w W := by rw [hW]; exact ((Below.refl _ _).alloc (Nat.le_refl _) _).alloc (by rw [one_size]; omega) _
  have hq0 : W.heap[w.heap.size]? = some (.cells (ncells s1 A v d i t).toArray VnT) := by rw [hW]; exact at_alloc (MapKept.heap_alloc w _).1 _
  have hr0 : W.heap[w.heap.size + 1]? = some (.cells (ncells s2 A u d i t).toArray VnT) := by
    have := (MapKept.heap_alloc (w.alloc (.cells (ncells s1 A v d i t).toArray VnT)) (.cells (ncells s2 A u d i t).toArray VnT)).1
    rw [one_size] at this
    rw [hW]; exact this
  have c8 : ((w.alloc (.cells (ncells s1 A v d i t).toArray VnT)).alloc (.cells (ncells s2 A u d i t).toArray VnT)).cell? ⟨w.heap.size, 8, none⟩ = some (.string d) := by rw [← hW]; exact cell_of_heap hq0
  have c9 : ((w.alloc (.cells (ncells s1 A v d i t).toArray VnT)).alloc (.cells (ncells s2 A u d i t).toArray VnT)).cell? ⟨w.heap.size, 9, none⟩ = some (.int .u64 (i : Int)) := by rw [← hW]; exact cell_of_heap hq0
  have c10 : ((w.alloc (.cells (ncells s1 A v d i t).toArray VnT)).alloc (.cells (ncells s2 A u d i t).toArray VnT)).cell? ⟨w.heap.size, 10, none⟩ = some (.int .i64 t) := by rw [← hW]; exact cell_of_heap hq0
  have e8 : ((w.alloc (.cells (ncells s1 A v d i t).toArray VnT)).alloc (.cells (ncells s2 A u d i t).toArray VnT)).cell? ⟨w.heap.size + 1, 8, none⟩ = some (.string d) := by rw [← hW]; exact cell_of_heap hr0
  have e9 : ((w.alloc (.cells (ncells s1 A v d i t).toArray VnT)).alloc (.cells (ncells s2 A u d i t).toArray VnT)).cell? ⟨w.heap.size + 1, 9, none⟩ = some (.int .u64 (i : Int)) := by rw [← hW]; exact cell_of_heap hr0
  have e10 : ((w.alloc (.cells (ncells s1 A v d i t).toArray VnT)).alloc (.cells (ncells s2 A u d i t).toArray VnT)).cell? ⟨w.heap.size + 1, 10, none⟩ = some (.int .i64 t) := by rw [← hW]; exact cell_of_heap hr0
  have HR1 : Hid (((w.alloc (.cells (ncells s1 A v d i t).toArray VnT)).alloc (.cells (ncells s2 A u d i t).toArray VnT)).rangeAt w.heap.size 1 (A.cells v)) := Lib.hid (fun j z hj => by
    rw [← hW, cell_of_heap hq0, List.getElem?_toArray, Nat.add_comm 1 j, ncells, List.getElem?_cons_succ, List.getElem?_append_left (List.getElem?_eq_some_iff.1 hj).1]; exact hj)
  have HR2 : Hid (((w.alloc (.cells (ncells s1 A v d i t).toArray VnT)).alloc (.cells (ncells s2 A u d i t).toArray VnT)).rangeAt (w.heap.size + 1) 1 (A.cells u)) := Lib.hid (fun j z hj => by
    rw [← hW, cell_of_heap hr0, List.getElem?_toArray, Nat.add_comm 1 j, ncells, List.getElem?_cons_succ, List.getElem?_append_left (List.getElem?_eq_some_iff.1 hj).1]; exact hj)
  have AS := Lib.hid (atSame_any W A v u (hv.kept hb0.size (fun b hb => hb0.block b (hv.lt b hb))) (hu.kept hb0.size (fun b hb => hb0.block b (hu.lt b hb))))
  have HB0 := Lib.hid hb0; have HW := Lib.hid hW
  have h7 : ∀ (A : XA) (v : Value), (Tryd.prog.info? AtT).map (·.size) = some (A.cells v).toArray.size := infoAt
  clear hb0 hq0 hr0 hW hv hu
  have H7 := Lib.hid h7
  clear h7
  go_enter Tryd.func26, Tryd.ntmps26
  go_wp2_with (first
    | (refine wpList_load_mid rfl _ _ rfl w.heap.size 1 rfl (A.cells v) _ HR1.out Tryd.underlying42 rfl (by show _ = some 7; kernel_rfl) ?_)
    | (refine wpList_load_mid rfl _ _ rfl (w.heap.size + 1) 1 rfl (A.cells u) _ HR2.out Tryd.underlying42 rfl (by show _ = some 7; kernel_rfl) ?_)
    | fail)
  rw [← HW.out]
  refine AS.out.mono ?_
  rintro ex w4 ⟨rfl, hb4⟩
  have HB4 := Lib.hid (HB0.out.trans (hb4.mono HB0.out.size))
  clear hb4 AS
  go_wp2
  go_ret
  exact ⟨rfl, HB4.out⟩
end Go.Proofs.YtkdkifciajfpnaaDoor.Sr
