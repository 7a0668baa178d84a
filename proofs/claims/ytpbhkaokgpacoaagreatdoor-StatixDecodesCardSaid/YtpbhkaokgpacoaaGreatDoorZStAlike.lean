import Derived.Test.YtpbhkaokgpacoaaGreatDoorZStRefAt
import Derived.Test.YtpbhkaokgpacoaaGreatDoorZStStrs
import Derived.Stop.BytesEq
set_option linter.unusedSimpArgs false
set_option linter.unusedVariables false
/-
  An entry of the program's and the same one of the reference's are alike.
-/
namespace Go.Proofs.YtpbhkaokgpacoaaGreatDoor.St
open Go.RowKit Go.Maps Go.WideMaps Go.Proofs.YtpbhkaokgpacoaaGreatDoor.Rf Go.Proofs.YtpbhkaokgpacoaaGreatDoor.Rd

theorem size8 (w : World) : (sizeOf 5).run Tryz.prog w = .ok 1 w := by kernel_rfl
theorem eq_id (w : World) (l : List UInt8) (hl : l.length = 32) : (Op.equalIn 10000 42 (.agg (Lib.byteCells l).toArray) (.agg (Lib.byteCells l).toArray)).run Tryz.prog w = .ok true w := by
  have := run_equalIn_bytes (P := Tryz.prog) w 9998 42 5 32 Tryz.underlying42 Tryz.underlying5 size8 l l hl hl
  rw [beq_self_eq_true] at this
  exact this
theorem range_id {w : World} {x : Nat} {e : SE} {T : TypeId} (h : w.heap[x]? = some (.cells e.cells.toArray T)) : w.rangeAt x 6 (Lib.byteCells e.id) := fun j v hv => by
  rw [cell_of_heap h, List.getElem?_toArray, SE.cells, show 6 + j = j + 1 + 1 + 1 + 1 + 1 + 1 by omega]
  simp only [List.getElem?_cons_succ]
  exact hv
theorem info_id {l : List UInt8} (hl : l.length = 32) : (Tryz.prog.info? 42).map (·.size) = some (Lib.byteCells l).length := by rw [Lib.byteCells_length, hl]; kernel_rfl

set_option maxHeartbeats 4000000 in
set_option maxRecDepth 100000 in
theorem alike_any (w : World) (e : SE) (he : e.Fits) :
    Calls Tryz.prog 24 #[enV e, enV e] w fun x w' => x = .returned (.bool true) ∧ Below w.heap.size w w' := by
  obtain ⟨W, hW⟩ : ∃ W, W = (w.alloc (.cells e.cells.toArray 44)).alloc (.cells e.cells.toArray 49) := ⟨_, rfl⟩
  have hb : Below w.heap.size w W := by rw [hW]; exact ((Below.refl _ _).alloc (Nat.le_refl _) _).alloc (by rw [one_size]; omega) _
  have q1 : W.heap[w.heap.size]? = some (.cells e.cells.toArray 44) := by rw [hW]; exact at_alloc (MapKept.heap_alloc w _).1 _
  have q2 : W.heap[w.heap.size + 1]? = some (.cells e.cells.toArray 49) := by
    rw [hW]
    have := (MapKept.heap_alloc (w.alloc (.cells e.cells.toArray 44)) (.cells e.cells.toArray 49)).1
    rwa [one_size] at this
  have k0 : e.cells[0]? = some (.string ⟨e.path.toArray⟩) := rfl
  have k1 : e.cells[1]? = some (.int .u8 (e.node : Int)) := rfl
  have k2 : e.cells[2]? = some (.int .i64 e.size) := rfl
  have k3 : e.cells[3]? = some (.int .u64 (e.ino : Int)) := rfl
  have k4 : e.cells[4]? = some (.int .i64 e.tick) := rfl
  have k5 : e.cells[5]? = some (.int .u8 (e.kind : Int)) := rfl
  have R1 := Lib.hid (range_id q1); have R2 := Lib.hid (range_id q2)
  have HI := Lib.hid (info_id he.id)
  have HEQ := eq_id W e.id he.id
  have HB := Lib.hid hb; have HW := Lib.hid hW
  rw [hW] at HEQ R1 R2
  clear q1 q2 hb hW he
  unfold enV
  generalize e.cells = ec at *
  generalize Lib.byteCells e.id = bc at *
  go_enter Tryz.func24, Tryz.ntmps24
  go_wp2_with (first
    | (go_guarded; refine wp_load_mid 42 (.tmp 54) rfl w.heap.size 6 rfl bc _ R1.out Tryz.underlying42 rfl HI.out ?_)
    | (go_guarded; refine wp_load_mid 42 (.tmp 56) rfl (w.heap.size + 1) 6 rfl bc _ R2.out Tryz.underlying42 rfl HI.out ?_))
  go_ret
  exact ⟨rfl, by rw [← HW.out]; exact HB.out⟩
end Go.Proofs.YtpbhkaokgpacoaaGreatDoor.St
