import Derived.Test.YthcjjekkjbidlaaDoorZPSrStat
import Derived.Test.YthcjjekkjbidlaaDoorZPStAppend
set_option linter.unusedSimpArgs false
set_option linter.unusedVariables false
/-
  Calls on no tree.
-/
namespace Go.Proofs.YthcjjekkjbidlaaDoor.Sr
open Go.RowKit Go.Maps Go.WideMaps Go.Proofs.YthcjjekkjbidlaaDoor.Rf Go.Proofs.YthcjjekkjbidlaaDoor.Nm Go.Proofs.YthcjjekkjbidlaaDoor.St
set_option linter.unusedSimpArgs false
set_option maxHeartbeats 4000000
set_option maxRecDepth 100000

theorem nil_find (w : World) (s : ByteArray) :
    Calls Tryd.prog 39 #[.pointer none, .string s] w fun e w' => e = .returned (.tuple #[.pointer none, .slice none 0 0, .int .i64 2]) ∧ Below w.heap.size w w' := by
  go_enter Tryd.func39, Tryd.ntmps39
  go_wp2
  go_ret3
  exact ⟨rfl, Below.refl _ _⟩
theorem nil_now (w : World) :
    Calls Tryd.prog 12 #[.pointer none] w fun e w' => e = .returned (.int .i64 0) ∧ Below w.heap.size w w' := by
  go_enter Tryd.func12, Tryd.ntmps12
  go_wp2
  go_ret
  exact ⟨rfl, Below.refl _ _⟩
theorem nil_reads (w : World) :
    Calls Tryd.prog 13 #[.pointer none] w fun e w' => e = .returned (.int .i64 0) ∧ Below w.heap.size w w' := by
  go_enter Tryd.func13, Tryd.ntmps13
  go_wp2
  go_ret
  exact ⟨rfl, Below.refl _ _⟩
theorem nil_value (w : World) :
    Calls Tryd.prog 14 #[.pointer none] w fun e w' => e = .returned (.slice none 0 0) ∧ Below w.heap.size w w' := by
  go_enter Tryd.func14, Tryd.ntmps14
  go_wp2
  go_ret
  exact ⟨rfl, Below.refl _ _⟩
theorem nil_twin (w : World) :
    Calls Tryd.prog 15 #[.pointer none] w fun e w' => e = .returned (.pointer none) ∧ Below w.heap.size w w' := by
  go_enter Tryd.func15, Tryd.ntmps15
  go_wp2
  go_ret
  exact ⟨rfl, Below.refl _ _⟩
theorem nil_read (w : World) (s : ByteArray) :
    Calls Tryd.prog 10 #[.pointer none, .string s] w fun e w' => e = .returned (.tuple #[.string ⟨#[]⟩, .int .i64 2]) ∧ Below w.heap.size w w' := by
  have FI := Lib.hid (nil_find w s)
  go_enter Tryd.func10, Tryd.ntmps10
  go_wp2_with fail
  refine FI.out.mono ?_
  rintro ex w1 ⟨rfl, hb1⟩
  have HB := Lib.hid hb1
  clear hb1 FI
  go_wp2
  go_ret2
  exact ⟨rfl, HB.out⟩
theorem nil_drop (w : World) (s : ByteArray) :
    Calls Tryd.prog 11 #[.pointer none, .string s] w fun e w' => e = .returned (.int .i64 2) ∧ Below w.heap.size w w' := by
  have FI := Lib.hid (nil_find w s)
  go_enter Tryd.func11, Tryd.ntmps11
  go_wp2_with fail
  refine FI.out.mono ?_
  rintro ex w1 ⟨rfl, hb1⟩
  have HB := Lib.hid hb1
  clear hb1 FI
  go_wp2
  go_ret
  exact ⟨rfl, HB.out⟩
theorem nil_stat (w : World) (s : ByteArray) :
    Calls Tryd.prog 9 #[.pointer none, .string s] w fun e w' => e = .returned (.tuple #[.agg #[.int .u8 0, .int .i64 0, .int .u64 0, .int .i64 0], .int .i64 2]) ∧ Below w.heap.size w w' := by
  obtain ⟨W, hW⟩ : ∃ W, W = w.alloc (.cells #[.int .u8 0, .int .i64 0, .int .u64 0, .int .i64 0] 25) := ⟨_, rfl⟩
  have hb0 : Below w.heap.size w W := by rw [hW]; exact (Below.refl _ _).alloc (Nat.le_refl _) _
  have FI := Lib.hid (nil_find W s)
  have HB0 := Lib.hid hb0; have HW := Lib.hid hW
  have HA0 : Hid (W.heap[w.heap.size]? = some (.cells #[.int .u8 0, .int .i64 0, .int .u64 0, .int .i64 0] 25)) := Lib.hid (by rw [hW]; exact (MapKept.heap_alloc w _).1)
  clear hb0 hW
  go_enter Tryd.func9, Tryd.ntmps9
  go_wp2_with fail
  change Calls _ _ _ (w.alloc (.cells #[.int .u8 0, .int .i64 0, .int .u64 0, .int .i64 0] 25)) _
  rw [← HW.out]
  refine FI.out.mono ?_
  rintro ex w1 ⟨rfl, hb1⟩
  have HB := Lib.hid (HB0.out.trans (hb1.mono HB0.out.size))
  have HA1 := Lib.hid ((hb1.block _ (lt_of_heap HA0.out)).trans HA0.out)
  clear hb1 FI HB0 HA0 HW
  go_wp2_with (first
    | (refine Sh.wpList_build_is rfl 25 _ rfl #[.int .u8 0, .int .i64 0, .int .u64 0, .int .i64 0] builtSt ?_)
    | (refine Sh.wpList_store_at HA1.out rfl 25 (.tmp 4) (.tmp 19) rfl #[.int .u8 0, .int .i64 0, .int .u64 0, .int .i64 0] rfl rfl infoSt rfl (oneSt _ _ _ _ rfl rfl rfl rfl) ?_
       intro w3 hq3 ht3 hs3
       have HQ3 := Lib.hid hq3; have HT3 := Lib.hid ht3
       clear hq3 ht3 hs3))
  have hld := run_loadVar_row (P := Tryd.prog) w3 w.heap.size _ 25 #[.int .u8 0, .int .i64 0, .int .u64 0, .int .i64 0] _ _ HQ3.out Tryd.underlying25 rfl infoSt
  refine bodyPost_ret (v := .tuple #[.agg #[.int .u8 0, .int .i64 0, .int .u64 0, .int .i64 0], .int .i64 2]) ?_ rfl ?_
  · rw [results_cell_tmp (fn := Tryd.f9) rfl]
    show ((asAddr (.pointer (some ⟨w.heap.size, 0, none⟩))).run Tryd.prog _).andThen _ = _
    simp only [asAddr, Sem.run_pure, Result.andThen_ok, hld]
    rfl
  · exact ⟨rfl, HB.out.trans (HT3.out.below (by simp) HB.out.size)⟩
end Go.Proofs.YthcjjekkjbidlaaDoor.Sr
