/-
  gc's Run, at the arguments of GcNames.
-/
import Derived.Test.YthfnhhfobaocoaaGreatDoorGcRun
namespace Go.Proofs.YthfnhhfobaocoaaGreatDoor.Gc
open Go.RowKit Go.Maps Go.WideMaps Go.Proofs.YthfnhhfobaocoaaGreatDoor.Dk

set_option maxHeartbeats 4000000 in
set_option maxRecDepth 100000 in
theorem run_nil (w : World) : Calls Tryz.prog 5 #[.pointer none, pl6 4 2 64 3 3 2, pol 0 0] w fun e w' => e = .returned (.tuple #[.agg told0, .int .i64 2]) ∧ Below w.heap.size w w' := by
  obtain ⟨W, hW⟩ : ∃ W, W = (((w.alloc (.cells #[.int .i64 4, .int .i64 2, .int .i64 64, .int .i64 3, .int .i64 3, .int .i64 2] 35)).alloc (.cells #[.int .i64 0, .int .i64 0] 42)).alloc (.cells told0 29)) := ⟨_, rfl⟩
  have hb : Below w.heap.size w W := by rw [hW]; exact (((Below.refl _ _).alloc (Nat.le_refl _) _).alloc (by rw [one_size]; omega) _).alloc (by rw [one_size, one_size]; omega) _
  have hq1 : W.heap[w.heap.size + 1 + 1]? = some (.cells told0 29) := by
    have := (MapKept.heap_alloc ((w.alloc (.cells #[.int .i64 4, .int .i64 2, .int .i64 64, .int .i64 3, .int .i64 3, .int .i64 2] 35)).alloc (.cells #[.int .i64 0, .int .i64 0] 42)) (.cells told0 29)).1
    rw [hW]; rwa [one_size, one_size] at this
  have hpl : W.heap[w.heap.size]? = some (.cells #[.int .i64 4, .int .i64 2, .int .i64 64, .int .i64 3, .int .i64 3, .int .i64 2] 35) := by rw [hW]; exact at_alloc (at_alloc (MapKept.heap_alloc w _).1 _) _
  have hpo : W.heap[w.heap.size + 1]? = some (.cells #[.int .i64 0, .int .i64 0] 42) := by
    have := (MapKept.heap_alloc (w.alloc (.cells #[.int .i64 4, .int .i64 2, .int .i64 64, .int .i64 3, .int .i64 3, .int .i64 2] 35)) (.cells #[.int .i64 0, .int .i64 0] 42)).1
    rw [hW]; rw [one_size] at this; exact at_alloc this _
  have HB := Lib.hid hb; have HQ := Lib.hid hq1; have HPL := Lib.hid hpl; have HPO := Lib.hid hpo; have HW := Lib.hid hW
  clear hb hq1 hpl hpo hW
  go_enter Tryz.func5, Tryz.ntmps5
  go_upto_region 1 with (fail)
  change Code.wp _ _ _ _ (((w.alloc (.cells #[.int .i64 4, .int .i64 2, .int .i64 64, .int .i64 3, .int .i64 3, .int .i64 2] 35)).alloc (.cells #[.int .i64 0, .int .i64 0] 42)).alloc (.cells told0 29))
  rw [← HW.out]
  clear HW
  go_wp2_with (first
    | (refine wpList_build_is rfl 29 _ rfl told0 (by kernel_rfl) ?_)
    | (refine wpList_store_at (g := w.heap.size + 1 + 1) HQ.out rfl 29 (.tmp 6) (.tmp 21) rfl told0 rfl rfl (by kernel_rfl) rfl (by kernel_rfl) ?_
       intro w3 hq3 ht3 hs3
       have HQ3 := Lib.hid hq3; have HT3 := Lib.hid ht3
       clear hq3 ht3 hs3)
    | fail)
  have hld := run_loadVar_row (P := Tryz.prog) w3 (w.heap.size + 1 + 1) _ 29 told0 _ _ HQ3.out Tryz.underlying29 rfl (by kernel_rfl)
  refine bodyPost_ret (v := .tuple #[.agg told0, .int .i64 2]) ?_ rfl ?_
  · rw [results_cell_tmp (fn := Tryz.f5) rfl]
    show ((asAddr (.pointer (some ⟨w.heap.size + 1 + 1, 0, none⟩))).run Tryz.prog _).andThen _ = _
    simp only [asAddr, Sem.run_pure, Result.andThen_ok, hld]
    rfl
  · exact ⟨rfl, HB.out.trans (HT3.out.below (by simp; omega) HB.out.size)⟩
set_option maxHeartbeats 4000000 in
set_option maxRecDepth 100000 in
theorem run_plan (w : World) (g : Nat) : Calls Tryz.prog 5 #[ptr g, pl6 0 0 0 0 0 0, pol 101 0] w fun e w' => e = .returned (.tuple #[.agg told0, .int .i64 90]) ∧ Below w.heap.size w w' := by
  unfold ptr
  obtain ⟨W, hW⟩ : ∃ W, W = (((w.alloc (.cells #[.int .i64 0, .int .i64 0, .int .i64 0, .int .i64 0, .int .i64 0, .int .i64 0] 35)).alloc (.cells #[.int .i64 101, .int .i64 0] 42)).alloc (.cells told0 29)) := ⟨_, rfl⟩
  have hb : Below w.heap.size w W := by rw [hW]; exact (((Below.refl _ _).alloc (Nat.le_refl _) _).alloc (by rw [one_size]; omega) _).alloc (by rw [one_size, one_size]; omega) _
  have hq1 : W.heap[w.heap.size + 1 + 1]? = some (.cells told0 29) := by
    have := (MapKept.heap_alloc ((w.alloc (.cells #[.int .i64 0, .int .i64 0, .int .i64 0, .int .i64 0, .int .i64 0, .int .i64 0] 35)).alloc (.cells #[.int .i64 101, .int .i64 0] 42)) (.cells told0 29)).1
    rw [hW]; rwa [one_size, one_size] at this
  have hpl : W.heap[w.heap.size]? = some (.cells #[.int .i64 0, .int .i64 0, .int .i64 0, .int .i64 0, .int .i64 0, .int .i64 0] 35) := by rw [hW]; exact at_alloc (at_alloc (MapKept.heap_alloc w _).1 _) _
  have hpo : W.heap[w.heap.size + 1]? = some (.cells #[.int .i64 101, .int .i64 0] 42) := by
    have := (MapKept.heap_alloc (w.alloc (.cells #[.int .i64 0, .int .i64 0, .int .i64 0, .int .i64 0, .int .i64 0, .int .i64 0] 35)) (.cells #[.int .i64 101, .int .i64 0] 42)).1
    rw [hW]; rw [one_size] at this; exact at_alloc this _
  have HB := Lib.hid hb; have HQ := Lib.hid hq1; have HPL := Lib.hid hpl; have HPO := Lib.hid hpo; have HW := Lib.hid hW
  clear hb hq1 hpl hpo hW
  go_enter Tryz.func5, Tryz.ntmps5
  go_upto_region 1 with (fail)
  change Code.wp _ _ _ _ (((w.alloc (.cells #[.int .i64 0, .int .i64 0, .int .i64 0, .int .i64 0, .int .i64 0, .int .i64 0] 35)).alloc (.cells #[.int .i64 101, .int .i64 0] 42)).alloc (.cells told0 29))
  rw [← HW.out]
  clear HW
  go_wp2_with (first
    | (refine wpList_load_at HPL.out rfl 35 (.tmp 4) rfl rfl _ Tryz.underlying35 rfl (by kernel_rfl) ?_)
    | fail)
  refine (plan2 W).mono ?_
  rintro ex w1 ⟨rfl, hb1⟩
  have HQx := Lib.hid ((hb1.block _ (lt_of_heap HQ.out)).trans HQ.out)
  have HPLx := Lib.hid ((hb1.block _ (lt_of_heap HPL.out)).trans HPL.out)
  have HPOx := Lib.hid ((hb1.block _ (lt_of_heap HPO.out)).trans HPO.out)
  have HBx := Lib.hid (HB.out.trans (hb1.mono HB.out.size))
  clear hb1 HQ HPL HPO HB
  go_wp2_with (first
    | (refine wpList_build_is rfl 29 _ rfl told0 (by kernel_rfl) ?_)
    | (refine wpList_store_at (g := w.heap.size + 1 + 1) HQx.out rfl 29 (.tmp 6) (.tmp 26) rfl told0 rfl rfl (by kernel_rfl) rfl (by kernel_rfl) ?_
       intro w3 hq3 ht3 hs3
       have HQ3 := Lib.hid hq3; have HT3 := Lib.hid ht3
       clear hq3 ht3 hs3)
    | fail)
  have hld := run_loadVar_row (P := Tryz.prog) w3 (w.heap.size + 1 + 1) _ 29 told0 _ _ HQ3.out Tryz.underlying29 rfl (by kernel_rfl)
  refine bodyPost_ret (v := .tuple #[.agg told0, .int .i64 90]) ?_ rfl ?_
  · rw [results_cell_tmp (fn := Tryz.f5) rfl]
    show ((asAddr (.pointer (some ⟨w.heap.size + 1 + 1, 0, none⟩))).run Tryz.prog _).andThen _ = _
    simp only [asAddr, Sem.run_pure, Result.andThen_ok, hld]
    rfl
  · exact ⟨rfl, HBx.out.trans (HT3.out.below (by simp; omega) HBx.out.size)⟩
set_option maxHeartbeats 4000000 in
set_option maxRecDepth 100000 in
theorem run_pol (w : World) (g : Nat) : Calls Tryz.prog 5 #[ptr g, pl6 4 2 64 3 3 2, pol 101 0] w fun e w' => e = .returned (.tuple #[.agg told0, .int .i64 1]) ∧ Below w.heap.size w w' := by
  unfold ptr
  obtain ⟨W, hW⟩ : ∃ W, W = (((w.alloc (.cells #[.int .i64 4, .int .i64 2, .int .i64 64, .int .i64 3, .int .i64 3, .int .i64 2] 35)).alloc (.cells #[.int .i64 101, .int .i64 0] 42)).alloc (.cells told0 29)) := ⟨_, rfl⟩
  have hb : Below w.heap.size w W := by rw [hW]; exact (((Below.refl _ _).alloc (Nat.le_refl _) _).alloc (by rw [one_size]; omega) _).alloc (by rw [one_size, one_size]; omega) _
  have hq1 : W.heap[w.heap.size + 1 + 1]? = some (.cells told0 29) := by
    have := (MapKept.heap_alloc ((w.alloc (.cells #[.int .i64 4, .int .i64 2, .int .i64 64, .int .i64 3, .int .i64 3, .int .i64 2] 35)).alloc (.cells #[.int .i64 101, .int .i64 0] 42)) (.cells told0 29)).1
    rw [hW]; rwa [one_size, one_size] at this
  have hpl : W.heap[w.heap.size]? = some (.cells #[.int .i64 4, .int .i64 2, .int .i64 64, .int .i64 3, .int .i64 3, .int .i64 2] 35) := by rw [hW]; exact at_alloc (at_alloc (MapKept.heap_alloc w _).1 _) _
  have hpo : W.heap[w.heap.size + 1]? = some (.cells #[.int .i64 101, .int .i64 0] 42) := by
    have := (MapKept.heap_alloc (w.alloc (.cells #[.int .i64 4, .int .i64 2, .int .i64 64, .int .i64 3, .int .i64 3, .int .i64 2] 35)) (.cells #[.int .i64 101, .int .i64 0] 42)).1
    rw [hW]; rw [one_size] at this; exact at_alloc this _
  have HB := Lib.hid hb; have HQ := Lib.hid hq1; have HPL := Lib.hid hpl; have HPO := Lib.hid hpo; have HW := Lib.hid hW
  clear hb hq1 hpl hpo hW
  go_enter Tryz.func5, Tryz.ntmps5
  go_upto_region 1 with (fail)
  change Code.wp _ _ _ _ (((w.alloc (.cells #[.int .i64 4, .int .i64 2, .int .i64 64, .int .i64 3, .int .i64 3, .int .i64 2] 35)).alloc (.cells #[.int .i64 101, .int .i64 0] 42)).alloc (.cells told0 29))
  rw [← HW.out]
  clear HW
  go_wp2_with (first
    | (refine wpList_load_at HPL.out rfl 35 (.tmp 4) rfl rfl _ Tryz.underlying35 rfl (by kernel_rfl) ?_)
    | fail)
  refine (plan1 W).mono ?_
  rintro ex w1 ⟨rfl, hb1⟩
  have HQx := Lib.hid ((hb1.block _ (lt_of_heap HQ.out)).trans HQ.out)
  have HPLx := Lib.hid ((hb1.block _ (lt_of_heap HPL.out)).trans HPL.out)
  have HPOx := Lib.hid ((hb1.block _ (lt_of_heap HPO.out)).trans HPO.out)
  have HBx := Lib.hid (HB.out.trans (hb1.mono HB.out.size))
  clear hb1 HQ HPL HPO HB
  go_wp2_with (first
    | (refine wpList_load_at HPOx.out rfl 42 (.tmp 5) rfl rfl _ Tryz.underlying42 rfl (by kernel_rfl) ?_)
    | fail)
  refine (pol1 w1).mono ?_
  rintro ex w2 ⟨rfl, hb1⟩
  have HQxx := Lib.hid ((hb1.block _ (lt_of_heap HQx.out)).trans HQx.out)
  have HPLxx := Lib.hid ((hb1.block _ (lt_of_heap HPLx.out)).trans HPLx.out)
  have HPOxx := Lib.hid ((hb1.block _ (lt_of_heap HPOx.out)).trans HPOx.out)
  have HBxx := Lib.hid (HBx.out.trans (hb1.mono HBx.out.size))
  clear hb1 HQx HPLx HPOx HBx
  go_wp2_with (first
    | (refine wpList_build_is rfl 29 _ rfl told0 (by kernel_rfl) ?_)
    | (refine wpList_store_at (g := w.heap.size + 1 + 1) HQxx.out rfl 29 (.tmp 6) (.tmp 32) rfl told0 rfl rfl (by kernel_rfl) rfl (by kernel_rfl) ?_
       intro w3 hq3 ht3 hs3
       have HQ3 := Lib.hid hq3; have HT3 := Lib.hid ht3
       clear hq3 ht3 hs3)
    | fail)
  have hld := run_loadVar_row (P := Tryz.prog) w3 (w.heap.size + 1 + 1) _ 29 told0 _ _ HQ3.out Tryz.underlying29 rfl (by kernel_rfl)
  refine bodyPost_ret (v := .tuple #[.agg told0, .int .i64 1]) ?_ rfl ?_
  · rw [results_cell_tmp (fn := Tryz.f5) rfl]
    show ((asAddr (.pointer (some ⟨w.heap.size + 1 + 1, 0, none⟩))).run Tryz.prog _).andThen _ = _
    simp only [asAddr, Sem.run_pure, Result.andThen_ok, hld]
    rfl
  · exact ⟨rfl, HBxx.out.trans (HT3.out.below (by simp; omega) HBxx.out.size)⟩
set_option maxHeartbeats 4000000 in
set_option maxRecDepth 100000 in
theorem run_ok (B k : Nat) (hk : k ≤ 900) (w : World) (Y : Lay) (hB : B ≤ w.heap.size) (h : DiskAt B w Y (fresh k)) : Calls Tryz.prog 5 #[ptr Y.g, pl6 4 2 64 3 3 2, pol 100 0] w fun e w' => e = .returned (.tuple #[.agg told0, .int .i64 0]) ∧ Below B w w' := by
  have HD := Lib.hid h; have HBB := Lib.hid hB
  clear h hB
  unfold ptr
  obtain ⟨W, hW⟩ : ∃ W, W = (((w.alloc (.cells #[.int .i64 4, .int .i64 2, .int .i64 64, .int .i64 3, .int .i64 3, .int .i64 2] 35)).alloc (.cells #[.int .i64 100, .int .i64 0] 42)).alloc (.cells told0 29)) := ⟨_, rfl⟩
  have hb : Below w.heap.size w W := by rw [hW]; exact (((Below.refl _ _).alloc (Nat.le_refl _) _).alloc (by rw [one_size]; omega) _).alloc (by rw [one_size, one_size]; omega) _
  have hq1 : W.heap[w.heap.size + 1 + 1]? = some (.cells told0 29) := by
    have := (MapKept.heap_alloc ((w.alloc (.cells #[.int .i64 4, .int .i64 2, .int .i64 64, .int .i64 3, .int .i64 3, .int .i64 2] 35)).alloc (.cells #[.int .i64 100, .int .i64 0] 42)) (.cells told0 29)).1
    rw [hW]; rwa [one_size, one_size] at this
  have hpl : W.heap[w.heap.size]? = some (.cells #[.int .i64 4, .int .i64 2, .int .i64 64, .int .i64 3, .int .i64 3, .int .i64 2] 35) := by rw [hW]; exact at_alloc (at_alloc (MapKept.heap_alloc w _).1 _) _
  have hpo : W.heap[w.heap.size + 1]? = some (.cells #[.int .i64 100, .int .i64 0] 42) := by
    have := (MapKept.heap_alloc (w.alloc (.cells #[.int .i64 4, .int .i64 2, .int .i64 64, .int .i64 3, .int .i64 3, .int .i64 2] 35)) (.cells #[.int .i64 100, .int .i64 0] 42)).1
    rw [hW]; rw [one_size] at this; exact at_alloc this _
  have HB := Lib.hid hb; have HQ := Lib.hid hq1; have HPL := Lib.hid hpl; have HPO := Lib.hid hpo; have HW := Lib.hid hW
  clear hb hq1 hpl hpo hW
  go_enter Tryz.func5, Tryz.ntmps5
  go_upto_region 1 with (fail)
  change Code.wp _ _ _ _ (((w.alloc (.cells #[.int .i64 4, .int .i64 2, .int .i64 64, .int .i64 3, .int .i64 3, .int .i64 2] 35)).alloc (.cells #[.int .i64 100, .int .i64 0] 42)).alloc (.cells told0 29))
  rw [← HW.out]
  clear HW
  go_wp2_with (first
    | (refine wpList_load_at HPL.out rfl 35 (.tmp 4) rfl rfl _ Tryz.underlying35 rfl (by kernel_rfl) ?_)
    | fail)
  refine (plan1 W).mono ?_
  rintro ex w1 ⟨rfl, hb1⟩
  have HQx := Lib.hid ((hb1.block _ (lt_of_heap HQ.out)).trans HQ.out)
  have HPLx := Lib.hid ((hb1.block _ (lt_of_heap HPL.out)).trans HPL.out)
  have HPOx := Lib.hid ((hb1.block _ (lt_of_heap HPO.out)).trans HPO.out)
  have HBx := Lib.hid (HB.out.trans (hb1.mono HB.out.size))
  clear hb1 HQ HPL HPO HB
  go_wp2_with (first
    | (refine wpList_load_at HPOx.out rfl 42 (.tmp 5) rfl rfl _ Tryz.underlying42 rfl (by kernel_rfl) ?_)
    | fail)
  refine (pol5 w1).mono ?_
  rintro ex w2 ⟨rfl, hb1⟩
  have HQxx := Lib.hid ((hb1.block _ (lt_of_heap HQx.out)).trans HQx.out)
  have HPLxx := Lib.hid ((hb1.block _ (lt_of_heap HPLx.out)).trans HPLx.out)
  have HPOxx := Lib.hid ((hb1.block _ (lt_of_heap HPOx.out)).trans HPOx.out)
  have HBxx := Lib.hid (HBx.out.trans (hb1.mono HBx.out.size))
  clear hb1 HQx HPLx HPOx HBx
  have ST := stand_any B k hk w2 Y (HD.out.below HBxx.out)
  unfold ptr at ST
  have ST := Lib.hid ST
  go_wp2_with fail
  refine ST.out.mono ?_
  rintro ex w4 ⟨x, d, rfl, hbare, Y', hd⟩
  have hnot : ∀ b, w.heap.size ≤ b → b ∉ Y.blocks := fun b hb hx => by have := HD.out.lt b hx; omega
  have HQ4 := Lib.hid ((hd.far (lt_of_heap HQxx.out) (hnot _ (by omega))).trans HQxx.out)
  have HPO4 := Lib.hid ((hd.far (lt_of_heap HPOxx.out) (hnot _ (by omega))).trans HPOxx.out)
  have HB4 : Hid (Below B w w4) := Lib.hid ((HBxx.out.mono HBB.out).trans (hd.low HD.out.base (Nat.le_trans HBB.out HBxx.out.size)))
  have HSZ : Hid (w.heap.size + 1 + 1 < w4.heap.size) := Lib.hid (lt_of_heap HQ4.out)
  have HBR := Lib.hid hbare
  clear hbare hd ST hnot HQxx HPLxx HPOxx HBxx HD
  go_wp2_with (first
    | (refine wpList_load_at HPO4.out rfl 42 (.tmp 5) rfl rfl _ Tryz.underlying42 rfl (by kernel_rfl) ?_)
    | fail)
  have JD := judge_any w4 x d HBR.out
  unfold ptr at JD
  refine JD.mono ?_
  rintro ex w5 ⟨rfl, hb5⟩
  have HQ5 := Lib.hid ((hb5.block _ (lt_of_heap HQ4.out)).trans HQ4.out)
  have HB5 : Hid (Below B w w5) := Lib.hid (HB4.out.trans (hb5.mono (Nat.le_trans HBB.out HB4.out.size)))
  have HBR5 := Lib.hid (HBR.out.below hb5)
  have HSZ5 := Lib.hid hb5.size
  clear hb5 JD HQ4 HPO4 HB4 HBR
  go_wp2_with (first
    | (refine wpList_store_new rfl rfl 29 (.tmp 12) (.tmp 45) rfl told0 rfl rfl (by kernel_rfl) rfl (by kernel_rfl) ?_
       intro w6 hq6 hb6 hs6
       have HQ6 := Lib.hid ((hb6.block _ (lt_of_heap HQ5.out)).trans HQ5.out)
       have HT6 := Lib.hid hq6
       have HB6 : Hid (Below B w w6) := Lib.hid (HB5.out.trans (hb6.mono (Nat.le_trans HBB.out HB5.out.size)))
       have HBR6 := Lib.hid (HBR5.out.below hb6)
       clear hq6 hb6 hs6 HQ5 HBR5)
    | fail)
  have MV := moving_any w6 x d HBR6.out
  unfold ptr at MV
  refine MV.mono ?_
  rintro ex w7 ⟨rfl, hb7⟩
  have HQ7 := Lib.hid ((hb7.block _ (lt_of_heap HQ6.out)).trans HQ6.out)
  have HT7 := Lib.hid ((hb7.block _ (lt_of_heap HT6.out)).trans HT6.out)
  have HB7 : Hid (Below B w w7) := Lib.hid (HB6.out.trans (hb7.mono (Nat.le_trans HBB.out HB6.out.size)))
  have HBR7 := Lib.hid (HBR6.out.below hb7)
  have SW := sweep_any w7 x d HBR7.out
  unfold ptr at SW
  have SW := Lib.hid SW
  have HLT : Hid (w.heap.size + 1 + 1 < w5.heap.size) := Lib.hid (by
    have h1 := HSZ.out; have h2 := HSZ5.out; omega)
  clear hb7 MV HQ6 HT6 HB6 HBR6
  go_wp2_with fail
  refine SW.out.mono ?_
  rintro ex w8 ⟨rfl, hw8⟩
  obtain rfl := hw8
  clear SW
  obtain ⟨m, ⟨o, hqx⟩, _⟩ := HBR7.out.live
  have c5 : w8.cell? ⟨x, 5, none⟩ = some (.slice none 0 0) := cell_of_heap hqx
  clear hqx HBR7
  go_wp2
  go_loop [16, 78] (fun u v => u = .int .i64 0 ∧ v = .int .i64 0) (fun _ _ => 0)
  case atStart => exact ⟨rfl, rfl⟩
  case round =>
    obtain ⟨rfl, rfl⟩ := hrel
    have d5 : w8.cell? ⟨w5.heap.size, 5, none⟩ = some (.int .i64 0) := cell_of_heap HT7.out
    have f5 : w8.frozen? ⟨w5.heap.size, 5, none⟩ = false := frozen_of_heap HT7.out
    have HT9 : Hid ((w8.setCell ⟨w5.heap.size, 5, none⟩ (.int .i64 0)).heap[w5.heap.size]? = some (.cells told0 29)) := Lib.hid (by rw [setCell_heap _ _ _ _ _ _ HT7.out]; rfl)
    have HQ9 : Hid ((w8.setCell ⟨w5.heap.size, 5, none⟩ (.int .i64 0)).heap[w.heap.size + 1 + 1]? = some (.cells told0 29)) := Lib.hid ((Below.heap_setCell _ _ _ _ (by have := HLT.out; show w.heap.size + 1 + 1 ≠ w5.heap.size; omega)).trans HQ7.out)
    have HB9 : Hid (Below B w (w8.setCell ⟨w5.heap.size, 5, none⟩ (.int .i64 0))) := Lib.hid (HB7.out.setCell (by have := HLT.out; have := HBB.out; show B ≤ w5.heap.size; omega) _)
    go_wp2_with (first
      | (refine wpList_load_at HT9.out rfl 29 (.tmp 12) rfl rfl _ Tryz.underlying29 rfl (by kernel_rfl) ?_)
      | (refine wpList_store_at (g := w.heap.size + 1 + 1) HQ9.out rfl 29 (.tmp 6) (.tmp 102) rfl told0 rfl rfl (by kernel_rfl) rfl (by kernel_rfl) ?_
         intro w3 hq3 ht3 hs3
         have HQ3 := Lib.hid hq3; have HT3 := Lib.hid ht3
         clear hq3 ht3 hs3)
      | fail)
    have hld := run_loadVar_row (P := Tryz.prog) w3 (w.heap.size + 1 + 1) _ 29 told0 _ _ HQ3.out Tryz.underlying29 rfl (by kernel_rfl)
    refine bodyPost_ret (v := .tuple #[.agg told0, .int .i64 0]) ?_ rfl ?_
    · rw [results_cell_tmp (fn := Tryz.f5) rfl]
      show ((asAddr (.pointer (some ⟨w.heap.size + 1 + 1, 0, none⟩))).run Tryz.prog _).andThen _ = _
      simp only [asAddr, Sem.run_pure, Result.andThen_ok, hld]
      rfl
    · exact ⟨rfl, HB9.out.trans (HT3.out.below (by have := HBB.out; simp; omega) (Nat.le_trans HBB.out HB9.out.size))⟩
end Go.Proofs.YthfnhhfobaocoaaGreatDoor.Gc
