import Derived.Test.YtpbhkaokgpacoaaGreatDoorZShCheck
import Derived.Test.YtpbhkaokgpacoaaGreatDoorZStEncode
set_option linter.unusedSimpArgs false
set_option linter.unusedVariables false
/-
  Calls on no index, and with no tree; a new tree.
-/
namespace Go.Proofs.YtpbhkaokgpacoaaGreatDoor.St
open Go.RowKit Go.Maps Go.WideMaps Go.Proofs.YtpbhkaokgpacoaaGreatDoor.Rf Go.Proofs.YtpbhkaokgpacoaaGreatDoor.Rd

set_option linter.unusedSimpArgs false
set_option maxHeartbeats 4000000
set_option maxRecDepth 100000

theorem nil_get (w : World) (s : ByteArray) :
    Calls Tryz.prog 20 #[.pointer none, .string s] w fun e w' => e = .returned (.tuple #[enV zeroS, .int .i64 2]) ∧ Below w.heap.size w w' := by
  have ZOK := Lib.hid zero_fits.en
  have HQ0 : Hid ((w.alloc (.cells zeroS.cells.toArray 44)).heap[w.heap.size]? = some (.cells zeroS.cells.toArray 44)) := Lib.hid (MapKept.heap_alloc w _).1
  have HB0 : Hid (Below w.heap.size w (w.alloc (.cells zeroS.cells.toArray 44))) := Lib.hid ((Below.refl _ _).alloc (Nat.le_refl _) _)
  go_enter Tryz.func20, Tryz.ntmps20
  go_wp2_with (first
    | (refine Sh.wpList_build_is rfl 44 _ rfl zeroS.cells.toArray built0 ?_)
    | (refine wpList_store_at HQ0.out rfl _ _ _ rfl zeroS.cells.toArray rfl rfl ZOK.out.info rfl ZOK.out.one ?_
       intro w3 hq3 ht3 hs3
       have HQ3 := Lib.hid hq3; have HT3 := Lib.hid ht3
       clear hq3 ht3 hs3))
  have hld := run_loadVar_row (P := Tryz.prog) w3 w.heap.size _ 44 zeroS.cells.toArray _ _ HQ3.out Tryz.underlying44 rfl ZOK.out.info
  refine bodyPost_ret (v := .tuple #[enV zeroS, .int .i64 2]) ?_ rfl ?_
  · rw [results_cell_tmp (fn := Tryz.f20) rfl]
    show ((asAddr (.pointer (some ⟨w.heap.size, 0, none⟩))).run Tryz.prog _).andThen _ = _
    simp only [asAddr, Sem.run_pure, Result.andThen_ok, hld]
    rfl
  · exact ⟨rfl, HB0.out.trans (HT3.out.below (by simp) HB0.out.size)⟩
theorem nil_set (w : World) :
    Calls Tryz.prog 12 #[.pointer none, enV zeroS] w fun e w' => e = .returned (.int .i64 2) ∧ Below w.heap.size w w' := by
  go_enter Tryz.func12, Tryz.ntmps12
  go_wp2
  go_ret
  exact ⟨rfl, (Below.refl _ _).alloc (Nat.le_refl _) _⟩
theorem nil_keep (w : World) (x : Value) :
    Calls Tryz.prog 16 #[.pointer none, x] w fun e w' => e = .returned (.tuple #[.int .i64 0, .int .i64 2]) ∧ Below w.heap.size w w' := by
  go_enter Tryz.func16, Tryz.ntmps16
  go_wp2
  go_ret2
  exact ⟨rfl, Below.refl _ _⟩
theorem nil_encode (w : World) :
    Calls Tryz.prog 18 #[.pointer none] w fun e w' => e = .returned (.tuple #[.string ⟨#[]⟩, .int .i64 2]) ∧ Below w.heap.size w w' := by
  go_enter Tryz.func18, Tryz.ntmps18
  go_wp2
  go_ret2
  exact ⟨rfl, Below.refl _ _⟩
theorem nil_len (w : World) :
    Calls Tryz.prog 34 #[.pointer none] w fun e w' => e = .returned (.int .i64 0) ∧ Below w.heap.size w w' := by
  go_enter Tryz.func34, Tryz.ntmps34
  go_wp2
  go_ret
  exact ⟨rfl, Below.refl _ _⟩
theorem nil_all (w : World) :
    Calls Tryz.prog 35 #[.pointer none] w fun e w' => e = .returned (.slice none 0 0) ∧ Below w.heap.size w w' := by
  go_enter Tryz.func35, Tryz.ntmps35
  go_wp2
  go_ret
  exact ⟨rfl, Below.refl _ _⟩
theorem nil_changed (w : World) (x t : Value) (h : x = .pointer none ∨ t = .pointer none) (hx : ∃ a, x = .pointer a) (ht : ∃ a, t = .pointer a) :
    Calls Tryz.prog 32 #[x, t] w fun e w' => e = .returned (.tuple #[.slice none 0 0, .int .i64 2]) ∧ Below w.heap.size w w' := by
  obtain ⟨xa, rfl⟩ := hx
  obtain ⟨ta, rfl⟩ := ht
  cases xa with
  | none =>
    clear h
    go_enter Tryz.func32, Tryz.ntmps32
    go_wp2
    go_ret2
    exact ⟨rfl, Below.refl _ _⟩
  | some a =>
    obtain rfl : ta = none := by
      rcases h with h | h
      · cases h
      · injection h
    clear h
    go_enter Tryz.func32, Tryz.ntmps32
    go_wp2
    go_ret2
    exact ⟨rfl, Below.refl _ _⟩
theorem nil_drop (w : World) (s : ByteArray) :
    Calls Tryz.prog 14 #[.pointer none, .string s] w fun e w' => e = .returned (.int .i64 2) ∧ Below w.heap.size w w' := by
  have GE := Lib.hid (nil_get w s)
  have ZOK := Lib.hid zero_fits.en
  go_enter Tryz.func14, Tryz.ntmps14
  go_wp2_with fail
  refine GE.out.mono ?_
  rintro ex w1 ⟨rfl, hb1⟩
  have HB1 := Lib.hid hb1
  clear hb1 GE
  go_wp2_with (first
    | (refine wpList_store_new (by first | rfl | rw [one_size]) rfl _ _ _ rfl zeroS.cells.toArray rfl rfl ZOK.out.info ZOK.out.z ZOK.out.one ?_
       intro w2 hq2 hb2 hs2
       have HB2 := Lib.hid (HB1.out.trans (hb2.mono HB1.out.size))
       clear hq2 hb2 hs2))
  go_ret
  exact ⟨rfl, HB2.out⟩
theorem nil_fresh (w : World) (S : ByteArray) (s : SE) :
    Calls Tryz.prog 22 #[.pointer none, .string S, .agg s.stat.toArray] w fun e w' => e = .returned (.tuple #[enV zeroS, .bool false]) ∧ Below w.heap.size w w' := by
  obtain ⟨W, hW⟩ : ∃ W, W = (w.alloc (.cells s.stat.toArray 40)).alloc (.cells zeroS.cells.toArray 44) := ⟨_, rfl⟩
  have hb0 : Below w.heap.size w W := by rw [hW]; exact ((Below.refl _ _).alloc (Nat.le_refl _) _).alloc (by rw [one_size]; omega) _
  have hr0 : W.heap[w.heap.size + 1]? = some (.cells zeroS.cells.toArray 44) := by
    have := (MapKept.heap_alloc (w.alloc (.cells s.stat.toArray 40)) (.cells zeroS.cells.toArray 44)).1
    rw [one_size] at this
    rw [hW]; exact this
  have GT := Lib.hid (nil_get W S)
  have ZOK := Lib.hid (SE.Fits.en zero_fits)
  have HB0 := Lib.hid hb0; have HR0 := Lib.hid hr0; have HW := Lib.hid hW
  clear hb0 hr0 hW
  go_enter Tryz.func22, Tryz.ntmps22
  go_wp2_with fail
  change Calls _ _ _ ((w.alloc (.cells s.stat.toArray 40)).alloc (.cells zeroS.cells.toArray 44)) _
  rw [← HW.out]
  refine GT.out.mono ?_
  rintro e w1 ⟨rfl, hb1⟩
  have HB1 := Lib.hid (HB0.out.trans (hb1.mono HB0.out.size))
  have HR1 := Lib.hid ((hb1.block _ (lt_of_heap HR0.out)).trans HR0.out)
  clear hb1 GT
  go_wp2_with (first
    | (refine wpList_store_new (by first | rfl | rw [one_size]) rfl _ _ _ rfl zeroS.cells.toArray rfl rfl ZOK.out.info ZOK.out.z ZOK.out.one ?_
       intro w2 hq2 hb2 hs2
       have HB2 := Lib.hid (HB1.out.trans (hb2.mono HB1.out.size))
       have HR2 := Lib.hid ((hb2.block _ (lt_of_heap HR1.out)).trans HR1.out)
       clear hq2 hb2 hs2)
    | (refine Sh.wpList_build_is rfl 44 _ rfl zeroS.cells.toArray built0 ?_)
    | (refine wpList_store_at HR2.out rfl _ _ _ rfl zeroS.cells.toArray rfl rfl ZOK.out.info rfl ZOK.out.one ?_
       intro w3 hq3 ht3 hs3
       have HQ3 := Lib.hid hq3; have HT3 := Lib.hid ht3
       clear hq3 ht3 hs3))
  have hld := run_loadVar_row (P := Tryz.prog) w3 (w.heap.size + 1) _ 44 zeroS.cells.toArray _ _ HQ3.out Tryz.underlying44 rfl ZOK.out.info
  refine bodyPost_ret (v := .tuple #[enV zeroS, .bool false]) ?_ rfl ?_
  · rw [results_cell_tmp (fn := Tryz.f22) rfl]
    show ((asAddr (.pointer (some ⟨w.heap.size + 1, 0, none⟩))).run Tryz.prog _).andThen _ = _
    simp only [asAddr, Sem.run_pure, Result.andThen_ok, hld]
    rfl
  · exact ⟨rfl, HB2.out.trans (HT3.out.below (by simp) HB2.out.size)⟩
/-- A new tree. -/
theorem source_new (w : World) :
    Calls Tryz.prog 33 #[] w fun e w' => (∃ a, e = .returned (.pointer a)) ∧ Below w.heap.size w w' := by
  have hmm := @run_makeMap Tryz.prog
  go_enter Tryz.func33, Tryz.ntmps33
  go_wp2
  go_ret
  exact ⟨⟨_, rfl⟩, ((((Below.refl w.heap.size w).alloc (Nat.le_refl _) _).alloc (by rw [one_size]; omega) _).alloc (by rw [one_size, one_size]; omega) _)⟩
end Go.Proofs.YtpbhkaokgpacoaaGreatDoor.St
