import Derived.Test.YtpbhkaokgpacoaaGreatDoorZStStrs
import Derived.Test.YtpbhkaokgpacoaaGreatDoorZStKit
import Derived.Test.YtpbhkaokgpacoaaGreatDoorZStRead
set_option linter.unusedSimpArgs false
set_option linter.unusedVariables false
/-
  The contract of the reference's Fresh.
-/
namespace Go.Proofs.YtpbhkaokgpacoaaGreatDoor.St
open Go.RowKit Go.Maps Go.WideMaps Go.Proofs.YtpbhkaokgpacoaaGreatDoor.Rf Go.Proofs.YtpbhkaokgpacoaaGreatDoor.Rd

theorem exec_statR {o : Oper} {a : Act} {w : World} (x y : Operand) (e s : SE) (ho : o.op = .binOp .neq 47 x y 47) (hx : a.eval x = .agg e.stat.toArray) (hy : a.eval y = .agg s.stat.toArray) :
    (execOp a.eval o).run Tryz.prog w = .ok (.value (.bool (!statIs e s))) w := by
  have hr := neq_statR w e s
  have hg := run_eqGuard_agg (P := Tryz.prog) w .neq 47 x y e.stat.toArray s.stat.toArray (by kernel_rfl)
  generalize e.stat.toArray = A at *
  generalize s.stat.toArray = C at *
  unfold execOp
  simp only [ho, hx, hy, Sem.run_bind, hg, hr, Result.andThen_ok]
  rfl

set_option maxHeartbeats 4000000 in
set_option maxRecDepth 100000 in
theorem ref_fresh (B : Nat) (w : World) (r : Nat) (v : Value) (L : List SE) (S : ByteArray) (hS : S.size ≤ maxLen) (s : SE) (h : RefAt B w r v L) :
    Calls Tryz.prog 23 #[ptr r, .string S, .agg s.stat.toArray] w fun e w' => e = .returned (.tuple #[enV (freshX S.data.toList s L).1, .bool (freshX S.data.toList s L).2]) ∧ Below w.heap.size w w' := by
  obtain ⟨W, hW⟩ : ∃ W, W = (w.alloc (.cells s.stat.toArray 47)).alloc (.cells zeroS.cells.toArray 49) := ⟨_, rfl⟩
  have hb0 : Below w.heap.size w W := by rw [hW]; exact ((Below.refl _ _).alloc (Nat.le_refl _) _).alloc (by rw [one_size]; omega) _
  have hq0 : W.heap[w.heap.size]? = some (.cells s.stat.toArray 47) := by rw [hW]; exact at_alloc (MapKept.heap_alloc w _).1 _
  have hr0 : W.heap[w.heap.size + 1]? = some (.cells zeroS.cells.toArray 49) := by
    have := (MapKept.heap_alloc (w.alloc (.cells s.stat.toArray 47)) (.cells zeroS.cells.toArray 49)).1
    rw [one_size] at this
    rw [hW]; exact this
  have GT := Lib.hid (ref_get B W r v L S hS (h.below hb0))
  have VOK := Lib.hid (h.fitsGet S.data.toList).enR
  have ZOK := Lib.hid (SE.Fits.enR zero_fits)
  have HB0 := Lib.hid hb0; have HQ0 := Lib.hid hq0; have HR0 := Lib.hid hr0; have HW := Lib.hid hW
  have hst : Hid ((Tryz.prog.info? 47).map (·.size) = some s.stat.length) := Lib.hid (by show _ = some 4; kernel_rfl)
  have hsv : ∀ V : SE, Hid ((Tryz.prog.info? 47).map (·.size) = some V.stat.length) := fun V => Lib.hid (by show _ = some 4; kernel_rfl)
  unfold ptr getE getV at *
  have HFX : Hid (freshX S.data.toList s L = match getL S.data.toList L with | none => (zeroS, false) | some e => if statIs e s then (e, true) else (zeroS, false)) := Lib.hid rfl
  generalize freshX S.data.toList s L = FX at *
  clear hb0 hq0 hr0 hW h
  cases hg : getL S.data.toList L with
  | none =>
    rw [hg] at GT VOK
    have hfx : FX = (zeroS, false) := by rw [HFX.out, hg]
    subst hfx
    clear hg hsv HFX
    go_enter Tryz.func23, Tryz.ntmps23
    go_wp2_with fail
    change Calls _ _ _ ((w.alloc (.cells s.stat.toArray 47)).alloc (.cells zeroS.cells.toArray 49)) _
    rw [← HW.out]
    refine GT.out.mono ?_
    rintro e w1 ⟨rfl, hb1⟩
    have HB1 := Lib.hid (HB0.out.trans (hb1.mono HB0.out.size))
    have HR1 := Lib.hid ((hb1.block _ (lt_of_heap HR0.out)).trans HR0.out)
    have HS1 := Lib.hid hb1.size
    clear hb1 GT
    go_wp2_with (first
      | (refine wpList_store_new (by first | rfl | rw [one_size]) rfl _ _ _ rfl zeroS.cells.toArray rfl rfl ZOK.out.info ZOK.out.z ZOK.out.one ?_
         intro w2 hq2 hb2 hs2
         have HB2 := Lib.hid (HB1.out.trans (hb2.mono HB1.out.size))
         have HR2 := Lib.hid ((hb2.block _ (lt_of_heap HR1.out)).trans HR1.out)
         clear hq2 hb2 hs2)
      | (refine wpList_store_at HR2.out rfl _ _ _ rfl zeroS.cells.toArray rfl rfl ZOK.out.info rfl ZOK.out.one ?_
         intro w3 hq3 ht3 hs3
         have HQ3 := Lib.hid hq3; have HT3 := Lib.hid ht3
         clear hq3 ht3 hs3))
    have hld := run_loadVar_row (P := Tryz.prog) w3 (w.heap.size + 1) _ 49 zeroS.cells.toArray _ _ HQ3.out Tryz.underlying49 rfl ZOK.out.info
    refine bodyPost_ret (v := .tuple #[enV zeroS, .bool false]) ?_ rfl ?_
    · rw [results_cell_tmp (fn := Tryz.f23) rfl]
      show ((asAddr (.pointer (some ⟨w.heap.size + 1, 0, none⟩))).run Tryz.prog _).andThen _ = _
      simp only [asAddr, Sem.run_pure, Result.andThen_ok, hld]
      rfl
    · exact ⟨rfl, HB2.out.trans (HT3.out.below (by simp) HB2.out.size)⟩
  | some en =>
    rw [hg] at GT VOK
    have HSV := hsv en
    have HFY : Hid (FX = if statIs en s then (en, true) else (zeroS, false)) := Lib.hid (by rw [HFX.out, hg])
    clear hg hsv HFX
    dsimp only [Option.getD_some] at VOK GT
    cases hsi : statIs en s with
    | true =>
      have HSI := Lib.hid hsi
      have hfx : FX = (en, true) := by rw [HFY.out, hsi]; rfl
      subst hfx
      clear hsi HFY
      go_enter Tryz.func23, Tryz.ntmps23
      go_wp2_with fail
      change Calls _ _ _ ((w.alloc (.cells s.stat.toArray 47)).alloc (.cells zeroS.cells.toArray 49)) _
      rw [← HW.out]
      refine GT.out.mono ?_
      rintro e w1 ⟨rfl, hb1⟩
      have HB1 := Lib.hid (HB0.out.trans (hb1.mono HB0.out.size))
      have HR1 := Lib.hid ((hb1.block _ (lt_of_heap HR0.out)).trans HR0.out)
      have HQ1 := Lib.hid ((hb1.block _ (lt_of_heap HQ0.out)).trans HQ0.out)
      clear hb1 GT
      go_wp2_with (first
        | (refine wpList_store_new (by first | rfl | rw [one_size]) rfl _ _ _ rfl en.cells.toArray rfl rfl VOK.out.info VOK.out.z VOK.out.one ?_
           intro w2 hq2 hb2 hs2
           have HB2 := Lib.hid (HB1.out.trans (hb2.mono HB1.out.size))
           have HR2 := Lib.hid ((hb2.block _ (lt_of_heap HR1.out)).trans HR1.out)
           have HS2 := Lib.hid (range_block ((hb2.block _ (lt_of_heap HQ1.out)).trans HQ1.out))
           have HE2 := Lib.hid (range_block hq2)
           have HE3 := Lib.hid (range_stat hq2)
           clear hq2 hb2 hs2)
        | (refine wpList_want_load (by rfl) _ _ rfl w1.heap.size 1 rfl en.stat _ HE3.out Tryz.underlying47 rfl HSV.out ?_)
        | (refine wpList_want_load (by rfl) _ _ rfl w.heap.size 0 rfl s.stat _ HS2.out Tryz.underlying47 rfl hst.out ?_)
        | (refine wpList_want_run (by rfl) _ (exec_statR _ _ en s rfl rfl rfl) ?_; rw [HSI.out])
        | (refine wpList_load_mid rfl _ _ rfl w1.heap.size 0 rfl en.cells _ HE2.out Tryz.underlying49 rfl VOK.out.infoL ?_)
        | (refine wpList_store_at HR2.out rfl _ _ _ rfl en.cells.toArray rfl rfl VOK.out.info VOK.out.z VOK.out.one ?_
           intro w3 hq3 ht3 hs3
           have HQ3 := Lib.hid hq3; have HT3 := Lib.hid ht3
           clear hq3 ht3 hs3))
      have hld := run_loadVar_row (P := Tryz.prog) w3 (w.heap.size + 1) _ 49 en.cells.toArray _ _ HQ3.out Tryz.underlying49 rfl VOK.out.info
      refine bodyPost_ret (v := .tuple #[enV en, .bool true]) ?_ rfl ?_
      · rw [results_cell_tmp (fn := Tryz.f23) rfl]
        show ((asAddr (.pointer (some ⟨w.heap.size + 1, 0, none⟩))).run Tryz.prog _).andThen _ = _
        simp only [asAddr, Sem.run_pure, Result.andThen_ok, hld]
        rfl
      · exact ⟨rfl, HB2.out.trans (HT3.out.below (by simp) HB2.out.size)⟩
    | false =>
      have HSI := Lib.hid hsi
      have hfx : FX = (zeroS, false) := by rw [HFY.out, hsi]; rfl
      subst hfx
      clear hsi HFY
      go_enter Tryz.func23, Tryz.ntmps23
      go_wp2_with fail
      change Calls _ _ _ ((w.alloc (.cells s.stat.toArray 47)).alloc (.cells zeroS.cells.toArray 49)) _
      rw [← HW.out]
      refine GT.out.mono ?_
      rintro e w1 ⟨rfl, hb1⟩
      have HB1 := Lib.hid (HB0.out.trans (hb1.mono HB0.out.size))
      have HR1 := Lib.hid ((hb1.block _ (lt_of_heap HR0.out)).trans HR0.out)
      have HQ1 := Lib.hid ((hb1.block _ (lt_of_heap HQ0.out)).trans HQ0.out)
      clear hb1 GT
      go_wp2_with (first
        | (refine wpList_store_new (by first | rfl | rw [one_size]) rfl _ _ _ rfl en.cells.toArray rfl rfl VOK.out.info VOK.out.z VOK.out.one ?_
           intro w2 hq2 hb2 hs2
           have HB2 := Lib.hid (HB1.out.trans (hb2.mono HB1.out.size))
           have HR2 := Lib.hid ((hb2.block _ (lt_of_heap HR1.out)).trans HR1.out)
           have HS2 := Lib.hid (range_block ((hb2.block _ (lt_of_heap HQ1.out)).trans HQ1.out))
           have HE2 := Lib.hid (range_block hq2)
           have HE3 := Lib.hid (range_stat hq2)
           clear hq2 hb2 hs2)
        | (refine wpList_want_load (by rfl) _ _ rfl w1.heap.size 1 rfl en.stat _ HE3.out Tryz.underlying47 rfl HSV.out ?_)
        | (refine wpList_want_load (by rfl) _ _ rfl w.heap.size 0 rfl s.stat _ HS2.out Tryz.underlying47 rfl hst.out ?_)
        | (refine wpList_want_run (by rfl) _ (exec_statR _ _ en s rfl rfl rfl) ?_; rw [HSI.out])
        | (refine wpList_load_mid rfl _ _ rfl w1.heap.size 0 rfl en.cells _ HE2.out Tryz.underlying49 rfl VOK.out.infoL ?_)
        | (refine wpList_store_at HR2.out rfl _ _ _ rfl zeroS.cells.toArray rfl rfl ZOK.out.info rfl ZOK.out.one ?_
           intro w3 hq3 ht3 hs3
           have HQ3 := Lib.hid hq3; have HT3 := Lib.hid ht3
           clear hq3 ht3 hs3))
      have hld := run_loadVar_row (P := Tryz.prog) w3 (w.heap.size + 1) _ 49 zeroS.cells.toArray _ _ HQ3.out Tryz.underlying49 rfl ZOK.out.info
      refine bodyPost_ret (v := .tuple #[enV zeroS, .bool false]) ?_ rfl ?_
      · rw [results_cell_tmp (fn := Tryz.f23) rfl]
        show ((asAddr (.pointer (some ⟨w.heap.size + 1, 0, none⟩))).run Tryz.prog _).andThen _ = _
        simp only [asAddr, Sem.run_pure, Result.andThen_ok, hld]
        rfl
      · exact ⟨rfl, HB2.out.trans (HT3.out.below (by simp) HB2.out.size)⟩
end Go.Proofs.YtpbhkaokgpacoaaGreatDoor.St
/-
  The contract of Fresh.
-/
namespace Go.Proofs.YtpbhkaokgpacoaaGreatDoor.St
open Go.RowKit Go.Maps Go.WideMaps Go.Proofs.YtpbhkaokgpacoaaGreatDoor.Rf Go.Proofs.YtpbhkaokgpacoaaGreatDoor.Rd

theorem exec_stat {o : Oper} {a : Act} {w : World} (x y : Operand) (e s : SE) (ho : o.op = .binOp .neq 40 x y 40) (hx : a.eval x = .agg e.stat.toArray) (hy : a.eval y = .agg s.stat.toArray) :
    (execOp a.eval o).run Tryz.prog w = .ok (.value (.bool (!statIs e s))) w := by
  have hr := neq_stat w e s
  have hg := run_eqGuard_agg (P := Tryz.prog) w .neq 40 x y e.stat.toArray s.stat.toArray (by kernel_rfl)
  generalize e.stat.toArray = A at *
  generalize s.stat.toArray = C at *
  unfold execOp
  simp only [ho, hx, hy, Sem.run_bind, hg, hr, Result.andThen_ok]
  rfl

set_option maxHeartbeats 4000000 in
set_option maxRecDepth 100000 in
theorem fresh_any (B : Nat) (w : World) (g b : Nat) (L : List SE) (S : ByteArray) (hS : S.size ≤ maxLen) (s : SE) (h : IndexAt B w g b L) :
    Calls Tryz.prog 22 #[ptr g, .string S, .agg s.stat.toArray] w fun e w' => e = .returned (.tuple #[enV (freshX S.data.toList s L).1, .bool (freshX S.data.toList s L).2]) ∧ Below w.heap.size w w' := by
  obtain ⟨W, hW⟩ : ∃ W, W = (w.alloc (.cells s.stat.toArray 40)).alloc (.cells zeroS.cells.toArray 44) := ⟨_, rfl⟩
  have hb0 : Below w.heap.size w W := by rw [hW]; exact ((Below.refl _ _).alloc (Nat.le_refl _) _).alloc (by rw [one_size]; omega) _
  have hq0 : W.heap[w.heap.size]? = some (.cells s.stat.toArray 40) := by rw [hW]; exact at_alloc (MapKept.heap_alloc w _).1 _
  have hr0 : W.heap[w.heap.size + 1]? = some (.cells zeroS.cells.toArray 44) := by
    have := (MapKept.heap_alloc (w.alloc (.cells s.stat.toArray 40)) (.cells zeroS.cells.toArray 44)).1
    rw [one_size] at this
    rw [hW]; exact this
  have GT := Lib.hid (get_any B W g b L S hS (h.below hb0))
  have VOK := Lib.hid (h.fitsGet S.data.toList).en
  have ZOK := Lib.hid (SE.Fits.en zero_fits)
  have HB0 := Lib.hid hb0; have HQ0 := Lib.hid hq0; have HR0 := Lib.hid hr0; have HW := Lib.hid hW
  have hst : Hid ((Tryz.prog.info? 40).map (·.size) = some s.stat.length) := Lib.hid (by show _ = some 4; kernel_rfl)
  have hsv : ∀ V : SE, Hid ((Tryz.prog.info? 40).map (·.size) = some V.stat.length) := fun V => Lib.hid (by show _ = some 4; kernel_rfl)
  unfold ptr getE getV at *
  have HFX : Hid (freshX S.data.toList s L = match getL S.data.toList L with | none => (zeroS, false) | some e => if statIs e s then (e, true) else (zeroS, false)) := Lib.hid rfl
  generalize freshX S.data.toList s L = FX at *
  clear hb0 hq0 hr0 hW h
  cases hg : getL S.data.toList L with
  | none =>
    rw [hg] at GT VOK
    have hfx : FX = (zeroS, false) := by rw [HFX.out, hg]
    subst hfx
    clear hg hsv HFX
    go_enter Tryz.func22, Tryz.ntmps22
    go_wp2_with fail
    change Calls _ _ _ ((w.alloc (.cells s.stat.toArray 40)).alloc (.cells zeroS.cells.toArray 44)) _
    rw [← HW.out]
    refine GT.out.mono ?_
    rintro e w1 ⟨rfl, hb1⟩
    have HB1 := Lib.hid (HB0.out.trans (hb1.mono HB0.out.size))
    have HR1 := Lib.hid ((hb1.block _ (lt_of_heap HR0.out)).trans HR0.out)
    have HS1 := Lib.hid hb1.size
    clear hb1 GT
    go_wp2_with (first
      | (refine wpList_store_new (by first | rfl | rw [one_size]) rfl _ _ _ rfl zeroS.cells.toArray rfl rfl ZOK.out.info ZOK.out.z ZOK.out.one ?_
         intro w2 hq2 hb2 hs2
         have HB2 := Lib.hid (HB1.out.trans (hb2.mono HB1.out.size))
         have HR2 := Lib.hid ((hb2.block _ (lt_of_heap HR1.out)).trans HR1.out)
         clear hq2 hb2 hs2)
      | (refine wpList_store_at HR2.out rfl _ _ _ rfl zeroS.cells.toArray rfl rfl ZOK.out.info rfl ZOK.out.one ?_
         intro w3 hq3 ht3 hs3
         have HQ3 := Lib.hid hq3; have HT3 := Lib.hid ht3
         clear hq3 ht3 hs3))
    have hld := run_loadVar_row (P := Tryz.prog) w3 (w.heap.size + 1) _ 44 zeroS.cells.toArray _ _ HQ3.out Tryz.underlying44 rfl ZOK.out.info
    refine bodyPost_ret (v := .tuple #[enV zeroS, .bool false]) ?_ rfl ?_
    · rw [results_cell_tmp (fn := Tryz.f22) rfl]
      show ((asAddr (.pointer (some ⟨w.heap.size + 1, 0, none⟩))).run Tryz.prog _).andThen _ = _
      simp only [asAddr, Sem.run_pure, Result.andThen_ok, hld]
      rfl
    · exact ⟨rfl, HB2.out.trans (HT3.out.below (by simp) HB2.out.size)⟩
  | some en =>
    rw [hg] at GT VOK
    have HSV := hsv en
    have HFY : Hid (FX = if statIs en s then (en, true) else (zeroS, false)) := Lib.hid (by rw [HFX.out, hg])
    clear hg hsv HFX
    dsimp only [Option.getD_some] at VOK GT
    cases hsi : statIs en s with
    | true =>
      have HSI := Lib.hid hsi
      have hfx : FX = (en, true) := by rw [HFY.out, hsi]; rfl
      subst hfx
      clear hsi HFY
      go_enter Tryz.func22, Tryz.ntmps22
      go_wp2_with fail
      change Calls _ _ _ ((w.alloc (.cells s.stat.toArray 40)).alloc (.cells zeroS.cells.toArray 44)) _
      rw [← HW.out]
      refine GT.out.mono ?_
      rintro e w1 ⟨rfl, hb1⟩
      have HB1 := Lib.hid (HB0.out.trans (hb1.mono HB0.out.size))
      have HR1 := Lib.hid ((hb1.block _ (lt_of_heap HR0.out)).trans HR0.out)
      have HQ1 := Lib.hid ((hb1.block _ (lt_of_heap HQ0.out)).trans HQ0.out)
      clear hb1 GT
      go_wp2_with (first
        | (refine wpList_store_new (by first | rfl | rw [one_size]) rfl _ _ _ rfl en.cells.toArray rfl rfl VOK.out.info VOK.out.z VOK.out.one ?_
           intro w2 hq2 hb2 hs2
           have HB2 := Lib.hid (HB1.out.trans (hb2.mono HB1.out.size))
           have HR2 := Lib.hid ((hb2.block _ (lt_of_heap HR1.out)).trans HR1.out)
           have HS2 := Lib.hid (range_block ((hb2.block _ (lt_of_heap HQ1.out)).trans HQ1.out))
           have HE2 := Lib.hid (range_block hq2)
           have HE3 := Lib.hid (range_stat hq2)
           clear hq2 hb2 hs2)
        | (refine wpList_want_load (by rfl) _ _ rfl w1.heap.size 1 rfl en.stat _ HE3.out Tryz.underlying40 rfl HSV.out ?_)
        | (refine wpList_want_load (by rfl) _ _ rfl w.heap.size 0 rfl s.stat _ HS2.out Tryz.underlying40 rfl hst.out ?_)
        | (refine wpList_want_run (by rfl) _ (exec_stat _ _ en s rfl rfl rfl) ?_; rw [HSI.out])
        | (refine wpList_load_mid rfl _ _ rfl w1.heap.size 0 rfl en.cells _ HE2.out Tryz.underlying44 rfl VOK.out.infoL ?_)
        | (refine wpList_store_at HR2.out rfl _ _ _ rfl en.cells.toArray rfl rfl VOK.out.info VOK.out.z VOK.out.one ?_
           intro w3 hq3 ht3 hs3
           have HQ3 := Lib.hid hq3; have HT3 := Lib.hid ht3
           clear hq3 ht3 hs3))
      have hld := run_loadVar_row (P := Tryz.prog) w3 (w.heap.size + 1) _ 44 en.cells.toArray _ _ HQ3.out Tryz.underlying44 rfl VOK.out.info
      refine bodyPost_ret (v := .tuple #[enV en, .bool true]) ?_ rfl ?_
      · rw [results_cell_tmp (fn := Tryz.f22) rfl]
        show ((asAddr (.pointer (some ⟨w.heap.size + 1, 0, none⟩))).run Tryz.prog _).andThen _ = _
        simp only [asAddr, Sem.run_pure, Result.andThen_ok, hld]
        rfl
      · exact ⟨rfl, HB2.out.trans (HT3.out.below (by simp) HB2.out.size)⟩
    | false =>
      have HSI := Lib.hid hsi
      have hfx : FX = (zeroS, false) := by rw [HFY.out, hsi]; rfl
      subst hfx
      clear hsi HFY
      go_enter Tryz.func22, Tryz.ntmps22
      go_wp2_with fail
      change Calls _ _ _ ((w.alloc (.cells s.stat.toArray 40)).alloc (.cells zeroS.cells.toArray 44)) _
      rw [← HW.out]
      refine GT.out.mono ?_
      rintro e w1 ⟨rfl, hb1⟩
      have HB1 := Lib.hid (HB0.out.trans (hb1.mono HB0.out.size))
      have HR1 := Lib.hid ((hb1.block _ (lt_of_heap HR0.out)).trans HR0.out)
      have HQ1 := Lib.hid ((hb1.block _ (lt_of_heap HQ0.out)).trans HQ0.out)
      clear hb1 GT
      go_wp2_with (first
        | (refine wpList_store_new (by first | rfl | rw [one_size]) rfl _ _ _ rfl en.cells.toArray rfl rfl VOK.out.info VOK.out.z VOK.out.one ?_
           intro w2 hq2 hb2 hs2
           have HB2 := Lib.hid (HB1.out.trans (hb2.mono HB1.out.size))
           have HR2 := Lib.hid ((hb2.block _ (lt_of_heap HR1.out)).trans HR1.out)
           have HS2 := Lib.hid (range_block ((hb2.block _ (lt_of_heap HQ1.out)).trans HQ1.out))
           have HE2 := Lib.hid (range_block hq2)
           have HE3 := Lib.hid (range_stat hq2)
           clear hq2 hb2 hs2)
        | (refine wpList_want_load (by rfl) _ _ rfl w1.heap.size 1 rfl en.stat _ HE3.out Tryz.underlying40 rfl HSV.out ?_)
        | (refine wpList_want_load (by rfl) _ _ rfl w.heap.size 0 rfl s.stat _ HS2.out Tryz.underlying40 rfl hst.out ?_)
        | (refine wpList_want_run (by rfl) _ (exec_stat _ _ en s rfl rfl rfl) ?_; rw [HSI.out])
        | (refine wpList_load_mid rfl _ _ rfl w1.heap.size 0 rfl en.cells _ HE2.out Tryz.underlying44 rfl VOK.out.infoL ?_)
        | (refine wpList_store_at HR2.out rfl _ _ _ rfl zeroS.cells.toArray rfl rfl ZOK.out.info rfl ZOK.out.one ?_
           intro w3 hq3 ht3 hs3
           have HQ3 := Lib.hid hq3; have HT3 := Lib.hid ht3
           clear hq3 ht3 hs3))
      have hld := run_loadVar_row (P := Tryz.prog) w3 (w.heap.size + 1) _ 44 zeroS.cells.toArray _ _ HQ3.out Tryz.underlying44 rfl ZOK.out.info
      refine bodyPost_ret (v := .tuple #[enV zeroS, .bool false]) ?_ rfl ?_
      · rw [results_cell_tmp (fn := Tryz.f22) rfl]
        show ((asAddr (.pointer (some ⟨w.heap.size + 1, 0, none⟩))).run Tryz.prog _).andThen _ = _
        simp only [asAddr, Sem.run_pure, Result.andThen_ok, hld]
        rfl
      · exact ⟨rfl, HB2.out.trans (HT3.out.below (by simp) HB2.out.size)⟩
end Go.Proofs.YtpbhkaokgpacoaaGreatDoor.St
/-
  The law's id: a text's first 32 bytes, filled with noughts.
-/
namespace Go.Proofs.YtpbhkaokgpacoaaGreatDoor.St
open Go.RowKit Go.Maps Go.WideMaps Go.Proofs.YtpbhkaokgpacoaaGreatDoor.Rf Go.Proofs.YtpbhkaokgpacoaaGreatDoor.Rd

def idOf (l : List UInt8) : List UInt8 := l.take 32 ++ List.replicate (32 - (l.take 32).length) 0
theorem idOf_length (l : List UInt8) : (idOf l).length = 32 := by simp [idOf]; omega
theorem buf_id (l : List UInt8) : buf (l.take 32) 32 = (Lib.byteCells (idOf l)).toArray := by
  rw [buf, idOf, Lib.byteCells, Lib.byteCells, List.map_append]
  congr 2
  rw [List.map_replicate]; rfl

set_option maxHeartbeats 4000000 in
set_option maxRecDepth 100000 in
theorem id_any (w : World) (l : List UInt8) (hl : l.length ≤ maxLen) :
    Calls Tryz.prog 39 #[.string ⟨l.toArray⟩] w fun e w' => e = .returned (.agg (Lib.byteCells (idOf l)).toArray) ∧ Below w.heap.size w w' := by
  have hs : (⟨l.toArray⟩ : ByteArray).size = l.length := rfl
  have HLN := Lib.hid hl
  obtain ⟨W, hW⟩ : ∃ W, W = (w.alloc (.cells (buf [] 32) 42)).alloc (.cells (buf [] 32) 42) := ⟨_, rfl⟩
  have hb0 : Below w.heap.size w W := by rw [hW]; exact ((Below.refl _ _).alloc (Nat.le_refl _) _).alloc (by rw [one_size]; omega) _
  have hq0 : W.heap[w.heap.size]? = some (.cells (buf [] 32) 42) := by rw [hW]; exact at_alloc (MapKept.heap_alloc w _).1 _
  have hq1 : W.heap[w.heap.size + 1]? = some (.cells (buf [] 32) 42) := by
    have := (MapKept.heap_alloc (w.alloc (.cells (buf [] 32) 42)) (.cells (buf [] 32) 42)).1
    rw [one_size] at this
    rw [hW]; exact this
  have HB0 := Lib.hid hb0; have HQ0 := Lib.hid hq0; have HQ1 := Lib.hid hq1; have HW := Lib.hid hW
  clear hb0 hq0 hq1 hW hl
  have hI32 : Hid ((Tryz.prog.info? 42).map (·.size) = some (Lib.byteCells (idOf l)).length) := Lib.hid (by rw [Lib.byteCells_length, idOf_length]; kernel_rfl)
  have hJ32 : Hid ((Tryz.prog.info? 42).map (·.size) = some (Lib.byteCells (idOf l)).toArray.size) := Lib.hid (by rw [List.size_toArray]; exact hI32.out)
  have hK32 : Hid ((buf [] 32).size = (Lib.byteCells (idOf l)).toArray.size) := Lib.hid (by rw [buf_size [] 32 (by decide), List.size_toArray, Lib.byteCells_length, idOf_length])
  have hone : Hid ((Lib.byteCells (idOf l)).toArray.all (·.oneCell') = true) := Lib.hid (Array.all_eq_true_iff_forall_mem.2 (fun u hu => by
    simp only [List.mem_toArray, Lib.byteCells, List.mem_map] at hu
    obtain ⟨b, _, rfl⟩ := hu; rfl))
  go_enter Tryz.func39, Tryz.ntmps39
  go_wp2
  go_loopw [4] (fun vi wr => ∃ i : Nat, i ≤ l.length ∧ i ≤ 32 ∧ vi = .int .i64 (i : Int) ∧ Hid (Below w.heap.size w wr ∧ wr.heap[w.heap.size]? = some (.cells (buf [] 32) 42) ∧ wr.heap[w.heap.size + 1]? = some (.cells (buf (l.take i) 32) 42))) (fun vi _ => 32 - (RowKit.intOf vi).toNat)
  case atStart =>
    refine ⟨0, Nat.zero_le _, by omega, rfl, Lib.hid ?_⟩
    change Below w.heap.size w ((w.alloc (.cells (buf [] 32) 42)).alloc (.cells (buf [] 32) 42)) ∧ ((w.alloc (.cells (buf [] 32) 42)).alloc (.cells (buf [] 32) 42)).heap[w.heap.size]? = _ ∧ ((w.alloc (.cells (buf [] 32) 42)).alloc (.cells (buf [] 32) 42)).heap[w.heap.size + 1]? = _
    rw [← HW.out]
    exact ⟨HB0.out, HQ0.out, HQ1.out⟩
  case round =>
    obtain ⟨i, hil, hi32, rfl, HR⟩ := hrel
    by_cases h1 : (i : Int) < (l.length : Int)
    · by_cases h2 : (i : Int) < 32
      · have hil' : i < l.length := by omega
        obtain ⟨b, hb⟩ : ∃ b, b = l[i] := ⟨_, rfl⟩
        have hidx : (⟨l.toArray⟩ : ByteArray)[i]'(by rw [hs]; omega) = b := by rw [hb]; rfl
        have hlt : w.heap.size + 1 < wr.heap.size := lt_of_heap HR.out.2.2
        have hck : wr.cell? ⟨w.heap.size + 1, i, none⟩ = some (.int .u8 0) := by
          rw [cell_of_heap HR.out.2.2]
          have := buf_get (l.take i) 32 (by rw [List.length_take]; omega)
          rwa [List.length_take, Nat.min_eq_left hil] at this
        have hfz : wr.frozen? ⟨w.heap.size + 1, i, none⟩ = false := frozen_of_heap HR.out.2.2
        have HN : Hid (Below w.heap.size w (wr.setCell ⟨w.heap.size + 1, i, none⟩ (.int .u8 (b.toNat : Int))) ∧ (wr.setCell ⟨w.heap.size + 1, i, none⟩ (.int .u8 (b.toNat : Int))).heap[w.heap.size]? = some (.cells (buf [] 32) 42) ∧ (wr.setCell ⟨w.heap.size + 1, i, none⟩ (.int .u8 (b.toNat : Int))).heap[w.heap.size + 1]? = some (.cells (buf (l.take (i + 1)) 32) 42)) := Lib.hid (by
          refine ⟨HR.out.1.setCell (p := ⟨w.heap.size + 1, i, none⟩) (Nat.le_succ _) _, (Below.heap_setCell _ _ _ _ (by simp)).trans HR.out.2.1, ?_⟩
          rw [setCell_heap _ _ _ _ _ _ HR.out.2.2]
          have := buf_set (l.take i) 32 b (by rw [List.length_take]; omega)
          rw [List.length_take, Nat.min_eq_left hil] at this
          rw [this, List.take_add_one, List.getElem?_eq_getElem hil', hb]; rfl)
        clear hb
        go_wp2
        go_roundw
        case rel => exact ⟨i + 1, by omega, by omega, by simp, HN⟩
        case measure => simp [RowKit.intOf]; omega
      · obtain rfl : i = 32 := by omega
        have hti : Hid (l.take 32 = l.take 32) := Lib.hid rfl
        have hr := HR.out
        have hrg : wr.rangeAt (w.heap.size + 1) 0 (Lib.byteCells (idOf l)) := by
          have := range_block hr.2.2
          rw [hti.out, buf_id] at this
          exact this
        have HRG := Lib.hid hrg
        have HQ := Lib.hid hr.2.1
        have HB := Lib.hid hr.1
        clear hr hrg HR
        go_wp2_with (first
          | (refine wpList_load_mid rfl _ _ rfl (w.heap.size + 1) 0 rfl (Lib.byteCells (idOf l)) _ HRG.out Tryz.underlying42 rfl hI32.out ?_)
          | (refine wpList_store_at HQ.out rfl _ _ _ rfl (Lib.byteCells (idOf l)).toArray rfl rfl hJ32.out hK32.out hone.out ?_
             intro w3 hq3 ht3 hs3
             have HQ3 := Lib.hid hq3; have HT3 := Lib.hid ht3
             clear hq3 ht3 hs3))
        refine bodyPost_ret (v := .agg (Lib.byteCells (idOf l)).toArray) (results_cell_row (fn := Tryz.f39) rfl _ _ w.heap.size _ _ _ _ rfl HQ3.out Tryz.underlying42 rfl hJ32.out) rfl ?_
        exact ⟨rfl, HB.out.trans (HT3.out.below (by simp) HB.out.size)⟩
    · have hti : Hid (l.take i = l.take 32) := Lib.hid (by rw [List.take_of_length_le (by omega), List.take_of_length_le (by omega)])
      have hr := HR.out
      have hrg : wr.rangeAt (w.heap.size + 1) 0 (Lib.byteCells (idOf l)) := by
        have := range_block hr.2.2
        rw [hti.out, buf_id] at this
        exact this
      have HRG := Lib.hid hrg
      have HQ := Lib.hid hr.2.1
      have HB := Lib.hid hr.1
      clear hr hrg HR
      go_wp2_with (first
        | (refine wpList_load_mid rfl _ _ rfl (w.heap.size + 1) 0 rfl (Lib.byteCells (idOf l)) _ HRG.out Tryz.underlying42 rfl hI32.out ?_)
        | (refine wpList_store_at HQ.out rfl _ _ _ rfl (Lib.byteCells (idOf l)).toArray rfl rfl hJ32.out hK32.out hone.out ?_
           intro w3 hq3 ht3 hs3
           have HQ3 := Lib.hid hq3; have HT3 := Lib.hid ht3
           clear hq3 ht3 hs3))
      refine bodyPost_ret (v := .agg (Lib.byteCells (idOf l)).toArray) (results_cell_row (fn := Tryz.f39) rfl _ _ w.heap.size _ _ _ _ rfl HQ3.out Tryz.underlying42 rfl hJ32.out) rfl ?_
      exact ⟨rfl, HB.out.trans (HT3.out.below (by simp) HB.out.size)⟩
end Go.Proofs.YtpbhkaokgpacoaaGreatDoor.St
