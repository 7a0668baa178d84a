import Derived.Test.YtnkapojbijbbaaaGreatDoorZPSrSort
set_option linter.unusedSimpArgs false
set_option linter.unusedVariables false
set_option maxHeartbeats 4000000
set_option maxRecDepth 100000
namespace Go.Proofs.YtnkapojbijbbaaaGreatDoor.St
open Go.RowKit Go.Maps Go.WideMaps Rf Rd
theorem exec_statR {o : Oper} {a : Act} {w : World} (x y : Operand) (e s : SE) (ho : o.op = .binOp .neq 44 x y 44) (hx : a.eval x = .agg e.stat.toArray) (hy : a.eval y = .agg s.stat.toArray) :
 (execOp a.eval o).run Tryz.prog w = .ok (.value (.bool (!statIs e s))) w := by
 have hr := neq_statR w e s
 have hg := run_eqGuard_agg (P := Tryz.prog) w .neq 44 x y e.stat.toArray s.stat.toArray (by kernel_rfl)
 generalize e.stat.toArray = A at *
 generalize s.stat.toArray = C at *
 unfold execOp
 simp only [ho, hx, hy, Sem.run_bind, hg, hr, Result.andThen_ok]
 rfl
theorem ref_fresh (B : Nat) (w : World) (r : Nat) (v : Value) (L : List SE) (S : ByteArray) (hS : S.size ≤ maxLen) (s : SE) (h : RefAt B w r v L) :
 Calls Tryz.prog 43 #[ptr r, .string S, .agg s.stat.toArray] w fun e w' => e = .returned (.tuple #[enV (freshX S.data.toList s L).1, .bool (freshX S.data.toList s L).2]) ∧ Below w.heap.size w w' := by
 obtain ⟨W, hW⟩ : ∃ W, W = (w.alloc (.cells s.stat.toArray 44)).alloc (.cells zeroS.cells.toArray 55) := ⟨_, rfl⟩
 have hb0 : Below w.heap.size w W := by rw [hW]; exact ((Below.refl _ _).alloc (Nat.le_refl _) _).alloc (by rw [one_size]; omega) _
 have hq0 : W.heap[w.heap.size]? = some (.cells s.stat.toArray 44) := by rw [hW]; exact at_alloc (MapKept.heap_alloc w _).1 _
 have hr0 : W.heap[w.heap.size + 1]? = some (.cells zeroS.cells.toArray 55) := by
  have := (MapKept.heap_alloc (w.alloc (.cells s.stat.toArray 44)) (.cells zeroS.cells.toArray 55)).1
  rw [one_size] at this
  rw [hW]; exact this
 have GT := Lib.hid (ref_get B W r v L S hS (h.below hb0))
 have VOK := Lib.hid (h.fitsGet S.data.toList).enR
 have ZOK := Lib.hid (SE.Fits.enR zero_fits)
 have HB0 := Lib.hid hb0; have HQ0 := Lib.hid hq0; have HR0 := Lib.hid hr0; have HW := Lib.hid hW
 have hst : Hid ((Tryz.prog.info? 44).map (·.size) = some s.stat.length) := Lib.hid (by show _ = some 4; kernel_rfl)
 have hsv : ∀ V : SE, Hid ((Tryz.prog.info? 44).map (·.size) = some V.stat.length) := fun V => Lib.hid (by show _ = some 4; kernel_rfl)
 unfold ptr getE getV at *
 have HFX : Hid (freshX S.data.toList s L = match getL S.data.toList L with | none => (zeroS, false) | some e => if statIs e s then (e, true) else (zeroS, false)) := Lib.hid rfl
 generalize freshX S.data.toList s L = FX at *
 clear hb0 hq0 hr0 hW h
 cases hg : getL S.data.toList L with
 | none =>
   rw [hg] at GT VOK
   have hfx : FX = (zeroS, false) := by rw [HFX.out, hg]
   subst hfx
   clear hg hsv HFX
   go_enter Tryz.func43, Tryz.ntmps43
   go_wp2_with fail
   change Calls _ _ _ ((w.alloc (.cells s.stat.toArray 44)).alloc (.cells zeroS.cells.toArray 55)) _
   rw [← HW.out]
   refine GT.out.mono ?_
   rintro e w1 ⟨rfl, hb1⟩
   have HB1 := Lib.hid (HB0.out.trans (hb1.mono HB0.out.size))
   have HR1 := Lib.hid ((hb1.block _ (lt_of_heap HR0.out)).trans HR0.out)
   have HS1 := Lib.hid hb1.size
   clear hb1 GT
   go_wp2_with (first
    | (refine wpList_store_new (by first | rfl | rw [one_size]) rfl _ _ _ rfl zeroS.cells.toArray rfl rfl ZOK.out.info ZOK.out.z ZOK.out.one ?_
       intro w2 hq2 hb2 hs2
       have HB2 := Lib.hid (HB1.out.trans (hb2.mono HB1.out.size))
       have HR2 := Lib.hid ((hb2.block _ (lt_of_heap HR1.out)).trans HR1.out)
       clear hq2 hb2 hs2)
    | (refine wpList_store_at HR2.out rfl _ _ _ rfl zeroS.cells.toArray rfl rfl ZOK.out.info rfl ZOK.out.one ?_
       intro w3 hq3 ht3 hs3
       have HQ3 := Lib.hid hq3; have HT3 := Lib.hid ht3
       clear hq3 ht3 hs3))
   have hld := run_loadVar_row (P := Tryz.prog) w3 (w.heap.size + 1) _ 55 zeroS.cells.toArray _ _ HQ3.out Tryz.underlying55 rfl ZOK.out.info
   refine bodyPost_ret (v := .tuple #[enV zeroS, .bool false]) ?_ rfl ?_
   · rw [results_cell_tmp (fn := Tryz.f43) rfl]
     show ((asAddr (.pointer (some ⟨w.heap.size + 1, 0, none⟩))).run Tryz.prog _).andThen _ = _
     simp only [asAddr, Sem.run_pure, Result.andThen_ok, hld]
     rfl
   · exact ⟨rfl, HB2.out.trans (HT3.out.below (by simp) HB2.out.size)⟩
 | some en =>
   rw [hg] at GT VOK
   have HSV := hsv en
   have HFY : Hid (FX = if statIs en s then (en, true) else (zeroS, false)) := Lib.hid (by rw [HFX.out, hg])
   clear hg hsv HFX
   dsimp only [Option.getD_some] at VOK GT
   cases hsi : statIs en s with
   | true =>
     have HSI := Lib.hid hsi
     have hfx : FX = (en, true) := by rw [HFY.out, hsi]; rfl
     subst hfx
     clear hsi HFY
     go_enter Tryz.func43, Tryz.ntmps43
     go_wp2_with fail
     change Calls _ _ _ ((w.alloc (.cells s.stat.toArray 44)).alloc (.cells zeroS.cells.toArray 55)) _
     rw [← HW.out]
     refine GT.out.mono ?_
     rintro e w1 ⟨rfl, hb1⟩
     have HB1 := Lib.hid (HB0.out.trans (hb1.mono HB0.out.size))
     have HR1 := Lib.hid ((hb1.block _ (lt_of_heap HR0.out)).trans HR0.out)
     have HQ1 := Lib.hid ((hb1.block _ (lt_of_heap HQ0.out)).trans HQ0.out)
     clear hb1 GT
     go_wp2_with (first
      | (refine wpList_store_new (by first | rfl | rw [one_size]) rfl _ _ _ rfl en.cells.toArray rfl rfl VOK.out.info VOK.out.z VOK.out.one ?_
         intro w2 hq2 hb2 hs2
         have HB2 := Lib.hid (HB1.out.trans (hb2.mono HB1.out.size))
         have HR2 := Lib.hid ((hb2.block _ (lt_of_heap HR1.out)).trans HR1.out)
         have HS2 := Lib.hid (range_block ((hb2.block _ (lt_of_heap HQ1.out)).trans HQ1.out))
         have HE2 := Lib.hid (range_block hq2)
         have HE3 := Lib.hid (range_stat hq2)
         clear hq2 hb2 hs2)
      | (refine wpList_want_load (by rfl) _ _ rfl w1.heap.size 1 rfl en.stat _ HE3.out Tryz.underlying44 rfl HSV.out ?_)
      | (refine wpList_want_load (by rfl) _ _ rfl w.heap.size 0 rfl s.stat _ HS2.out Tryz.underlying44 rfl hst.out ?_)
      | (refine wpList_want_run (by rfl) _ (exec_statR _ _ en s rfl rfl rfl) ?_; rw [HSI.out])
      | (refine wpList_load_mid rfl _ _ rfl w1.heap.size 0 rfl en.cells _ HE2.out Tryz.underlying55 rfl VOK.out.infoL ?_)
      | (refine wpList_store_at HR2.out rfl _ _ _ rfl en.cells.toArray rfl rfl VOK.out.info VOK.out.z VOK.out.one ?_
         intro w3 hq3 ht3 hs3
         have HQ3 := Lib.hid hq3; have HT3 := Lib.hid ht3
         clear hq3 ht3 hs3))
     have hld := run_loadVar_row (P := Tryz.prog) w3 (w.heap.size + 1) _ 55 en.cells.toArray _ _ HQ3.out Tryz.underlying55 rfl VOK.out.info
     refine bodyPost_ret (v := .tuple #[enV en, .bool true]) ?_ rfl ?_
     · rw [results_cell_tmp (fn := Tryz.f43) rfl]
       show ((asAddr (.pointer (some ⟨w.heap.size + 1, 0, none⟩))).run Tryz.prog _).andThen _ = _
       simp only [asAddr, Sem.run_pure, Result.andThen_ok, hld]
       rfl
     · exact ⟨rfl, HB2.out.trans (HT3.out.below (by simp) HB2.out.size)⟩
   | false =>
     have HSI := Lib.hid hsi
     have hfx : FX = (zeroS, false) := by rw [HFY.out, hsi]; rfl
     subst hfx
     clear hsi HFY
     go_enter Tryz.func43, Tryz.ntmps43
     go_wp2_with fail
     change Calls _ _ _ ((w.alloc (.cells s.stat.toArray 44)).alloc (.cells zeroS.cells.toArray 55)) _
     rw [← HW.out]
     refine GT.out.mono ?_
     rintro e w1 ⟨rfl, hb1⟩
     have HB1 := Lib.hid (HB0.out.trans (hb1.mono HB0.out.size))
     have HR1 := Lib.hid ((hb1.block _ (lt_of_heap HR0.out)).trans HR0.out)
     have HQ1 := Lib.hid ((hb1.block _ (lt_of_heap HQ0.out)).trans HQ0.out)
     clear hb1 GT
     go_wp2_with (first
      | (refine wpList_store_new (by first | rfl | rw [one_size]) rfl _ _ _ rfl en.cells.toArray rfl rfl VOK.out.info VOK.out.z VOK.out.one ?_
         intro w2 hq2 hb2 hs2
         have HB2 := Lib.hid (HB1.out.trans (hb2.mono HB1.out.size))
         have HR2 := Lib.hid ((hb2.block _ (lt_of_heap HR1.out)).trans HR1.out)
         have HS2 := Lib.hid (range_block ((hb2.block _ (lt_of_heap HQ1.out)).trans HQ1.out))
         have HE2 := Lib.hid (range_block hq2)
         have HE3 := Lib.hid (range_stat hq2)
         clear hq2 hb2 hs2)
      | (refine wpList_want_load (by rfl) _ _ rfl w1.heap.size 1 rfl en.stat _ HE3.out Tryz.underlying44 rfl HSV.out ?_)
      | (refine wpList_want_load (by rfl) _ _ rfl w.heap.size 0 rfl s.stat _ HS2.out Tryz.underlying44 rfl hst.out ?_)
      | (refine wpList_want_run (by rfl) _ (exec_statR _ _ en s rfl rfl rfl) ?_; rw [HSI.out])
      | (refine wpList_load_mid rfl _ _ rfl w1.heap.size 0 rfl en.cells _ HE2.out Tryz.underlying55 rfl VOK.out.infoL ?_)
      | (refine wpList_store_at HR2.out rfl _ _ _ rfl zeroS.cells.toArray rfl rfl ZOK.out.info rfl ZOK.out.one ?_
         intro w3 hq3 ht3 hs3
         have HQ3 := Lib.hid hq3; have HT3 := Lib.hid ht3
         clear hq3 ht3 hs3))
     have hld := run_loadVar_row (P := Tryz.prog) w3 (w.heap.size + 1) _ 55 zeroS.cells.toArray _ _ HQ3.out Tryz.underlying55 rfl ZOK.out.info
     refine bodyPost_ret (v := .tuple #[enV zeroS, .bool false]) ?_ rfl ?_
     · rw [results_cell_tmp (fn := Tryz.f43) rfl]
       show ((asAddr (.pointer (some ⟨w.heap.size + 1, 0, none⟩))).run Tryz.prog _).andThen _ = _
       simp only [asAddr, Sem.run_pure, Result.andThen_ok, hld]
       rfl
     · exact ⟨rfl, HB2.out.trans (HT3.out.below (by simp) HB2.out.size)⟩
end Go.Proofs.YtnkapojbijbbaaaGreatDoor.St
