import Derived.Test.YtnkapojbijbbaaaGreatDoorZPRowKit
import Derived.Test.YtnkapojbijbbaaaGreatDoorZPNmSplitCore
set_option linter.unusedSimpArgs false
set_option linter.unusedVariables false
set_option maxHeartbeats 4000000
set_option maxRecDepth 100000
namespace Go.Proofs.YtnkapojbijbbaaaGreatDoor.St
open Go.RowKit Go.Maps Go.WideMaps Rf Rd
def zer4 : Array Value := #[.int .u8 0, .int .i64 0, .int .u64 0, .int .i64 0]
theorem stat_cells {w : World} {x : Nat} {e : SE} {T : TypeId} (h : w.heap[x]? = some (.cells e.stat.toArray T)) : w.cell? ⟨x, 0, none⟩ = some (.int .u8 (e.node : Int)) ∧ w.cell? ⟨x, 1, none⟩ = some (.int .i64 e.size) ∧ w.cell? ⟨x, 2, none⟩ = some (.int .u64 (e.ino : Int)) ∧ w.cell? ⟨x, 3, none⟩ = some (.int .i64 e.tick) :=
 ⟨by rw [cell_of_heap h]; rfl, by rw [cell_of_heap h]; rfl, by rw [cell_of_heap h]; rfl, by rw [cell_of_heap h]; rfl⟩
theorem may_any (w : World) (e : SE) (he : e.Fits) :
 Calls Tryz.prog 37 #[enV e] w fun x w' => x = .returned (.int .i64 (mayN e)) ∧ Below w.heap.size w w' := by
 obtain ⟨W, hW⟩ : ∃ W, W = w.alloc (.cells e.cells.toArray 52) := ⟨_, rfl⟩
 have hb0 : Below w.heap.size w W := by rw [hW]; exact (Below.refl _ _).alloc (Nat.le_refl _) _
 have hq0 : W.heap[w.heap.size]? = some (.cells e.cells.toArray 52) := by rw [hW]; exact (MapKept.heap_alloc w _).1
 have hqs : w.heap.size < W.heap.size := lt_of_heap hq0
 have c0 : (w.alloc (.cells e.cells.toArray 52)).cell? ⟨w.heap.size, 0, none⟩ = some (.string ⟨e.path.toArray⟩) := by rw [← hW, cell_of_heap hq0]; rfl
 have SP := Lib.hid (Nm.split_any ⟨e.path.toArray⟩ W (by show e.path.length ≤ _; have := he.path; omega))
 rw [ba_data] at SP
 have HB0 := Lib.hid hb0; have HQ0 := Lib.hid hq0; have HQS := Lib.hid hqs
 have hn := he.node; have hs1 := he.size; have hi := he.ino; have ht := he.tick; have hk := he.kind
 have HM : Hid (mayN e = if (Nm.splitP e.path).isNone then 10 else if statBad e then 1 else 0) := Lib.hid rfl
 have HN : Hid (statBad e = (decide (e.node < 1) || decide (3 < e.node) || decide (e.size < 0) || decide (1048576 < e.size) || decide (e.ino < 1) || decide (e.tick < 0) || decide (1099511627776 < e.tick) || decide (e.kind < 1) || decide (5 < e.kind))) := Lib.hid rfl
 generalize mayN e = R at *
 have hcb : ∀ w2 : World, Below W.heap.size W w2 → w2.heap[w.heap.size]? = some (.cells e.cells.toArray 52) ∧ w2.cell? ⟨w.heap.size, 5, none⟩ = some (.int .u8 (e.kind : Int)) ∧ w2.rangeAt w.heap.size 1 e.stat := fun w2 hb => by
  have h2 := (hb.block _ HQS.out).trans HQ0.out
  refine ⟨h2, by rw [cell_of_heap h2]; rfl, fun j v hv => ?_⟩
  rw [cell_of_heap h2]
  match j, hv with
  | 0, hv => exact hv
  | 1, hv => exact hv
  | 2, hv => exact hv
  | 3, hv => exact hv
 have HCB := Lib.hid hcb
 clear hb0 hq0 hqs hcb
 cases hsp : Nm.splitP e.path with
 | none =>
   have hse : Nm.splitE e.path = 10 := by rw [Nm.splitE, hsp]; rfl
   have hR : Hid (R = 10) := Lib.hid (by rw [HM.out, hsp]; rfl)
   unfold Nm.SplitPost at SP
   rw [hse] at SP
   clear hsp hse
   go_enter Tryz.func37, Tryz.ntmps37
   go_wp2_with fail
   change Calls _ _ _ (w.alloc (.cells e.cells.toArray 52)) _
   rw [← hW]
   refine SP.out.mono ?_
   rintro x w1 ⟨v, rfl, _, hb1⟩
   have HB1 := Lib.hid (HB0.out.trans (hb1.mono HB0.out.size))
   clear hb1 SP
   go_wp2
   go_ret
   rw [hR.out]
   exact ⟨rfl, HB1.out⟩
 | some ns =>
   have hse : Nm.splitE e.path = 0 := by rw [Nm.splitE, hsp]; rfl
   have hR : Hid (R = if statBad e then 1 else 0) := Lib.hid (by rw [HM.out, hsp]; rfl)
   unfold Nm.SplitPost at SP
   rw [hse] at SP
   have hst : Hid ((Tryz.prog.info? 40).map (·.size) = some e.stat.length) := Lib.hid (by show _ = some 4; kernel_rfl)
   have hst2 : Hid ((Tryz.prog.info? 40).map (·.size) = some e.stat.toArray.size) := Lib.hid (by show _ = some 4; kernel_rfl)
   have hone : Hid (e.stat.toArray.all (·.oneCell') = true) := Lib.hid (by simp [SE.stat, Value.oneCell'])
   clear hsp hse HM
   by_cases h0 : (e.node : Int) < 1
   · have hx : Hid (R = 1) := Lib.hid (by rw [hR.out, if_pos]; rw [HN.out]; simp only [Bool.or_eq_true, decide_eq_true_eq]; omega)
     go_enter Tryz.func37, Tryz.ntmps37
     go_wp2_with fail
     change Calls _ _ _ (w.alloc (.cells e.cells.toArray 52)) _
     rw [← hW]
     refine SP.out.mono ?_
     rintro x w1 ⟨v, rfl, _, hb1⟩
     have HRG := Lib.hid (HCB.out w1 hb1).2.2
     have HF : Hid (Below w.heap.size w ((w1.alloc (.cells zer4 40)).setRow w1.heap.size e.stat.toArray) ∧ ((w1.alloc (.cells zer4 40)).setRow w1.heap.size e.stat.toArray).cell? ⟨w.heap.size, 5, none⟩ = some (.int .u8 (e.kind : Int)) ∧ ((w1.alloc (.cells zer4 40)).setRow w1.heap.size e.stat.toArray).heap[w1.heap.size]? = some (.cells e.stat.toArray 40)) := Lib.hid (by
      obtain ⟨sq, sb⟩ := store_new w1 40 zer4 e.stat.toArray
      exact ⟨HB0.out.trans ((hb1.trans (sb.mono hb1.size)).mono HB0.out.size), (HCB.out _ (hb1.trans (sb.mono hb1.size))).2.1, sq⟩)
     clear hb1 SP
     go_wp2_with (first
      | (refine wpList_load_mid rfl _ _ rfl w.heap.size 1 rfl e.stat _ HRG.out Tryz.underlying40 rfl hst.out ?_)
      | (refine wpList_store_row rfl _ _ _ rfl w1.heap.size e.stat.toArray rfl rfl 40 zer4 (MapKept.heap_alloc w1 (.cells zer4 40)).1 hst2.out rfl hone.out ?_
         change wpList _ _ _ _ _ ((w1.alloc (.cells zer4 40)).setRow w1.heap.size e.stat.toArray)
         generalize (w1.alloc (.cells zer4 40)).setRow w1.heap.size e.stat.toArray = w2 at HF ⊢
         obtain ⟨hb2, k5, sq⟩ := HF.out
         obtain ⟨k0, k1, k2, k3⟩ := stat_cells sq
         have HB1 := Lib.hid hb2
         clear hb2 sq HF))
     go_ret
     exact ⟨by rw [hx.out]; rfl, HB1.out⟩
   · skip
     by_cases h1 : 3 < (e.node : Int)
     · have hx : Hid (R = 1) := Lib.hid (by rw [hR.out, if_pos]; rw [HN.out]; simp only [Bool.or_eq_true, decide_eq_true_eq]; omega)
       go_enter Tryz.func37, Tryz.ntmps37
       go_wp2_with fail
       change Calls _ _ _ (w.alloc (.cells e.cells.toArray 52)) _
       rw [← hW]
       refine SP.out.mono ?_
       rintro x w1 ⟨v, rfl, _, hb1⟩
       have HRG := Lib.hid (HCB.out w1 hb1).2.2
       have HF : Hid (Below w.heap.size w ((w1.alloc (.cells zer4 40)).setRow w1.heap.size e.stat.toArray) ∧ ((w1.alloc (.cells zer4 40)).setRow w1.heap.size e.stat.toArray).cell? ⟨w.heap.size, 5, none⟩ = some (.int .u8 (e.kind : Int)) ∧ ((w1.alloc (.cells zer4 40)).setRow w1.heap.size e.stat.toArray).heap[w1.heap.size]? = some (.cells e.stat.toArray 40)) := Lib.hid (by
        obtain ⟨sq, sb⟩ := store_new w1 40 zer4 e.stat.toArray
        exact ⟨HB0.out.trans ((hb1.trans (sb.mono hb1.size)).mono HB0.out.size), (HCB.out _ (hb1.trans (sb.mono hb1.size))).2.1, sq⟩)
       clear hb1 SP
       go_wp2_with (first
        | (refine wpList_load_mid rfl _ _ rfl w.heap.size 1 rfl e.stat _ HRG.out Tryz.underlying40 rfl hst.out ?_)
        | (refine wpList_store_row rfl _ _ _ rfl w1.heap.size e.stat.toArray rfl rfl 40 zer4 (MapKept.heap_alloc w1 (.cells zer4 40)).1 hst2.out rfl hone.out ?_
           change wpList _ _ _ _ _ ((w1.alloc (.cells zer4 40)).setRow w1.heap.size e.stat.toArray)
           generalize (w1.alloc (.cells zer4 40)).setRow w1.heap.size e.stat.toArray = w2 at HF ⊢
           obtain ⟨hb2, k5, sq⟩ := HF.out
           obtain ⟨k0, k1, k2, k3⟩ := stat_cells sq
           have HB1 := Lib.hid hb2
           clear hb2 sq HF))
       go_ret
       exact ⟨by rw [hx.out]; rfl, HB1.out⟩
     · skip
       by_cases h2 : e.size < 0
       · have hx : Hid (R = 1) := Lib.hid (by rw [hR.out, if_pos]; rw [HN.out]; simp only [Bool.or_eq_true, decide_eq_true_eq]; omega)
         go_enter Tryz.func37, Tryz.ntmps37
         go_wp2_with fail
         change Calls _ _ _ (w.alloc (.cells e.cells.toArray 52)) _
         rw [← hW]
         refine SP.out.mono ?_
         rintro x w1 ⟨v, rfl, _, hb1⟩
         have HRG := Lib.hid (HCB.out w1 hb1).2.2
         have HF : Hid (Below w.heap.size w ((w1.alloc (.cells zer4 40)).setRow w1.heap.size e.stat.toArray) ∧ ((w1.alloc (.cells zer4 40)).setRow w1.heap.size e.stat.toArray).cell? ⟨w.heap.size, 5, none⟩ = some (.int .u8 (e.kind : Int)) ∧ ((w1.alloc (.cells zer4 40)).setRow w1.heap.size e.stat.toArray).heap[w1.heap.size]? = some (.cells e.stat.toArray 40)) := Lib.hid (by
          obtain ⟨sq, sb⟩ := store_new w1 40 zer4 e.stat.toArray
          exact ⟨HB0.out.trans ((hb1.trans (sb.mono hb1.size)).mono HB0.out.size), (HCB.out _ (hb1.trans (sb.mono hb1.size))).2.1, sq⟩)
         clear hb1 SP
         go_wp2_with (first
          | (refine wpList_load_mid rfl _ _ rfl w.heap.size 1 rfl e.stat _ HRG.out Tryz.underlying40 rfl hst.out ?_)
          | (refine wpList_store_row rfl _ _ _ rfl w1.heap.size e.stat.toArray rfl rfl 40 zer4 (MapKept.heap_alloc w1 (.cells zer4 40)).1 hst2.out rfl hone.out ?_
             change wpList _ _ _ _ _ ((w1.alloc (.cells zer4 40)).setRow w1.heap.size e.stat.toArray)
             generalize (w1.alloc (.cells zer4 40)).setRow w1.heap.size e.stat.toArray = w2 at HF ⊢
             obtain ⟨hb2, k5, sq⟩ := HF.out
             obtain ⟨k0, k1, k2, k3⟩ := stat_cells sq
             have HB1 := Lib.hid hb2
             clear hb2 sq HF))
         go_ret
         exact ⟨by rw [hx.out]; rfl, HB1.out⟩
       · skip
         by_cases h3 : 1048576 < e.size
         · have hx : Hid (R = 1) := Lib.hid (by rw [hR.out, if_pos]; rw [HN.out]; simp only [Bool.or_eq_true, decide_eq_true_eq]; omega)
           go_enter Tryz.func37, Tryz.ntmps37
           go_wp2_with fail
           change Calls _ _ _ (w.alloc (.cells e.cells.toArray 52)) _
           rw [← hW]
           refine SP.out.mono ?_
           rintro x w1 ⟨v, rfl, _, hb1⟩
           have HRG := Lib.hid (HCB.out w1 hb1).2.2
           have HF : Hid (Below w.heap.size w ((w1.alloc (.cells zer4 40)).setRow w1.heap.size e.stat.toArray) ∧ ((w1.alloc (.cells zer4 40)).setRow w1.heap.size e.stat.toArray).cell? ⟨w.heap.size, 5, none⟩ = some (.int .u8 (e.kind : Int)) ∧ ((w1.alloc (.cells zer4 40)).setRow w1.heap.size e.stat.toArray).heap[w1.heap.size]? = some (.cells e.stat.toArray 40)) := Lib.hid (by
            obtain ⟨sq, sb⟩ := store_new w1 40 zer4 e.stat.toArray
            exact ⟨HB0.out.trans ((hb1.trans (sb.mono hb1.size)).mono HB0.out.size), (HCB.out _ (hb1.trans (sb.mono hb1.size))).2.1, sq⟩)
           clear hb1 SP
           go_wp2_with (first
            | (refine wpList_load_mid rfl _ _ rfl w.heap.size 1 rfl e.stat _ HRG.out Tryz.underlying40 rfl hst.out ?_)
            | (refine wpList_store_row rfl _ _ _ rfl w1.heap.size e.stat.toArray rfl rfl 40 zer4 (MapKept.heap_alloc w1 (.cells zer4 40)).1 hst2.out rfl hone.out ?_
               change wpList _ _ _ _ _ ((w1.alloc (.cells zer4 40)).setRow w1.heap.size e.stat.toArray)
               generalize (w1.alloc (.cells zer4 40)).setRow w1.heap.size e.stat.toArray = w2 at HF ⊢
               obtain ⟨hb2, k5, sq⟩ := HF.out
               obtain ⟨k0, k1, k2, k3⟩ := stat_cells sq
               have HB1 := Lib.hid hb2
               clear hb2 sq HF))
           go_ret
           exact ⟨by rw [hx.out]; rfl, HB1.out⟩
         · skip
           by_cases h4 : (e.ino : Int) < 1
           · have hx : Hid (R = 1) := Lib.hid (by rw [hR.out, if_pos]; rw [HN.out]; simp only [Bool.or_eq_true, decide_eq_true_eq]; omega)
             go_enter Tryz.func37, Tryz.ntmps37
             go_wp2_with fail
             change Calls _ _ _ (w.alloc (.cells e.cells.toArray 52)) _
             rw [← hW]
             refine SP.out.mono ?_
             rintro x w1 ⟨v, rfl, _, hb1⟩
             have HRG := Lib.hid (HCB.out w1 hb1).2.2
             have HF : Hid (Below w.heap.size w ((w1.alloc (.cells zer4 40)).setRow w1.heap.size e.stat.toArray) ∧ ((w1.alloc (.cells zer4 40)).setRow w1.heap.size e.stat.toArray).cell? ⟨w.heap.size, 5, none⟩ = some (.int .u8 (e.kind : Int)) ∧ ((w1.alloc (.cells zer4 40)).setRow w1.heap.size e.stat.toArray).heap[w1.heap.size]? = some (.cells e.stat.toArray 40)) := Lib.hid (by
              obtain ⟨sq, sb⟩ := store_new w1 40 zer4 e.stat.toArray
              exact ⟨HB0.out.trans ((hb1.trans (sb.mono hb1.size)).mono HB0.out.size), (HCB.out _ (hb1.trans (sb.mono hb1.size))).2.1, sq⟩)
             clear hb1 SP
             go_wp2_with (first
              | (refine wpList_load_mid rfl _ _ rfl w.heap.size 1 rfl e.stat _ HRG.out Tryz.underlying40 rfl hst.out ?_)
              | (refine wpList_store_row rfl _ _ _ rfl w1.heap.size e.stat.toArray rfl rfl 40 zer4 (MapKept.heap_alloc w1 (.cells zer4 40)).1 hst2.out rfl hone.out ?_
                 change wpList _ _ _ _ _ ((w1.alloc (.cells zer4 40)).setRow w1.heap.size e.stat.toArray)
                 generalize (w1.alloc (.cells zer4 40)).setRow w1.heap.size e.stat.toArray = w2 at HF ⊢
                 obtain ⟨hb2, k5, sq⟩ := HF.out
                 obtain ⟨k0, k1, k2, k3⟩ := stat_cells sq
                 have HB1 := Lib.hid hb2
                 clear hb2 sq HF))
             go_ret
             exact ⟨by rw [hx.out]; rfl, HB1.out⟩
           · skip
             by_cases h5 : e.tick < 0
             · have hx : Hid (R = 1) := Lib.hid (by rw [hR.out, if_pos]; rw [HN.out]; simp only [Bool.or_eq_true, decide_eq_true_eq]; omega)
               go_enter Tryz.func37, Tryz.ntmps37
               go_wp2_with fail
               change Calls _ _ _ (w.alloc (.cells e.cells.toArray 52)) _
               rw [← hW]
               refine SP.out.mono ?_
               rintro x w1 ⟨v, rfl, _, hb1⟩
               have HRG := Lib.hid (HCB.out w1 hb1).2.2
               have HF : Hid (Below w.heap.size w ((w1.alloc (.cells zer4 40)).setRow w1.heap.size e.stat.toArray) ∧ ((w1.alloc (.cells zer4 40)).setRow w1.heap.size e.stat.toArray).cell? ⟨w.heap.size, 5, none⟩ = some (.int .u8 (e.kind : Int)) ∧ ((w1.alloc (.cells zer4 40)).setRow w1.heap.size e.stat.toArray).heap[w1.heap.size]? = some (.cells e.stat.toArray 40)) := Lib.hid (by
                obtain ⟨sq, sb⟩ := store_new w1 40 zer4 e.stat.toArray
                exact ⟨HB0.out.trans ((hb1.trans (sb.mono hb1.size)).mono HB0.out.size), (HCB.out _ (hb1.trans (sb.mono hb1.size))).2.1, sq⟩)
               clear hb1 SP
               go_wp2_with (first
                | (refine wpList_load_mid rfl _ _ rfl w.heap.size 1 rfl e.stat _ HRG.out Tryz.underlying40 rfl hst.out ?_)
                | (refine wpList_store_row rfl _ _ _ rfl w1.heap.size e.stat.toArray rfl rfl 40 zer4 (MapKept.heap_alloc w1 (.cells zer4 40)).1 hst2.out rfl hone.out ?_
                   change wpList _ _ _ _ _ ((w1.alloc (.cells zer4 40)).setRow w1.heap.size e.stat.toArray)
                   generalize (w1.alloc (.cells zer4 40)).setRow w1.heap.size e.stat.toArray = w2 at HF ⊢
                   obtain ⟨hb2, k5, sq⟩ := HF.out
                   obtain ⟨k0, k1, k2, k3⟩ := stat_cells sq
                   have HB1 := Lib.hid hb2
                   clear hb2 sq HF))
               go_ret
               exact ⟨by rw [hx.out]; rfl, HB1.out⟩
             · skip
               by_cases h6 : 1099511627776 < e.tick
               · have hx : Hid (R = 1) := Lib.hid (by rw [hR.out, if_pos]; rw [HN.out]; simp only [Bool.or_eq_true, decide_eq_true_eq]; omega)
                 go_enter Tryz.func37, Tryz.ntmps37
                 go_wp2_with fail
                 change Calls _ _ _ (w.alloc (.cells e.cells.toArray 52)) _
                 rw [← hW]
                 refine SP.out.mono ?_
                 rintro x w1 ⟨v, rfl, _, hb1⟩
                 have HRG := Lib.hid (HCB.out w1 hb1).2.2
                 have HF : Hid (Below w.heap.size w ((w1.alloc (.cells zer4 40)).setRow w1.heap.size e.stat.toArray) ∧ ((w1.alloc (.cells zer4 40)).setRow w1.heap.size e.stat.toArray).cell? ⟨w.heap.size, 5, none⟩ = some (.int .u8 (e.kind : Int)) ∧ ((w1.alloc (.cells zer4 40)).setRow w1.heap.size e.stat.toArray).heap[w1.heap.size]? = some (.cells e.stat.toArray 40)) := Lib.hid (by
                  obtain ⟨sq, sb⟩ := store_new w1 40 zer4 e.stat.toArray
                  exact ⟨HB0.out.trans ((hb1.trans (sb.mono hb1.size)).mono HB0.out.size), (HCB.out _ (hb1.trans (sb.mono hb1.size))).2.1, sq⟩)
                 clear hb1 SP
                 go_wp2_with (first
                  | (refine wpList_load_mid rfl _ _ rfl w.heap.size 1 rfl e.stat _ HRG.out Tryz.underlying40 rfl hst.out ?_)
                  | (refine wpList_store_row rfl _ _ _ rfl w1.heap.size e.stat.toArray rfl rfl 40 zer4 (MapKept.heap_alloc w1 (.cells zer4 40)).1 hst2.out rfl hone.out ?_
                     change wpList _ _ _ _ _ ((w1.alloc (.cells zer4 40)).setRow w1.heap.size e.stat.toArray)
                     generalize (w1.alloc (.cells zer4 40)).setRow w1.heap.size e.stat.toArray = w2 at HF ⊢
                     obtain ⟨hb2, k5, sq⟩ := HF.out
                     obtain ⟨k0, k1, k2, k3⟩ := stat_cells sq
                     have HB1 := Lib.hid hb2
                     clear hb2 sq HF))
                 go_ret
                 exact ⟨by rw [hx.out]; rfl, HB1.out⟩
               · skip
                 by_cases h7 : (e.kind : Int) < 1
                 · have hx : Hid (R = 1) := Lib.hid (by rw [hR.out, if_pos]; rw [HN.out]; simp only [Bool.or_eq_true, decide_eq_true_eq]; omega)
                   go_enter Tryz.func37, Tryz.ntmps37
                   go_wp2_with fail
                   change Calls _ _ _ (w.alloc (.cells e.cells.toArray 52)) _
                   rw [← hW]
                   refine SP.out.mono ?_
                   rintro x w1 ⟨v, rfl, _, hb1⟩
                   have HRG := Lib.hid (HCB.out w1 hb1).2.2
                   have HF : Hid (Below w.heap.size w ((w1.alloc (.cells zer4 40)).setRow w1.heap.size e.stat.toArray) ∧ ((w1.alloc (.cells zer4 40)).setRow w1.heap.size e.stat.toArray).cell? ⟨w.heap.size, 5, none⟩ = some (.int .u8 (e.kind : Int)) ∧ ((w1.alloc (.cells zer4 40)).setRow w1.heap.size e.stat.toArray).heap[w1.heap.size]? = some (.cells e.stat.toArray 40)) := Lib.hid (by
                    obtain ⟨sq, sb⟩ := store_new w1 40 zer4 e.stat.toArray
                    exact ⟨HB0.out.trans ((hb1.trans (sb.mono hb1.size)).mono HB0.out.size), (HCB.out _ (hb1.trans (sb.mono hb1.size))).2.1, sq⟩)
                   clear hb1 SP
                   go_wp2_with (first
                    | (refine wpList_load_mid rfl _ _ rfl w.heap.size 1 rfl e.stat _ HRG.out Tryz.underlying40 rfl hst.out ?_)
                    | (refine wpList_store_row rfl _ _ _ rfl w1.heap.size e.stat.toArray rfl rfl 40 zer4 (MapKept.heap_alloc w1 (.cells zer4 40)).1 hst2.out rfl hone.out ?_
                       change wpList _ _ _ _ _ ((w1.alloc (.cells zer4 40)).setRow w1.heap.size e.stat.toArray)
                       generalize (w1.alloc (.cells zer4 40)).setRow w1.heap.size e.stat.toArray = w2 at HF ⊢
                       obtain ⟨hb2, k5, sq⟩ := HF.out
                       obtain ⟨k0, k1, k2, k3⟩ := stat_cells sq
                       have HB1 := Lib.hid hb2
                       clear hb2 sq HF))
                   go_ret
                   exact ⟨by rw [hx.out]; rfl, HB1.out⟩
                 · skip
                   by_cases h8 : 5 < (e.kind : Int)
                   · have hx : Hid (R = 1) := Lib.hid (by rw [hR.out, if_pos]; rw [HN.out]; simp only [Bool.or_eq_true, decide_eq_true_eq]; omega)
                     go_enter Tryz.func37, Tryz.ntmps37
                     go_wp2_with fail
                     change Calls _ _ _ (w.alloc (.cells e.cells.toArray 52)) _
                     rw [← hW]
                     refine SP.out.mono ?_
                     rintro x w1 ⟨v, rfl, _, hb1⟩
                     have HRG := Lib.hid (HCB.out w1 hb1).2.2
                     have HF : Hid (Below w.heap.size w ((w1.alloc (.cells zer4 40)).setRow w1.heap.size e.stat.toArray) ∧ ((w1.alloc (.cells zer4 40)).setRow w1.heap.size e.stat.toArray).cell? ⟨w.heap.size, 5, none⟩ = some (.int .u8 (e.kind : Int)) ∧ ((w1.alloc (.cells zer4 40)).setRow w1.heap.size e.stat.toArray).heap[w1.heap.size]? = some (.cells e.stat.toArray 40)) := Lib.hid (by
                      obtain ⟨sq, sb⟩ := store_new w1 40 zer4 e.stat.toArray
                      exact ⟨HB0.out.trans ((hb1.trans (sb.mono hb1.size)).mono HB0.out.size), (HCB.out _ (hb1.trans (sb.mono hb1.size))).2.1, sq⟩)
                     clear hb1 SP
                     go_wp2_with (first
                      | (refine wpList_load_mid rfl _ _ rfl w.heap.size 1 rfl e.stat _ HRG.out Tryz.underlying40 rfl hst.out ?_)
                      | (refine wpList_store_row rfl _ _ _ rfl w1.heap.size e.stat.toArray rfl rfl 40 zer4 (MapKept.heap_alloc w1 (.cells zer4 40)).1 hst2.out rfl hone.out ?_
                         change wpList _ _ _ _ _ ((w1.alloc (.cells zer4 40)).setRow w1.heap.size e.stat.toArray)
                         generalize (w1.alloc (.cells zer4 40)).setRow w1.heap.size e.stat.toArray = w2 at HF ⊢
                         obtain ⟨hb2, k5, sq⟩ := HF.out
                         obtain ⟨k0, k1, k2, k3⟩ := stat_cells sq
                         have HB1 := Lib.hid hb2
                         clear hb2 sq HF))
                     go_ret
                     exact ⟨by rw [hx.out]; rfl, HB1.out⟩
                   · skip
                     have hx : Hid (R = 0) := Lib.hid (by rw [hR.out, if_neg]; rw [HN.out]; simp only [Bool.or_eq_true, decide_eq_true_eq]; omega)
                     go_enter Tryz.func37, Tryz.ntmps37
                     go_wp2_with fail
                     change Calls _ _ _ (w.alloc (.cells e.cells.toArray 52)) _
                     rw [← hW]
                     refine SP.out.mono ?_
                     rintro x w1 ⟨v, rfl, _, hb1⟩
                     have HRG := Lib.hid (HCB.out w1 hb1).2.2
                     have HF : Hid (Below w.heap.size w ((w1.alloc (.cells zer4 40)).setRow w1.heap.size e.stat.toArray) ∧ ((w1.alloc (.cells zer4 40)).setRow w1.heap.size e.stat.toArray).cell? ⟨w.heap.size, 5, none⟩ = some (.int .u8 (e.kind : Int)) ∧ ((w1.alloc (.cells zer4 40)).setRow w1.heap.size e.stat.toArray).heap[w1.heap.size]? = some (.cells e.stat.toArray 40)) := Lib.hid (by
                      obtain ⟨sq, sb⟩ := store_new w1 40 zer4 e.stat.toArray
                      exact ⟨HB0.out.trans ((hb1.trans (sb.mono hb1.size)).mono HB0.out.size), (HCB.out _ (hb1.trans (sb.mono hb1.size))).2.1, sq⟩)
                     clear hb1 SP
                     go_wp2_with (first
                      | (refine wpList_load_mid rfl _ _ rfl w.heap.size 1 rfl e.stat _ HRG.out Tryz.underlying40 rfl hst.out ?_)
                      | (refine wpList_store_row rfl _ _ _ rfl w1.heap.size e.stat.toArray rfl rfl 40 zer4 (MapKept.heap_alloc w1 (.cells zer4 40)).1 hst2.out rfl hone.out ?_
                         change wpList _ _ _ _ _ ((w1.alloc (.cells zer4 40)).setRow w1.heap.size e.stat.toArray)
                         generalize (w1.alloc (.cells zer4 40)).setRow w1.heap.size e.stat.toArray = w2 at HF ⊢
                         obtain ⟨hb2, k5, sq⟩ := HF.out
                         obtain ⟨k0, k1, k2, k3⟩ := stat_cells sq
                         have HB1 := Lib.hid hb2
                         clear hb2 sq HF))
                     go_ret
                     exact ⟨by rw [hx.out]; rfl, HB1.out⟩
theorem ref_may (w : World) (hT : Nm.Tabs w) (e : SE) (he : e.Fits) :
 Calls Tryz.prog 38 #[enV e] w fun x w' => x = .returned (.int .i64 (mayN e)) ∧ Below w.heap.size w w' := by
 obtain ⟨W, hW⟩ : ∃ W, W = w.alloc (.cells e.cells.toArray 55) := ⟨_, rfl⟩
 have hb0 : Below w.heap.size w W := by rw [hW]; exact (Below.refl _ _).alloc (Nat.le_refl _) _
 have hq0 : W.heap[w.heap.size]? = some (.cells e.cells.toArray 55) := by rw [hW]; exact (MapKept.heap_alloc w _).1
 have hqs : w.heap.size < W.heap.size := lt_of_heap hq0
 have c0 : (w.alloc (.cells e.cells.toArray 55)).cell? ⟨w.heap.size, 0, none⟩ = some (.string ⟨e.path.toArray⟩) := by rw [← hW, cell_of_heap hq0]; rfl
 have SP := Lib.hid (Nm.ref_split ⟨e.path.toArray⟩ W (hT.below hb0) (by show e.path.length ≤ _; have := he.path; omega))
 rw [ba_data] at SP
 have HB0 := Lib.hid hb0; have HQ0 := Lib.hid hq0; have HQS := Lib.hid hqs
 have hn := he.node; have hs1 := he.size; have hi := he.ino; have ht := he.tick; have hk := he.kind
 have HM : Hid (mayN e = if (Nm.splitP e.path).isNone then 10 else if statBad e then 1 else 0) := Lib.hid rfl
 have HN : Hid (statBad e = (decide (e.node < 1) || decide (3 < e.node) || decide (e.size < 0) || decide (1048576 < e.size) || decide (e.ino < 1) || decide (e.tick < 0) || decide (1099511627776 < e.tick) || decide (e.kind < 1) || decide (5 < e.kind))) := Lib.hid rfl
 generalize mayN e = R at *
 have hcb : ∀ w2 : World, Below W.heap.size W w2 → w2.heap[w.heap.size]? = some (.cells e.cells.toArray 55) ∧ w2.cell? ⟨w.heap.size, 5, none⟩ = some (.int .u8 (e.kind : Int)) ∧ w2.rangeAt w.heap.size 1 e.stat := fun w2 hb => by
  have h2 := (hb.block _ HQS.out).trans HQ0.out
  refine ⟨h2, by rw [cell_of_heap h2]; rfl, fun j v hv => ?_⟩
  rw [cell_of_heap h2]
  match j, hv with
  | 0, hv => exact hv
  | 1, hv => exact hv
  | 2, hv => exact hv
  | 3, hv => exact hv
 have HCB := Lib.hid hcb
 clear hb0 hq0 hqs hcb
 cases hsp : Nm.splitP e.path with
 | none =>
   have hse : Nm.splitE e.path = 10 := by rw [Nm.splitE, hsp]; rfl
   have hR : Hid (R = 10) := Lib.hid (by rw [HM.out, hsp]; rfl)
   unfold Nm.SplitPost at SP
   rw [hse] at SP
   clear hsp hse
   go_enter Tryz.func38, Tryz.ntmps38
   go_wp2_with fail
   change Calls _ _ _ (w.alloc (.cells e.cells.toArray 55)) _
   rw [← hW]
   refine SP.out.mono ?_
   rintro x w1 ⟨v, rfl, _, hb1⟩
   have HB1 := Lib.hid (HB0.out.trans (hb1.mono HB0.out.size))
   clear hb1 SP
   go_wp2
   go_ret
   rw [hR.out]
   exact ⟨rfl, HB1.out⟩
 | some ns =>
   have hse : Nm.splitE e.path = 0 := by rw [Nm.splitE, hsp]; rfl
   have hR : Hid (R = if statBad e then 1 else 0) := Lib.hid (by rw [HM.out, hsp]; rfl)
   unfold Nm.SplitPost at SP
   rw [hse] at SP
   have hst : Hid ((Tryz.prog.info? 44).map (·.size) = some e.stat.length) := Lib.hid (by show _ = some 4; kernel_rfl)
   have hst2 : Hid ((Tryz.prog.info? 44).map (·.size) = some e.stat.toArray.size) := Lib.hid (by show _ = some 4; kernel_rfl)
   have hone : Hid (e.stat.toArray.all (·.oneCell') = true) := Lib.hid (by simp [SE.stat, Value.oneCell'])
   clear hsp hse HM
   by_cases h0 : (e.node : Int) < 1
   · have hx : Hid (R = 1) := Lib.hid (by rw [hR.out, if_pos]; rw [HN.out]; simp only [Bool.or_eq_true, decide_eq_true_eq]; omega)
     go_enter Tryz.func38, Tryz.ntmps38
     go_wp2_with fail
     change Calls _ _ _ (w.alloc (.cells e.cells.toArray 55)) _
     rw [← hW]
     refine SP.out.mono ?_
     rintro x w1 ⟨v, rfl, _, hb1⟩
     have HRG := Lib.hid (HCB.out w1 hb1).2.2
     have HF : Hid (Below w.heap.size w ((w1.alloc (.cells zer4 44)).setRow w1.heap.size e.stat.toArray) ∧ ((w1.alloc (.cells zer4 44)).setRow w1.heap.size e.stat.toArray).cell? ⟨w.heap.size, 5, none⟩ = some (.int .u8 (e.kind : Int)) ∧ ((w1.alloc (.cells zer4 44)).setRow w1.heap.size e.stat.toArray).heap[w1.heap.size]? = some (.cells e.stat.toArray 44)) := Lib.hid (by
      obtain ⟨sq, sb⟩ := store_new w1 44 zer4 e.stat.toArray
      exact ⟨HB0.out.trans ((hb1.trans (sb.mono hb1.size)).mono HB0.out.size), (HCB.out _ (hb1.trans (sb.mono hb1.size))).2.1, sq⟩)
     clear hb1 SP
     go_wp2_with (first
      | (refine wpList_load_mid rfl _ _ rfl w.heap.size 1 rfl e.stat _ HRG.out Tryz.underlying44 rfl hst.out ?_)
      | (refine wpList_store_row rfl _ _ _ rfl w1.heap.size e.stat.toArray rfl rfl 44 zer4 (MapKept.heap_alloc w1 (.cells zer4 44)).1 hst2.out rfl hone.out ?_
         change wpList _ _ _ _ _ ((w1.alloc (.cells zer4 44)).setRow w1.heap.size e.stat.toArray)
         generalize (w1.alloc (.cells zer4 44)).setRow w1.heap.size e.stat.toArray = w2 at HF ⊢
         obtain ⟨hb2, k5, sq⟩ := HF.out
         obtain ⟨k0, k1, k2, k3⟩ := stat_cells sq
         have HB1 := Lib.hid hb2
         clear hb2 sq HF))
     go_ret
     exact ⟨by rw [hx.out]; rfl, HB1.out⟩
   · skip
     by_cases h1 : 3 < (e.node : Int)
     · have hx : Hid (R = 1) := Lib.hid (by rw [hR.out, if_pos]; rw [HN.out]; simp only [Bool.or_eq_true, decide_eq_true_eq]; omega)
       go_enter Tryz.func38, Tryz.ntmps38
       go_wp2_with fail
       change Calls _ _ _ (w.alloc (.cells e.cells.toArray 55)) _
       rw [← hW]
       refine SP.out.mono ?_
       rintro x w1 ⟨v, rfl, _, hb1⟩
       have HRG := Lib.hid (HCB.out w1 hb1).2.2
       have HF : Hid (Below w.heap.size w ((w1.alloc (.cells zer4 44)).setRow w1.heap.size e.stat.toArray) ∧ ((w1.alloc (.cells zer4 44)).setRow w1.heap.size e.stat.toArray).cell? ⟨w.heap.size, 5, none⟩ = some (.int .u8 (e.kind : Int)) ∧ ((w1.alloc (.cells zer4 44)).setRow w1.heap.size e.stat.toArray).heap[w1.heap.size]? = some (.cells e.stat.toArray 44)) := Lib.hid (by
        obtain ⟨sq, sb⟩ := store_new w1 44 zer4 e.stat.toArray
        exact ⟨HB0.out.trans ((hb1.trans (sb.mono hb1.size)).mono HB0.out.size), (HCB.out _ (hb1.trans (sb.mono hb1.size))).2.1, sq⟩)
       clear hb1 SP
       go_wp2_with (first
        | (refine wpList_load_mid rfl _ _ rfl w.heap.size 1 rfl e.stat _ HRG.out Tryz.underlying44 rfl hst.out ?_)
        | (refine wpList_store_row rfl _ _ _ rfl w1.heap.size e.stat.toArray rfl rfl 44 zer4 (MapKept.heap_alloc w1 (.cells zer4 44)).1 hst2.out rfl hone.out ?_
           change wpList _ _ _ _ _ ((w1.alloc (.cells zer4 44)).setRow w1.heap.size e.stat.toArray)
           generalize (w1.alloc (.cells zer4 44)).setRow w1.heap.size e.stat.toArray = w2 at HF ⊢
           obtain ⟨hb2, k5, sq⟩ := HF.out
           obtain ⟨k0, k1, k2, k3⟩ := stat_cells sq
           have HB1 := Lib.hid hb2
           clear hb2 sq HF))
       go_ret
       exact ⟨by rw [hx.out]; rfl, HB1.out⟩
     · skip
       by_cases h2 : e.size < 0
       · have hx : Hid (R = 1) := Lib.hid (by rw [hR.out, if_pos]; rw [HN.out]; simp only [Bool.or_eq_true, decide_eq_true_eq]; omega)
         go_enter Tryz.func38, Tryz.ntmps38
         go_wp2_with fail
         change Calls _ _ _ (w.alloc (.cells e.cells.toArray 55)) _
         rw [← hW]
         refine SP.out.mono ?_
         rintro x w1 ⟨v, rfl, _, hb1⟩
         have HRG := Lib.hid (HCB.out w1 hb1).2.2
         have HF : Hid (Below w.heap.size w ((w1.alloc (.cells zer4 44)).setRow w1.heap.size e.stat.toArray) ∧ ((w1.alloc (.cells zer4 44)).setRow w1.heap.size e.stat.toArray).cell? ⟨w.heap.size, 5, none⟩ = some (.int .u8 (e.kind : Int)) ∧ ((w1.alloc (.cells zer4 44)).setRow w1.heap.size e.stat.toArray).heap[w1.heap.size]? = some (.cells e.stat.toArray 44)) := Lib.hid (by
          obtain ⟨sq, sb⟩ := store_new w1 44 zer4 e.stat.toArray
          exact ⟨HB0.out.trans ((hb1.trans (sb.mono hb1.size)).mono HB0.out.size), (HCB.out _ (hb1.trans (sb.mono hb1.size))).2.1, sq⟩)
         clear hb1 SP
         go_wp2_with (first
          | (refine wpList_load_mid rfl _ _ rfl w.heap.size 1 rfl e.stat _ HRG.out Tryz.underlying44 rfl hst.out ?_)
          | (refine wpList_store_row rfl _ _ _ rfl w1.heap.size e.stat.toArray rfl rfl 44 zer4 (MapKept.heap_alloc w1 (.cells zer4 44)).1 hst2.out rfl hone.out ?_
             change wpList _ _ _ _ _ ((w1.alloc (.cells zer4 44)).setRow w1.heap.size e.stat.toArray)
             generalize (w1.alloc (.cells zer4 44)).setRow w1.heap.size e.stat.toArray = w2 at HF ⊢
             obtain ⟨hb2, k5, sq⟩ := HF.out
             obtain ⟨k0, k1, k2, k3⟩ := stat_cells sq
             have HB1 := Lib.hid hb2
             clear hb2 sq HF))
         go_ret
         exact ⟨by rw [hx.out]; rfl, HB1.out⟩
       · skip
         by_cases h3 : 1048576 < e.size
         · have hx : Hid (R = 1) := Lib.hid (by rw [hR.out, if_pos]; rw [HN.out]; simp only [Bool.or_eq_true, decide_eq_true_eq]; omega)
           go_enter Tryz.func38, Tryz.ntmps38
           go_wp2_with fail
           change Calls _ _ _ (w.alloc (.cells e.cells.toArray 55)) _
           rw [← hW]
           refine SP.out.mono ?_
           rintro x w1 ⟨v, rfl, _, hb1⟩
           have HRG := Lib.hid (HCB.out w1 hb1).2.2
           have HF : Hid (Below w.heap.size w ((w1.alloc (.cells zer4 44)).setRow w1.heap.size e.stat.toArray) ∧ ((w1.alloc (.cells zer4 44)).setRow w1.heap.size e.stat.toArray).cell? ⟨w.heap.size, 5, none⟩ = some (.int .u8 (e.kind : Int)) ∧ ((w1.alloc (.cells zer4 44)).setRow w1.heap.size e.stat.toArray).heap[w1.heap.size]? = some (.cells e.stat.toArray 44)) := Lib.hid (by
            obtain ⟨sq, sb⟩ := store_new w1 44 zer4 e.stat.toArray
            exact ⟨HB0.out.trans ((hb1.trans (sb.mono hb1.size)).mono HB0.out.size), (HCB.out _ (hb1.trans (sb.mono hb1.size))).2.1, sq⟩)
           clear hb1 SP
           go_wp2_with (first
            | (refine wpList_load_mid rfl _ _ rfl w.heap.size 1 rfl e.stat _ HRG.out Tryz.underlying44 rfl hst.out ?_)
            | (refine wpList_store_row rfl _ _ _ rfl w1.heap.size e.stat.toArray rfl rfl 44 zer4 (MapKept.heap_alloc w1 (.cells zer4 44)).1 hst2.out rfl hone.out ?_
               change wpList _ _ _ _ _ ((w1.alloc (.cells zer4 44)).setRow w1.heap.size e.stat.toArray)
               generalize (w1.alloc (.cells zer4 44)).setRow w1.heap.size e.stat.toArray = w2 at HF ⊢
               obtain ⟨hb2, k5, sq⟩ := HF.out
               obtain ⟨k0, k1, k2, k3⟩ := stat_cells sq
               have HB1 := Lib.hid hb2
               clear hb2 sq HF))
           go_ret
           exact ⟨by rw [hx.out]; rfl, HB1.out⟩
         · skip
           by_cases h4 : (e.ino : Int) < 1
           · have hx : Hid (R = 1) := Lib.hid (by rw [hR.out, if_pos]; rw [HN.out]; simp only [Bool.or_eq_true, decide_eq_true_eq]; omega)
             go_enter Tryz.func38, Tryz.ntmps38
             go_wp2_with fail
             change Calls _ _ _ (w.alloc (.cells e.cells.toArray 55)) _
             rw [← hW]
             refine SP.out.mono ?_
             rintro x w1 ⟨v, rfl, _, hb1⟩
             have HRG := Lib.hid (HCB.out w1 hb1).2.2
             have HF : Hid (Below w.heap.size w ((w1.alloc (.cells zer4 44)).setRow w1.heap.size e.stat.toArray) ∧ ((w1.alloc (.cells zer4 44)).setRow w1.heap.size e.stat.toArray).cell? ⟨w.heap.size, 5, none⟩ = some (.int .u8 (e.kind : Int)) ∧ ((w1.alloc (.cells zer4 44)).setRow w1.heap.size e.stat.toArray).heap[w1.heap.size]? = some (.cells e.stat.toArray 44)) := Lib.hid (by
              obtain ⟨sq, sb⟩ := store_new w1 44 zer4 e.stat.toArray
              exact ⟨HB0.out.trans ((hb1.trans (sb.mono hb1.size)).mono HB0.out.size), (HCB.out _ (hb1.trans (sb.mono hb1.size))).2.1, sq⟩)
             clear hb1 SP
             go_wp2_with (first
              | (refine wpList_load_mid rfl _ _ rfl w.heap.size 1 rfl e.stat _ HRG.out Tryz.underlying44 rfl hst.out ?_)
              | (refine wpList_store_row rfl _ _ _ rfl w1.heap.size e.stat.toArray rfl rfl 44 zer4 (MapKept.heap_alloc w1 (.cells zer4 44)).1 hst2.out rfl hone.out ?_
                 change wpList _ _ _ _ _ ((w1.alloc (.cells zer4 44)).setRow w1.heap.size e.stat.toArray)
                 generalize (w1.alloc (.cells zer4 44)).setRow w1.heap.size e.stat.toArray = w2 at HF ⊢
                 obtain ⟨hb2, k5, sq⟩ := HF.out
                 obtain ⟨k0, k1, k2, k3⟩ := stat_cells sq
                 have HB1 := Lib.hid hb2
                 clear hb2 sq HF))
             go_ret
             exact ⟨by rw [hx.out]; rfl, HB1.out⟩
           · skip
             by_cases h5 : e.tick < 0
             · have hx : Hid (R = 1) := Lib.hid (by rw [hR.out, if_pos]; rw [HN.out]; simp only [Bool.or_eq_true, decide_eq_true_eq]; omega)
               go_enter Tryz.func38, Tryz.ntmps38
               go_wp2_with fail
               change Calls _ _ _ (w.alloc (.cells e.cells.toArray 55)) _
               rw [← hW]
               refine SP.out.mono ?_
               rintro x w1 ⟨v, rfl, _, hb1⟩
               have HRG := Lib.hid (HCB.out w1 hb1).2.2
               have HF : Hid (Below w.heap.size w ((w1.alloc (.cells zer4 44)).setRow w1.heap.size e.stat.toArray) ∧ ((w1.alloc (.cells zer4 44)).setRow w1.heap.size e.stat.toArray).cell? ⟨w.heap.size, 5, none⟩ = some (.int .u8 (e.kind : Int)) ∧ ((w1.alloc (.cells zer4 44)).setRow w1.heap.size e.stat.toArray).heap[w1.heap.size]? = some (.cells e.stat.toArray 44)) := Lib.hid (by
                obtain ⟨sq, sb⟩ := store_new w1 44 zer4 e.stat.toArray
                exact ⟨HB0.out.trans ((hb1.trans (sb.mono hb1.size)).mono HB0.out.size), (HCB.out _ (hb1.trans (sb.mono hb1.size))).2.1, sq⟩)
               clear hb1 SP
               go_wp2_with (first
                | (refine wpList_load_mid rfl _ _ rfl w.heap.size 1 rfl e.stat _ HRG.out Tryz.underlying44 rfl hst.out ?_)
                | (refine wpList_store_row rfl _ _ _ rfl w1.heap.size e.stat.toArray rfl rfl 44 zer4 (MapKept.heap_alloc w1 (.cells zer4 44)).1 hst2.out rfl hone.out ?_
                   change wpList _ _ _ _ _ ((w1.alloc (.cells zer4 44)).setRow w1.heap.size e.stat.toArray)
                   generalize (w1.alloc (.cells zer4 44)).setRow w1.heap.size e.stat.toArray = w2 at HF ⊢
                   obtain ⟨hb2, k5, sq⟩ := HF.out
                   obtain ⟨k0, k1, k2, k3⟩ := stat_cells sq
                   have HB1 := Lib.hid hb2
                   clear hb2 sq HF))
               go_ret
               exact ⟨by rw [hx.out]; rfl, HB1.out⟩
             · skip
               by_cases h6 : 1099511627776 < e.tick
               · have hx : Hid (R = 1) := Lib.hid (by rw [hR.out, if_pos]; rw [HN.out]; simp only [Bool.or_eq_true, decide_eq_true_eq]; omega)
                 go_enter Tryz.func38, Tryz.ntmps38
                 go_wp2_with fail
                 change Calls _ _ _ (w.alloc (.cells e.cells.toArray 55)) _
                 rw [← hW]
                 refine SP.out.mono ?_
                 rintro x w1 ⟨v, rfl, _, hb1⟩
                 have HRG := Lib.hid (HCB.out w1 hb1).2.2
                 have HF : Hid (Below w.heap.size w ((w1.alloc (.cells zer4 44)).setRow w1.heap.size e.stat.toArray) ∧ ((w1.alloc (.cells zer4 44)).setRow w1.heap.size e.stat.toArray).cell? ⟨w.heap.size, 5, none⟩ = some (.int .u8 (e.kind : Int)) ∧ ((w1.alloc (.cells zer4 44)).setRow w1.heap.size e.stat.toArray).heap[w1.heap.size]? = some (.cells e.stat.toArray 44)) := Lib.hid (by
                  obtain ⟨sq, sb⟩ := store_new w1 44 zer4 e.stat.toArray
                  exact ⟨HB0.out.trans ((hb1.trans (sb.mono hb1.size)).mono HB0.out.size), (HCB.out _ (hb1.trans (sb.mono hb1.size))).2.1, sq⟩)
                 clear hb1 SP
                 go_wp2_with (first
                  | (refine wpList_load_mid rfl _ _ rfl w.heap.size 1 rfl e.stat _ HRG.out Tryz.underlying44 rfl hst.out ?_)
                  | (refine wpList_store_row rfl _ _ _ rfl w1.heap.size e.stat.toArray rfl rfl 44 zer4 (MapKept.heap_alloc w1 (.cells zer4 44)).1 hst2.out rfl hone.out ?_
                     change wpList _ _ _ _ _ ((w1.alloc (.cells zer4 44)).setRow w1.heap.size e.stat.toArray)
                     generalize (w1.alloc (.cells zer4 44)).setRow w1.heap.size e.stat.toArray = w2 at HF ⊢
                     obtain ⟨hb2, k5, sq⟩ := HF.out
                     obtain ⟨k0, k1, k2, k3⟩ := stat_cells sq
                     have HB1 := Lib.hid hb2
                     clear hb2 sq HF))
                 go_ret
                 exact ⟨by rw [hx.out]; rfl, HB1.out⟩
               · skip
                 by_cases h7 : (e.kind : Int) < 1
                 · have hx : Hid (R = 1) := Lib.hid (by rw [hR.out, if_pos]; rw [HN.out]; simp only [Bool.or_eq_true, decide_eq_true_eq]; omega)
                   go_enter Tryz.func38, Tryz.ntmps38
                   go_wp2_with fail
                   change Calls _ _ _ (w.alloc (.cells e.cells.toArray 55)) _
                   rw [← hW]
                   refine SP.out.mono ?_
                   rintro x w1 ⟨v, rfl, _, hb1⟩
                   have HRG := Lib.hid (HCB.out w1 hb1).2.2
                   have HF : Hid (Below w.heap.size w ((w1.alloc (.cells zer4 44)).setRow w1.heap.size e.stat.toArray) ∧ ((w1.alloc (.cells zer4 44)).setRow w1.heap.size e.stat.toArray).cell? ⟨w.heap.size, 5, none⟩ = some (.int .u8 (e.kind : Int)) ∧ ((w1.alloc (.cells zer4 44)).setRow w1.heap.size e.stat.toArray).heap[w1.heap.size]? = some (.cells e.stat.toArray 44)) := Lib.hid (by
                    obtain ⟨sq, sb⟩ := store_new w1 44 zer4 e.stat.toArray
                    exact ⟨HB0.out.trans ((hb1.trans (sb.mono hb1.size)).mono HB0.out.size), (HCB.out _ (hb1.trans (sb.mono hb1.size))).2.1, sq⟩)
                   clear hb1 SP
                   go_wp2_with (first
                    | (refine wpList_load_mid rfl _ _ rfl w.heap.size 1 rfl e.stat _ HRG.out Tryz.underlying44 rfl hst.out ?_)
                    | (refine wpList_store_row rfl _ _ _ rfl w1.heap.size e.stat.toArray rfl rfl 44 zer4 (MapKept.heap_alloc w1 (.cells zer4 44)).1 hst2.out rfl hone.out ?_
                       change wpList _ _ _ _ _ ((w1.alloc (.cells zer4 44)).setRow w1.heap.size e.stat.toArray)
                       generalize (w1.alloc (.cells zer4 44)).setRow w1.heap.size e.stat.toArray = w2 at HF ⊢
                       obtain ⟨hb2, k5, sq⟩ := HF.out
                       obtain ⟨k0, k1, k2, k3⟩ := stat_cells sq
                       have HB1 := Lib.hid hb2
                       clear hb2 sq HF))
                   go_ret
                   exact ⟨by rw [hx.out]; rfl, HB1.out⟩
                 · skip
                   by_cases h8 : 5 < (e.kind : Int)
                   · have hx : Hid (R = 1) := Lib.hid (by rw [hR.out, if_pos]; rw [HN.out]; simp only [Bool.or_eq_true, decide_eq_true_eq]; omega)
                     go_enter Tryz.func38, Tryz.ntmps38
                     go_wp2_with fail
                     change Calls _ _ _ (w.alloc (.cells e.cells.toArray 55)) _
                     rw [← hW]
                     refine SP.out.mono ?_
                     rintro x w1 ⟨v, rfl, _, hb1⟩
                     have HRG := Lib.hid (HCB.out w1 hb1).2.2
                     have HF : Hid (Below w.heap.size w ((w1.alloc (.cells zer4 44)).setRow w1.heap.size e.stat.toArray) ∧ ((w1.alloc (.cells zer4 44)).setRow w1.heap.size e.stat.toArray).cell? ⟨w.heap.size, 5, none⟩ = some (.int .u8 (e.kind : Int)) ∧ ((w1.alloc (.cells zer4 44)).setRow w1.heap.size e.stat.toArray).heap[w1.heap.size]? = some (.cells e.stat.toArray 44)) := Lib.hid (by
                      obtain ⟨sq, sb⟩ := store_new w1 44 zer4 e.stat.toArray
                      exact ⟨HB0.out.trans ((hb1.trans (sb.mono hb1.size)).mono HB0.out.size), (HCB.out _ (hb1.trans (sb.mono hb1.size))).2.1, sq⟩)
                     clear hb1 SP
                     go_wp2_with (first
                      | (refine wpList_load_mid rfl _ _ rfl w.heap.size 1 rfl e.stat _ HRG.out Tryz.underlying44 rfl hst.out ?_)
                      | (refine wpList_store_row rfl _ _ _ rfl w1.heap.size e.stat.toArray rfl rfl 44 zer4 (MapKept.heap_alloc w1 (.cells zer4 44)).1 hst2.out rfl hone.out ?_
                         change wpList _ _ _ _ _ ((w1.alloc (.cells zer4 44)).setRow w1.heap.size e.stat.toArray)
                         generalize (w1.alloc (.cells zer4 44)).setRow w1.heap.size e.stat.toArray = w2 at HF ⊢
                         obtain ⟨hb2, k5, sq⟩ := HF.out
                         obtain ⟨k0, k1, k2, k3⟩ := stat_cells sq
                         have HB1 := Lib.hid hb2
                         clear hb2 sq HF))
                     go_ret
                     exact ⟨by rw [hx.out]; rfl, HB1.out⟩
                   · skip
                     have hx : Hid (R = 0) := Lib.hid (by rw [hR.out, if_neg]; rw [HN.out]; simp only [Bool.or_eq_true, decide_eq_true_eq]; omega)
                     go_enter Tryz.func38, Tryz.ntmps38
                     go_wp2_with fail
                     change Calls _ _ _ (w.alloc (.cells e.cells.toArray 55)) _
                     rw [← hW]
                     refine SP.out.mono ?_
                     rintro x w1 ⟨v, rfl, _, hb1⟩
                     have HRG := Lib.hid (HCB.out w1 hb1).2.2
                     have HF : Hid (Below w.heap.size w ((w1.alloc (.cells zer4 44)).setRow w1.heap.size e.stat.toArray) ∧ ((w1.alloc (.cells zer4 44)).setRow w1.heap.size e.stat.toArray).cell? ⟨w.heap.size, 5, none⟩ = some (.int .u8 (e.kind : Int)) ∧ ((w1.alloc (.cells zer4 44)).setRow w1.heap.size e.stat.toArray).heap[w1.heap.size]? = some (.cells e.stat.toArray 44)) := Lib.hid (by
                      obtain ⟨sq, sb⟩ := store_new w1 44 zer4 e.stat.toArray
                      exact ⟨HB0.out.trans ((hb1.trans (sb.mono hb1.size)).mono HB0.out.size), (HCB.out _ (hb1.trans (sb.mono hb1.size))).2.1, sq⟩)
                     clear hb1 SP
                     go_wp2_with (first
                      | (refine wpList_load_mid rfl _ _ rfl w.heap.size 1 rfl e.stat _ HRG.out Tryz.underlying44 rfl hst.out ?_)
                      | (refine wpList_store_row rfl _ _ _ rfl w1.heap.size e.stat.toArray rfl rfl 44 zer4 (MapKept.heap_alloc w1 (.cells zer4 44)).1 hst2.out rfl hone.out ?_
                         change wpList _ _ _ _ _ ((w1.alloc (.cells zer4 44)).setRow w1.heap.size e.stat.toArray)
                         generalize (w1.alloc (.cells zer4 44)).setRow w1.heap.size e.stat.toArray = w2 at HF ⊢
                         obtain ⟨hb2, k5, sq⟩ := HF.out
                         obtain ⟨k0, k1, k2, k3⟩ := stat_cells sq
                         have HB1 := Lib.hid hb2
                         clear hb2 sq HF))
                     go_ret
                     exact ⟨by rw [hx.out]; rfl, HB1.out⟩
end Go.Proofs.YtnkapojbijbbaaaGreatDoor.St
