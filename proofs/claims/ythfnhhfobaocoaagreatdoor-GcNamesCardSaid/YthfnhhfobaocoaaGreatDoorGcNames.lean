/-
  The walk of the statement GcNames.
-/
import Derived.Test.YthfnhhfobaocoaaGreatDoorGcLaw
namespace Go.Proofs.YthfnhhfobaocoaaGreatDoor.Gc
open Go.RowKit Go.Maps Go.WideMaps Go.Proofs.YthfnhhfobaocoaaGreatDoor.Dk

abbrev ToT : TypeId := 29
theorem eqTold (w : World) : (binOp .eql ToT (.agg told0) (.agg told0)).run Tryz.prog w = .ok (.bool true) w := by kernel_rfl
theorem guardTold (w : World) (x y : Operand) : (eqGuard .eql ToT x y (.agg told0) (.agg told0)).run Tryz.prog w = .ok () w := by kernel_rfl

theorem wp_eqTold {o : Oper} {a : Act} {w : World} {K : Act → World → Prop} {Q : Exit → Act → World → Prop} (x y : Operand) (ho : o.op = .binOp .eql ToT x y ToT)
    (hx : a.eval x = .agg told0) (hy : a.eval y = .agg told0) (h : K (a.put o.dst (.bool true)) w) : o.wp Tryz.prog a w K Q := by
  have hr := eqTold w
  have hg := guardTold w x y
  generalize (Value.agg told0) = v at *
  unfold Oper.wp execOp
  simp only [ho, hx, hy, Sem.run_bind, hg, hr, Result.andThen_ok]
  exact h
theorem wp_buildTold {o : Oper} {a : Act} {w : World} {K : Act → World → Prop} {Q : Exit → Act → World → Prop} (ho : o.op = .build ToT #[]) (h : K (a.put o.dst (.agg told0)) w) : o.wp Tryz.prog a w K Q := by
  have hc := run_build (P := Tryz.prog) w ToT #[] _ (show Tryz.prog.built ToT [] = some told0 by kernel_rfl)
  unfold Oper.wp execOp
  simp only [ho, List.map_toArray, List.map_nil, Sem.run_bind, hc, Result.andThen_ok]
  exact h

set_option maxHeartbeats 8000000 in
set_option maxRecDepth 100000 in
theorem names_any (w : World) : Calls Tryz.prog 3 #[] w fun e w' => e = .returned (.bool true) ∧ Below w.heap.size w w' := by
  go_enter Tryz.func3, Tryz.ntmps3
  go_wp2_with fail
  refine (shares_nil w).mono ?_
  rintro ex wa ⟨rfl, hw⟩
  obtain rfl := hw
  go_wp2_with fail
  refine (small_any _).mono ?_
  rintro ex w1 ⟨rfl, hb⟩
  have HB := Lib.hid hb
  clear hb
  go_wp2_with fail
  refine (toplan_any _).mono ?_
  rintro ex w2 ⟨rfl, hb⟩
  replace HB := Lib.hid (HB.out.trans (hb.mono HB.out.size))
  clear hb
  go_wp2_with fail
  refine (run_nil _).mono ?_
  rintro ex w3 ⟨rfl, hb⟩
  replace HB := Lib.hid (HB.out.trans (hb.mono HB.out.size))
  clear hb
  go_wp2_with (first
    | (refine wpList_store_new rfl rfl ToT (.tmp 3) (.tmp 22) rfl told0 rfl rfl (by kernel_rfl) rfl (by kernel_rfl) ?_
       intro w4 hq4 hb4 hs4
       replace HB := Lib.hid (HB.out.trans (hb4.mono HB.out.size))
       clear hq4 hb4 hs4)
    | fail)
  refine (new_any 1048576 (by omega) (by omega) w4).mono ?_
  rintro ex w5 ⟨Y, rfl, hd, hb⟩
  rw [fresh_new] at hd
  have HD := Lib.hid hd
  have HW4 : Hid (wa.heap.size ≤ w4.heap.size) := Lib.hid HB.out.size
  replace HB := Lib.hid (HB.out.trans (hb.mono HB.out.size))
  have HG : Hid (w4.heap.size ≤ w5.heap.size) := Lib.hid hb.size
  clear hd hb
  unfold ptr
  go_wp2_with fail
  have R1 := run_plan w5 Y.g
  unfold ptr at R1
  refine R1.mono ?_
  rintro ex w6 ⟨rfl, hb⟩
  replace HB := Lib.hid (HB.out.trans (hb.mono HB.out.size))
  replace HD := Lib.hid (HD.out.below hb)
  replace HG := Lib.hid (Nat.le_trans HG.out hb.size)
  clear hb R1
  go_wp2_with (first
    | (refine wpList_store_new rfl rfl ToT (.tmp 7) (.tmp 33) rfl told0 rfl rfl (by kernel_rfl) rfl (by kernel_rfl) ?_
       intro w7 hq4 hb4 hs4
       replace HB := Lib.hid (HB.out.trans (hb4.mono HB.out.size))
       replace HG := Lib.hid (Nat.le_trans HG.out hb4.size)
       replace HD := Lib.hid (HD.out.below hb4)
       clear hq4 hb4 hs4)
    | fail)
  refine (small_any _).mono ?_
  rintro ex w8 ⟨rfl, hb⟩
  replace HB := Lib.hid (HB.out.trans (hb.mono HB.out.size))
  replace HG := Lib.hid (Nat.le_trans HG.out hb.size)
  replace HD := Lib.hid (HD.out.below hb)
  clear hb
  go_wp2_with fail
  refine (toplan_any _).mono ?_
  rintro ex w9 ⟨rfl, hb⟩
  replace HB := Lib.hid (HB.out.trans (hb.mono HB.out.size))
  replace HG := Lib.hid (Nat.le_trans HG.out hb.size)
  replace HD := Lib.hid (HD.out.below hb)
  clear hb
  go_wp2_with fail
  have R1 := run_pol w9 Y.g
  unfold ptr at R1
  refine R1.mono ?_
  rintro ex w10 ⟨rfl, hb⟩
  replace HB := Lib.hid (HB.out.trans (hb.mono HB.out.size))
  replace HD := Lib.hid (HD.out.below hb)
  replace HG := Lib.hid (Nat.le_trans HG.out hb.size)
  clear hb R1
  go_wp2_with (first
    | (refine wpList_store_new rfl rfl ToT (.tmp 9) (.tmp 41) rfl told0 rfl rfl (by kernel_rfl) rfl (by kernel_rfl) ?_
       intro w11 hq4 hb4 hs4
       replace HB := Lib.hid (HB.out.trans (hb4.mono HB.out.size))
       replace HG := Lib.hid (Nat.le_trans HG.out hb4.size)
       replace HD := Lib.hid (HD.out.below hb4)
       clear hq4 hb4 hs4)
    | fail)
  refine (small_any _).mono ?_
  rintro ex w12 ⟨rfl, hb⟩
  replace HB := Lib.hid (HB.out.trans (hb.mono HB.out.size))
  replace HG := Lib.hid (Nat.le_trans HG.out hb.size)
  replace HD := Lib.hid (HD.out.below hb)
  clear hb
  go_wp2_with fail
  refine (toplan_any _).mono ?_
  rintro ex w13 ⟨rfl, hb⟩
  replace HB := Lib.hid (HB.out.trans (hb.mono HB.out.size))
  replace HG := Lib.hid (Nat.le_trans HG.out hb.size)
  replace HD := Lib.hid (HD.out.below hb)
  clear hb
  go_wp2_with fail
  have R1 := run_ok w4.heap.size 0 (by omega) w13 Y HG.out HD.out
  unfold ptr at R1
  refine R1.mono ?_
  rintro ex w14 ⟨rfl, hb⟩
  replace HB := Lib.hid (HB.out.trans (hb.mono HW4.out))
  clear hb R1 HD HG HW4
  go_wp2_with (first
    | (refine wpList_store_new rfl rfl ToT (.tmp 11) (.tmp 49) rfl told0 rfl rfl (by kernel_rfl) rfl (by kernel_rfl) ?_
       intro w15 hq4 hb4 hs4
       replace HB := Lib.hid (HB.out.trans (hb4.mono HB.out.size))
       have HQ := Lib.hid hq4
       clear hq4 hb4 hs4)
    | (go_guarded; refine wp_load_row ToT (.tmp 11) rfl w14.heap.size rfl ToT told0 _ _ HQ.out Tryz.underlying29 rfl (by kernel_rfl) ?_)
    | (go_guarded; refine wp_buildTold rfl ?_)
    | (go_guarded; refine wp_eqTold (.tmp 70) (.tmp 71) rfl rfl rfl ?_)
    | fail)
  refine (pol1 _).mono ?_
  rintro ex w16 ⟨rfl, hb⟩
  replace HB := Lib.hid (HB.out.trans (hb.mono HB.out.size))
  clear hb
  go_wp2_with fail
  refine (pol2 _).mono ?_
  rintro ex w17 ⟨rfl, hb⟩
  replace HB := Lib.hid (HB.out.trans (hb.mono HB.out.size))
  clear hb
  go_wp2_with fail
  refine (pol3 _).mono ?_
  rintro ex w18 ⟨rfl, hb⟩
  replace HB := Lib.hid (HB.out.trans (hb.mono HB.out.size))
  clear hb
  go_wp2_with fail
  refine (pol4 _).mono ?_
  rintro ex w19 ⟨rfl, hb⟩
  replace HB := Lib.hid (HB.out.trans (hb.mono HB.out.size))
  clear hb
  go_wp2_with fail
  go_ret
  exact ⟨rfl, HB.out⟩
end Go.Proofs.YthfnhhfobaocoaaGreatDoor.Gc
