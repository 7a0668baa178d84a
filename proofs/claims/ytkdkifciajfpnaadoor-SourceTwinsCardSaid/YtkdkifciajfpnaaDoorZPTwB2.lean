import Derived.Test.YtkdkifciajfpnaaDoorZPSrRows
set_option linter.unusedSimpArgs false
set_option linter.unusedVariables false
/-
  SourceTwins' walk: the same steps on both.
-/
namespace Go.Proofs.YtkdkifciajfpnaaDoor.Sr
open Go.RowKit Go.Maps Go.WideMaps Go.Proofs.YtkdkifciajfpnaaDoor.Rf Go.Proofs.YtkdkifciajfpnaaDoor.Nm Go.Proofs.YtkdkifciajfpnaaDoor.St
set_option linter.unusedSimpArgs false in
set_option maxHeartbeats 40000000 in
set_option maxRecDepth 100000 in
theorem tw_b2 {Q : Exit → Act → World → Prop} (u0 u2 u3 u4 u5 u6 u8 u11 u12 u13 u14 u15 u16 u17 u18 u19 u20 u21 u22 u23 u24 u25 u26 u27 u28 u29 u30 u31 u32 u33 u34 u35 u36 u37 u38 u39 u40 u41 u42 u43 u44 u45 u46 u47 u48 u49 u50 u51 u52 u53 u54 u55 u56 u57 u58 u59 u60 u61 u62 u63 u64 u65 u66 u67 u68 u69 u70 u71 u72 u73 u74 u75 u76 u77 u78 u79 u80 u81 u82 u83 u84 u85 u86 u87 u88 u89 u90 u91 u92 u93 u94 u95 u96 u97 u98 u99 u100 u101 : Value) {r r2 cap n : Nat} {a : Option Addr} {l : List Stp} {w wr : World} {T0 U0 : Tr}
    (hP : ∀ c (a a' : Act) w, a.defers = a'.defers → Q (.panic c) a w → Q (.panic c) a' w) (hlm : l.length ≤ 9223372036854775807) (HC : Hid (l ≠ [] → ∃ b o, a = some ⟨b, o, none⟩ ∧ b < w.heap.size ∧ ∀ (i : Nat) x, l[i]? = some x → x.At w b (o + i * 11))) (HF : Hid (∀ x ∈ l, x.Fits w)) (hn : n ≤ 40) (HST : Hid (Two w.heap.size wr r T0 r2 U0)) (HBN : Hid (Bnd T0 n ∧ U0.bare = T0.bare)) (HLW0 : Hid (Below w.heap.size w wr))
    (HK : ∀ (t6 t10 t34 t35 t36 t37 t38 t39 t40 t41 t42 t43 t44 t45 t46 t47 t48 t49 t50 t51 t52 t53 t54 t55 t56 : Value) (w' : World), (∃ T U : Tr, Two w.heap.size w' r T r2 U ∧ Bnd T (n + 40) ∧ U.bare = T.bare ∧ Below w.heap.size w w') → Q .normal ⟨#[u0, .slice a l.length cap, u2, u3, u4, u5, t6, .pointer (some ⟨r, 0, none⟩), u8, .pointer (some ⟨r2, 0, none⟩), t10, u11, u12, u13, u14, u15, u16, u17, u18, u19, u20, u21, u22, u23, u24, u25, u26, u27, u28, u29, u30, u31, u32, u33, t34, t35, t36, t37, t38, t39, t40, t41, t42, t43, t44, t45, t46, t47, t48, t49, t50, t51, t52, t53, t54, t55, t56, u57, u58, u59, u60, u61, u62, u63, u64, u65, u66, u67, u68, u69, u70, u71, u72, u73, u74, u75, u76, u77, u78, u79, u80, u81, u82, u83, u84, u85, u86, u87, u88, u89, u90, u91, u92, u93, u94, u95, u96, u97, u98, u99, u100, u101], []⟩ w') :
    Code.wp Tryd.prog (twB 2) Q ⟨#[u0, .slice a l.length cap, u2, u3, u4, u5, u6, .pointer (some ⟨r, 0, none⟩), u8, .pointer (some ⟨r2, 0, none⟩), .int .i64 0, u11, u12, u13, u14, u15, u16, u17, u18, u19, u20, u21, u22, u23, u24, u25, u26, u27, u28, u29, u30, u31, u32, u33, u34, u35, u36, u37, u38, u39, u40, u41, u42, u43, u44, u45, u46, u47, u48, u49, u50, u51, u52, u53, u54, u55, u56, u57, u58, u59, u60, u61, u62, u63, u64, u65, u66, u67, u68, u69, u70, u71, u72, u73, u74, u75, u76, u77, u78, u79, u80, u81, u82, u83, u84, u85, u86, u87, u88, u89, u90, u91, u92, u93, u94, u95, u96, u97, u98, u99, u100, u101], []⟩ wr := by
  have HKH := Lib.hid HK
  clear HK
  conv => arg 2; whnf
  go_wp2
  go_loopw [10] (fun v10 ws => ∃ i : Nat, i ≤ l.length ∧ i ≤ 40 ∧ v10 = .int .i64 (i : Int) ∧ ∃ T U : Tr, Hid (Two w.heap.size ws r T r2 U) ∧ Hid (Bnd T (n + i) ∧ U.bare = T.bare) ∧ Hid (Below w.heap.size w ws)) (fun v10 _ => l.length - (RowKit.intOf v10).toNat)
  case atStart => exact ⟨0, by omega, by omega, rfl, T0, U0, HST, HBN, HLW0⟩
  case round =>
    rename World => ws
    clear HST HLW0 HBN
    obtain ⟨i, hi, hi60, rfl, T, U, HS, HBD, HLW⟩ := hrel
    have HEND : Hid (Bnd T (n + 40)) := Lib.hid ⟨HBD.out.1.good.mono (by omega), by have := HBD.out.1.reads; omega⟩
    by_cases hil : (i : Int) < (l.length : Int)
    · by_cases hi6 : (i : Int) < 40
      · have hi2 : i < l.length := by omega
        obtain ⟨x, hx⟩ : ∃ x, l[i]? = some x := ⟨_, List.getElem?_eq_getElem hi2⟩
        obtain ⟨ba, oa, rfl, hba, hca⟩ := HC.out (fun h => by rw [h] at hi2; cases hi2)
        have hfx := HF.out x (List.mem_of_getElem? hx)
        have HRG : Hid (∀ W, Below w.heap.size w W → W.rangeAt ba (oa + i * 11) x.cells) := Lib.hid (fun W hb j u hj => (hb.cell (p := ⟨ba, oa + i * 11 + j, none⟩) hba).trans (hca i x hx j u hj))
        have HFX := Lib.hid hfx
        have HXE0 : Hid ((Tryd.prog.info? 28).map (·.size) = some x.cells.toArray.size) := Lib.hid (infoStp x)
        clear hx hca hfx
        have RU := run18_any w.heap.size ws.drew r T x (HFX.out.below HLW.out.drew) (n + i) (by omega) HBD.out.1.good (by have := HBD.out.1.reads; omega) HLW.out.size (HS.out.t.below (Below.refl _ ws).drew)
        have HS' : Hid (Two w.heap.size ws.drew r T r2 U) := Lib.hid (HS.out.below (Below.refl _ ws).drew)
        have HS := HS'
        have HLWD : Hid (Below w.heap.size w ws.drew) := Lib.hid HLW.out.drew
        unfold ptr at RU
        have RU := Lib.hid RU
        have hre := runE_bare x T
        have hre2 := runE_bare x U
        rw [HBD.out.2, hre] at hre2
        have HRE := Lib.hid hre2
        obtain ⟨XC, hXC⟩ : ∃ XC, XC = x.cells := ⟨_, rfl⟩
        rw [← hXC] at HRG RU HXE0
        have HRG2 := HRG
        have HXC := Lib.hid hXC
        clear hXC HRG hre hre2 HS'
        go_upto_region 12 with (fail)
        refine wp_region_held_drew (S := (fun w' : World => w'.rangeAt ba (oa + i * 11) XC)) (by kernel_rfl) (HRG2.out _ HLW.out.drew) (fun hHeld => ?_)
        refine wpAnyH_take (i := 0) (v := ?_) rfl (by kernel_rfl) (by kernel_rfl) (by kernel_rfl) (fun _ _ _ h => hP _ _ _ _ (by rfl) h) (Or.inl ⟨by rfl, ?t120⟩) hHeld ?_
        case t120 =>
          intro wS hSw
          have k0 := hSw
          go_simp
          try with_reducible rfl
        try simp only [Act.put, List.getElem_toArray, List.getElem_cons_zero, List.getElem_cons_succ, List.setIfInBounds_toArray, List.set_cons_zero, List.set_cons_succ]
        refine wpAnyH_take (i := 1) (v := ?_) rfl (by kernel_rfl) (by kernel_rfl) (by kernel_rfl) (fun _ _ _ h => hP _ _ _ _ (by rfl) h) (Or.inl ⟨by rfl, ?t121⟩) hHeld ?_
        case t121 =>
          intro wS hSw
          have k0 := hSw
          go_simp
          try with_reducible rfl
        try simp only [Act.put, List.getElem_toArray, List.getElem_cons_zero, List.getElem_cons_succ, List.setIfInBounds_toArray, List.set_cons_zero, List.set_cons_succ]
        refine wpAnyH_take (i := 2) (v := ?_) rfl (by kernel_rfl) (by kernel_rfl) (by kernel_rfl) (fun _ _ _ h => hP _ _ _ _ (by rfl) h) (Or.inl ⟨by rfl, ?t122⟩) hHeld ?_
        case t122 =>
          intro wS hSw
          have k0 := hSw
          go_simp
          try with_reducible rfl
        try simp only [Act.put, List.getElem_toArray, List.getElem_cons_zero, List.getElem_cons_succ, List.setIfInBounds_toArray, List.set_cons_zero, List.set_cons_succ]
        refine wpAnyH_take (i := 3) (v := ?_) rfl (by kernel_rfl) (by kernel_rfl) (by kernel_rfl) (fun _ _ _ h => hP _ _ _ _ (by rfl) h) (Or.inl ⟨by rfl, ?t123⟩) hHeld ?_
        case t123 =>
          intro wS hSw
          have k0 := hSw
          go_simp
          try with_reducible rfl
        try simp only [Act.put, List.getElem_toArray, List.getElem_cons_zero, List.getElem_cons_succ, List.setIfInBounds_toArray, List.set_cons_zero, List.set_cons_succ]
        refine' wpAnyH_take (i := 4) (v := _) rfl (by kernel_rfl) (by kernel_rfl) (by kernel_rfl) (fun _ _ _ h => hP _ _ _ _ (by rfl) h) (yieldsIf_load_mid (by rfl) _ _ rfl ba (oa + i * 11) rfl XC _ ?t124S ?t124u ?t124d ?t124i) hHeld ?t124x
        case t124S =>
          intro wS hSw
          have k0 := hSw
          exact k0
        case t124u => exact Tryd.underlying28
        case t124d => rfl
        case t124i => exact HXE0.out
        try simp only [Act.put, List.getElem_toArray, List.getElem_cons_zero, List.getElem_cons_succ, List.setIfInBounds_toArray, List.set_cons_zero, List.set_cons_succ]
        refine wpAnyH_take (i := 6) (v := ?_) rfl (by kernel_rfl) (by kernel_rfl) (by kernel_rfl) (fun _ _ _ h => hP _ _ _ _ (by rfl) h) (Or.inl ⟨by rfl, ?t125⟩) hHeld ?_
        case t125 =>
          intro wS hSw
          have k0 := hSw
          go_simp
          try with_reducible rfl
        try simp only [Act.put, List.getElem_toArray, List.getElem_cons_zero, List.getElem_cons_succ, List.setIfInBounds_toArray, List.set_cons_zero, List.set_cons_succ]
        refine wpAnyH_take (i := 7) (v := ?_) rfl (by kernel_rfl) (by kernel_rfl) (by kernel_rfl) (fun _ _ _ h => hP _ _ _ _ (by rfl) h) (Or.inl ⟨by rfl, ?t126⟩) hHeld ?_
        case t126 =>
          intro wS hSw
          have k0 := hSw
          go_simp
          try with_reducible rfl
        try simp only [Act.put, List.getElem_toArray, List.getElem_cons_zero, List.getElem_cons_succ, List.setIfInBounds_toArray, List.set_cons_zero, List.set_cons_succ]
        refine wpAnyH_take (i := 8) (v := ?_) rfl (by kernel_rfl) (by kernel_rfl) (by kernel_rfl) (fun _ _ _ h => hP _ _ _ _ (by rfl) h) (Or.inl ⟨by rfl, ?t127⟩) hHeld ?_
        case t127 =>
          intro wS hSw
          have k0 := hSw
          go_simp
          try with_reducible rfl
        try simp only [Act.put, List.getElem_toArray, List.getElem_cons_zero, List.getElem_cons_succ, List.setIfInBounds_toArray, List.set_cons_zero, List.set_cons_succ]
        refine wpAnyH_take (i := 9) (v := ?_) rfl (by kernel_rfl) (by kernel_rfl) (by kernel_rfl) (fun _ _ _ h => hP _ _ _ _ (by rfl) h) (Or.inl ⟨by rfl, ?t128⟩) hHeld ?_
        case t128 =>
          intro wS hSw
          have k0 := hSw
          go_simp
          try with_reducible rfl
        try simp only [Act.put, List.getElem_toArray, List.getElem_cons_zero, List.getElem_cons_succ, List.setIfInBounds_toArray, List.set_cons_zero, List.set_cons_succ]
        refine' wpAnyH_take (i := 10) (v := _) rfl (by kernel_rfl) (by kernel_rfl) (by kernel_rfl) (fun _ _ _ h => hP _ _ _ _ (by rfl) h) (yieldsIf_load_mid (by rfl) _ _ rfl ba (oa + i * 11) rfl XC _ ?t129S ?t129u ?t129d ?t129i) hHeld ?t129x
        case t129S =>
          intro wS hSw
          have k0 := hSw
          exact k0
        case t129u => exact Tryd.underlying28
        case t129d => rfl
        case t129i => exact HXE0.out
        try simp only [Act.put, List.getElem_toArray, List.getElem_cons_zero, List.getElem_cons_succ, List.setIfInBounds_toArray, List.set_cons_zero, List.set_cons_succ]
        refine wpAnyH_ready (rs := [5]) (by kernel_rfl) (by simp) ?_
        refine AllReadyH.cons rfl (fun K hK => ?_) AllReadyH.nil
        go_simp
        refine RU.out.mono ?_
        rintro ez w3 hpost
        obtain ⟨rfl, T1, heff1, hbd1, hbr1⟩ := run_eff HS.out.t HBD.out.1 hpost
        have HE1 := Lib.hid heff1; have HD1 := Lib.hid hbd1; have HR1 := Lib.hid hbr1
        have HL3 := Lib.hid (HLWD.out.trans (heff1.below HS.out.t HLWD.out.size))
        have HS3 := Lib.hid (HS.out.eff heff1)
        clear hpost heff1 hbd1 hbr1
        go_wp2_with fail
        refine hK.out _ _ (HRG2.out w3 HL3.out) (fun hHeld2 => ?_)
        clear hK K hHeld
        have hHeld := hHeld2
        clear hHeld2
        try simp only [Act.put, List.getElem_toArray, List.getElem_cons_zero, List.getElem_cons_succ, List.setIfInBounds_toArray, List.set_cons_zero, List.set_cons_succ]
        refine wpAnyH_ready (rs := [11]) (by kernel_rfl) (by simp) ?_
        refine AllReadyH.cons rfl (fun K hK => ?_) AllReadyH.nil
        have RV := run18_any w.heap.size w3 r2 U x (HFX.out.below HL3.out) (n + i) (by omega) (HBD.out.1.of_bare HBD.out.2).good (by have := (HBD.out.1.of_bare HBD.out.2).reads; omega) HL3.out.size HS3.out.u
        unfold ptr at RV
        rw [← HXC.out] at RV
        go_simp
        refine RV.mono ?_
        rintro ez w4 hpost
        obtain ⟨rfl, U1, heff2, hbd2, hbr2⟩ := run_eff HS3.out.u (HBD.out.1.of_bare HBD.out.2) hpost
        have HR2 := Lib.hid hbr2
        have HL4 := Lib.hid (HL3.out.trans (heff2.below HS3.out.u HL3.out.size))
        have HS4 := Lib.hid (HS3.out.symm.eff heff2).symm
        clear hpost heff2 hbd2 hbr2 RV
        go_wp2_with fail
        refine hK.out _ _ (HRG2.out w4 HL4.out) (fun hHeld2 => ?_)
        clear hK K hHeld
        have hHeld := hHeld2
        clear hHeld2
        try simp only [Act.put, List.getElem_toArray, List.getElem_cons_zero, List.getElem_cons_succ, List.setIfInBounds_toArray, List.set_cons_zero, List.set_cons_succ]
        refine wpAnyH_take (i := 12) (v := ?_) rfl (by kernel_rfl) (by kernel_rfl) (by kernel_rfl) (fun _ _ _ h => hP _ _ _ _ (by rfl) h) (Or.inl ⟨by rfl, ?t1212⟩) hHeld ?_
        case t1212 =>
          intro wS hSw
          have k0 := hSw
          go_simp
          try with_reducible rfl
        try simp only [Act.put, List.getElem_toArray, List.getElem_cons_zero, List.getElem_cons_succ, List.setIfInBounds_toArray, List.set_cons_zero, List.set_cons_succ]
        refine wpAnyH_done (by kernel_rfl) ?_ _
        clear hHeld
        try simp only [Act.put, List.getElem_toArray, List.getElem_cons_zero, List.getElem_cons_succ, List.setIfInBounds_toArray, List.set_cons_zero, List.set_cons_succ]
        rw [← HRE.out]
        have HB4 : Hid (U1.bare = T1.bare) := Lib.hid (by rw [HR2.out, HR1.out, HBD.out.2])
        go_wp2
        go_roundw
        case rel => exact ⟨i + 1, by omega, by omega, by go_num, T1, U1, HS4, Lib.hid ⟨HD1.out, HB4.out⟩, HL4⟩
        case measure => simp [RowKit.intOf]; omega
      · go_wp2
        exact HKH.out _ _ _ _ _ _ _ _ _ _ _ _ _ _ _ _ _ _ _ _ _ _ _ _ _ _ ⟨T, U, HS.out, HEND.out, HBD.out.2, HLW.out⟩
    · go_wp2
      exact HKH.out _ _ _ _ _ _ _ _ _ _ _ _ _ _ _ _ _ _ _ _ _ _ _ _ _ _ ⟨T, U, HS.out, HEND.out, HBD.out.2, HLW.out⟩
end Go.Proofs.YtkdkifciajfpnaaDoor.Sr
