import Derived.Test.YtnkapojbijbbaaaGreatDoorZPSrLawSt
import Derived.Test.YtnkapojbijbbaaaGreatDoorZPChP10
import Derived.Test.YtnkapojbijbbaaaGreatDoorZPChP14
set_option linter.unusedSimpArgs false
set_option linter.unusedVariables false
set_option maxHeartbeats 40000000
set_option maxRecDepth 100000
namespace Go.Proofs.YtnkapojbijbbaaaGreatDoor.Sr
open Go.RowKit Go.Maps Go.WideMaps Rf Go.Proofs.YtnkapojbijbbaaaGreatDoor.Nm St
theorem ch_b0 {Q : Exit → Act → World → Prop} (u1 u2 u8 u9 u10 u11 u12 u13 u14 u15 u16 u17 u18 u19 u20 u21 u22 u23 u24 u25 u26 u27 u28 u29 u30 u31 u32 u33 u34 u35 u36 u37 u38 u39 u40 u41 u42 u43 u44 u45 u46 u47 u48 u49 u50 u51 u52 u53 u54 u55 u56 u57 u58 u59 u60 u61 u62 u63 u64 u65 u66 u67 u68 u69 u70 u71 u72 u73 u74 u75 u76 u77 u78 u79 u80 u81 u82 u83 u84 u85 u86 u87 u88 u89 u90 u91 u92 u93 u94 u95 u96 u97 u98 u99 u100 u101 u102 u103 u104 u105 u106 u107 u108 u109 u110 u111 u112 u113 u114 u115 u116 u117 u118 u119 u120 u121 u122 u123 u124 u125 u126 u127 u128 u129 u130 u131 u132 u133 u134 u135 u136 u137 u138 u139 u140 u141 u142 u143 u144 u145 u146 u147 u148 u149 u150 u151 u152 u153 u154 u155 u156 u157 u158 u159 u160 u161 u162 u163 u164 u165 u166 u167 u168 u169 u170 u171 u172 u173 u174 u175 u176 u177 u178 u179 : Value) {r g b q j cap : Nat} {a : Option Addr} {l : List Chg} {w wr : World} {T0 : Tr} {qv0 jv0 : Value} {R0 : List RN}
 (hP : ∀ c (a a' : Act) w, a.defers = a'.defers → Q (.panic c) a w → Q (.panic c) a' w) (hlm : l.length ≤ 9223372036854775807) (HC : Hid (l ≠ [] → ∃ b o, a = some ⟨b, o, none⟩ ∧ b < w.heap.size ∧ ∀ (i : Nat) x, l[i]? = some x → w.rangeAt b (o + i * 4) x.cells)) (HF : Hid (∀ x ∈ l, x.Fits)) (HTB : Hid (Tabs w)) (HST : Hid (ChSt w.heap.size wr r T0 g b [] q qv0 R0 T0.bare j jv0 [])) (HG0 : Hid (Good 0 T0 ∧ T0.clock ≤ 0)) (HLW0 : Hid (Below w.heap.size w wr))
 (HK : ∀ (t2 t7 t8 t9 t10 t11 t12 t13 t14 t15 t16 t17 t18 t24 t25 t26 t27 t28 t29 t30 t31 t32 t33 t34 t35 t36 t37 t38 t39 t40 t41 t42 t43 t44 t45 t46 t47 t48 t49 t50 t51 t52 t53 t54 t55 t56 t57 t58 t59 t60 t61 t62 t63 t64 t65 t66 t67 t68 t69 t70 t71 t72 t73 t74 t75 t76 t77 t78 t79 t80 t81 t82 t83 t84 t85 t86 t87 t88 t89 t90 t91 t92 t93 t94 t95 t96 t97 t98 t99 t100 t101 t102 t103 t104 t105 t106 t107 t108 t109 t110 t111 t112 t113 t114 t115 t116 t117 t118 t119 t120 t121 t122 t123 t124 t125 t126 t127 t128 t129 t130 t131 t132 t133 t134 t135 t136 t137 t138 t139 t140 t141 t142 t143 t144 t145 t146 t147 t148 t149 t150 t151 t152 t153 t154 t155 t156 t157 t158 t159 t160 t161 t162 t163 t164 t165 t166 t167 t168 t169 t170 t171 t172 t173 t174 t175 t176 t177 t178 t179 : Value) (w' : World), (Below w.heap.size w w') → Q .normal ⟨#[.slice a l.length cap, u1, t2, .pointer (some ⟨r, 0, none⟩), .pointer (some ⟨q, 0, none⟩), .pointer (some ⟨g, 0, none⟩), .pointer (some ⟨j, 0, none⟩), t7, t8, t9, t10, t11, t12, t13, t14, t15, t16, t17, t18, u19, u20, u21, u22, u23, t24, t25, t26, t27, t28, t29, t30, t31, t32, t33, t34, t35, t36, t37, t38, t39, t40, t41, t42, t43, t44, t45, t46, t47, t48, t49, t50, t51, t52, t53, t54, t55, t56, t57, t58, t59, t60, t61, t62, t63, t64, t65, t66, t67, t68, t69, t70, t71, t72, t73, t74, t75, t76, t77, t78, t79, t80, t81, t82, t83, t84, t85, t86, t87, t88, t89, t90, t91, t92, t93, t94, t95, t96, t97, t98, t99, t100, t101, t102, t103, t104, t105, t106, t107, t108, t109, t110, t111, t112, t113, t114, t115, t116, t117, t118, t119, t120, t121, t122, t123, t124, t125, t126, t127, t128, t129, t130, t131, t132, t133, t134, t135, t136, t137, t138, t139, t140, t141, t142, t143, t144, t145, t146, t147, t148, t149, t150, t151, t152, t153, t154, t155, t156, t157, t158, t159, t160, t161, t162, t163, t164, t165, t166, t167, t168, t169, t170, t171, t172, t173, t174, t175, t176, t177, t178, t179], []⟩ w') :
 Code.wp Tryz.prog (chB 0) Q ⟨#[.slice a l.length cap, u1, u2, .pointer (some ⟨r, 0, none⟩), .pointer (some ⟨q, 0, none⟩), .pointer (some ⟨g, 0, none⟩), .pointer (some ⟨j, 0, none⟩), .int .i64 0, u8, u9, u10, u11, u12, u13, u14, u15, u16, u17, u18, u19, u20, u21, u22, u23, u24, u25, u26, u27, u28, u29, u30, u31, u32, u33, u34, u35, u36, u37, u38, u39, u40, u41, u42, u43, u44, u45, u46, u47, u48, u49, u50, u51, u52, u53, u54, u55, u56, u57, u58, u59, u60, u61, u62, u63, u64, u65, u66, u67, u68, u69, u70, u71, u72, u73, u74, u75, u76, u77, u78, u79, u80, u81, u82, u83, u84, u85, u86, u87, u88, u89, u90, u91, u92, u93, u94, u95, u96, u97, u98, u99, u100, u101, u102, u103, u104, u105, u106, u107, u108, u109, u110, u111, u112, u113, u114, u115, u116, u117, u118, u119, u120, u121, u122, u123, u124, u125, u126, u127, u128, u129, u130, u131, u132, u133, u134, u135, u136, u137, u138, u139, u140, u141, u142, u143, u144, u145, u146, u147, u148, u149, u150, u151, u152, u153, u154, u155, u156, u157, u158, u159, u160, u161, u162, u163, u164, u165, u166, u167, u168, u169, u170, u171, u172, u173, u174, u175, u176, u177, u178, u179], []⟩ wr := by
 have HKH := Lib.hid HK
 clear HK
 conv => arg 2; whnf
 go_wp2
 go_loopw [7] (fun v7 ws => ∃ i : Nat, i ≤ l.length ∧ i ≤ 80 ∧ v7 = .int .i64 (i : Int) ∧ ∃ (T : Tr) (X : List SE) (qv : Value) (R : List RN) (jv : Value), Hid (ChSt w.heap.size ws r T g b X q qv R T.bare j jv X) ∧ Hid (Good i T ∧ T.clock ≤ i) ∧ Hid (Below w.heap.size w ws)) (fun v7 _ => l.length - (RowKit.intOf v7).toNat)
 case atStart => exact ⟨0, by omega, by omega, rfl, T0, [], qv0, R0, jv0, HST, HG0, HLW0⟩
 case round =>
  rename World => ws
  clear HST HLW0 HG0
  obtain ⟨i, hi, hi80, rfl, T, X, qv, R, jv, HS, HG, HLW⟩ := hrel
  by_cases hil : (i : Int) < (l.length : Int)
  · by_cases hi8 : (i : Int) < 80
    · skip
      have hi2 : i < l.length := by omega
      obtain ⟨x, hx⟩ : ∃ x, l[i]? = some x := ⟨_, List.getElem?_eq_getElem hi2⟩
      obtain ⟨ba, oa, rfl, hba, hca⟩ := HC.out (fun h => by rw [h] at hi2; cases hi2)
      have hfx := HF.out x (List.mem_of_getElem? hx)
      have HRG : Hid (∀ W, Below w.heap.size w W → W.rangeAt ba (oa + i * 4) x.cells) := Lib.hid (fun W hb z u hz => (hb.cell (p := ⟨ba, oa + i * 4 + z, none⟩) hba).trans (hca i x hx z u hz))
      clear hx hca
      go_upto_region 8 with (fail)
      refine ch_p8 _ _ _ _ _ _ _ _ _ _ _ _ _ _ _ _ _ _ _ _ _ _ _ _ _ _ _ _ _ _ _ _ _ _ _ _ _ _ _ _ _ _ _ _ _ _ _ _ _ _ _ _ _ _ _ _ _ _ _ _ _ _ _ _ _ _ _ _ _ _ _ _ _ _ _ _ _ _ _ _ _ _ _ _ _ _ _ _ _ _ _ _ _ _ _ _ _ _ _ _ _ _ _ _ _ _ _ _ _ _ _ _ _ _ _ _ _ _ _ _ _ _ _ _ _ _ _ _ _ _ _ _ _ _ _ _ _ _ _ _ _ _ _ _ _ _ _ _ _ _ _ _ _ _ _ _ _ _ _ _ _ _ _ _ _ _ _ _ _ _ _ _ _ _ _ _ (fun c a a' w hd h => hP c a a' w hd h) hil hlm HRG hfx HTB HS HG (by omega) HLW ?_
      intro t34 t35 t36 t37 t38 t39 t40 t41 t42 t43 t44 t45 t46 t47 t48 w4 h4
      obtain ⟨T1, qv1, R1, hs4, hg4, hc4, hl4⟩ := h4
      have HS4 := Lib.hid hs4; have HL4 := Lib.hid hl4
      have HG7 : Hid (Good (i + 1) T1 ∧ T1.clock ≤ i + 1) := Lib.hid ⟨hg4, hc4⟩
      clear hs4 hg4 hc4 hl4 HS HG HLW
      go_upto_region 10 with (fail)
      refine ch_p10 _ _ _ _ _ _ _ _ _ _ _ _ _ _ _ _ _ _ _ _ _ _ _ _ _ _ _ _ _ _ _ _ _ _ _ _ _ _ _ _ _ _ _ _ _ _ _ _ _ _ _ _ _ _ _ _ _ _ _ _ _ _ _ _ _ _ _ _ _ _ _ _ _ _ _ _ _ _ _ _ _ _ _ _ _ _ _ _ _ _ _ _ _ _ _ _ _ _ _ _ _ _ _ _ _ _ _ _ _ _ _ _ _ _ _ _ _ _ _ _ _ _ _ _ _ _ _ _ _ _ _ _ _ _ _ _ _ _ _ _ _ _ _ _ _ _ _ _ _ _ _ _ _ _ _ _ _ _ _ _ _ _ _ _ _ _ _ _ _ _ _ _ _ _ _ _ _ (fun c a a' w hd h => hP c a a' w hd h) (g := g) (b := b) (q := q) (j := j) (X := X) (qv := qv) (jv := jv) (R := R1) (k := i + 1) hil hlm HRG hfx (Lib.hid HS4.out.tree) HL4 ?_
      intro t8 t50 t51 t52 t53 t54 t55 t56 t57 t58 t59 w5 h5
      obtain ⟨s8, rfl, hq8, hs8, hb5⟩ := h5
      have HS5 := Lib.hid (HS4.out.below hb5)
      have HL5 : Hid (Below w.heap.size w w5) := Lib.hid (HL4.out.trans (hb5.mono HL4.out.size))
      have HQ8 := Lib.hid hq8
      have HB8b : Hid (b < s8) := Lib.hid (Nat.lt_of_lt_of_le HS4.out.idx.lt_b hs8)
      clear hq8 hs8 hb5 HS4 HL4
      go_upto_region 11 with (fail)
      refine ch_p11 _ _ _ _ _ _ _ _ _ _ _ _ _ _ _ _ _ _ _ _ _ _ _ _ _ _ _ _ _ _ _ _ _ _ _ _ _ _ _ _ _ _ _ _ _ _ _ _ _ _ _ _ _ _ _ _ _ _ _ _ _ _ _ _ _ _ _ _ _ _ _ _ _ _ _ _ _ _ _ _ _ _ _ _ _ _ _ _ _ _ _ _ _ _ _ _ _ _ _ _ _ _ _ _ _ _ _ _ _ _ _ _ _ _ _ _ _ _ _ _ _ _ _ _ _ _ _ _ _ _ _ _ _ _ _ _ _ _ _ _ _ _ _ _ _ _ _ _ _ _ _ _ _ _ _ _ _ _ _ _ _ _ _ _ _ _ _ _ _ _ _ _ _ _ _ _ _ (fun c a a' w hd h => hP c a a' w hd h) (r := r) (g := g) (b := b) (j := j) (X := X) (jv := jv) (k := i + 1) hil hlm HRG hfx (Lib.hid HS5.out.rt) (Lib.hid (HTB.out.below HL5.out)) (Lib.hid (goodF_of HS5.out.tree HG7.out.1)) (by omega) HL5 ?_
      intro t10 t60 t61 t62 t63 t64 t65 t66 t67 t68 t69 w6 h6
      obtain ⟨s10, rfl, hq10, hs10, hb6⟩ := h6
      have HS6 := Lib.hid (HS5.out.below hb6)
      have HL6 : Hid (Below w.heap.size w w6) := Lib.hid (HL5.out.trans (hb6.mono HL5.out.size))
      have HQ8' := Lib.hid ((hb6.block _ (lt_of_heap HQ8.out)).trans HQ8.out)
      have HQ10 := Lib.hid hq10
      have HB10b : Hid (s10 ≠ b ∧ s10 ∉ j :: ob jv) := Lib.hid ⟨by have := HS5.out.idx.lt_b; omega, fun hc => by
       rcases List.mem_cons.1 hc with hc | hc
       · have := HS5.out.rix.lt; omega
       · have := rowS_lt HS5.out.rix.row _ hc; omega⟩
      have k0 : w6.cell? ⟨ba, oa + i * 4, none⟩ = some (.int .i64 x.kind) := HRG.out w6 HL6.out 0 _ rfl
      clear hq10 hs10 hb6 HS5 HL5 HQ8
      obtain ⟨fe, hfe⟩ : ∃ fe, fe = findE x.path T1.L := ⟨_, rfl⟩
      rw [← hfe]
      clear hfe
      by_cases h6 : x.kind = 6
      · by_cases h0 : fe = 0
        · skip
          have hk6 : (x.kind == 6) = true := by rw [beq_iff_eq]; exact h6
          have hfe0 : (fe == 0) = true := by rw [beq_iff_eq]; exact h0
          go_upto_region 13 with (fail)
          refine ch_p13 _ _ _ _ _ _ _ _ _ _ _ _ _ _ _ _ _ _ _ _ _ _ _ _ _ _ _ _ _ _ _ _ _ _ _ _ _ _ _ _ _ _ _ _ _ _ _ _ _ _ _ _ _ _ _ _ _ _ _ _ _ _ _ _ _ _ _ _ _ _ _ _ _ _ _ _ _ _ _ _ _ _ _ _ _ _ _ _ _ _ _ _ _ _ _ _ _ _ _ _ _ _ _ _ _ _ _ _ _ _ _ _ _ _ _ _ _ _ _ _ _ _ _ _ _ _ _ _ _ _ _ _ _ _ _ _ _ _ _ _ _ _ _ _ _ _ _ _ _ _ _ _ _ _ _ _ _ _ _ _ _ _ _ _ _ _ _ _ _ _ _ _ _ _ _ _ (fun c a a' w hd h => hP c a a' w hd h) (k := i + 1) hil hlm HRG hfx HS6 HG7 (by omega) HL6 HQ8' HB8b ?_
          intro t84 t85 t86 t87 t88 t89 t90 t91 t92 t93 t94 t95 t96 t97 t98 w6b h6b
          obtain ⟨hs6b, hl6b, hu6b⟩ := h6b
          have HS6b := Lib.hid hs6b; have HL6b := Lib.hid hl6b
          have HQ10' := Lib.hid ((hu6b.block _ (lt_of_heap HQ10.out) (by simpa using HB10b.out.1)).trans HQ10.out)
          clear hs6b hl6b hu6b HS6 HL6 HQ8' HQ10 k0
          go_upto_region 14 with (fail)
          refine ch_p14 _ _ _ _ _ _ _ _ _ _ _ _ _ _ _ _ _ _ _ _ _ _ _ _ _ _ _ _ _ _ _ _ _ _ _ _ _ _ _ _ _ _ _ _ _ _ _ _ _ _ _ _ _ _ _ _ _ _ _ _ _ _ _ _ _ _ _ _ _ _ _ _ _ _ _ _ _ _ _ _ _ _ _ _ _ _ _ _ _ _ _ _ _ _ _ _ _ _ _ _ _ _ _ _ _ _ _ _ _ _ _ _ _ _ _ _ _ _ _ _ _ _ _ _ _ _ _ _ _ _ _ _ _ _ _ _ _ _ _ _ _ _ _ _ _ _ _ _ _ _ _ _ _ _ _ _ _ _ _ _ _ _ _ _ _ _ _ _ _ _ _ _ _ _ _ _ (fun c a a' w hd h => hP c a a' w hd h) (k := i + 1) hil hlm HRG hfx HS6b HG7 (by omega) HL6b HQ10' HTB (Lib.hid HB10b.out.2) ?_
          intro t99 t100 t101 t102 t103 t104 t105 t106 t107 t108 t109 t110 t111 t112 t113 w7 h7
          obtain ⟨jv1, hs7, hl7⟩ := h7
          obtain ⟨X1, hX1⟩ : ∃ X1, X1 = (setX (entM x.path x.more T1.L) X).2 := ⟨_, rfl⟩
          rw [← hX1] at hs7
          have HS7 := Lib.hid hs7; have HL7 := Lib.hid hl7
          clear hs7 hl7 hX1 HS6b HL6b HQ10' HB10b HB8b
          have RD := reads_any w.heap.size w7 r T1 HS7.out.tree
          unfold ptr at RD
          have RD := Lib.hid RD
          have CH := changed_any w.heap.size w7 g b X1 HS7.out.idx w.heap.size r T1 (HG7.out.1.fine (by omega)) (by have := HG7.out.1.len; omega) HS7.out.tree
          unfold ptr at CH
          have CH := Lib.hid CH
          obtain ⟨C, hC⟩ : ∃ C, C = chgL X1 T1.L := ⟨_, rfl⟩
          have HCC := Lib.hid hC
          have hcl : C.length ≤ 1000 := by rw [hC]; have h1 := chgL_len X1 T1.L; have h2 := HG7.out.1.len; omega
          rw [← hC] at CH
          clear hC
          go_wp2_with (first
           | (refine RD.out.mono ?_; rintro ex wx ⟨rfl, hwx⟩; obtain rfl : w7 = wx := hwx.symm; clear hwx RD)
           | fail)
          refine CH.out.mono ?_
          rintro ex w8 ⟨v13, rfl, ho8, hb8⟩
          have HS8 := Lib.hid (HS7.out.below hb8)
          have HL8 : Hid (Below w.heap.size w w8) := Lib.hid (HL7.out.trans (hb8.mono HL7.out.size))
          have HB8 := Lib.hid hb8
          have HO3 := Lib.hid ho8
          obtain ⟨a3, c3, rfl⟩ := rowS_slice ho8
          have CH2 := changed_any w.heap.size w8 g b X1 HS8.out.idx w.heap.size r T1 (HG7.out.1.fine (by omega)) (by have := HG7.out.1.len; omega) HS8.out.tree
          unfold ptr at CH2
          rw [← HCC.out] at CH2
          have CH2 := Lib.hid CH2
          clear hb8 ho8 CH
          go_wp2_with fail
          refine CH2.out.mono ?_
          rintro ex w9 ⟨v15, rfl, ho9, hb9⟩
          have HS9 := Lib.hid (HS8.out.below hb9)
          have HL9 : Hid (Below w.heap.size w w9) := Lib.hid (HL8.out.trans (hb9.mono HL8.out.size))
          have HB9 : Hid (Below w7.heap.size w7 w9) := Lib.hid (HB8.out.trans (hb9.mono HB8.out.size))
          have HO39 := Lib.hid (rowS_kept HO3.out (fun y hy hl => hb9.block y hl))
          have HO5 := Lib.hid ho9
          have HSZ9 : Hid (w8.heap.size ≤ w9.heap.size) := Lib.hid hb9.size
          have HSZ89 : Hid (∀ y ∈ ob (.slice a3 C.length c3), y < w8.heap.size) := Lib.hid (rowS_lt HO3.out)
          obtain ⟨a5, c5, rfl⟩ := rowS_slice ho9
          have RC := rchanged_any w.heap.size w9 j jv1 X1 HS9.out.rix w.heap.size q qv1 R1 T1.bare (i + 1) (HTB.out.below HL9.out) (goodF_of HS9.out.tree HG7.out.1) (by omega) HS9.out.rt
          unfold ptr at RC
          rw [show chgL X1 T1.bare.L = C from (chgL_bare _ _).trans HCC.out.symm] at RC
          have RC := Lib.hid RC
          clear hb9 ho9 CH2 HS8
          go_wp2_with fail
          refine RC.out.mono ?_
          rintro ex w10 ⟨v17, rfl, ho10, hb10⟩
          have HS10 := Lib.hid (HS9.out.below hb10)
          have HL10 : Hid (Below w.heap.size w w10) := Lib.hid (HL9.out.trans (hb10.mono HL9.out.size))
          have HB10 : Hid (Below w7.heap.size w7 w10) := Lib.hid (HB9.out.trans (hb10.mono HB9.out.size))
          have HO3X := Lib.hid (rowS_kept HO39.out (fun y hy hl => hb10.block y hl))
          have HO5X := Lib.hid (rowS_kept HO5.out (fun y hy hl => hb10.block y hl))
          have HO7X := Lib.hid ho10
          obtain ⟨a7, c7, rfl⟩ := rowS_slice ho10
          have RD2 := reads_any w.heap.size w10 r T1 HS10.out.tree
          unfold ptr at RD2
          have RD2 := Lib.hid RD2
          clear hb10 ho10 RC HS9 HO39 HO3 HO5
          go_upto_block 2 with (first
           | (refine RD2.out.mono ?_; rintro ex wx ⟨rfl, hwx⟩; obtain rfl : w10 = wx := hwx.symm; clear hwx RD2)
           | fail)
          by_cases hC0 : C = []
          · subst hC0
            refine ch_b2z _ _ _ _ _ _ _ _ _ _ _ _ _ _ _ _ _ _ _ _ _ _ _ _ _ _ _ _ _ _ _ _ _ _ _ _ _ _ _ _ _ _ _ _ _ _ _ _ _ _ _ _ _ _ _ _ _ _ _ _ _ _ _ _ _ _ _ _ _ _ _ _ _ _ _ _ _ _ _ _ _ _ _ _ _ _ _ _ _ _ _ _ _ _ _ _ _ _ _ _ _ _ _ _ _ _ _ _ _ _ _ _ _ _ _ _ _ _ _ _ _ _ _ _ _ _ _ _ _ _ _ _ _ _ _ _ _ _ _ _ _ _ _ _ _ _ _ _ _ _ _ _ _ _ _ _ _ _ _ _ _ _ _ _ _ _ _ _ _ _ _ _ _ _ _ _ (fun c a a' w hd h => hP c a a' w hd h) ?_
            intro t2 t18 t153 t154 t155 t156 t157 t158 t159 t160 t161 t162 t163 t164 t165 t166 t167 t168 t169 t170 t171 t172 t173 t174 t175 t176 t177 t178 t179 w11 h11
            obtain rfl : w10 = w11 := h11.symm
            clear h11
            go_wp2
            go_roundw
            case rel => exact ⟨i + 1, by omega, by omega, by go_num, T1, X1, qv1, R1, jv1, HS10, HG7, HL10⟩
            case measure => simp [RowKit.intOf]; omega
          · have hn0 : C.length ≠ 0 := fun h => hC0 (List.length_eq_zero_iff.1 h)
            obtain ⟨g3, c3', e3, hg3, hl3, HR3⟩ := RowIs.of HO3X.out hn0
            obtain ⟨g5, c5', e5, hg5, hl5, HR5⟩ := RowIs.of HO5X.out hn0
            obtain ⟨g7, c7', e7, hg7, hl7, HR7⟩ := RowIs.of HO7X.out hn0
            injection e3 with e31 _ e33
            injection e5 with e51 _ e53
            injection e7 with e71 _ e73
            subst e31 e33 e51 e53 e71 e73
            have h38 : g3 < w8.heap.size := HSZ89.out g3 (by simp [ob, Value.ownBlock])
            refine ch_b2 _ _ _ _ _ _ _ _ _ _ _ _ _ _ _ _ _ _ _ _ _ _ _ _ _ _ _ _ _ _ _ _ _ _ _ _ _ _ _ _ _ _ _ _ _ _ _ _ _ _ _ _ _ _ _ _ _ _ _ _ _ _ _ _ _ _ _ _ _ _ _ _ _ _ _ _ _ _ _ _ _ _ _ _ _ _ _ _ _ _ _ _ _ _ _ _ _ _ _ _ _ _ _ _ _ _ _ _ _ _ _ _ _ _ _ _ _ _ _ _ _ _ _ _ _ _ _ _ _ _ _ _ _ _ _ _ _ _ _ _ _ _ _ _ _ _ _ _ _ _ _ _ _ _ _ _ _ _ _ _ _ _ _ _ _ _ _ _ _ _ _ _ _ _ _ _ (fun c a a' w hd h => hP c a a' w hd h) (N := w7.heap.size) (w := w7) (by omega) (by omega) (by have := HSZ9.out; omega) hg3 (Lib.hid HR3) (Lib.hid HR5) (Lib.hid HR7) HB10 ?_
            intro t2 t18 t153 t154 t155 t156 t157 t158 t159 t160 t161 t162 t163 t164 t165 t166 t167 t168 t169 t170 t171 t172 t173 t174 t175 t176 t177 t178 t179 w11 h11
            have HS11 := Lib.hid (HS7.out.below h11)
            have HL11 : Hid (Below w.heap.size w w11) := Lib.hid (HL7.out.trans (h11.mono HL7.out.size))
            clear h11 HR3 HR5 HR7 hg3 hl3 hg5 hl5 hg7 hl7 h38 HO3X HO5X HO7X HS10 HL10 HB10
            go_wp2
            go_roundw
            case rel => exact ⟨i + 1, by omega, by omega, by go_num, T1, X1, qv1, R1, jv1, HS11, HG7, HL11⟩
            case measure => simp [RowKit.intOf]; omega
        · have hk6 : (x.kind == 6) = true := by rw [beq_iff_eq]; exact h6
          have hfe0 : (fe == 0) = false := by rw [beq_eq_false_iff_ne]; exact h0
          obtain ⟨X1, hX1⟩ : ∃ X1, X1 = X := ⟨_, rfl⟩
          obtain ⟨jv1, hjv1⟩ : ∃ jv1, jv1 = jv := ⟨_, rfl⟩
          obtain ⟨w7, hw7⟩ : ∃ w7, w7 = w6 := ⟨_, rfl⟩
          rw [← hX1, ← hjv1, ← hw7] at HS6
          rw [← hw7] at HL6 k0 ⊢
          have HS7 := HS6; have HL7 := HL6
          clear hX1 hjv1 hw7 HQ8' HQ10 HB10b HB8b HS6 HL6
          have RD := reads_any w.heap.size w7 r T1 HS7.out.tree
          unfold ptr at RD
          have RD := Lib.hid RD
          have CH := changed_any w.heap.size w7 g b X1 HS7.out.idx w.heap.size r T1 (HG7.out.1.fine (by omega)) (by have := HG7.out.1.len; omega) HS7.out.tree
          unfold ptr at CH
          have CH := Lib.hid CH
          obtain ⟨C, hC⟩ : ∃ C, C = chgL X1 T1.L := ⟨_, rfl⟩
          have HCC := Lib.hid hC
          have hcl : C.length ≤ 1000 := by rw [hC]; have h1 := chgL_len X1 T1.L; have h2 := HG7.out.1.len; omega
          rw [← hC] at CH
          clear hC
          go_wp2_with (first
           | (refine RD.out.mono ?_; rintro ex wx ⟨rfl, hwx⟩; obtain rfl : w7 = wx := hwx.symm; clear hwx RD)
           | fail)
          refine CH.out.mono ?_
          rintro ex w8 ⟨v13, rfl, ho8, hb8⟩
          have HS8 := Lib.hid (HS7.out.below hb8)
          have HL8 : Hid (Below w.heap.size w w8) := Lib.hid (HL7.out.trans (hb8.mono HL7.out.size))
          have HB8 := Lib.hid hb8
          have HO3 := Lib.hid ho8
          obtain ⟨a3, c3, rfl⟩ := rowS_slice ho8
          have CH2 := changed_any w.heap.size w8 g b X1 HS8.out.idx w.heap.size r T1 (HG7.out.1.fine (by omega)) (by have := HG7.out.1.len; omega) HS8.out.tree
          unfold ptr at CH2
          rw [← HCC.out] at CH2
          have CH2 := Lib.hid CH2
          clear hb8 ho8 CH
          go_wp2_with fail
          refine CH2.out.mono ?_
          rintro ex w9 ⟨v15, rfl, ho9, hb9⟩
          have HS9 := Lib.hid (HS8.out.below hb9)
          have HL9 : Hid (Below w.heap.size w w9) := Lib.hid (HL8.out.trans (hb9.mono HL8.out.size))
          have HB9 : Hid (Below w7.heap.size w7 w9) := Lib.hid (HB8.out.trans (hb9.mono HB8.out.size))
          have HO39 := Lib.hid (rowS_kept HO3.out (fun y hy hl => hb9.block y hl))
          have HO5 := Lib.hid ho9
          have HSZ9 : Hid (w8.heap.size ≤ w9.heap.size) := Lib.hid hb9.size
          have HSZ89 : Hid (∀ y ∈ ob (.slice a3 C.length c3), y < w8.heap.size) := Lib.hid (rowS_lt HO3.out)
          obtain ⟨a5, c5, rfl⟩ := rowS_slice ho9
          have RC := rchanged_any w.heap.size w9 j jv1 X1 HS9.out.rix w.heap.size q qv1 R1 T1.bare (i + 1) (HTB.out.below HL9.out) (goodF_of HS9.out.tree HG7.out.1) (by omega) HS9.out.rt
          unfold ptr at RC
          rw [show chgL X1 T1.bare.L = C from (chgL_bare _ _).trans HCC.out.symm] at RC
          have RC := Lib.hid RC
          clear hb9 ho9 CH2 HS8
          go_wp2_with fail
          refine RC.out.mono ?_
          rintro ex w10 ⟨v17, rfl, ho10, hb10⟩
          have HS10 := Lib.hid (HS9.out.below hb10)
          have HL10 : Hid (Below w.heap.size w w10) := Lib.hid (HL9.out.trans (hb10.mono HL9.out.size))
          have HB10 : Hid (Below w7.heap.size w7 w10) := Lib.hid (HB9.out.trans (hb10.mono HB9.out.size))
          have HO3X := Lib.hid (rowS_kept HO39.out (fun y hy hl => hb10.block y hl))
          have HO5X := Lib.hid (rowS_kept HO5.out (fun y hy hl => hb10.block y hl))
          have HO7X := Lib.hid ho10
          obtain ⟨a7, c7, rfl⟩ := rowS_slice ho10
          have RD2 := reads_any w.heap.size w10 r T1 HS10.out.tree
          unfold ptr at RD2
          have RD2 := Lib.hid RD2
          clear hb10 ho10 RC HS9 HO39 HO3 HO5
          go_upto_block 2 with (first
           | (refine RD2.out.mono ?_; rintro ex wx ⟨rfl, hwx⟩; obtain rfl : w10 = wx := hwx.symm; clear hwx RD2)
           | fail)
          by_cases hC0 : C = []
          · subst hC0
            refine ch_b2z _ _ _ _ _ _ _ _ _ _ _ _ _ _ _ _ _ _ _ _ _ _ _ _ _ _ _ _ _ _ _ _ _ _ _ _ _ _ _ _ _ _ _ _ _ _ _ _ _ _ _ _ _ _ _ _ _ _ _ _ _ _ _ _ _ _ _ _ _ _ _ _ _ _ _ _ _ _ _ _ _ _ _ _ _ _ _ _ _ _ _ _ _ _ _ _ _ _ _ _ _ _ _ _ _ _ _ _ _ _ _ _ _ _ _ _ _ _ _ _ _ _ _ _ _ _ _ _ _ _ _ _ _ _ _ _ _ _ _ _ _ _ _ _ _ _ _ _ _ _ _ _ _ _ _ _ _ _ _ _ _ _ _ _ _ _ _ _ _ _ _ _ _ _ _ _ (fun c a a' w hd h => hP c a a' w hd h) ?_
            intro t2 t18 t153 t154 t155 t156 t157 t158 t159 t160 t161 t162 t163 t164 t165 t166 t167 t168 t169 t170 t171 t172 t173 t174 t175 t176 t177 t178 t179 w11 h11
            obtain rfl : w10 = w11 := h11.symm
            clear h11
            go_wp2
            go_roundw
            case rel => exact ⟨i + 1, by omega, by omega, by go_num, T1, X1, qv1, R1, jv1, HS10, HG7, HL10⟩
            case measure => simp [RowKit.intOf]; omega
          · have hn0 : C.length ≠ 0 := fun h => hC0 (List.length_eq_zero_iff.1 h)
            obtain ⟨g3, c3', e3, hg3, hl3, HR3⟩ := RowIs.of HO3X.out hn0
            obtain ⟨g5, c5', e5, hg5, hl5, HR5⟩ := RowIs.of HO5X.out hn0
            obtain ⟨g7, c7', e7, hg7, hl7, HR7⟩ := RowIs.of HO7X.out hn0
            injection e3 with e31 _ e33
            injection e5 with e51 _ e53
            injection e7 with e71 _ e73
            subst e31 e33 e51 e53 e71 e73
            have h38 : g3 < w8.heap.size := HSZ89.out g3 (by simp [ob, Value.ownBlock])
            refine ch_b2 _ _ _ _ _ _ _ _ _ _ _ _ _ _ _ _ _ _ _ _ _ _ _ _ _ _ _ _ _ _ _ _ _ _ _ _ _ _ _ _ _ _ _ _ _ _ _ _ _ _ _ _ _ _ _ _ _ _ _ _ _ _ _ _ _ _ _ _ _ _ _ _ _ _ _ _ _ _ _ _ _ _ _ _ _ _ _ _ _ _ _ _ _ _ _ _ _ _ _ _ _ _ _ _ _ _ _ _ _ _ _ _ _ _ _ _ _ _ _ _ _ _ _ _ _ _ _ _ _ _ _ _ _ _ _ _ _ _ _ _ _ _ _ _ _ _ _ _ _ _ _ _ _ _ _ _ _ _ _ _ _ _ _ _ _ _ _ _ _ _ _ _ _ _ _ _ (fun c a a' w hd h => hP c a a' w hd h) (N := w7.heap.size) (w := w7) (by omega) (by omega) (by have := HSZ9.out; omega) hg3 (Lib.hid HR3) (Lib.hid HR5) (Lib.hid HR7) HB10 ?_
            intro t2 t18 t153 t154 t155 t156 t157 t158 t159 t160 t161 t162 t163 t164 t165 t166 t167 t168 t169 t170 t171 t172 t173 t174 t175 t176 t177 t178 t179 w11 h11
            have HS11 := Lib.hid (HS7.out.below h11)
            have HL11 : Hid (Below w.heap.size w w11) := Lib.hid (HL7.out.trans (h11.mono HL7.out.size))
            clear h11 HR3 HR5 HR7 hg3 hl3 hg5 hl5 hg7 hl7 h38 HO3X HO5X HO7X HS10 HL10 HB10
            go_wp2
            go_roundw
            case rel => exact ⟨i + 1, by omega, by omega, by go_num, T1, X1, qv1, R1, jv1, HS11, HG7, HL11⟩
            case measure => simp [RowKit.intOf]; omega
      · have hk6 : (x.kind == 6) = false := by rw [beq_eq_false_iff_ne]; exact h6
        obtain ⟨X1, hX1⟩ : ∃ X1, X1 = X := ⟨_, rfl⟩
        obtain ⟨jv1, hjv1⟩ : ∃ jv1, jv1 = jv := ⟨_, rfl⟩
        obtain ⟨w7, hw7⟩ : ∃ w7, w7 = w6 := ⟨_, rfl⟩
        rw [← hX1, ← hjv1, ← hw7] at HS6
        rw [← hw7] at HL6 k0 ⊢
        have HS7 := HS6; have HL7 := HL6
        clear hX1 hjv1 hw7 HQ8' HQ10 HB10b HB8b HS6 HL6
        have RD := reads_any w.heap.size w7 r T1 HS7.out.tree
        unfold ptr at RD
        have RD := Lib.hid RD
        have CH := changed_any w.heap.size w7 g b X1 HS7.out.idx w.heap.size r T1 (HG7.out.1.fine (by omega)) (by have := HG7.out.1.len; omega) HS7.out.tree
        unfold ptr at CH
        have CH := Lib.hid CH
        obtain ⟨C, hC⟩ : ∃ C, C = chgL X1 T1.L := ⟨_, rfl⟩
        have HCC := Lib.hid hC
        have hcl : C.length ≤ 1000 := by rw [hC]; have h1 := chgL_len X1 T1.L; have h2 := HG7.out.1.len; omega
        rw [← hC] at CH
        clear hC
        go_wp2_with (first
         | (refine RD.out.mono ?_; rintro ex wx ⟨rfl, hwx⟩; obtain rfl : w7 = wx := hwx.symm; clear hwx RD)
         | fail)
        refine CH.out.mono ?_
        rintro ex w8 ⟨v13, rfl, ho8, hb8⟩
        have HS8 := Lib.hid (HS7.out.below hb8)
        have HL8 : Hid (Below w.heap.size w w8) := Lib.hid (HL7.out.trans (hb8.mono HL7.out.size))
        have HB8 := Lib.hid hb8
        have HO3 := Lib.hid ho8
        obtain ⟨a3, c3, rfl⟩ := rowS_slice ho8
        have CH2 := changed_any w.heap.size w8 g b X1 HS8.out.idx w.heap.size r T1 (HG7.out.1.fine (by omega)) (by have := HG7.out.1.len; omega) HS8.out.tree
        unfold ptr at CH2
        rw [← HCC.out] at CH2
        have CH2 := Lib.hid CH2
        clear hb8 ho8 CH
        go_wp2_with fail
        refine CH2.out.mono ?_
        rintro ex w9 ⟨v15, rfl, ho9, hb9⟩
        have HS9 := Lib.hid (HS8.out.below hb9)
        have HL9 : Hid (Below w.heap.size w w9) := Lib.hid (HL8.out.trans (hb9.mono HL8.out.size))
        have HB9 : Hid (Below w7.heap.size w7 w9) := Lib.hid (HB8.out.trans (hb9.mono HB8.out.size))
        have HO39 := Lib.hid (rowS_kept HO3.out (fun y hy hl => hb9.block y hl))
        have HO5 := Lib.hid ho9
        have HSZ9 : Hid (w8.heap.size ≤ w9.heap.size) := Lib.hid hb9.size
        have HSZ89 : Hid (∀ y ∈ ob (.slice a3 C.length c3), y < w8.heap.size) := Lib.hid (rowS_lt HO3.out)
        obtain ⟨a5, c5, rfl⟩ := rowS_slice ho9
        have RC := rchanged_any w.heap.size w9 j jv1 X1 HS9.out.rix w.heap.size q qv1 R1 T1.bare (i + 1) (HTB.out.below HL9.out) (goodF_of HS9.out.tree HG7.out.1) (by omega) HS9.out.rt
        unfold ptr at RC
        rw [show chgL X1 T1.bare.L = C from (chgL_bare _ _).trans HCC.out.symm] at RC
        have RC := Lib.hid RC
        clear hb9 ho9 CH2 HS8
        go_wp2_with fail
        refine RC.out.mono ?_
        rintro ex w10 ⟨v17, rfl, ho10, hb10⟩
        have HS10 := Lib.hid (HS9.out.below hb10)
        have HL10 : Hid (Below w.heap.size w w10) := Lib.hid (HL9.out.trans (hb10.mono HL9.out.size))
        have HB10 : Hid (Below w7.heap.size w7 w10) := Lib.hid (HB9.out.trans (hb10.mono HB9.out.size))
        have HO3X := Lib.hid (rowS_kept HO39.out (fun y hy hl => hb10.block y hl))
        have HO5X := Lib.hid (rowS_kept HO5.out (fun y hy hl => hb10.block y hl))
        have HO7X := Lib.hid ho10
        obtain ⟨a7, c7, rfl⟩ := rowS_slice ho10
        have RD2 := reads_any w.heap.size w10 r T1 HS10.out.tree
        unfold ptr at RD2
        have RD2 := Lib.hid RD2
        clear hb10 ho10 RC HS9 HO39 HO3 HO5
        go_upto_block 2 with (first
         | (refine RD2.out.mono ?_; rintro ex wx ⟨rfl, hwx⟩; obtain rfl : w10 = wx := hwx.symm; clear hwx RD2)
         | fail)
        by_cases hC0 : C = []
        · subst hC0
          refine ch_b2z _ _ _ _ _ _ _ _ _ _ _ _ _ _ _ _ _ _ _ _ _ _ _ _ _ _ _ _ _ _ _ _ _ _ _ _ _ _ _ _ _ _ _ _ _ _ _ _ _ _ _ _ _ _ _ _ _ _ _ _ _ _ _ _ _ _ _ _ _ _ _ _ _ _ _ _ _ _ _ _ _ _ _ _ _ _ _ _ _ _ _ _ _ _ _ _ _ _ _ _ _ _ _ _ _ _ _ _ _ _ _ _ _ _ _ _ _ _ _ _ _ _ _ _ _ _ _ _ _ _ _ _ _ _ _ _ _ _ _ _ _ _ _ _ _ _ _ _ _ _ _ _ _ _ _ _ _ _ _ _ _ _ _ _ _ _ _ _ _ _ _ _ _ _ _ _ (fun c a a' w hd h => hP c a a' w hd h) ?_
          intro t2 t18 t153 t154 t155 t156 t157 t158 t159 t160 t161 t162 t163 t164 t165 t166 t167 t168 t169 t170 t171 t172 t173 t174 t175 t176 t177 t178 t179 w11 h11
          obtain rfl : w10 = w11 := h11.symm
          clear h11
          go_wp2
          go_roundw
          case rel => exact ⟨i + 1, by omega, by omega, by go_num, T1, X1, qv1, R1, jv1, HS10, HG7, HL10⟩
          case measure => simp [RowKit.intOf]; omega
        · have hn0 : C.length ≠ 0 := fun h => hC0 (List.length_eq_zero_iff.1 h)
          obtain ⟨g3, c3', e3, hg3, hl3, HR3⟩ := RowIs.of HO3X.out hn0
          obtain ⟨g5, c5', e5, hg5, hl5, HR5⟩ := RowIs.of HO5X.out hn0
          obtain ⟨g7, c7', e7, hg7, hl7, HR7⟩ := RowIs.of HO7X.out hn0
          injection e3 with e31 _ e33
          injection e5 with e51 _ e53
          injection e7 with e71 _ e73
          subst e31 e33 e51 e53 e71 e73
          have h38 : g3 < w8.heap.size := HSZ89.out g3 (by simp [ob, Value.ownBlock])
          refine ch_b2 _ _ _ _ _ _ _ _ _ _ _ _ _ _ _ _ _ _ _ _ _ _ _ _ _ _ _ _ _ _ _ _ _ _ _ _ _ _ _ _ _ _ _ _ _ _ _ _ _ _ _ _ _ _ _ _ _ _ _ _ _ _ _ _ _ _ _ _ _ _ _ _ _ _ _ _ _ _ _ _ _ _ _ _ _ _ _ _ _ _ _ _ _ _ _ _ _ _ _ _ _ _ _ _ _ _ _ _ _ _ _ _ _ _ _ _ _ _ _ _ _ _ _ _ _ _ _ _ _ _ _ _ _ _ _ _ _ _ _ _ _ _ _ _ _ _ _ _ _ _ _ _ _ _ _ _ _ _ _ _ _ _ _ _ _ _ _ _ _ _ _ _ _ _ _ _ (fun c a a' w hd h => hP c a a' w hd h) (N := w7.heap.size) (w := w7) (by omega) (by omega) (by have := HSZ9.out; omega) hg3 (Lib.hid HR3) (Lib.hid HR5) (Lib.hid HR7) HB10 ?_
          intro t2 t18 t153 t154 t155 t156 t157 t158 t159 t160 t161 t162 t163 t164 t165 t166 t167 t168 t169 t170 t171 t172 t173 t174 t175 t176 t177 t178 t179 w11 h11
          have HS11 := Lib.hid (HS7.out.below h11)
          have HL11 : Hid (Below w.heap.size w w11) := Lib.hid (HL7.out.trans (h11.mono HL7.out.size))
          clear h11 HR3 HR5 HR7 hg3 hl3 hg5 hl5 hg7 hl7 h38 HO3X HO5X HO7X HS10 HL10 HB10
          go_wp2
          go_roundw
          case rel => exact ⟨i + 1, by omega, by omega, by go_num, T1, X1, qv1, R1, jv1, HS11, HG7, HL11⟩
          case measure => simp [RowKit.intOf]; omega
    · go_wp2
      exact HKH.out _ _ _ _ _ _ _ _ _ _ _ _ _ _ _ _ _ _ _ _ _ _ _ _ _ _ _ _ _ _ _ _ _ _ _ _ _ _ _ _ _ _ _ _ _ _ _ _ _ _ _ _ _ _ _ _ _ _ _ _ _ _ _ _ _ _ _ _ _ _ _ _ _ _ _ _ _ _ _ _ _ _ _ _ _ _ _ _ _ _ _ _ _ _ _ _ _ _ _ _ _ _ _ _ _ _ _ _ _ _ _ _ _ _ _ _ _ _ _ _ _ _ _ _ _ _ _ _ _ _ _ _ _ _ _ _ _ _ _ _ _ _ _ _ _ _ _ _ _ _ _ _ _ _ _ _ _ _ _ _ _ _ _ _ _ _ _ _ _ _ HLW.out
  · go_wp2
    exact HKH.out _ _ _ _ _ _ _ _ _ _ _ _ _ _ _ _ _ _ _ _ _ _ _ _ _ _ _ _ _ _ _ _ _ _ _ _ _ _ _ _ _ _ _ _ _ _ _ _ _ _ _ _ _ _ _ _ _ _ _ _ _ _ _ _ _ _ _ _ _ _ _ _ _ _ _ _ _ _ _ _ _ _ _ _ _ _ _ _ _ _ _ _ _ _ _ _ _ _ _ _ _ _ _ _ _ _ _ _ _ _ _ _ _ _ _ _ _ _ _ _ _ _ _ _ _ _ _ _ _ _ _ _ _ _ _ _ _ _ _ _ _ _ _ _ _ _ _ _ _ _ _ _ _ _ _ _ _ _ _ _ _ _ _ _ _ _ _ _ _ _ HLW.out
end Go.Proofs.YtnkapojbijbbaaaGreatDoor.Sr
