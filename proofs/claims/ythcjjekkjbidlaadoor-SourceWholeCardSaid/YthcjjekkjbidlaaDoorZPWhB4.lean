import Derived.Test.YthcjjekkjbidlaaDoorZPSrPieces
import Derived.Test.YthcjjekkjbidlaaDoorZPWhB5
import Derived.Test.YthcjjekkjbidlaaDoorZPSrAwake18
import Derived.Test.YthcjjekkjbidlaaDoorZPWhB2
import Derived.Test.YthcjjekkjbidlaaDoorZPStReg
import Derived.Test.YthcjjekkjbidlaaDoorZPRowKit
import Derived.Carry
import Derived.Deep.Slices
import Derived.ChangeSame
import Derived.SizedLaws
set_option linter.unusedSimpArgs false
set_option linter.unusedVariables false
/-
  SourceWhole's walk: every node behind the move there and back.
-/
namespace Go.Proofs.YthcjjekkjbidlaaDoor.Sr
open Go.RowKit Go.Maps Go.WideMaps Go.Proofs.YthcjjekkjbidlaaDoor.Rf Go.Proofs.YthcjjekkjbidlaaDoor.Nm Go.Proofs.YthcjjekkjbidlaaDoor.St
set_option linter.unusedSimpArgs false in
set_option maxHeartbeats 40000000 in
set_option maxRecDepth 100000 in
theorem wh_b4 {Q : Exit → Act → World → Prop} (u0 u1 u2 u3 u4 u5 u6 u7 u8 u10 u11 u12 u13 u14 u15 u18 u19 u20 u21 u22 u23 u24 u25 u26 u27 u28 u29 u30 u31 u32 u33 u34 u35 u36 u37 u38 u39 u40 u41 u42 u43 u44 u45 u46 u47 u48 u49 u50 u51 u52 u53 u54 u55 u56 u57 u58 u59 u60 u61 u62 u63 u64 u65 u66 u67 u68 u69 u70 u71 u72 u73 u74 u75 u76 u77 u78 u79 u80 u81 u82 u83 u84 u85 u86 u87 u88 u89 u90 u91 u92 u93 u94 u95 u96 u97 u98 u99 u100 u101 u102 u103 u104 u105 u106 u107 u108 u109 u110 u111 u112 u113 u114 u115 u116 u117 u118 u119 u120 u121 u122 u123 u124 u125 u126 u127 u128 u129 u130 u131 u132 u133 u134 u135 u136 u137 u138 u139 u140 u141 u142 u143 u144 u145 u146 u147 u148 u149 u150 u151 u152 u153 u154 u155 u156 u157 u158 u159 u160 u161 u162 u163 u164 u165 u166 u167 u168 u169 u170 u171 u172 u173 u174 u175 u176 u177 u178 u179 u180 u181 u182 u183 u184 u185 u186 u187 u188 u189 u190 u191 u192 u193 u194 u195 u196 u197 u198 u199 u200 u201 u202 u203 u204 u205 : Value) {C C2 : Nat} {T : Tr} {L2 : List TE} {va xa : Option Addr} {vc xc : Nat} {R0 R2 : List (TE × Value)} {w6 : World}
    (hP : ∀ c (a a' : Act) w, a.defers = a'.defers → Q (.panic c) a w → Q (.panic c) a' w) (HO0 : Hid (OutAt C w6 (.slice va T.L.length vc) R0)) (HM0 : Hid (R0.map (·.1) = T.L)) (HO2 : Hid (OutAt C2 w6 (.slice xa T.L.length xc) R2)) (HM2 : Hid (R2.map (·.1) = L2)) (hl : T.L.length ≤ 1000) (HA : Hid (∀ e ∈ T.L, chkA e.at_ = true))
    (HS : Hid (∀ (i : Nat) e, T.L[i]? = some e → ∃ e2, L2[i]? = some e2 ∧ e2.nm = e.nm ∧ e2.ino = e.ino ∧ e2.at_ = e.at_ ∧ e2.data = e.data ∧ (e2.tick ≠ e.tick → e.at_.node = 2)))
    (HK : ∀ (t6 t17 t18 t161 t162 t163 t164 t165 t166 t167 t168 t169 t170 t171 t172 t173 t174 t175 t176 t177 t178 t179 t180 t181 t182 t183 t184 t185 t186 t187 t188 t189 t190 t191 t192 t193 t194 t195 t196 t197 t198 t199 t200 t201 t202 t203 t204 t205 : Value) (w' : World), Below w6.heap.size w6 w' → Q .normal ⟨#[u0, u1, u2, u3, u4, u5, t6, u7, u8, .slice va T.L.length vc, u10, u11, u12, u13, u14, u15, .slice xa T.L.length xc, t17, t18, u19, u20, u21, u22, u23, u24, u25, u26, u27, u28, u29, u30, u31, u32, u33, u34, u35, u36, u37, u38, u39, u40, u41, u42, u43, u44, u45, u46, u47, u48, u49, u50, u51, u52, u53, u54, u55, u56, u57, u58, u59, u60, u61, u62, u63, u64, u65, u66, u67, u68, u69, u70, u71, u72, u73, u74, u75, u76, u77, u78, u79, u80, u81, u82, u83, u84, u85, u86, u87, u88, u89, u90, u91, u92, u93, u94, u95, u96, u97, u98, u99, u100, u101, u102, u103, u104, u105, u106, u107, u108, u109, u110, u111, u112, u113, u114, u115, u116, u117, u118, u119, u120, u121, u122, u123, u124, u125, u126, u127, u128, u129, u130, u131, u132, u133, u134, u135, u136, u137, u138, u139, u140, u141, u142, u143, u144, u145, u146, u147, u148, u149, u150, u151, u152, u153, u154, u155, u156, u157, u158, u159, u160, t161, t162, t163, t164, t165, t166, t167, t168, t169, t170, t171, t172, t173, t174, t175, t176, t177, t178, t179, t180, t181, t182, t183, t184, t185, t186, t187, t188, t189, t190, t191, t192, t193, t194, t195, t196, t197, t198, t199, t200, t201, t202, t203, t204, t205], []⟩ w') :
    Code.wp Tryd.prog (whB 4) Q ⟨#[u0, u1, u2, u3, u4, u5, u6, u7, u8, .slice va T.L.length vc, u10, u11, u12, u13, u14, u15, .slice xa T.L.length xc, .int .i64 0, u18, u19, u20, u21, u22, u23, u24, u25, u26, u27, u28, u29, u30, u31, u32, u33, u34, u35, u36, u37, u38, u39, u40, u41, u42, u43, u44, u45, u46, u47, u48, u49, u50, u51, u52, u53, u54, u55, u56, u57, u58, u59, u60, u61, u62, u63, u64, u65, u66, u67, u68, u69, u70, u71, u72, u73, u74, u75, u76, u77, u78, u79, u80, u81, u82, u83, u84, u85, u86, u87, u88, u89, u90, u91, u92, u93, u94, u95, u96, u97, u98, u99, u100, u101, u102, u103, u104, u105, u106, u107, u108, u109, u110, u111, u112, u113, u114, u115, u116, u117, u118, u119, u120, u121, u122, u123, u124, u125, u126, u127, u128, u129, u130, u131, u132, u133, u134, u135, u136, u137, u138, u139, u140, u141, u142, u143, u144, u145, u146, u147, u148, u149, u150, u151, u152, u153, u154, u155, u156, u157, u158, u159, u160, u161, u162, u163, u164, u165, u166, u167, u168, u169, u170, u171, u172, u173, u174, u175, u176, u177, u178, u179, u180, u181, u182, u183, u184, u185, u186, u187, u188, u189, u190, u191, u192, u193, u194, u195, u196, u197, u198, u199, u200, u201, u202, u203, u204, u205], []⟩ w6 := by
  have HKH := Lib.hid HK
  clear HK
  conv => arg 2; whnf
  go_wp2
  go_loopw [17] (fun v17 ws => ∃ k : Nat, k ≤ T.L.length ∧ v17 = .int .i64 (k : Int) ∧ Hid (Below w6.heap.size w6 ws)) (fun v17 _ => T.L.length - (RowKit.intOf v17).toNat)
  case atStart => exact ⟨0, by omega, rfl, Lib.hid (Below.refl _ _)⟩
  case round =>
    rename World => ws
    obtain ⟨k, hk, rfl, HBS⟩ := hrel
    by_cases hkl : (k : Int) < (T.L.length : Int)
    · have hk2 : k < T.L.length := by omega
      obtain ⟨e, he⟩ : ∃ e, T.L[k]? = some e := ⟨_, List.getElem?_eq_getElem hk2⟩
      have HE := Lib.hid he
      have HET : Hid (e ∈ T.L) := Lib.hid (List.mem_of_getElem? he)
      clear he
      obtain ⟨e2, he2, f1, f2, f3, f4, f5⟩ := HS.out k e HE.out
      have HF2 := Lib.hid he2; have HF := Lib.hid (And.intro f1 (And.intro f2 (And.intro f3 (And.intro f4 f5))))
      clear he2 f1 f2 f3 f4 f5
      go_upto_block 5 with (fail)
      refine wh_b5 _ _ _ _ _ _ _ _ _ _ _ _ _ _ _ _ _ _ _ _ _ _ _ _ _ _ _ _ _ _ _ _ _ _ _ _ _ _ _ _ _ _ _ _ _ _ _ _ _ _ _ _ _ _ _ _ _ _ _ _ _ _ _ _ _ _ _ _ _ _ _ _ _ _ _ _ _ _ _ _ _ _ _ _ _ _ _ _ _ _ _ _ _ _ _ _ _ _ _ _ _ _ _ _ _ _ _ _ _ _ _ _ _ _ _ _ _ _ _ _ _ _ _ _ _ _ _ _ _ _ _ _ _ _ _ _ _ _ _ _ _ _ _ _ _ _ _ _ _ _ _ _ _ _ _ _ _ _ _ _ _ _ _ _ _ _ _ _ _ _ _ _ _ _ _ _ _ _ _ _ _ _ _ _ _ _ _ _ _ _ _ _ _ _ _ _ _ _ _ _ _ _ _ (fun c a a' w hd h => hP c a a' w hd h) HO0 HM0 HBS HO2 HM2 HBS hl HE.out HF2.out HF.out.1 HF.out.2.1 HF.out.2.2.1 HF.out.2.2.2.1 HF.out.2.2.2.2 (HA.out e HET.out) ?_
      intro t18 t167 t168 t169 t170 t171 t172 t173 t174 t175 t176 t177 t178 t179 t180 t181 t182 t183 t184 t185 t186 t187 t188 t189 t190 t191 t192 t193 t194 t195 t196 t197 t198 t199 t200 t201 t202 t203 t204 t205 w7 hb7
      have HB7 := Lib.hid (HBS.out.trans (hb7.mono HBS.out.size))
      clear hb7 HE HET HF2 HF
      go_wp2
      go_roundw
      case rel => exact ⟨k + 1, by omega, by go_num, HB7⟩
      case measure => simp [RowKit.intOf]; omega
    · obtain rfl : k = T.L.length := by omega
      go_wp2
      exact HKH.out _ _ _ _ _ _ _ _ _ _ _ _ _ _ _ _ _ _ _ _ _ _ _ _ _ _ _ _ _ _ _ _ _ _ _ _ _ _ _ _ _ _ _ _ _ _ _ _ _ HBS.out
end Go.Proofs.YthcjjekkjbidlaaDoor.Sr
/-
  The law of SourceWhole: lists and paths agree, and a move there and back restores everything.
-/
namespace Go.Proofs.YthcjjekkjbidlaaDoor.Sr
open Go.RowKit Go.Maps Go.WideMaps Go.Proofs.YthcjjekkjbidlaaDoor.Rf Go.Proofs.YthcjjekkjbidlaaDoor.Nm Go.Proofs.YthcjjekkjbidlaaDoor.St

set_option linter.unusedSimpArgs false in
set_option maxHeartbeats 32000000 in
set_option maxRecDepth 100000 in
theorem wh18_law (w : World) (v : Value) (l : List Stp) (p q : List UInt8) (hl : StpsAt w v l) (hpl : p.length ≤ 140737488351232) (hql : q.length ≤ 140737488351232) :
    Calls Tryd.prog 6 #[v, .string ⟨p.toArray⟩, .string ⟨q.toArray⟩] w fun e w' => e = .returned (.bool true) ∧ Below w.heap.size w w' := by
  obtain ⟨a, cap, rfl, hlm, hcell, hfit⟩ := hl
  have AW := Lib.hid (awake18_any w)
  have HC := Lib.hid hcell; have HF := Lib.hid hfit
  unfold maxLen at hlm
  clear hcell hfit
  have HPL := Lib.hid hpl; have HQL := Lib.hid hql
  clear hpl hql
  obtain ⟨PB, hPB⟩ : ∃ PB : ByteArray, PB = ⟨p.toArray⟩ := ⟨_, rfl⟩
  obtain ⟨QB, hQB⟩ : ∃ QB : ByteArray, QB = ⟨q.toArray⟩ := ⟨_, rfl⟩
  rw [← hPB, ← hQB]
  have HPB := Lib.hid hPB; have HQB := Lib.hid hQB
  clear hPB hQB
  go_enter Tryd.func6, Tryd.ntmps6
  go_wp2_with fail
  refine AW.out.mono ?_
  rintro ex w1 ⟨rfl, hb1⟩
  have HB1 := Lib.hid hb1
  have TN := Lib.hid (tree_new w1)
  clear hb1 AW
  go_wp2_with fail
  refine TN.out.mono ?_
  rintro ex w2 ⟨r, pn, m, rfl, ht2, hb2⟩
  have HST : Hid (WhSt w.heap.size w2 r (newT pn m) 0) := Lib.hid ⟨ht2.mono HB1.out.size, good_new pn m, Nat.le_refl _, Nat.le_refl _⟩
  have HB2 := Lib.hid (HB1.out.trans (hb2.mono HB1.out.size))
  clear ht2 hb2 TN
  unfold ptr at *
  go_upto_block 0 with (fail)
  refine wh_b0 _ _ _ _ _ _ _ _ _ _ _ _ _ _ _ _ _ _ _ _ _ _ _ _ _ _ _ _ _ _ _ _ _ _ _ _ _ _ _ _ _ _ _ _ _ _ _ _ _ _ _ _ _ _ _ _ _ _ _ _ _ _ _ _ _ _ _ _ _ _ _ _ _ _ _ _ _ _ _ _ _ _ _ _ _ _ _ _ _ _ _ _ _ _ _ _ _ _ _ _ _ _ _ _ _ _ _ _ _ _ _ _ _ _ _ _ _ _ _ _ _ _ _ _ _ _ _ _ _ _ _ _ _ _ _ _ _ _ _ _ _ _ _ _ _ _ _ _ _ _ _ _ _ _ _ _ _ _ _ _ _ _ _ _ _ _ _ _ _ _ _ _ _ _ _ _ _ _ _ _ _ _ _ _ _ _ _ _ _ _ _ _ _ _ _ _ _ _ _ _ _ _ _ (by intro c a a_ w hd h; have h2 : a.defers = [] ∧ _ := h; exact And.intro (hd.symm.trans h2.1) h2.2) (by omega) HC HF HST HB2 ?_
  intro t8 t22 t23 t24 t25 t26 t27 t28 t29 t30 t31 t32 t33 t34 t35 t36 t37 w3 h3
  obtain ⟨i, T, hi, hst, hb3⟩ := h3
  have HS := Lib.hid hst; have HB3 := Lib.hid hb3
  have hl0 : T.L.length ≤ 61 := by have := hst.good.len; omega
  have TV := treeval_any w.heap.size w3 r T (hst.good.fine (by omega)) (by omega) hst.tree
  unfold ptr at TV
  have TV := Lib.hid TV
  clear hst hb3 HST HB2 HB1 HC HF hlm
  go_wp2_with fail
  refine TV.out.mono ?_
  rintro ex w4 ⟨v0, R0, rfl, hm0, ho0, hb4⟩
  have HM0 := Lib.hid hm0
  have MV4 : Hid (MvSt w.heap.size w3.heap.size w4 r T v0 R0) := Lib.hid (MvSt.told HS.out.tree ho0 hb4)
  have HB4 : Hid (Below w.heap.size w w4) := Lib.hid (HB3.out.trans (hb4.mono HB3.out.size))
  have hrl : R0.length = T.L.length := by have := congrArg List.length hm0; rw [List.length_map] at this; exact this
  obtain ⟨va, vc, rfl⟩ := rowS_slice ho0.row
  rw [hrl] at MV4 ⊢
  clear hm0 ho0 hb4 TV hrl
  go_upto_block 2 with (fail)
  refine wh_b2 _ _ _ _ _ _ _ _ _ _ _ _ _ _ _ _ _ _ _ _ _ _ _ _ _ _ _ _ _ _ _ _ _ _ _ _ _ _ _ _ _ _ _ _ _ _ _ _ _ _ _ _ _ _ _ _ _ _ _ _ _ _ _ _ _ _ _ _ _ _ _ _ _ _ _ _ _ _ _ _ _ _ _ _ _ _ _ _ _ _ _ _ _ _ _ _ _ _ _ _ _ _ _ _ _ _ _ _ _ _ _ _ _ _ _ _ _ _ _ _ _ _ _ _ _ _ _ _ _ _ _ _ _ _ _ _ _ _ _ _ _ _ _ _ _ _ _ _ _ _ _ _ _ _ _ _ _ _ _ _ _ _ _ _ _ _ _ _ _ _ _ _ _ _ _ _ _ _ _ _ _ _ _ _ _ _ _ _ _ _ _ _ _ _ _ _ _ _ _ _ _ _ (by intro c a a_ w hd h; have h2 : a.defers = [] ∧ _ := h; exact And.intro (hd.symm.trans h2.1) h2.2) (Lib.hid MV4.out.tree) (Lib.hid MV4.out.out) HM0 (Lib.hid HS.out.good) hi ?_
  intro t6 t11 t12 t13 t14 t15 t40 t41 t42 t43 t44 t45 t46 t47 t48 t49 t50 t51 t52 t53 t54 t55 t56 t57 t58 t59 t60 t61 t62 t63 t64 t65 t66 t67 t68 t69 t70 t71 t72 t73 t74 t75 t76 t77 t78 t79 t80 t81 t82 t83 t84 t85 t86 t87 t88 t89 t90 t91 t92 t93 t94 t95 t96 t97 t98 t99 t100 t101 t102 t103 t104 t105 t106 t107 t108 t109 t110 t111 t112 t113 t114 t115 t116 t117 t118 t119 t120 t121 t122 t123 t124 t125 t126 t127 t128 t129 t130 t131 w5 hb5
  have MV5 : Hid (MvSt w.heap.size w3.heap.size w5 r T (.slice va T.L.length vc) R0) := Lib.hid (MV4.out.below hb5)
  have HB5 : Hid (Below w.heap.size w w5) := Lib.hid (HB4.out.trans (hb5.mono HB4.out.size))
  have hal : ((alN T.L T.L.length : Nat) : Int) = (T.L.length : Int) - 1 := by have := alN_all HS.out.tree; omega
  rw [hal]
  obtain ⟨e0, he0, _⟩ := HS.out.tree.root
  have hf0 := root_first HS.out.tree.srt he0
  have hn0 := (getT_nm he0).2
  have hpos : 0 < T.L.length := (List.getElem?_eq_some_iff.1 hf0).1
  obtain ⟨p0, hp0, hpy0⟩ : ∃ p, R0[0]? = some p ∧ p.1 = e0 := by
    have h := hf0
    rw [← HM0.out, List.getElem?_map] at h
    obtain ⟨p, hp, h⟩ := Option.map_eq_some_iff.1 h
    exact ⟨p, hp, h⟩
  obtain ⟨g0, rfl, hg0, hrow⟩ := told_row MV5.out.out hp0
  have c0 : w5.cell? ⟨g0, 0, none⟩ = some (.string ⟨#[47]⟩) := by
    have h : w5.cell? ⟨g0, 0, none⟩ = some (.string ⟨(pathN p0.1.nm).toArray⟩) := hrow w5 (Below.refl _ _) 0 _ rfl
    rw [hpy0, hn0] at h; exact h
  have MV := move_any w.heap.size w5 r T p q (by have := HPL.out; omega) (by have := HQL.out; omega) HS.out.good.deep (by omega) MV5.out.tree
  unfold ptr at MV
  rw [← HPB.out, ← HQB.out] at MV
  have MV := Lib.hid MV
  have hposI : (0 : Int) < (T.L.length : Int) := by omega
  clear hb5 MV4 HB4 HB3 hal he0 hf0 hn0 hp0 hpy0 hrow
  by_cases h0 : moveE p q T = 0
  · rw [h0] at MV
    go_wp2_with fail
    refine MV.out.mono ?_
    rintro ex w6 ⟨rfl, hc6⟩
    obtain ⟨mv6, hb6⟩ := MV5.out.call hc6 HB5.out.size
    have hG1 := hc6.ch.good MV5.out.tree HS.out.good
    have h1 := move_back MV5.out.tree HS.out.good (by omega) (by have := HS.out.clk; omega) h0 hc6.tree
    obtain ⟨T1, hT1⟩ : ∃ T1, T1 = moveTr p q T := ⟨_, rfl⟩
    rw [← hT1] at mv6 hG1 h1
    have MV6 := Lib.hid mv6; have HT1 := Lib.hid hT1; have HB6 : Hid (Below w.heap.size w w6) := Lib.hid (HB5.out.trans hb6)
    have HG1 := Lib.hid hG1; have H0 := Lib.hid h0; have H1 := Lib.hid h1
    have MW := move_any w.heap.size w6 r T1 q p (by have := HQL.out; omega) (by have := HPL.out; omega) hG1.deep (by have := hG1.len; omega) mv6.tree
    unfold ptr at MW
    rw [← HPB.out, ← HQB.out, h1] at MW
    have MW := Lib.hid MW
    clear hc6 mv6 hb6 hG1 h1 hT1 h0 MV c0
    go_wp2_with fail
    refine MW.out.mono ?_
    rintro ex w7 ⟨rfl, hc7⟩
    obtain ⟨mv7, hb7⟩ := MV6.out.call hc7 HB6.out.size
    have hG2 := hc7.ch.good MV6.out.tree HG1.out
    have hbk := back_same MV5.out.tree H0.out (by rw [← HT1.out]; exact MV6.out.tree) (by rw [← HT1.out]; exact H1.out) (by rw [← HT1.out]; exact mv7.tree)
    rw [← HT1.out] at hbk
    obtain ⟨T2, hT2⟩ : ∃ T2, T2 = moveTr q p T1 := ⟨_, rfl⟩
    rw [← hT2] at mv7 hG2 hbk
    obtain ⟨hlen, hbk⟩ := hbk
    have MV7 := Lib.hid mv7; have HB7 : Hid (Below w.heap.size w w7) := Lib.hid (HB6.out.trans hb7)
    have HBK := Lib.hid hbk
    have TV := treeval_any w.heap.size w7 r T2 (hG2.fine (by omega)) (by omega) mv7.tree
    unfold ptr at TV
    have TV := Lib.hid TV
    clear hc7 mv7 hb7 hG2 hbk hT2 MW MV5 MV6 HG1 H0 H1
    go_wp2_with fail
    refine TV.out.mono ?_
    rintro ex w8 ⟨v1, R1, rfl, hm1, ho1, hb8⟩
    have hrl : R1.length = T.L.length := by have := congrArg List.length hm1; rw [List.length_map, hlen] at this; exact this
    have HM1 := Lib.hid hm1; have HO1 := Lib.hid ho1
    have MV8 := Lib.hid (MV7.out.below hb8)
    have HB8 : Hid (Below w.heap.size w w8) := Lib.hid (HB7.out.trans (hb8.mono HB7.out.size))
    obtain ⟨xa, xc, rfl⟩ := rowS_slice ho1.row
    rw [hrl] at HO1 ⊢
    clear hm1 ho1 hb8 hrl hlen TV MV7
    go_upto_block 4 with (fail)
    refine wh_b4 _ _ _ _ _ _ _ _ _ _ _ _ _ _ _ _ _ _ _ _ _ _ _ _ _ _ _ _ _ _ _ _ _ _ _ _ _ _ _ _ _ _ _ _ _ _ _ _ _ _ _ _ _ _ _ _ _ _ _ _ _ _ _ _ _ _ _ _ _ _ _ _ _ _ _ _ _ _ _ _ _ _ _ _ _ _ _ _ _ _ _ _ _ _ _ _ _ _ _ _ _ _ _ _ _ _ _ _ _ _ _ _ _ _ _ _ _ _ _ _ _ _ _ _ _ _ _ _ _ _ _ _ _ _ _ _ _ _ _ _ _ _ _ _ _ _ _ _ _ _ _ _ _ _ _ _ _ _ _ _ _ _ _ _ _ _ _ _ _ _ _ _ _ _ _ _ _ _ _ _ _ _ _ _ _ _ _ _ _ _ _ _ _ _ _ _ _ _ _ _ _ _ _ (by intro c a a_ w hd h; have h2 : a.defers = [] ∧ _ := h; exact And.intro (hd.symm.trans h2.1) h2.2) (Lib.hid MV8.out.out) HM0 HO1 HM1 (by omega) (Lib.hid HS.out.good.att) HBK ?_
    intro t6 t17 t18 t161 t162 t163 t164 t165 t166 t167 t168 t169 t170 t171 t172 t173 t174 t175 t176 t177 t178 t179 t180 t181 t182 t183 t184 t185 t186 t187 t188 t189 t190 t191 t192 t193 t194 t195 t196 t197 t198 t199 t200 t201 t202 t203 t204 t205 w9 hb9
    have HB9 : Hid (Below w.heap.size w w9) := Lib.hid (HB8.out.trans (hb9.mono HB8.out.size))
    clear hb9
    go_wp2
    go_ret
    exact ⟨rfl, HB9.out⟩
  · obtain ⟨E, hE⟩ : ∃ E, E = moveE p q T := ⟨_, rfl⟩
    rw [← hE] at h0 MV
    have hbe : (E == 0) = false := by rw [beq_eq_false_iff_ne]; exact h0
    clear hE h0
    go_wp2_with fail
    refine MV.out.mono ?_
    rintro ex w6 ⟨rfl, hc6⟩
    obtain ⟨mv6, hb6⟩ := MV5.out.call hc6 HB5.out.size
    have HB6 : Hid (Below w.heap.size w w6) := Lib.hid (HB5.out.trans hb6)
    clear mv6 hb6 hc6 MV
    go_wp2
    go_ret
    exact ⟨rfl, HB6.out⟩
end Go.Proofs.YthcjjekkjbidlaaDoor.Sr
/-
  The law's argument, opened: a list of steps.
-/
namespace Go.Proofs.YthcjjekkjbidlaaDoor.Sr
open Go.RowKit Go.ChangeShapes Go.WideShapes Go.Deep Go.Proofs.YthcjjekkjbidlaaDoor.Rf Go.Proofs.YthcjjekkjbidlaaDoor.Nm Go.Proofs.YthcjjekkjbidlaaDoor.St Go.Proofs.YthcjjekkjbidlaaDoor.Rd
set_option linter.unusedSimpArgs false
section
variable {H : Type} {enc : TypeId × Value → H} {w : World} {base : Nat} {spare : Nat → Bool} {held : Bool}
theorem all_mem {l : List Nat} (h : l.all (· ≤ reachBytes) = true) {x : Nat} (hx : x ∈ l) : x ≤ 140737488351232 := by
  have := List.all_eq_true.1 h x hx
  have h2 : reachBytes ≤ 140737488351232 := by decide
  simp only [decide_eq_true_eq] at this
  omega
theorem all_sub {l m : List Nat} (h : l.all (· ≤ reachBytes) = true) (hm : ∀ x ∈ m, x ∈ l) : m.all (· ≤ reachBytes) = true :=
  List.all_eq_true.2 (fun x hx => List.all_eq_true.1 h x (hm x hx))
theorem weights_all {P : Program} {e : TypeId} {x : Nat} : ∀ {l : List (DataW H)} {i : Nat} {d : DataW H}, l[i]? = some d → x ∈ DataW.weights P e d → x ∈ DataW.weightsAll P e l
  | [], _, _, h, _ => by simp at h
  | y :: r, 0, d, h, hx => by
    simp at h; subst h
    simp [DataW.weightsAll, hx]
  | y :: r, i + 1, d, h, hx => by
    have := weights_all (l := r) (by simpa using h) hx
    simp [DataW.weightsAll, this]
set_option maxRecDepth 100000 in
theorem open_xattr {n : Nat} {cs : List Value} {y : DataW H × List MemPlace} (h : DataW.trod enc Tryd.prog w base spare held n 130 cs = some y) :
    ∃ x : List UInt8 × List UInt8, cs = xpair x ∧ x.1.length ≤ maxLen ∧ x.2.length ≤ maxLen := by
  obtain ⟨xs, m, _, rfl, hl, hxl, hf⟩ := DataW.trod_struct Tryd.underlying130 h
  have k9 : Tryd.prog.cellsOf 9 = 1 := by kernel_rfl
  have k33 : Tryd.prog.cellsOf 130 = 2 := by kernel_rfl
  rw [k33] at hl
  match xs, hxl with
  | [y0, y1], _ =>
    match cs, hl with
    | [e0, e1], _ =>
      have h0 := hf 0 _ rfl
      have h1 := hf 1 _ rfl
      simp only [k9, List.drop_zero, List.drop_succ_cons, List.take_succ_cons, List.take_zero, List.getElem?_cons_zero, List.getElem?_cons_succ] at h0 h1
      obtain ⟨q0, r0, _, s0⟩ := DataW.trod_string Tryd.underlying9 h0
      obtain ⟨q1, r1, _, s1⟩ := DataW.trod_string Tryd.underlying9 h1
      injection r0 with r0; injection r1 with r1
      refine ⟨(q0.data.toList, q1.data.toList), ?_, by show q0.data.toList.length ≤ _; rw [← Lib.size_eq]; exact s0, by show q1.data.toList.length ≤ _; rw [← Lib.size_eq]; exact s1⟩
      simp only [xpair, ba_mk]
      rw [r0, r1]
set_option maxRecDepth 100000 in
theorem open_xats {n : Nat} {v : Value} {y : DataW H × List MemPlace} (h : DataW.trod enc Tryd.prog w base spare held n 76 [v] = some y) (hz : (DataW.weights Tryd.prog 76 y.1).all (· ≤ reachBytes) = true) :
    ∃ xs : Xs, XsAt w v xs ∧ xs.length * 32 ≤ 140737488351232 := by
  have k34 : Tryd.prog.cellsOf 130 = 2 := by kernel_rfl
  have kb : Tryd.prog.bytesOf 130 = 32 := by kernel_rfl
  rcases open_slice Tryd.underlying76 h with ⟨hcs, _⟩ | ⟨a, len, cap, m, n', D, Pl, hcs, _, hl, hm, hmm, hx, hi⟩
  · injection hcs with hcs
    exact ⟨[], ⟨none, 0, hcs, by simp, by simp, fun hne => absurd rfl hne⟩, by simp⟩
  · injection hcs with hcs
    rw [k34] at hi
    have hlm : len ≤ m := by rw [hmm]; split <;> omega
    have hw : (len + (m - len)) * 32 ≤ 140737488351232 := by
      refine all_mem hz ?_
      rw [hx]; simp [DataW.weights, Tryd.underlying76, kb]
    have hspot : 0 < len → a.spot = none := fun hp => by
      obtain ⟨cs', hc, ht⟩ := hi 0 (by omega)
      obtain ⟨x, rfl, _⟩ := open_xattr ht
      obtain ⟨_, _, hat⟩ := World.cells?_some hc
      have := World.cell?_spot ((hat 0 (by simp [xpair])).trans rfl)
      simpa [Addr.add] using this
    have hex : ∀ i : Nat, ∃ x : List UInt8 × List UInt8, i < len → x.1.length ≤ maxLen ∧ x.2.length ≤ maxLen ∧ a.spot = none ∧ a.block < w.heap.size ∧ w.rangeAt a.block (a.off + i * 2) (xpair x) := by
      intro i
      by_cases hlt : i < len
      · obtain ⟨cs', hc, ht⟩ := hi i (by omega)
        obtain ⟨x, rfl, hx1, hx2⟩ := open_xattr ht
        obtain ⟨_, _, hat⟩ := World.cells?_some hc
        have g0 := hat 0 (by simp [xpair])
        have hsp : a.spot = none := hspot (by omega)
        have hadd : ∀ j, (a.add (i * 2)).add j = ⟨a.block, a.off + i * 2 + j, none⟩ := fun j => by
          rw [add_add]
          obtain ⟨ab, ao, asp⟩ := a
          simp only at hsp
          subst hsp
          unfold Addr.add
          split
          · next h =>
            have h1 : i * 2 = 0 := by omega
            have h2 : j = 0 := by omega
            rw [h1, h2]; rfl
          · rw [Nat.add_assoc]
        have hbl : a.block < w.heap.size := by
          have := World.block_lt_of_cell? w _ (g0.trans rfl)
          rw [hadd] at this
          exact this
        refine ⟨x, fun _ => ⟨hx1, hx2, hsp, hbl, ?_⟩⟩
        intro j v hv
        rw [← hadd]
        exact (hat j (List.getElem?_eq_some_iff.1 hv).1).trans hv
      · exact ⟨([], []), fun h => absurd h hlt⟩
    obtain ⟨g, hg⟩ := Classical.axiomOfChoice hex
    have hln : ((List.range len).map g).length = len := by simp
    have hget : ∀ (i : Nat) x, ((List.range len).map g)[i]? = some x → i < len ∧ x = g i := fun i x hx => by
      rw [List.getElem?_map] at hx
      by_cases hlt : i < len
      · rw [List.getElem?_range hlt] at hx; exact ⟨hlt, (Option.some.inj hx).symm⟩
      · rw [List.getElem?_eq_none (by simp; omega)] at hx; simp at hx
    refine ⟨(List.range len).map g, ⟨some a, cap, by rw [hln]; exact hcs, by rw [hln]; unfold maxLen; omega, fun x hx => ?_, fun hne => ?_⟩, by rw [hln]; omega⟩
    · obtain ⟨i, hi', rfl⟩ := List.mem_map.1 hx
      have := hg i (List.mem_range.1 hi')
      exact ⟨this.1, this.2.1⟩
    · have hpos : 0 < len := by
        rcases Nat.eq_zero_or_pos len with e | e
        · exact absurd (by rw [e]; rfl) hne
        · exact e
      obtain ⟨_, _, hsp, hbl, _⟩ := hg 0 hpos
      refine ⟨a.block, a.off, ?_, hbl, fun i x hx => ?_⟩
      · obtain ⟨ab, ao, asp⟩ := a
        simp only at hsp
        subst hsp; rfl
      · obtain ⟨hlt, rfl⟩ := hget i x hx
        have hr := (hg i hlt).2.2.2.2
        exact ⟨hr 0 _ rfl, hr 1 _ rfl⟩
set_option maxRecDepth 100000 in
theorem open_attr {n : Nat} {cs : List Value} {y : DataW H × List MemPlace} (h : DataW.trod enc Tryd.prog w base spare held n 78 cs = some y) (hz : (DataW.weights Tryd.prog 78 y.1).all (· ≤ reachBytes) = true) :
    ∃ (A : XA) (v : Value), cs = A.cells v ∧ A.target.length ≤ 140737488351232 ∧ XsAt w v A.xs ∧ A.xs.length * 32 ≤ 140737488351232 := by
  obtain ⟨xs, m, _, rfl, hl, hxl, hf⟩ := DataW.trod_struct Tryd.underlying78 h
  have k2 : Tryd.prog.cellsOf 2 = 1 := by kernel_rfl
  have k9 : Tryd.prog.cellsOf 9 = 1 := by kernel_rfl
  have k5 : Tryd.prog.cellsOf 5 = 1 := by kernel_rfl
  have k6 : Tryd.prog.cellsOf 39 = 1 := by kernel_rfl
  have k7 : Tryd.prog.cellsOf 76 = 1 := by kernel_rfl
  have k33 : Tryd.prog.cellsOf 78 = 7 := by kernel_rfl
  rw [k33] at hl
  match xs, hxl with
  | [y0, y1, y2, y3, y4, y5, y6], _ =>
    match cs, hl with
    | [e0, e1, e2, e3, e4, e5, e6], _ =>
      have h0 := hf 0 _ rfl
      have h1 := hf 1 _ rfl
      have h2 := hf 2 _ rfl
      have h3 := hf 3 _ rfl
      have h4 := hf 4 _ rfl
      have h5 := hf 5 _ rfl
      have h6 := hf 6 _ rfl
      simp only [k2, k9, k5, k6, k7, List.drop_zero, List.drop_succ_cons, List.take_succ_cons, List.take_zero, List.getElem?_cons_zero, List.getElem?_cons_succ] at h0 h1 h2 h3 h4 h5 h6
      obtain ⟨q0, r0, _, s0⟩ := DataW.trod_int Tryd.underlying5 h0
      obtain ⟨q1, r1, _, s1⟩ := DataW.trod_int Tryd.underlying39 h1
      obtain ⟨q2, r2, _, s2⟩ := DataW.trod_int Tryd.underlying39 h2
      obtain ⟨q3, r3, _, s3⟩ := DataW.trod_int Tryd.underlying39 h3
      obtain ⟨q4, r4, _, s4⟩ := DataW.trod_int Tryd.underlying2 h4
      obtain ⟨q5, r5, t5, _⟩ := DataW.trod_string Tryd.underlying9 h5
      have hz2 : (DataW.weightsEach Tryd.prog [5, 39, 39, 39, 2, 9, 76] [y0.1, y1.1, y2.1, y3.1, y4.1, y5.1, y6.1]).all (· ≤ reachBytes) = true := by
        have hz' := hz
        simp only [DataW.weights, Tryd.underlying78] at hz'
        exact hz'
      obtain ⟨X, hX, hXl⟩ := open_xats h6 (all_sub hz2 (fun z hzm => DataW.weights_mem_each (j := 6) rfl rfl _ hzm))
      have w5 : q5.size ≤ 140737488351232 := by
        refine all_mem hz2 (DataW.weights_mem_each (j := 5) rfl rfl _ ?_)
        rw [t5]; simp [DataW.weights, ← Lib.size_eq]
      have p0 : ((q0.toNat : Nat) : Int) = q0 := by
        simp [Lit.wf, IntKind.min, IntKind.max, IntKind.signed, IntKind.bits] at s0; omega
      have p1 : ((q1.toNat : Nat) : Int) = q1 := by
        simp [Lit.wf, IntKind.min, IntKind.max, IntKind.signed, IntKind.bits] at s1; omega
      have p2 : ((q2.toNat : Nat) : Int) = q2 := by
        simp [Lit.wf, IntKind.min, IntKind.max, IntKind.signed, IntKind.bits] at s2; omega
      have p3 : ((q3.toNat : Nat) : Int) = q3 := by
        simp [Lit.wf, IntKind.min, IntKind.max, IntKind.signed, IntKind.bits] at s3; omega
      injection r0 with r0; injection r1 with r1; injection r2 with r2; injection r3 with r3; injection r4 with r4; injection r5 with r5
      refine ⟨⟨q0.toNat, q1.toNat, q2.toNat, q3.toNat, q4, q5.data.toList, X⟩, e6, ?_, by show q5.data.toList.length ≤ _; rw [← Lib.size_eq]; exact w5, hX, hXl⟩
      simp only [XA.cells, ba_mk, p0, p1, p2, p3]
      rw [r0, r1, r2, r3, r4, r5]
set_option maxRecDepth 100000 in
theorem open_stp {n : Nat} {cs : List Value} {y : DataW H × List MemPlace} (h : DataW.trod enc Tryd.prog w base spare held n 80 cs = some y) (hz : (DataW.weights Tryd.prog 80 y.1).all (· ≤ reachBytes) = true) :
    ∃ x : Stp, cs = x.cells ∧ x.Fits w := by
  obtain ⟨xs, m, _, rfl, hl, hxl, hf⟩ := DataW.trod_struct Tryd.underlying80 h
  have k3 : Tryd.prog.cellsOf 3 = 1 := by kernel_rfl
  have k9 : Tryd.prog.cellsOf 9 = 1 := by kernel_rfl
  have k33 : Tryd.prog.cellsOf 78 = 7 := by kernel_rfl
  have k36 : Tryd.prog.cellsOf 80 = 11 := by kernel_rfl
  rw [k36] at hl
  match xs, hxl with
  | [y0, y1, y2, y3, y4], _ =>
    match cs, hl with
    | [e0, e1, e2, e3, e4, e5, e6, e7, e8, e9, e10], _ =>
      have h0 := hf 0 _ rfl
      have h1 := hf 1 _ rfl
      have h2 := hf 2 _ rfl
      have h3 := hf 3 _ rfl
      have h4 := hf 4 _ rfl
      simp only [k3, k9, k33, List.drop_zero, List.drop_succ_cons, List.take_succ_cons, List.take_zero, List.getElem?_cons_zero, List.getElem?_cons_succ] at h0 h1 h2 h3 h4
      have hz2 : (DataW.weightsEach Tryd.prog [3, 3, 9, 9, 78] [y0.1, y1.1, y2.1, y3.1, y4.1]).all (· ≤ reachBytes) = true := by
        have hz' := hz
        simp only [DataW.weights, Tryd.underlying80] at hz'
        exact hz'
      obtain ⟨q0, r0, _, _⟩ := DataW.trod_int Tryd.underlying3 h0
      obtain ⟨q1, r1, _, _⟩ := DataW.trod_int Tryd.underlying3 h1
      obtain ⟨q2, r2, t2, _⟩ := DataW.trod_string Tryd.underlying9 h2
      obtain ⟨q3, r3, t3, _⟩ := DataW.trod_string Tryd.underlying9 h3
      obtain ⟨A, v, hA, hAt, hAx, hAl⟩ := open_attr h4 (all_sub hz2 (fun z hzm => DataW.weights_mem_each (j := 4) rfl rfl _ hzm))
      have w2 : q2.size ≤ 140737488351232 := by
        refine all_mem hz2 (DataW.weights_mem_each (j := 2) rfl rfl _ ?_)
        rw [t2]; simp [DataW.weights, ← Lib.size_eq]
      have w3 : q3.size ≤ 140737488351232 := by
        refine all_mem hz2 (DataW.weights_mem_each (j := 3) rfl rfl _ ?_)
        rw [t3]; simp [DataW.weights, ← Lib.size_eq]
      injection r0 with r0; injection r1 with r1; injection r2 with r2; injection r3 with r3
      refine ⟨⟨q0, q1, q2.data.toList, q3.data.toList, A, v⟩, ?_, ⟨by show q2.data.toList.length ≤ _; rw [← Lib.size_eq]; exact w2, by show q3.data.toList.length ≤ _; rw [← Lib.size_eq]; exact w3, hAt, hAx, hAl⟩⟩
      show _ = Value.int .i64 q0 :: Value.int .i64 q1 :: Value.string ⟨q2.data.toList.toArray⟩ :: Value.string ⟨q3.data.toList.toArray⟩ :: A.cells v
      rw [← hA, ba_mk, ba_mk, r0, r1, r2, r3]; rfl
set_option maxRecDepth 100000 in
theorem open_stps {W : World} {v : Value} {d : DataW H} {p : List MemPlace} {r : Reach} {b0 : Nat} (hval : Value.okWide Tryd.prog W r b0 74 v) (h : DataW.Trod enc Tryd.prog W base (fun _ => true) true 74 v d p)
    (hz : (DataW.weights Tryd.prog 74 d).all (· ≤ reachBytes) = true) : ∃ l : List Stp, StpsAt W v l := by
  obtain ⟨a0, n0, c0, rfl⟩ := okWide_slice Tryd.underlying74 hval
  obtain ⟨fuel, hf⟩ := h
  rcases open_slice Tryd.underlying74 hf with ⟨hcs, _⟩ | ⟨a, len, cap, m, n, D, Pl, hcs, _, hl, hm, hmm, hx, hi⟩
  · simp only [Value.cells] at hcs
    simp at hcs
    obtain ⟨rfl, rfl, rfl⟩ := hcs
    exact ⟨[], none, 0, rfl, by simp, fun hne => absurd rfl hne, by simp⟩
  · simp only [Value.cells] at hcs
    simp at hcs
    obtain ⟨rfl, rfl, rfl⟩ := hcs
    have k34 : Tryd.prog.cellsOf 80 = 11 := by kernel_rfl
    rw [k34] at hi
    have hmn : n0 ≤ m := by rw [hmm]; simp; exact hl
    have hd : d = .slice ((List.range n0).map D) ((List.range (m - n0)).map fun j => D (n0 + j)) := congrArg Prod.fst hx
    have hzi : ∀ i, i < n0 → (DataW.weights Tryd.prog 80 (D i)).all (· ≤ reachBytes) = true := fun i hi' => all_sub hz (fun z hzm => by
      rw [hd]
      simp only [DataW.weights, Tryd.underlying74]
      refine List.mem_cons_of_mem _ (List.mem_append_left _ (weights_all (i := i) ?_ hzm))
      rw [List.getElem?_map, List.getElem?_range hi']; rfl)
    have hspot : 0 < n0 → a.spot = none := fun hp => by
      obtain ⟨cs', hc, ht⟩ := hi 0 (by omega)
      obtain ⟨x, rfl, _⟩ := open_stp ht (hzi 0 hp)
      obtain ⟨_, _, hat⟩ := World.cells?_some hc
      have := World.cell?_spot ((hat 0 (by simp [Stp.cells])).trans rfl)
      simpa [Addr.add] using this
    have hex : ∀ i : Nat, ∃ x : Stp, i < n0 → x.Fits W ∧ a.spot = none ∧ a.block < W.heap.size ∧ x.At W a.block (a.off + i * 11) := by
      intro i
      by_cases hlt : i < n0
      · obtain ⟨cs', hc, ht⟩ := hi i (by omega)
        obtain ⟨x, rfl, hx⟩ := open_stp ht (hzi i hlt)
        obtain ⟨_, _, hat⟩ := World.cells?_some hc
        have g0 := hat 0 (by simp [Stp.cells])
        have hsp : a.spot = none := hspot (by omega)
        have hadd : ∀ j, (a.add (i * 11)).add j = ⟨a.block, a.off + i * 11 + j, none⟩ := fun j => by
          rw [add_add]
          obtain ⟨ab, ao, asp⟩ := a
          simp only at hsp
          subst hsp
          unfold Addr.add
          split
          · next h =>
            have h1 : i * 11 = 0 := by omega
            have h2 : j = 0 := by omega
            rw [h1, h2]; rfl
          · rw [Nat.add_assoc]
        have hbl : a.block < W.heap.size := by
          have := World.block_lt_of_cell? W _ (g0.trans rfl)
          rw [hadd] at this
          exact this
        refine ⟨x, fun _ => ⟨hx, hsp, hbl, ?_⟩⟩
        intro j v hv
        rw [← hadd]
        exact (hat j (List.getElem?_eq_some_iff.1 hv).1).trans hv
      · exact ⟨⟨0, 0, [], [], zeroA, .slice none 0 0⟩, fun h => absurd h hlt⟩
    obtain ⟨g, hg⟩ := Classical.axiomOfChoice hex
    have hln : ((List.range n0).map g).length = n0 := by simp
    have hget : ∀ (i : Nat) x, ((List.range n0).map g)[i]? = some x → i < n0 ∧ x = g i := fun i x hx => by
      rw [List.getElem?_map] at hx
      by_cases hlt : i < n0
      · rw [List.getElem?_range hlt] at hx; exact ⟨hlt, (Option.some.inj hx).symm⟩
      · rw [List.getElem?_eq_none (by simp; omega)] at hx; simp at hx
    refine ⟨(List.range n0).map g, some a, c0, by rw [hln], by rw [hln]; omega, fun hne => ?_, fun x hx => ?_⟩
    · have hpos : 0 < n0 := by
        rcases Nat.eq_zero_or_pos n0 with e | e
        · exact absurd (by rw [e]; rfl) hne
        · exact e
      obtain ⟨_, hsp, hbl, _⟩ := hg 0 hpos
      refine ⟨a.block, a.off, ?_, hbl, fun i x hx => ?_⟩
      · obtain ⟨ab, ao, asp⟩ := a
        simp only at hsp
        subst hsp; rfl
      · obtain ⟨hlt, rfl⟩ := hget i x hx
        exact (hg i hlt).2.2.2
    · obtain ⟨i, hi', rfl⟩ := List.mem_map.1 hx
      exact (hg i (List.mem_range.1 hi')).1
end
end Go.Proofs.YthcjjekkjbidlaaDoor.Sr
