import Derived.Test.YthcjjekkjbidlaaDoorZPSrPieces
import Derived.Test.YthcjjekkjbidlaaDoorZPWhB3
set_option linter.unusedSimpArgs false
set_option linter.unusedVariables false
/-
  SourceWhole's walk: every node's stat and list.
-/
namespace Go.Proofs.YthcjjekkjbidlaaDoor.Sr
open Go.RowKit Go.Maps Go.WideMaps Go.Proofs.YthcjjekkjbidlaaDoor.Rf Go.Proofs.YthcjjekkjbidlaaDoor.Nm Go.Proofs.YthcjjekkjbidlaaDoor.St
set_option linter.unusedSimpArgs false in
set_option maxHeartbeats 40000000 in
set_option maxRecDepth 100000 in
theorem wh_b2 {Q : Exit → Act → World → Prop} (u0 u1 u2 u3 u4 u5 u6 u8 u12 u13 u14 u15 u16 u17 u18 u19 u20 u21 u22 u23 u24 u25 u26 u27 u28 u29 u30 u31 u32 u33 u34 u35 u36 u37 u38 u39 u40 u41 u42 u43 u44 u45 u46 u47 u48 u49 u50 u51 u52 u53 u54 u55 u56 u57 u58 u59 u60 u61 u62 u63 u64 u65 u66 u67 u68 u69 u70 u71 u72 u73 u74 u75 u76 u77 u78 u79 u80 u81 u82 u83 u84 u85 u86 u87 u88 u89 u90 u91 u92 u93 u94 u95 u96 u97 u98 u99 u100 u101 u102 u103 u104 u105 u106 u107 u108 u109 u110 u111 u112 u113 u114 u115 u116 u117 u118 u119 u120 u121 u122 u123 u124 u125 u126 u127 u128 u129 u130 u131 u132 u133 u134 u135 u136 u137 u138 u139 u140 u141 u142 u143 u144 u145 u146 u147 u148 u149 u150 u151 u152 u153 u154 u155 u156 u157 u158 u159 u160 u161 u162 u163 u164 u165 u166 u167 u168 u169 u170 u171 u172 u173 u174 u175 u176 u177 u178 u179 u180 u181 u182 u183 u184 u185 u186 u187 u188 u189 u190 u191 u192 u193 u194 u195 u196 u197 u198 u199 u200 u201 u202 u203 u204 u205 : Value) {r C n B : Nat} {T : Tr} {va : Option Addr} {vc : Nat} {R0 : List (TE × Value)} {w5 : World}
    (hP : ∀ c (a a' : Act) w, a.defers = a'.defers → Q (.panic c) a w → Q (.panic c) a' w) (HT : Hid (TreeAt B w5 r T)) (HO0 : Hid (OutAt C w5 (.slice va T.L.length vc) R0)) (HM0 : Hid (R0.map (·.1) = T.L)) (G0 : Hid (Good n T)) (hn : n ≤ 60)
    (HK : ∀ (t6 t11 t12 t13 t14 t15 t40 t41 t42 t43 t44 t45 t46 t47 t48 t49 t50 t51 t52 t53 t54 t55 t56 t57 t58 t59 t60 t61 t62 t63 t64 t65 t66 t67 t68 t69 t70 t71 t72 t73 t74 t75 t76 t77 t78 t79 t80 t81 t82 t83 t84 t85 t86 t87 t88 t89 t90 t91 t92 t93 t94 t95 t96 t97 t98 t99 t100 t101 t102 t103 t104 t105 t106 t107 t108 t109 t110 t111 t112 t113 t114 t115 t116 t117 t118 t119 t120 t121 t122 t123 t124 t125 t126 t127 t128 t129 t130 t131 : Value) (w' : World), Below w5.heap.size w5 w' → Q .normal ⟨#[u0, u1, u2, u3, u4, u5, t6, .pointer (some ⟨r, 0, none⟩), u8, .slice va T.L.length vc, .int .i64 ((alN T.L T.L.length : Nat) : Int), t11, t12, t13, t14, t15, u16, u17, u18, u19, u20, u21, u22, u23, u24, u25, u26, u27, u28, u29, u30, u31, u32, u33, u34, u35, u36, u37, u38, u39, t40, t41, t42, t43, t44, t45, t46, t47, t48, t49, t50, t51, t52, t53, t54, t55, t56, t57, t58, t59, t60, t61, t62, t63, t64, t65, t66, t67, t68, t69, t70, t71, t72, t73, t74, t75, t76, t77, t78, t79, t80, t81, t82, t83, t84, t85, t86, t87, t88, t89, t90, t91, t92, t93, t94, t95, t96, t97, t98, t99, t100, t101, t102, t103, t104, t105, t106, t107, t108, t109, t110, t111, t112, t113, t114, t115, t116, t117, t118, t119, t120, t121, t122, t123, t124, t125, t126, t127, t128, t129, t130, t131, u132, u133, u134, u135, u136, u137, u138, u139, u140, u141, u142, u143, u144, u145, u146, u147, u148, u149, u150, u151, u152, u153, u154, u155, u156, u157, u158, u159, u160, u161, u162, u163, u164, u165, u166, u167, u168, u169, u170, u171, u172, u173, u174, u175, u176, u177, u178, u179, u180, u181, u182, u183, u184, u185, u186, u187, u188, u189, u190, u191, u192, u193, u194, u195, u196, u197, u198, u199, u200, u201, u202, u203, u204, u205], []⟩ w') :
    Code.wp Tryd.prog (whB 2) Q ⟨#[u0, u1, u2, u3, u4, u5, u6, .pointer (some ⟨r, 0, none⟩), u8, .slice va T.L.length vc, .int .i64 0, .int .i64 0, u12, u13, u14, u15, u16, u17, u18, u19, u20, u21, u22, u23, u24, u25, u26, u27, u28, u29, u30, u31, u32, u33, u34, u35, u36, u37, u38, u39, u40, u41, u42, u43, u44, u45, u46, u47, u48, u49, u50, u51, u52, u53, u54, u55, u56, u57, u58, u59, u60, u61, u62, u63, u64, u65, u66, u67, u68, u69, u70, u71, u72, u73, u74, u75, u76, u77, u78, u79, u80, u81, u82, u83, u84, u85, u86, u87, u88, u89, u90, u91, u92, u93, u94, u95, u96, u97, u98, u99, u100, u101, u102, u103, u104, u105, u106, u107, u108, u109, u110, u111, u112, u113, u114, u115, u116, u117, u118, u119, u120, u121, u122, u123, u124, u125, u126, u127, u128, u129, u130, u131, u132, u133, u134, u135, u136, u137, u138, u139, u140, u141, u142, u143, u144, u145, u146, u147, u148, u149, u150, u151, u152, u153, u154, u155, u156, u157, u158, u159, u160, u161, u162, u163, u164, u165, u166, u167, u168, u169, u170, u171, u172, u173, u174, u175, u176, u177, u178, u179, u180, u181, u182, u183, u184, u185, u186, u187, u188, u189, u190, u191, u192, u193, u194, u195, u196, u197, u198, u199, u200, u201, u202, u203, u204, u205], []⟩ w5 := by
  have HKH := Lib.hid HK
  clear HK
  conv => arg 2; whnf
  have hl0 : T.L.length ≤ 61 := by have := G0.out.len; omega
  go_wp2
  go_loopw [10, 11] (fun v10 v11 ws => ∃ k : Nat, k ≤ T.L.length ∧ v11 = .int .i64 (k : Int) ∧ v10 = .int .i64 ((alN T.L k : Nat) : Int) ∧ Hid (Below w5.heap.size w5 ws)) (fun _ v11 _ => T.L.length - (RowKit.intOf v11).toNat)
  case atStart => exact ⟨0, by omega, rfl, by rw [show alN T.L 0 = 0 from rfl]; rfl, Lib.hid (Below.refl _ _)⟩
  case round =>
    rename World => ws
    obtain ⟨k, hk, rfl, rfl, HBS⟩ := hrel
    by_cases hkl : (k : Int) < (T.L.length : Int)
    · have hk2 : k < T.L.length := by omega
      obtain ⟨e, he⟩ : ∃ e, T.L[k]? = some e := ⟨_, List.getElem?_eq_getElem hk2⟩
      have hal := alN_61 HT.out k
      have HAL := Lib.hid (alN_succ he)
      have HE := Lib.hid he
      obtain ⟨al, hal2⟩ : ∃ al, al = alN T.L k := ⟨_, rfl⟩
      obtain ⟨nl, hnl⟩ : ∃ nl, nl = (namesT T.L e.nm).length := ⟨_, rfl⟩
      rw [← hal2] at HAL hal ⊢
      rw [← hnl] at HAL
      clear he hal2
      go_upto_block 3 with (fail)
      refine wh_b3 _ _ _ _ _ _ _ _ _ _ _ _ _ _ _ _ _ _ _ _ _ _ _ _ _ _ _ _ _ _ _ _ _ _ _ _ _ _ _ _ _ _ _ _ _ _ _ _ _ _ _ _ _ _ _ _ _ _ _ _ _ _ _ _ _ _ _ _ _ _ _ _ _ _ _ _ _ _ _ _ _ _ _ _ _ _ _ _ _ _ _ _ _ _ _ _ _ _ _ _ _ _ _ _ _ _ _ _ _ _ _ _ _ _ _ _ _ _ _ _ _ _ _ _ _ _ _ _ _ _ _ _ _ _ _ _ _ _ _ _ _ _ _ _ _ _ _ _ _ _ _ _ _ _ _ _ _ _ _ _ _ _ _ _ _ _ _ _ _ _ _ _ _ _ _ _ _ _ _ _ _ _ _ _ _ _ _ _ _ _ _ _ _ _ _ _ _ _ _ _ _ _ (fun c a a' w hd h => hP c a a' w hd h) HT HO0 HM0 HBS G0 hn HE.out (by omega) hnl ?_
      intro t6 t12 t13 t14 t15 t46 t47 t48 t49 t50 t51 t52 t53 t54 t55 t56 t57 t58 t59 t60 t61 t62 t63 t64 t65 t66 t67 t68 t69 t70 t71 t72 t73 t74 t75 t76 t77 t78 t79 t80 t81 t82 t83 t84 t85 t86 t87 t88 t89 t90 t91 t92 t93 t94 t95 t96 t97 t98 t99 t100 t101 t102 t103 t104 t105 t106 t107 t108 t109 t110 t111 t112 t113 t114 t115 t116 t117 t118 t119 t120 t121 t122 t123 t124 t125 t126 t127 t128 t129 t130 t131 w6 hb6
      have HB6 := Lib.hid (HBS.out.trans (hb6.mono HBS.out.size))
      clear hb6 HE hnl
      go_wp2
      go_roundw
      case rel => exact ⟨k + 1, by omega, by go_num, by rw [HAL.out], HB6⟩
      case measure => simp [RowKit.intOf]; omega
    · obtain rfl : k = T.L.length := by omega
      go_wp2
      exact HKH.out _ _ _ _ _ _ _ _ _ _ _ _ _ _ _ _ _ _ _ _ _ _ _ _ _ _ _ _ _ _ _ _ _ _ _ _ _ _ _ _ _ _ _ _ _ _ _ _ _ _ _ _ _ _ _ _ _ _ _ _ _ _ _ _ _ _ _ _ _ _ _ _ _ _ _ _ _ _ _ _ _ _ _ _ _ _ _ _ _ _ _ _ _ _ _ _ _ _ _ HBS.out
end Go.Proofs.YthcjjekkjbidlaaDoor.Sr
