import Derived.Test.YthcjjekkjbidlaaDoorZPSrPieces
set_option linter.unusedSimpArgs false
set_option linter.unusedVariables false
/-
  SourceHonest's walk: the numbers behind a step.
-/
namespace Go.Proofs.YthcjjekkjbidlaaDoor.Sr
open Go.RowKit Go.Maps Go.WideMaps Go.Proofs.YthcjjekkjbidlaaDoor.Rf Go.Proofs.YthcjjekkjbidlaaDoor.Nm Go.Proofs.YthcjjekkjbidlaaDoor.St
set_option linter.unusedSimpArgs false in
set_option maxHeartbeats 40000000 in
set_option maxRecDepth 100000 in
theorem hn14 {Q : Exit → Act → World → Prop} (u1 u2 u5 u12 u13 u14 u15 u16 u17 u18 u19 u20 u21 u22 u23 u24 u25 u26 u27 u28 u29 u30 u31 u32 u33 u34 u35 u36 u37 u38 u39 u40 u41 u42 u43 u44 u45 u46 u47 u48 u49 u50 u51 u52 u53 u54 u55 u56 u57 u58 u59 u60 u61 u62 u63 u64 u65 u66 u67 u68 u69 u70 u71 u72 u73 u74 u75 u76 u77 u78 u79 u80 u81 u82 u83 u84 u85 u86 u87 u88 u89 u90 u91 u92 u93 u94 u95 u96 u97 u98 u99 u100 u101 u102 u103 u104 u105 u106 u107 u108 u109 u110 u111 u112 u113 u114 u115 u116 u117 u118 u119 u120 u121 u122 u123 u124 u125 u126 u127 u128 u129 u130 u131 u132 u133 u134 u135 u136 u137 u138 u139 u140 u141 u142 u143 u144 u145 u146 u147 u148 u149 u150 u151 u152 u153 u154 u155 u156 u157 u158 u159 u160 u161 u162 u163 u164 u165 u166 u167 u168 u169 u170 u171 u172 u173 u174 u175 u176 u177 u178 u179 u180 u181 u182 u183 u184 u185 u186 u187 u188 u189 u190 u191 u192 u193 u194 u195 u196 u197 u198 u199 u200 u201 u202 u203 u204 u205 u206 u207 u208 u209 u210 u211 u212 u213 u214 u215 u216 u217 u218 u219 u220 u221 u222 u223 u224 u225 u226 u227 u228 u229 u230 u231 u232 u233 u234 u235 u236 u237 u238 u239 u240 u241 u242 u243 u244 u245 u246 u247 u248 u249 u250 u251 u252 u253 : Value) {ba oa n cap i r : Nat} {E kd : Int} {ch : Bool} {w5 : World} {c0 c1 r0 r1 : Int} {va na : Option Addr} {vc nc n0 n1 : Nat}
    (hP : ∀ c (a a' : Act) w, a.defers = a'.defers → Q (.panic c) a w → Q (.panic c) a' w) (hin : i < n) (hlm : n ≤ 9223372036854775807) (hch : Hid (ch = (decide (E = 0) && (decide (0 ≤ kd) && decide (kd ≤ 8))))) (kx : w5.cell? ⟨ba, oa + i * 11, none⟩ = some (.int .i64 kd))
    (NW : Hid (Calls Tryd.prog 12 #[.pointer (some ⟨r, 0, none⟩)] w5 fun e w' => e = .returned (.int .i64 c1) ∧ w' = w5)) (RD : Hid (Calls Tryd.prog 13 #[.pointer (some ⟨r, 0, none⟩)] w5 fun e w' => e = .returned (.int .i64 r1) ∧ w' = w5))
    (hc0 : 0 ≤ c0 ∧ c0 ≤ 1099511627776) (hr0 : 0 ≤ r0 ∧ r0 ≤ 1000) (HYES : Hid (ch = true → c1 = c0 + 1)) (HNO : Hid (ch = false → n1 = n0 ∧ c1 = c0)) (HRS : Hid (r1 = r0 + if E = 0 ∧ kd = 9 then 1 else 0))
    (HK : ∀ (t63 t64 t65 t66 t67 t68 t69 t70 t71 t72 t73 t74 t75 t76 t77 t78 t79 t80 t81 t82 t83 t84 t85 t86 t87 t88 t89 t90 t91 t92 t93 t94 t95 t96 t97 t98 t99 t100 t101 t102 t103 : Value) (w' : World), w5 = w' → Q .normal ⟨#[.slice (some ⟨ba, oa, none⟩) n cap, u1, u2, .pointer (some ⟨r, 0, none⟩), .slice va n0 vc, u5, .int .i64 (i : Int), .int .i64 c0, .int .i64 r0, .int .i64 E, .slice na n1 nc, .bool ch, u12, u13, u14, u15, u16, u17, u18, u19, u20, u21, u22, u23, u24, u25, u26, u27, u28, u29, u30, u31, u32, u33, u34, u35, u36, u37, u38, u39, u40, u41, u42, u43, u44, u45, u46, u47, u48, u49, u50, u51, u52, u53, u54, u55, u56, u57, u58, u59, u60, u61, u62, t63, t64, t65, t66, t67, t68, t69, t70, t71, t72, t73, t74, t75, t76, t77, t78, t79, t80, t81, t82, t83, t84, t85, t86, t87, t88, t89, t90, t91, t92, t93, t94, t95, t96, t97, t98, t99, t100, t101, t102, t103, .bool false, u105, u106, u107, u108, u109, u110, u111, u112, u113, u114, u115, u116, u117, u118, u119, u120, u121, u122, u123, u124, u125, u126, u127, u128, u129, u130, u131, u132, u133, u134, u135, u136, u137, u138, u139, u140, u141, u142, u143, u144, u145, u146, u147, u148, u149, u150, u151, u152, u153, u154, u155, u156, u157, u158, u159, u160, u161, u162, u163, u164, u165, u166, u167, u168, u169, u170, u171, u172, u173, u174, u175, u176, u177, u178, u179, u180, u181, u182, u183, u184, u185, u186, u187, u188, u189, u190, u191, u192, u193, u194, u195, u196, u197, u198, u199, u200, u201, u202, u203, u204, u205, u206, u207, u208, u209, u210, u211, u212, u213, u214, u215, u216, u217, u218, u219, u220, u221, u222, u223, u224, u225, u226, u227, u228, u229, u230, u231, u232, u233, u234, u235, u236, u237, u238, u239, u240, u241, u242, u243, u244, u245, u246, u247, u248, u249, u250, u251, u252, u253], []⟩ w') :
    Code.wp Tryd.prog (hnR 14) Q ⟨#[.slice (some ⟨ba, oa, none⟩) n cap, u1, u2, .pointer (some ⟨r, 0, none⟩), .slice va n0 vc, u5, .int .i64 (i : Int), .int .i64 c0, .int .i64 r0, .int .i64 E, .slice na n1 nc, .bool ch, u12, u13, u14, u15, u16, u17, u18, u19, u20, u21, u22, u23, u24, u25, u26, u27, u28, u29, u30, u31, u32, u33, u34, u35, u36, u37, u38, u39, u40, u41, u42, u43, u44, u45, u46, u47, u48, u49, u50, u51, u52, u53, u54, u55, u56, u57, u58, u59, u60, u61, u62, u63, u64, u65, u66, u67, u68, u69, u70, u71, u72, u73, u74, u75, u76, u77, u78, u79, u80, u81, u82, u83, u84, u85, u86, u87, u88, u89, u90, u91, u92, u93, u94, u95, u96, u97, u98, u99, u100, u101, u102, u103, u104, u105, u106, u107, u108, u109, u110, u111, u112, u113, u114, u115, u116, u117, u118, u119, u120, u121, u122, u123, u124, u125, u126, u127, u128, u129, u130, u131, u132, u133, u134, u135, u136, u137, u138, u139, u140, u141, u142, u143, u144, u145, u146, u147, u148, u149, u150, u151, u152, u153, u154, u155, u156, u157, u158, u159, u160, u161, u162, u163, u164, u165, u166, u167, u168, u169, u170, u171, u172, u173, u174, u175, u176, u177, u178, u179, u180, u181, u182, u183, u184, u185, u186, u187, u188, u189, u190, u191, u192, u193, u194, u195, u196, u197, u198, u199, u200, u201, u202, u203, u204, u205, u206, u207, u208, u209, u210, u211, u212, u213, u214, u215, u216, u217, u218, u219, u220, u221, u222, u223, u224, u225, u226, u227, u228, u229, u230, u231, u232, u233, u234, u235, u236, u237, u238, u239, u240, u241, u242, u243, u244, u245, u246, u247, u248, u249, u250, u251, u252, u253], []⟩ w5 := by
  have HKH := Lib.hid HK
  clear HK
  conv => arg 2; whnf
  have hil : (i : Int) < (n : Int) := by omega
  obtain ⟨hc1, hc2⟩ := hc0
  obtain ⟨hr1, hr2⟩ := hr0
  cases ch with
  | true =>
    have hd := hch.out.symm
    simp only [Bool.and_eq_true, decide_eq_true_eq] at hd
    obtain ⟨rfl, k0, k8⟩ := hd
    obtain rfl := HYES.out rfl
    have hk9 : (kd == 9) = false := by rw [beq_eq_false_iff_ne]; omega
    have hr : r1 = r0 := by rw [HRS.out, if_neg (fun h => by omega)]; omega
    subst hr
    clear hch HYES HNO HRS
    go_wp2_with (first
      | (refine NW.out.mono ?_; rintro ex wx ⟨rfl, hwx⟩; obtain rfl : w5 = wx := hwx.symm; clear hwx)
      | (refine RD.out.mono ?_; rintro ex wx ⟨rfl, hwx⟩; obtain rfl : w5 = wx := hwx.symm; clear hwx)
      | fail)
    exact HKH.out _ _ _ _ _ _ _ _ _ _ _ _ _ _ _ _ _ _ _ _ _ _ _ _ _ _ _ _ _ _ _ _ _ _ _ _ _ _ _ _ _ _ rfl
  | false =>
    obtain ⟨rfl, rfl⟩ := HNO.out rfl
    by_cases e0 : E = 0
    · subst e0
      by_cases k9 : kd = 9
      · subst k9
        have hr : r1 = r0 + 1 := by rw [HRS.out, if_pos ⟨rfl, rfl⟩]
        subst hr
        have hrb : (r0 + 1 == r0) = false := by rw [beq_eq_false_iff_ne]; omega
        have hrc : (r0 + 1 != r0) = true := by rw [bne, hrb]; rfl
        clear hch HYES HNO HRS
        go_wp2_with (first
          | (refine NW.out.mono ?_; rintro ex wx ⟨rfl, hwx⟩; obtain rfl : w5 = wx := hwx.symm; clear hwx)
          | (refine RD.out.mono ?_; rintro ex wx ⟨rfl, hwx⟩; obtain rfl : w5 = wx := hwx.symm; clear hwx)
          | fail)
        exact HKH.out _ _ _ _ _ _ _ _ _ _ _ _ _ _ _ _ _ _ _ _ _ _ _ _ _ _ _ _ _ _ _ _ _ _ _ _ _ _ _ _ _ _ rfl
      · have hk9 : (kd == 9) = false := by rw [beq_eq_false_iff_ne]; exact k9
        have hr : r1 = r0 := by rw [HRS.out, if_neg (fun h => k9 h.2)]; omega
        subst hr
        clear hch HYES HNO HRS
        go_wp2_with (first
          | (refine NW.out.mono ?_; rintro ex wx ⟨rfl, hwx⟩; obtain rfl : w5 = wx := hwx.symm; clear hwx)
          | (refine RD.out.mono ?_; rintro ex wx ⟨rfl, hwx⟩; obtain rfl : w5 = wx := hwx.symm; clear hwx)
          | fail)
        exact HKH.out _ _ _ _ _ _ _ _ _ _ _ _ _ _ _ _ _ _ _ _ _ _ _ _ _ _ _ _ _ _ _ _ _ _ _ _ _ _ _ _ _ _ rfl
    · have hb : (E == 0) = false := by rw [beq_eq_false_iff_ne]; exact e0
      have hr : r1 = r0 := by rw [HRS.out, if_neg (fun h => e0 h.1)]; omega
      subst hr
      clear hch HYES HNO HRS
      go_wp2_with (first
        | (refine NW.out.mono ?_; rintro ex wx ⟨rfl, hwx⟩; obtain rfl : w5 = wx := hwx.symm; clear hwx)
        | (refine RD.out.mono ?_; rintro ex wx ⟨rfl, hwx⟩; obtain rfl : w5 = wx := hwx.symm; clear hwx)
        | fail)
      exact HKH.out _ _ _ _ _ _ _ _ _ _ _ _ _ _ _ _ _ _ _ _ _ _ _ _ _ _ _ _ _ _ _ _ _ _ _ _ _ _ _ _ _ _ rfl
end Go.Proofs.YthcjjekkjbidlaaDoor.Sr
