import Derived.Test.YtnkapojbijbbaaaGreatDoorZPSrPieces
import Derived.Test.YtnkapojbijbbaaaGreatDoorZPMvB4
import Derived.Test.YtnkapojbijbbaaaGreatDoorZPSrMove
set_option linter.unusedSimpArgs false
set_option linter.unusedVariables false
set_option maxHeartbeats 400000000
set_option maxRecDepth 100000
namespace Go.Proofs.YtnkapojbijbbaaaGreatDoor.Sr
open Go.RowKit Go.Maps Go.WideMaps Rf Go.Proofs.YtnkapojbijbbaaaGreatDoor.Nm St
def intoB (a b : PN) : Bool := decide (a.length = 0) || (decide (a.length < b.length) && a.isPrefixOf b)
def fullB (s : Bool) (k : Nat) : Bool := !s && decide (256 ≤ k)
theorem mv_r8 {Q : Exit → Act → World → Prop} (u0 u1 u2 u3 u4 u5 u6 u8 u10 u11 u12 u13 u14 u15 u16 u17 u18 u19 u20 u21 u22 u23 u24 u25 u26 u27 u28 u29 u30 u31 u32 u33 u34 u35 u36 u37 u38 u39 u40 u41 u42 u43 u44 u45 u46 u47 u48 u49 u50 u51 u52 u53 u54 u55 u56 u57 u58 u59 u60 u61 u62 u63 u64 u65 u66 u67 u68 u69 u70 u71 u72 u73 u74 u75 u76 u77 u78 u79 u80 u81 u82 u83 u84 u85 u86 u87 u88 u89 u90 u91 u92 u93 u94 u95 u96 u97 u98 u99 u100 u101 u102 u103 u104 u105 u106 u107 u108 u109 u110 u111 u112 u113 u114 u115 u116 u117 u118 u119 u120 u121 u122 u123 u124 u125 u126 u127 u128 u129 u130 u131 u132 u133 u134 u135 u136 u137 u138 u139 u140 u141 u142 u143 u144 u145 u146 u147 u148 u149 u150 u151 u152 u153 u154 u155 u156 u157 u158 u159 u160 u161 u162 u163 u164 u165 u166 u167 u168 u169 u170 u171 u172 u173 u174 u175 u176 u177 u178 u179 u180 u181 u182 u183 u184 u185 u186 u187 u188 u189 u190 u191 u192 u193 u194 u195 u196 u197 u198 u199 u200 u201 u202 u203 u204 u205 u206 u207 u208 u209 u210 u211 u212 u213 u214 u215 u216 u217 u218 u219 u220 u221 u222 u223 u224 u225 u226 : Value) {ac bc : Nat} {aa ba : Option Addr} {a b : PN} {w : World}
 (hP : ∀ c (a a' : Act) w, a.defers = a'.defers → Q (.panic c) a w → Q (.panic c) a' w) (hal : a.length ≤ 1000) (hbl : b.length ≤ 1000) (HA : Hid (St.StrsAt w (.slice aa a.length ac) a)) (HBS : Hid (St.StrsAt w (.slice ba b.length bc) b))
 (HK : ∀ (t43 t44 t45 t46 t47 t48 t49 t50 t51 t52 t53 t54 t55 t56 : Value) (w' : World), Below w.heap.size w w' → Q .normal ⟨#[u0, u1, u2, u3, u4, u5, u6, .slice aa a.length ac, u8, .slice ba b.length bc, u10, u11, u12, u13, u14, u15, u16, u17, u18, u19, u20, u21, u22, u23, u24, u25, u26, u27, u28, u29, u30, u31, u32, u33, u34, u35, u36, u37, u38, u39, u40, u41, u42, t43, t44, t45, t46, t47, t48, t49, t50, t51, t52, t53, t54, t55, t56, .bool (intoB a b), u58, u59, u60, u61, u62, u63, u64, u65, u66, u67, u68, u69, u70, u71, u72, u73, u74, u75, u76, u77, u78, u79, u80, u81, u82, u83, u84, u85, u86, u87, u88, u89, u90, u91, u92, u93, u94, u95, u96, u97, u98, u99, u100, u101, u102, u103, u104, u105, u106, u107, u108, u109, u110, u111, u112, u113, u114, u115, u116, u117, u118, u119, u120, u121, u122, u123, u124, u125, u126, u127, u128, u129, u130, u131, u132, u133, u134, u135, u136, u137, u138, u139, u140, u141, u142, u143, u144, u145, u146, u147, u148, u149, u150, u151, u152, u153, u154, u155, u156, u157, u158, u159, u160, u161, u162, u163, u164, u165, u166, u167, u168, u169, u170, u171, u172, u173, u174, u175, u176, u177, u178, u179, u180, u181, u182, u183, u184, u185, u186, u187, u188, u189, u190, u191, u192, u193, u194, u195, u196, u197, u198, u199, u200, u201, u202, u203, u204, u205, u206, u207, u208, u209, u210, u211, u212, u213, u214, u215, u216, u217, u218, u219, u220, u221, u222, u223, u224, u225, u226], []⟩ w') :
 Code.wp Tryz.prog (mvR 8) Q ⟨#[u0, u1, u2, u3, u4, u5, u6, .slice aa a.length ac, u8, .slice ba b.length bc, u10, u11, u12, u13, u14, u15, u16, u17, u18, u19, u20, u21, u22, u23, u24, u25, u26, u27, u28, u29, u30, u31, u32, u33, u34, u35, u36, u37, u38, u39, u40, u41, u42, u43, u44, u45, u46, u47, u48, u49, u50, u51, u52, u53, u54, u55, u56, u57, u58, u59, u60, u61, u62, u63, u64, u65, u66, u67, u68, u69, u70, u71, u72, u73, u74, u75, u76, u77, u78, u79, u80, u81, u82, u83, u84, u85, u86, u87, u88, u89, u90, u91, u92, u93, u94, u95, u96, u97, u98, u99, u100, u101, u102, u103, u104, u105, u106, u107, u108, u109, u110, u111, u112, u113, u114, u115, u116, u117, u118, u119, u120, u121, u122, u123, u124, u125, u126, u127, u128, u129, u130, u131, u132, u133, u134, u135, u136, u137, u138, u139, u140, u141, u142, u143, u144, u145, u146, u147, u148, u149, u150, u151, u152, u153, u154, u155, u156, u157, u158, u159, u160, u161, u162, u163, u164, u165, u166, u167, u168, u169, u170, u171, u172, u173, u174, u175, u176, u177, u178, u179, u180, u181, u182, u183, u184, u185, u186, u187, u188, u189, u190, u191, u192, u193, u194, u195, u196, u197, u198, u199, u200, u201, u202, u203, u204, u205, u206, u207, u208, u209, u210, u211, u212, u213, u214, u215, u216, u217, u218, u219, u220, u221, u222, u223, u224, u225, u226], []⟩ w := by
 have HKH := Lib.hid HK
 clear HK
 conv => arg 2; whnf
 have hb1 : a.length ≤ 1000 := hal
 by_cases ha0 : a.length = 0
 · have q0 : ((a.length : Int) == 0) = true := by rw [ha0]; rfl
   have hR : Hid (intoB a b = true) := Lib.hid (by rw [intoB, ha0]; rfl)
   rw [hR.out] at HKH
   clear ha0
   go_wp2
   exact HKH.out _ _ _ _ _ _ _ _ _ _ _ _ _ _ _ (Below.refl _ _)
 have q0 : ((a.length : Int) == 0) = false := by rw [beq_eq_false_iff_ne]; omega
 by_cases hl : a.length < b.length
 case neg =>
  have hl1 : ¬ (a.length : Int) < (b.length : Int) := by omega
  have hR : Hid (intoB a b = false) := Lib.hid (by rw [intoB, decide_eq_false ha0, decide_eq_false hl]; rfl)
  rw [hR.out] at HKH
  clear ha0 hl
  go_wp2
  exact HKH.out _ _ _ _ _ _ _ _ _ _ _ _ _ _ _ (Below.refl _ _)
 have hl1 : (a.length : Int) < (b.length : Int) := by omega
 have CB := begins_any w _ _ a b HA.out HBS.out
 have hR : Hid (intoB a b = a.isPrefixOf b) := Lib.hid (by rw [intoB, decide_eq_false ha0, decide_eq_true hl]; rfl)
 rw [hR.out] at HKH
 clear ha0 hl
 cases hpre : a.isPrefixOf b with
 | true =>
   rw [hpre] at CB HKH
   have CB := Lib.hid CB
   clear hpre
   go_wp2_with fail
   refine CB.out.mono ?_
   rintro ez w5 ⟨rfl, hb5⟩
   have HB5 := Lib.hid hb5
   clear hb5 CB
   go_wp2
   exact HKH.out _ _ _ _ _ _ _ _ _ _ _ _ _ _ _ HB5.out
 | false =>
   rw [hpre] at CB HKH
   have CB := Lib.hid CB
   clear hpre
   go_wp2_with fail
   refine CB.out.mono ?_
   rintro ez w5 ⟨rfl, hb5⟩
   have HB5 := Lib.hid hb5
   clear hb5 CB
   go_wp2
   exact HKH.out _ _ _ _ _ _ _ _ _ _ _ _ _ _ _ HB5.out
theorem mv_r22 {Q : Exit → Act → World → Prop} (u0 u1 u2 u3 u4 u5 u6 u7 u8 u9 u10 u11 u12 u13 u16 u17 u18 u19 u20 u21 u22 u23 u24 u25 u26 u27 u28 u29 u30 u31 u32 u33 u34 u35 u36 u37 u38 u39 u40 u41 u42 u43 u44 u45 u46 u47 u48 u49 u50 u51 u52 u53 u54 u55 u56 u57 u58 u59 u60 u61 u62 u63 u64 u65 u66 u67 u68 u69 u70 u71 u72 u73 u74 u75 u76 u77 u78 u79 u80 u81 u82 u83 u84 u85 u86 u87 u88 u89 u90 u91 u92 u93 u94 u95 u96 u97 u98 u99 u100 u101 u102 u103 u104 u105 u106 u107 u108 u109 u110 u111 u112 u113 u114 u115 u116 u117 u118 u119 u120 u121 u122 u123 u124 u125 u126 u127 u128 u129 u130 u131 u132 u133 u134 u135 u136 u137 u138 u139 u140 u141 u142 u143 u144 u145 u146 u147 u148 u149 u150 u151 u152 u153 u154 u155 u156 u157 u158 u159 u160 u161 u162 u163 u164 u165 u166 u167 u168 u169 u170 u171 u172 u173 u174 u175 u176 u177 u178 u179 u180 u181 u182 u183 u184 u185 u186 u187 u188 u189 u190 u191 u192 u193 u194 u195 u196 u197 u198 u199 u200 u201 u202 u203 u204 u205 u206 u207 u208 u209 u210 u211 u212 u213 u214 u215 u216 u217 u218 u219 u220 u221 u222 u223 u224 u225 u226 : Value) {ac bc : Nat} {aa ba : Option Addr} {a b : PN} {w : World}
 (hP : ∀ c (a a' : Act) w, a.defers = a'.defers → Q (.panic c) a w → Q (.panic c) a' w) (hal : a.length ≤ 1000) (hbl : b.length ≤ 1000) (HA : Hid (St.StrsAt w (.slice aa a.length ac) a)) (HBS : Hid (St.StrsAt w (.slice ba b.length bc) b))
 (HK : ∀ (t115 t116 t117 t118 t119 t120 t121 t122 t123 t124 : Value) (w' : World), Below w.heap.size w w' → Q .normal ⟨#[u0, u1, u2, u3, u4, u5, u6, u7, u8, u9, u10, u11, u12, u13, .slice aa a.length ac, .slice ba b.length bc, .bool (decide (b = a)), u17, u18, u19, u20, u21, u22, u23, u24, u25, u26, u27, u28, u29, u30, u31, u32, u33, u34, u35, u36, u37, u38, u39, u40, u41, u42, u43, u44, u45, u46, u47, u48, u49, u50, u51, u52, u53, u54, u55, u56, u57, u58, u59, u60, u61, u62, u63, u64, u65, u66, u67, u68, u69, u70, u71, u72, u73, u74, u75, u76, u77, u78, u79, u80, u81, u82, u83, u84, u85, u86, u87, u88, u89, u90, u91, u92, u93, u94, u95, u96, u97, u98, u99, u100, u101, u102, u103, u104, u105, u106, u107, u108, u109, u110, u111, u112, u113, u114, t115, t116, t117, t118, t119, t120, t121, t122, t123, t124, u125, u126, u127, u128, u129, u130, u131, u132, u133, u134, u135, u136, u137, u138, u139, u140, u141, u142, u143, u144, u145, u146, u147, u148, u149, u150, u151, u152, u153, u154, u155, u156, u157, u158, u159, u160, u161, u162, u163, u164, u165, u166, u167, u168, u169, u170, u171, u172, u173, u174, u175, u176, u177, u178, u179, u180, u181, u182, u183, u184, u185, u186, u187, u188, u189, u190, u191, u192, u193, u194, u195, u196, u197, u198, u199, u200, u201, u202, u203, u204, u205, u206, u207, u208, u209, u210, u211, u212, u213, u214, u215, u216, u217, u218, u219, u220, u221, u222, u223, u224, u225, u226], []⟩ w') :
 Code.wp Tryz.prog (mvR 22) Q ⟨#[u0, u1, u2, u3, u4, u5, u6, u7, u8, u9, u10, u11, u12, u13, .slice aa a.length ac, .slice ba b.length bc, u16, u17, u18, u19, u20, u21, u22, u23, u24, u25, u26, u27, u28, u29, u30, u31, u32, u33, u34, u35, u36, u37, u38, u39, u40, u41, u42, u43, u44, u45, u46, u47, u48, u49, u50, u51, u52, u53, u54, u55, u56, u57, u58, u59, u60, u61, u62, u63, u64, u65, u66, u67, u68, u69, u70, u71, u72, u73, u74, u75, u76, u77, u78, u79, u80, u81, u82, u83, u84, u85, u86, u87, u88, u89, u90, u91, u92, u93, u94, u95, u96, u97, u98, u99, u100, u101, u102, u103, u104, u105, u106, u107, u108, u109, u110, u111, u112, u113, u114, u115, u116, u117, u118, u119, u120, u121, u122, u123, u124, u125, u126, u127, u128, u129, u130, u131, u132, u133, u134, u135, u136, u137, u138, u139, u140, u141, u142, u143, u144, u145, u146, u147, u148, u149, u150, u151, u152, u153, u154, u155, u156, u157, u158, u159, u160, u161, u162, u163, u164, u165, u166, u167, u168, u169, u170, u171, u172, u173, u174, u175, u176, u177, u178, u179, u180, u181, u182, u183, u184, u185, u186, u187, u188, u189, u190, u191, u192, u193, u194, u195, u196, u197, u198, u199, u200, u201, u202, u203, u204, u205, u206, u207, u208, u209, u210, u211, u212, u213, u214, u215, u216, u217, u218, u219, u220, u221, u222, u223, u224, u225, u226], []⟩ w := by
 have HKH := Lib.hid HK
 clear HK
 conv => arg 2; whnf
 by_cases hl : a.length = b.length
 case neg =>
  have q0 : ((a.length : Int) == (b.length : Int)) = false := by rw [beq_eq_false_iff_ne]; omega
  have hR : Hid (decide (b = a) = false) := Lib.hid (decide_eq_false (fun h => hl (by rw [h])))
  rw [hR.out] at HKH
  clear hl
  go_wp2
  exact HKH.out _ _ _ _ _ _ _ _ _ _ _ (Below.refl _ _)
 have q0 : ((a.length : Int) == (b.length : Int)) = true := by rw [beq_iff_eq]; omega
 have CB := begins_any w _ _ a b HA.out HBS.out
 have hR := pre_len hl
 rw [← hR] at HKH
 clear hl hR
 cases hpre : a.isPrefixOf b with
 | true =>
   rw [hpre] at CB HKH
   have CB := Lib.hid CB
   clear hpre
   go_wp2_with fail
   refine CB.out.mono ?_
   rintro ez w5 ⟨rfl, hb5⟩
   have HB5 := Lib.hid hb5
   clear hb5 CB
   go_wp2
   exact HKH.out _ _ _ _ _ _ _ _ _ _ _ HB5.out
 | false =>
   rw [hpre] at CB HKH
   have CB := Lib.hid CB
   clear hpre
   go_wp2_with fail
   refine CB.out.mono ?_
   rintro ez w5 ⟨rfl, hb5⟩
   have HB5 := Lib.hid hb5
   clear hb5 CB
   go_wp2
   exact HKH.out _ _ _ _ _ _ _ _ _ _ _ HB5.out
theorem mv_r23 {Q : Exit → Act → World → Prop} (u1 u2 u3 u4 u5 u6 u7 u8 u9 u10 u11 u12 u13 u14 u17 u18 u19 u20 u21 u22 u23 u24 u25 u26 u27 u28 u29 u30 u31 u32 u33 u34 u35 u36 u37 u38 u39 u40 u41 u42 u43 u44 u45 u46 u47 u48 u49 u50 u51 u52 u53 u54 u55 u56 u57 u58 u59 u60 u61 u62 u63 u64 u65 u66 u67 u68 u69 u70 u71 u72 u73 u74 u75 u76 u77 u78 u79 u80 u81 u82 u83 u84 u85 u86 u87 u88 u89 u90 u91 u92 u93 u94 u95 u96 u97 u98 u99 u100 u101 u102 u103 u104 u105 u106 u107 u108 u109 u110 u111 u112 u113 u114 u115 u116 u117 u118 u119 u120 u121 u122 u123 u124 u125 u126 u127 u128 u129 u130 u131 u132 u133 u134 u135 u136 u137 u138 u139 u140 u141 u142 u143 u144 u145 u146 u147 u148 u149 u150 u151 u152 u153 u154 u155 u156 u157 u158 u159 u160 u161 u162 u163 u164 u165 u166 u167 u168 u169 u170 u171 u172 u173 u174 u175 u176 u177 u178 u179 u180 u181 u182 u183 u184 u185 u186 u187 u188 u189 u190 u191 u192 u193 u194 u195 u196 u197 u198 u199 u200 u201 u202 u203 u204 u205 u206 u207 u208 u209 u210 u211 u212 u213 u214 u215 u216 u217 u218 u219 u220 u221 u222 u223 u224 u225 u226 : Value) {B r bc : Nat} {ba : Option Addr} {b : PN} {s : Bool} {v : Value} {R : List RN} {F : Tr} {w : World}
 (hP : ∀ c (a a' : Act) w, a.defers = a'.defers → Q (.panic c) a w → Q (.panic c) a' w) (hlen : R.length ≤ 1000000) (hbl : b.length ≤ 1000) (hc : F.clock ≤ 1000000) (H : Hid (RTree B w r v R F)) (HBS : Hid (St.StrsAt w (.slice ba b.length bc) b))
 (HK : ∀ (t125 t126 t127 t128 t129 t130 t131 t132 t133 t134 t135 t136 t137 t138 : Value) (w' : World), Below w.heap.size w w' → Q .normal ⟨#[.pointer (some ⟨r, 0, none⟩), u1, u2, u3, u4, u5, u6, u7, u8, u9, u10, u11, u12, u13, u14, .slice ba b.length bc, .bool s, u17, u18, u19, u20, u21, u22, u23, u24, u25, u26, u27, u28, u29, u30, u31, u32, u33, u34, u35, u36, u37, u38, u39, u40, u41, u42, u43, u44, u45, u46, u47, u48, u49, u50, u51, u52, u53, u54, u55, u56, u57, u58, u59, u60, u61, u62, u63, u64, u65, u66, u67, u68, u69, u70, u71, u72, u73, u74, u75, u76, u77, u78, u79, u80, u81, u82, u83, u84, u85, u86, u87, u88, u89, u90, u91, u92, u93, u94, u95, u96, u97, u98, u99, u100, u101, u102, u103, u104, u105, u106, u107, u108, u109, u110, u111, u112, u113, u114, u115, u116, u117, u118, u119, u120, u121, u122, u123, u124, t125, t126, t127, t128, t129, t130, t131, t132, t133, t134, t135, t136, t137, t138, .bool (fullB s (kidsT F.L b).length), u140, u141, u142, u143, u144, u145, u146, u147, u148, u149, u150, u151, u152, u153, u154, u155, u156, u157, u158, u159, u160, u161, u162, u163, u164, u165, u166, u167, u168, u169, u170, u171, u172, u173, u174, u175, u176, u177, u178, u179, u180, u181, u182, u183, u184, u185, u186, u187, u188, u189, u190, u191, u192, u193, u194, u195, u196, u197, u198, u199, u200, u201, u202, u203, u204, u205, u206, u207, u208, u209, u210, u211, u212, u213, u214, u215, u216, u217, u218, u219, u220, u221, u222, u223, u224, u225, u226], []⟩ w') :
 Code.wp Tryz.prog (mvR 23) Q ⟨#[.pointer (some ⟨r, 0, none⟩), u1, u2, u3, u4, u5, u6, u7, u8, u9, u10, u11, u12, u13, u14, .slice ba b.length bc, .bool s, u17, u18, u19, u20, u21, u22, u23, u24, u25, u26, u27, u28, u29, u30, u31, u32, u33, u34, u35, u36, u37, u38, u39, u40, u41, u42, u43, u44, u45, u46, u47, u48, u49, u50, u51, u52, u53, u54, u55, u56, u57, u58, u59, u60, u61, u62, u63, u64, u65, u66, u67, u68, u69, u70, u71, u72, u73, u74, u75, u76, u77, u78, u79, u80, u81, u82, u83, u84, u85, u86, u87, u88, u89, u90, u91, u92, u93, u94, u95, u96, u97, u98, u99, u100, u101, u102, u103, u104, u105, u106, u107, u108, u109, u110, u111, u112, u113, u114, u115, u116, u117, u118, u119, u120, u121, u122, u123, u124, u125, u126, u127, u128, u129, u130, u131, u132, u133, u134, u135, u136, u137, u138, u139, u140, u141, u142, u143, u144, u145, u146, u147, u148, u149, u150, u151, u152, u153, u154, u155, u156, u157, u158, u159, u160, u161, u162, u163, u164, u165, u166, u167, u168, u169, u170, u171, u172, u173, u174, u175, u176, u177, u178, u179, u180, u181, u182, u183, u184, u185, u186, u187, u188, u189, u190, u191, u192, u193, u194, u195, u196, u197, u198, u199, u200, u201, u202, u203, u204, u205, u206, u207, u208, u209, u210, u211, u212, u213, u214, u215, u216, u217, u218, u219, u220, u221, u222, u223, u224, u225, u226], []⟩ w := by
 have HKH := Lib.hid HK
 clear HK
 conv => arg 2; whnf
 have hclk2 : ((F.clock : Int) == 1099511627776) = false := by rw [beq_eq_false_iff_ne]; omega
 have C1 : Hid (∀ w', Below w.heap.size w w' → w'.cell? ⟨r, 1, none⟩ = some (.int .i64 (F.clock : Int))) := Lib.hid (fun w' hb => cell_of_heap (H.out.below hb).book)
 have c1 := C1.out w (Below.refl _ _)
 cases s with
 | true =>
   have hR : Hid (fullB true (kidsT F.L b).length = false) := Lib.hid rfl
   rw [hR.out] at HKH
   go_wp2
   exact HKH.out _ _ _ _ _ _ _ _ _ _ _ _ _ _ _ (Below.refl _ _)
 | false =>
   have KD := Lib.hid (rkids_any B w r v R F _ b HBS.out (by omega) hlen H.out)
   have hR : Hid (fullB false (kidsT F.L b).length = decide (256 ≤ (kidsT F.L b).length)) := Lib.hid rfl
   rw [hR.out] at HKH
   unfold ptr at KD
   generalize (kidsT F.L b).length = kl at *
   by_cases hk : 256 ≤ kl
   · have hki : (256 : Int) ≤ (kl : Int) := by omega
     have hkd : Hid (decide (256 ≤ kl) = true) := Lib.hid (decide_eq_true hk)
     rw [hkd.out] at HKH
     clear hk
     go_wp2_with fail
     refine KD.out.mono ?_
     rintro ez w5 ⟨rfl, hb5⟩
     have HB5 := Lib.hid hb5
     clear hb5 KD
     go_wp2
     exact HKH.out _ _ _ _ _ _ _ _ _ _ _ _ _ _ _ HB5.out
   · have hki : decide ((256 : Int) ≤ (kl : Int)) = false := by simp; omega
     have hkd : Hid (decide (256 ≤ kl) = false) := Lib.hid (decide_eq_false hk)
     rw [hkd.out] at HKH
     clear hk
     go_wp2_with fail
     refine KD.out.mono ?_
     rintro ez w5 ⟨rfl, hb5⟩
     have HB5 := Lib.hid hb5
     have c15 := C1.out w5 hb5
     clear hb5 KD
     go_wp2
     exact HKH.out _ _ _ _ _ _ _ _ _ _ _ _ _ _ _ HB5.out
end Go.Proofs.YtnkapojbijbbaaaGreatDoor.Sr
namespace Go.Proofs.YtnkapojbijbbaaaGreatDoor.Sr
open Go.RowKit Go.Maps Go.WideMaps Rf Go.Proofs.YtnkapojbijbbaaaGreatDoor.Nm St
theorem tick_srt {L : List TE} (h : SrtT L) (ns : List PN) (c : Int) : SrtT (tickN ns c L) := by
 have hm : (tickN ns c L).map TE.nm = L.map TE.nm := by
  rw [tickN, List.map_map]
  refine List.map_congr_left (fun x _ => ?_)
  show (if x.nm ∈ ns then ({ x with tick := c } : TE) else x).nm = x.nm
  split <;> rfl
 have key : (L.map TE.nm).Pairwise fun a b => ahd a b = true := List.pairwise_map.2 h
 rw [← hm] at key
 exact List.pairwise_map.1 key
theorem tick_get {L : List TE} {ns : List PN} {c : Int} {n : PN} {e : TE} (h : getT n L = some e) : ∃ e', getT n (tickN ns c L) = some e' := by
 obtain ⟨he, hn⟩ := getT_nm h
 cases hg : getT n (tickN ns c L) with
 | some e' => exact ⟨e', rfl⟩
 | none =>
   exfalso
   refine getT_none.1 hg _ (List.mem_map.2 ⟨e, he, rfl⟩) ?_
   show (if e.nm ∈ ns then ({ e with tick := c } : TE) else e).nm = n
   split <;> exact hn
theorem into_iff {a b : PN} : intoB a b = true ↔ (a = [] ∨ (a.length < b.length ∧ a = b.take a.length)) := by
 rw [intoB, Bool.or_eq_true, decide_eq_true_iff, Bool.and_eq_true, decide_eq_true_iff, List.isPrefixOf_iff_prefix, List.length_eq_zero_iff, List.prefix_iff_eq_take]
theorem rmove_end {B : Nat} {w w5 w9 : World} {r gv vc : Nat} {va v18 : Value} {R R2 G : List RN} {F F2 : Tr} {a b : PN} (h : RTree B w r (.slice (some ⟨gv, 0, none⟩) R.length vc) R F) (hBw : B ≤ w.heap.size) (hT5 : Turn (r :: ob (.slice (some ⟨gv, 0, none⟩) R.length vc)) w w5) (h5 : RTree B w5 r (.slice (some ⟨gv, 0, none⟩) R.length vc) R2 F2) (hrob : robL R2 = robL R) (hI : MvI w5 w9 a b R2 va v18 R2.length G) :
 RTree B (w9.setCell ⟨r, 0, none⟩ va) r va (offR a R2) { F2 with L := dropT a F2.L } ∧ (w9.setCell ⟨r, 0, none⟩ va).ownsRow w5.heap.size RnT 11 v18 G.length (rcells G) ∧ (∀ q ∈ ob v18, q ≠ r) ∧ (∀ m ∈ G, PathAt B (w9.setCell ⟨r, 0, none⟩ va) m.nv m.nm ∧ XsAt (w9.setCell ⟨r, 0, none⟩ va) m.xv m.at_.xs) ∧
  (∀ m ∈ G, ∀ q ∈ robN m, B ≤ q ∧ q ≠ r) ∧ (∀ m ∈ G, ∀ q ∈ robN m, q ∈ robL R ∨ w.heap.size ≤ q) ∧ Turn (r :: ob (.slice (some ⟨gv, 0, none⟩) R.length vc)) w (w9.setCell ⟨r, 0, none⟩ va) ∧ (∀ q ∈ ob va, w.heap.size ≤ q) := by
 have hr := lt_of_heap h.book
 have hsz := hT5.size
 have hk : ∀ q, q ≠ r → (w9.setCell ⟨r, 0, none⟩ va).heap[q]? = w9.heap[q]? := fun q hq => Below.heap_setCell _ _ _ _ hq
 have hst := hI.stay
 rw [List.take_length] at hst
 have hge : ∀ q ∈ ob va, w5.heap.size ≤ q := fun q hq => rowS_ge hst q hq
 have hge2 : ∀ q ∈ ob v18, w5.heap.size ≤ q := fun q hq => rowS_ge hI.go q hq
 have h9 := h5.below hI.bel
 have hap : ∀ q ∈ robL (offR a R2), B ≤ q ∧ q ≠ r ∧ q ∉ ob va := fun q hq => by
  have hq := offR_rob hq
  refine ⟨(h5.apart q hq).1, (h5.apart q hq).2.1, fun hv => ?_⟩
  have h1 := hge q hv
  have h2 := h5.lt q (by rw [rblk, List.mem_cons, List.mem_append]; exact .inr (.inr hq))
  omega
 have htree := rtree_relist (F := F2) h9.book (row_mono hst (Nat.le_trans hBw hsz)) (fun hv => by have := hge r hv; omega) h.base (fun m hm => h9.node m (List.mem_filter.1 hm).1) hap
 rw [offR_te, ← h5.is] at htree
 have hxr : ∀ m ∈ G, ∀ q ∈ xob m.at_.xs m.xv, q ∈ robL R2 := fun m hm q hq => by
  obtain ⟨m0, hm0, e1, e2⟩ := hI.xs m hm
  rw [e1, e2] at hq
  exact robL_mem hm0 (List.mem_append_right _ hq)
 refine ⟨htree, rowS_kept hI.go (fun q hq _ => hk q (fun e => by have := hge2 q hq; omega)), fun q hq e => by have := hge2 q hq; omega, fun m hm => ⟨?_, ?_⟩, fun m hm q hq => ?_, fun m hm q hq => ?_, (hT5.trans (Turn.of_below (X := []) hI.bel) (fun y hy => nomatch hy)).setCell (p := ⟨r, 0, none⟩) (.inl (by simp)) va, fun q hq => Nat.le_trans hsz (hge q hq)⟩
 · have hp := hI.path m hm
   exact (PathAt.mk (row_mono hp.row (Nat.le_trans hBw hsz)) hp.len).kept (fun q hq => hk q (fun e => by have := rowS_ge hp.row q hq; omega))
 · obtain ⟨m0, hm0, e1, e2⟩ := hI.xs m hm
   rw [e1, e2]
   refine (h9.node m0 hm0).2.kept (by rw [World.size_setCell]; exact Nat.le_refl _) (fun q hq => hk q ?_)
   exact (h5.apart q (robL_mem hm0 (List.mem_append_right _ hq))).2.1
 · rcases List.mem_append.1 hq with hq | hq
   · have := rowS_ge (hI.path m hm).row q hq
     exact ⟨by omega, by omega⟩
   · have := h5.apart q (hxr m hm q hq)
     exact ⟨this.1, this.2.1⟩
 · rcases List.mem_append.1 hq with hq | hq
   · exact .inr (Nat.le_trans hsz (rowS_ge (hI.path m hm).row q hq))
   · exact .inl (hrob ▸ hxr m hm q hq)
theorem rmove_any (B : Nat) (w : World) (r : Nat) (v : Value) (R : List RN) (F : Tr) (k : Nat) (p q : List UInt8) (hT : Tabs w) (hp : p.length ≤ 4611686018427387904) (hq : q.length ≤ 4611686018427387904) (hg : GoodF k F) (hk : k ≤ 1000) (hc : F.clock ≤ 1000000) (hB : B ≤ w.heap.size) (hms : moveE p q F = 0 → SrtT (moveN p q F).L) (h : RTree B w r v R F) :
 Calls Tryz.prog 31 #[ptr r, .string ⟨p.toArray⟩, .string ⟨q.toArray⟩] w (RPost B w r v R (if moveE p q F = 0 then moveN p q F else F) (moveE p q F)) := by
 have H := Lib.hid h
 have HG := Lib.hid hg; have HBL := Lib.hid hB; have HT := Lib.hid hT; have HMS := Lib.hid hms
 have hlen : R.length ≤ 500000 := by rw [h.len]; have := hg.len; omega
 have hlen2 : R.length ≤ 1000000 := by omega
 have HD16 : Hid (∀ m ∈ R, m.nm.length ≤ 1000) := Lib.hid (fun m hm => by have := hg.deep m.te (by rw [h.is]; exact List.mem_map.2 ⟨m, hm, rfl⟩); exact Nat.le_trans this (by decide))
 obtain ⟨F9, hF9⟩ : ∃ F9, F9 = if moveE p q F = 0 then moveN p q F else F := ⟨_, rfl⟩
 obtain ⟨c9, hc9⟩ : ∃ c9, c9 = moveE p q F := ⟨_, rfl⟩
 rw [← hF9, ← hc9]
 have NOX : Hid (∀ (w1 : World) (c : Int), Below w.heap.size w w1 → moveE p q F = c → c ≠ 0 → RPost B w r v R F9 c9 (.returned (.int .i64 c)) w1) := Lib.hid (fun w1 c hb he hn => by
  rw [hF9, hc9, if_neg (by rw [he]; exact hn), he]
  exact rpost_same H.out hb rfl)
 have YES : Hid (∀ (w1 : World), moveE p q F = 0 → RPost B w r v R (moveN p q F) 0 (.returned (.int .i64 0)) w1 → RPost B w r v R F9 c9 (.returned (.int .i64 0)) w1) := Lib.hid (fun w1 he h => by
  rw [hF9, hc9, if_pos he, he]; exact h)
 have HDEF : Hid (moveE p q F = moveE p q F) := Lib.hid rfl
 obtain ⟨va, vc, rfl⟩ := rowS_slice h.row
 have hla := splitL_16 p
 have hlb := splitL_16 q
 have SP := ref_split ⟨p.toArray⟩ w hT hp
 rw [show (⟨p.toArray⟩ : ByteArray).data.toList = p from by simp] at SP
 have SP := Lib.hid SP
 have SQ := Lib.hid (fun w1 (hb : Below w.heap.size w w1) => ref_split ⟨q.toArray⟩ w1 (hT.below hb) hq)
 clear h hT hg hF9 hc9 hB hms HDEF
 unfold ptr at *
 go_enter Tryz.func31, Tryz.ntmps31
 go_wp2_with fail
 refine SP.out.mono ?_
 rintro ex w1 ⟨vl, rfl, hr1, hb1⟩
 have HB1 := Lib.hid hb1
 have HPA1 := Lib.hid (rsplit_path hr1)
 obtain ⟨aa, ac, rfl⟩ := rowS_slice hr1
 clear hr1 hb1 SP
 have SQ1 := Lib.hid (SQ.out w1 HB1.out)
 clear SQ
 go_wp2_with fail
 refine SQ1.out.mono ?_
 rintro ex w2 ⟨vl2, rfl, hr2, hb2⟩
 have HB2 := Lib.hid (HB1.out.trans (hb2.mono HB1.out.size))
 have HPB2 := Lib.hid (rsplit_path hr2)
 have HPA2 := Lib.hid (HPA1.out.below hb2)
 obtain ⟨ba, bc, rfl⟩ := rowS_slice hr2
 clear hr2 hb2 SQ1 HPA1
 rcases (splitE_cases p).symm with ⟨h0, _⟩ | h0
 · have HC := Lib.hid (show moveE p q F = 10 by rw [moveE, if_pos (by rw [h0]; decide)])
   rw [h0]
   clear h0
   generalize splitE q = sq at *
   go_wp2
   go_ret
   exact NOX.out _ _ HB2.out HC.out (by decide)
 have HS1 := Lib.hid h0
 rw [h0]
 clear h0
 rcases (splitE_cases q).symm with ⟨h0, _⟩ | h0
 · have HC := Lib.hid (show moveE p q F = 10 by rw [moveE, if_neg (by rw [HS1.out]; decide), if_pos (by rw [h0]; decide)])
   rw [h0]
   clear h0
   go_wp2
   go_ret
   exact NOX.out _ _ HB2.out HC.out (by decide)
 have HM1 := Lib.hid (show moveE p q F = _ by rw [moveE, if_neg (by rw [HS1.out]; decide), if_neg (by rw [h0]; decide)])
 rw [h0]
 clear h0 HS1
 obtain ⟨a, ha⟩ : ∃ a, a = splitL p := ⟨_, rfl⟩
 obtain ⟨b, hb⟩ : ∃ b, b = splitL q := ⟨_, rfl⟩
 rw [← ha] at HPA2 hla
 rw [← hb] at HPB2 hlb
 rw [← ha, ← hb] at HM1
 rw [← ha, ← hb]
 have HA := Lib.hid ha; have HBQ := Lib.hid hb
 clear ha hb
 have AT := rat_any B w2 r _ R F _ a HPA2.out.strs HG.out.srt hlen2 (H.out.below HB2.out)
 rcases (atI_cases a HG.out.srt).symm with ⟨i, e, hI, hi, hen, hgs⟩ | ⟨hI, hgn⟩
 case inr =>
  have HC := Lib.hid (show moveE p q F = 6 by rw [HM1.out, hgn])
  rw [hI] at AT
  have AT := Lib.hid AT
  unfold ptr at AT
  clear hI hgn HM1
  go_wp2_with fail
  refine AT.out.mono ?_
  rintro ex w3 ⟨rfl, hb3⟩
  have HB3 := Lib.hid (HB2.out.trans (hb3.mono HB2.out.size))
  clear hb3 AT
  go_wp2
  go_ret
  exact NOX.out _ _ HB3.out HC.out (by decide)
 have HM2 := Lib.hid (show moveE p q F = _ by rw [HM1.out, hgs])
 have HGA := Lib.hid hgs
 rw [hI] at AT
 have AT := Lib.hid AT
 have hi0 : ¬ ((i : Int) < 0) := by omega
 unfold ptr at AT
 clear hI hgs HM1 hi hen
 go_wp2_with fail
 refine AT.out.mono ?_
 rintro ex w3 ⟨rfl, hb3⟩
 have HB3 := Lib.hid (HB2.out.trans (hb3.mono HB2.out.size))
 have HPA3 := Lib.hid (HPA2.out.below hb3)
 have HPB3 := Lib.hid (HPB2.out.below hb3)
 clear hb3 AT HPA2 HPB2
 go_upto_region 8 with (fail)
 refine mv_r8 _ _ _ _ _ _ _ _ _ _ _ _ _ _ _ _ _ _ _ _ _ _ _ _ _ _ _ _ _ _ _ _ _ _ _ _ _ _ _ _ _ _ _ _ _ _ _ _ _ _ _ _ _ _ _ _ _ _ _ _ _ _ _ _ _ _ _ _ _ _ _ _ _ _ _ _ _ _ _ _ _ _ _ _ _ _ _ _ _ _ _ _ _ _ _ _ _ _ _ _ _ _ _ _ _ _ _ _ _ _ _ _ _ _ _ _ _ _ _ _ _ _ _ _ _ _ _ _ _ _ _ _ _ _ _ _ _ _ _ _ _ _ _ _ _ _ _ _ _ _ _ _ _ _ _ _ _ _ _ _ _ _ _ _ _ _ _ _ _ _ _ _ _ _ _ _ _ _ _ _ _ _ _ _ _ _ _ _ _ _ _ _ _ _ _ _ _ _ _ _ _ _ _ _ _ _ _ _ _ _ _ _ _ _ _ _ _ _ _ _ _ _ _ _ _ (by intro c a a_ w hd h; have h2 : a.defers = [] ∧ _ := h; exact And.intro (hd.symm.trans h2.1) h2.2) (by omega) (by omega) (Lib.hid HPA3.out.strs) (Lib.hid HPB3.out.strs) ?_
 intro t43 t44 t45 t46 t47 t48 t49 t50 t51 t52 t53 t54 t55 t56 w4 hb4
 have HB4 := Lib.hid (HB3.out.trans (hb4.mono HB3.out.size))
 have HPA4 := Lib.hid (HPA3.out.below hb4)
 have HPB4 := Lib.hid (HPB3.out.below hb4)
 clear hb4 HPA3 HPB3
 rcases Bool.eq_false_or_eq_true (intoB a b) with hinto | hinto
 · rw [hinto]
   have HC := Lib.hid (show moveE p q F = 1 by rw [HM2.out, if_pos (into_iff.1 hinto)])
   clear hinto HM2
   go_wp2
   go_ret
   exact NOX.out _ _ HB4.out HC.out (by decide)
 rw [hinto]
 have hnot : ¬ (a = [] ∨ (a.length < b.length ∧ a = b.take a.length)) := fun h => by rw [into_iff.2 h] at hinto; cases hinto
 have HM3 := Lib.hid (show moveE p q F = _ by rw [HM2.out, if_neg hnot])
 have HNOT := Lib.hid hnot
 clear hinto HM2 hnot
 -- is there such a node?
 have AT2 := rat_any B w4 r _ R F _ b HPB4.out.strs HG.out.srt hlen2 (H.out.below HB4.out)
 rcases (atI_cases b HG.out.srt).symm with ⟨j, e2, hI, _, _, hgs⟩ | ⟨hI, hgn⟩
 · have HC := Lib.hid (show moveE p q F = 7 by rw [HM3.out, hgs]; rfl)
   rw [hI] at AT2
   have AT2 := Lib.hid AT2
   have hji : (0 : Int) ≤ (j : Int) := by omega
   unfold ptr at AT2
   clear hI hgs HM3
   go_wp2_with fail
   refine AT2.out.mono ?_
   rintro ex w5 ⟨rfl, hb5⟩
   have HB5 := Lib.hid (HB4.out.trans (hb5.mono HB4.out.size))
   clear hb5 AT2
   go_wp2
   go_ret
   exact NOX.out _ _ HB5.out HC.out (by decide)
 have HM4 := Lib.hid (show moveE p q F = _ by rw [HM3.out, hgn, Option.isSome_none, if_neg (by decide)])
 have HGB := Lib.hid hgn
 have hbne : b ≠ [] := fun h0 => by
  obtain ⟨e0, he0⟩ := HG.out.root
  rw [h0, he0] at hgn; cases hgn
 have hane : a ≠ [] := fun h0 => HNOT.out (.inl h0)
 have HBNE := Lib.hid hbne; have HANE := Lib.hid hane
 rw [hI] at AT2
 have AT2 := Lib.hid AT2
 unfold ptr at AT2
 clear hI hgn HM3
 go_wp2_with fail
 refine AT2.out.mono ?_
 rintro ex w5 ⟨rfl, hb5⟩
 have HB5 := Lib.hid (HB4.out.trans (hb5.mono HB4.out.size))
 have HPA5 := Lib.hid (HPA4.out.below hb5)
 have HPB5 := Lib.hid (HPB4.out.below hb5)
 clear hb5 AT2 HPA4 HPB4
 -- its folder
 have FO := Lib.hid (rfolder_any B _ w5 r _ R F _ b HBNE.out HPB5.out HG.out.srt hlen2 (H.out.below HB5.out))
 unfold ptr at FO
 by_cases hab : abvE b F.L = 0
 case neg =>
  have HC := Lib.hid (show moveE p q F = abvE b F.L by rw [HM4.out, if_pos hab])
  have HAB := Lib.hid hab
  have hab1 : (abvE b F.L == 0) = false := by simpa using hab
  have hab2 : (abvE b F.L != 0) = true := by simpa using hab
  generalize abvE b F.L = ab at *
  clear hab HM4
  go_wp2_with fail
  refine FO.out.mono ?_
  rintro ex w6 ⟨rfl, hb6⟩
  have HB6 := Lib.hid (HB5.out.trans (hb6.mono HB5.out.size))
  clear hb6 FO
  go_wp2
  go_ret
  exact NOX.out _ _ HB6.out HC.out HAB.out
 have HM5 := Lib.hid (show moveE p q F = _ by rw [HM4.out, if_neg (by rw [hab]; decide)])
 obtain ⟨d, hd⟩ : ∃ d, getT b.dropLast F.L = some d := by
  rw [abvE] at hab
  cases hg : getT b.dropLast F.L with
  | none => rw [hg] at hab; cases hab
  | some d => exact ⟨d, rfl⟩
 have HDG := Lib.hid hd
 rw [hab] at FO
 clear hab HM4 hd
 go_wp2_with fail
 refine FO.out.mono ?_
 rintro ex w6 ⟨rfl, hb6⟩
 have HB6 := Lib.hid (HB5.out.trans (hb6.mono HB5.out.size))
 have HPA6 := Lib.hid (HPA5.out.below hb6)
 have HPB6 := Lib.hid (HPB5.out.below hb6)
 clear hb6 FO HPA5 HPB5
 -- how deep?
 go_upto_block 0 with (fail)
 refine mv_b0 _ _ _ _ _ _ _ _ _ _ _ _ _ _ _ _ _ _ _ _ _ _ _ _ _ _ _ _ _ _ _ _ _ _ _ _ _ _ _ _ _ _ _ _ _ _ _ _ _ _ _ _ _ _ _ _ _ _ _ _ _ _ _ _ _ _ _ _ _ _ _ _ _ _ _ _ _ _ _ _ _ _ _ _ _ _ _ _ _ _ _ _ _ _ _ _ _ _ _ _ _ _ _ _ _ _ _ _ _ _ _ _ _ _ _ _ _ _ _ _ _ _ _ _ _ _ _ _ _ _ _ _ _ _ _ _ _ _ _ _ _ _ _ _ _ _ _ _ _ _ _ _ _ _ _ _ _ _ _ _ _ _ _ _ _ _ _ _ _ _ _ _ _ _ _ _ _ _ _ _ _ _ _ _ _ _ _ _ _ _ _ _ _ _ _ _ _ _ _ _ _ _ _ _ _ _ _ _ _ _ _ _ _ _ _ _ _ _ _ _ _ _ _ (by intro c a a_ w hd h; have h2 : a.defers = [] ∧ _ := h; exact And.intro (hd.symm.trans h2.1) h2.2) hlen2 (by omega) (by omega) (Lib.hid (H.out.below HB6.out)) (Lib.hid HPA6.out.strs) HD16 ?_ ?_
 · intro hlong t13 t68 t69 t70 t71 t72 t73 t74 t75 t76 t77 t78 t79 t80 t81 t82 t83 t84 t85 t86 t87 t88 t89 t90 t91 t92 t93 t94 t95 t96 t97 t98 t99 t100 t101 t102 t103 t104 w7 hb7
   have HC := Lib.hid (show moveE p q F = 10 by
    rw [long_deep H.out.is hlb, decide_eq_true_iff] at hlong
    rw [HM5.out, if_pos hlong])
   have HB7 := Lib.hid (HB6.out.trans (hb7.mono HB6.out.size))
   clear hlong hb7
   go_ret
   exact NOX.out _ _ HB7.out HC.out (by decide)
 intro t6 t13 t68 t69 t70 t71 t72 t73 t74 t75 t76 t77 t78 t79 t80 t81 t82 t83 t84 t85 t86 t87 t88 t89 t90 t91 t92 t93 t94 t95 t96 t97 t98 t99 t100 t101 t102 t103 t104 w7 h7
 obtain ⟨hlong, hb7⟩ := h7
 have HM6 := Lib.hid (show moveE p q F = if (b.dropLast ≠ a.dropLast ∧ 256 ≤ (kidsT F.L b.dropLast).length) then 3 else 0 by
  rw [long_deep H.out.is hlb, decide_eq_false_iff_not] at hlong
  rw [HM5.out, if_neg hlong]
  have : ((b.dropLast ≠ a.dropLast ∧ 256 ≤ (kidsT F.L b.dropLast).length) ∨ 1099511627776 ≤ F.clock) ↔ (b.dropLast ≠ a.dropLast ∧ 256 ≤ (kidsT F.L b.dropLast).length) := ⟨fun h => h.resolve_right (by omega), .inl⟩
  simp only [this])
 have HB7 := Lib.hid (HB6.out.trans (hb7.mono HB6.out.size))
 have HPA7 := Lib.hid (HPA6.out.below hb7)
 have HPB7 := Lib.hid (HPB6.out.below hb7)
 clear hb7 hlong HM5 HPA6 HPB6
 obtain ⟨ga, ac2, hva, hac, hacm, hsta⟩ := HPA7.out.front HANE.out
 injection hva with e1 e2 e3
 subst e1 e3
 obtain ⟨gb, bc2, hvb, hbc, hbcm, hstb⟩ := HPB7.out.front HBNE.out
 injection hvb with f1 f2 f3
 subst f1 f3
 have hla1 : 1 ≤ a.length := by have := List.length_pos_iff.2 HANE.out; omega
 have hlb1 : 1 ≤ b.length := by have := List.length_pos_iff.2 HBNE.out; omega
 have hsa : ((a.length - 1 : Nat) : Int) = (a.length : Int) - 1 := by omega
 have hsb : ((b.length - 1 : Nat) : Int) = (b.length : Int) - 1 := by omega
 have hua : a.length - 1 = a.dropLast.length := List.length_dropLast.symm
 have hub : b.length - 1 = b.dropLast.length := List.length_dropLast.symm
 rw [hua] at hsta
 rw [hub] at hstb
 have HUA := Lib.hid hua; have HUB := Lib.hid hub
 have HSTA := Lib.hid hsta; have HSTB := Lib.hid hstb
 unfold maxLen at hacm hbcm
 clear e2 f2 hua hub hsta hstb
 go_upto_region 22 with (fail)
 rw [HUA.out, HUB.out]
 refine mv_r22 _ _ _ _ _ _ _ _ _ _ _ _ _ _ _ _ _ _ _ _ _ _ _ _ _ _ _ _ _ _ _ _ _ _ _ _ _ _ _ _ _ _ _ _ _ _ _ _ _ _ _ _ _ _ _ _ _ _ _ _ _ _ _ _ _ _ _ _ _ _ _ _ _ _ _ _ _ _ _ _ _ _ _ _ _ _ _ _ _ _ _ _ _ _ _ _ _ _ _ _ _ _ _ _ _ _ _ _ _ _ _ _ _ _ _ _ _ _ _ _ _ _ _ _ _ _ _ _ _ _ _ _ _ _ _ _ _ _ _ _ _ _ _ _ _ _ _ _ _ _ _ _ _ _ _ _ _ _ _ _ _ _ _ _ _ _ _ _ _ _ _ _ _ _ _ _ _ _ _ _ _ _ _ _ _ _ _ _ _ _ _ _ _ _ _ _ _ _ _ _ _ _ _ _ _ _ _ _ _ _ _ _ _ _ _ _ _ _ _ _ _ _ _ _ _ (by intro c a a_ w hd h; have h2 : a.defers = [] ∧ _ := h; exact And.intro (hd.symm.trans h2.1) h2.2) (a := a.dropLast) (b := b.dropLast) (by rw [← HUA.out]; omega) (by rw [← HUB.out]; omega) HSTA HSTB ?_
 intro t115 t116 t117 t118 t119 t120 t121 t122 t123 t124 w8 hb8
 have HB8 := Lib.hid (HB7.out.trans (hb8.mono HB7.out.size))
 have HPA8 := Lib.hid (HPA7.out.below hb8)
 have HPB8 := Lib.hid (HPB7.out.below hb8)
 have HSTA8 := Lib.hid (HSTA.out.below hb8)
 have HSTB8 := Lib.hid (HSTB.out.below hb8)
 clear hb8 HPA7 HPB7 HSTA HSTB
 go_upto_region 23 with (fail)
 refine mv_r23 _ _ _ _ _ _ _ _ _ _ _ _ _ _ _ _ _ _ _ _ _ _ _ _ _ _ _ _ _ _ _ _ _ _ _ _ _ _ _ _ _ _ _ _ _ _ _ _ _ _ _ _ _ _ _ _ _ _ _ _ _ _ _ _ _ _ _ _ _ _ _ _ _ _ _ _ _ _ _ _ _ _ _ _ _ _ _ _ _ _ _ _ _ _ _ _ _ _ _ _ _ _ _ _ _ _ _ _ _ _ _ _ _ _ _ _ _ _ _ _ _ _ _ _ _ _ _ _ _ _ _ _ _ _ _ _ _ _ _ _ _ _ _ _ _ _ _ _ _ _ _ _ _ _ _ _ _ _ _ _ _ _ _ _ _ _ _ _ _ _ _ _ _ _ _ _ _ _ _ _ _ _ _ _ _ _ _ _ _ _ _ _ _ _ _ _ _ _ _ _ _ _ _ _ _ _ _ _ _ _ _ _ _ _ _ _ _ _ _ _ _ _ _ _ (by intro c a a_ w hd h; have h2 : a.defers = [] ∧ _ := h; exact And.intro (hd.symm.trans h2.1) h2.2) (s := decide (b.dropLast = a.dropLast)) hlen2 (by rw [← HUB.out]; omega) hc (Lib.hid (H.out.below HB8.out)) HSTB8 ?_
 intro t125 t126 t127 t128 t129 t130 t131 t132 t133 t134 t135 t136 t137 t138 w9 hb9
 have HB9 := Lib.hid (HB8.out.trans (hb9.mono HB8.out.size))
 have HPA9 := Lib.hid (HPA8.out.below hb9)
 have HPB9 := Lib.hid (HPB8.out.below hb9)
 have HSTA9 := Lib.hid (HSTA8.out.below hb9)
 have HSTB9 := Lib.hid (HSTB8.out.below hb9)
 clear hb9 HPA8 HPB8 HSTA8 HSTB8
 have hfull : fullB (decide (b.dropLast = a.dropLast)) (kidsT F.L b.dropLast).length = true ↔ (b.dropLast ≠ a.dropLast ∧ 256 ≤ (kidsT F.L b.dropLast).length) := by
  rw [fullB, Bool.and_eq_true, decide_eq_true_iff, Bool.not_eq_true', decide_eq_false_iff_not]
 rcases Bool.eq_false_or_eq_true (fullB (decide (b.dropLast = a.dropLast)) (kidsT F.L b.dropLast).length) with hfb | hfb
 · have HC := Lib.hid (show moveE p q F = 3 by rw [HM6.out, if_pos (hfull.1 hfb)])
   rw [hfb]
   clear hfb hfull HM6
   go_wp2
   go_ret
   exact NOX.out _ _ HB9.out HC.out (by decide)
 have HC := Lib.hid (show moveE p q F = 0 by rw [HM6.out, if_neg (fun h => by rw [hfull.2 h] at hfb; cases hfb)])
 rw [hfb]
 clear hfb hfull HM6
 -- the clock
 obtain ⟨u, hu⟩ : ∃ u, getT a.dropLast F.L = some u := by
  obtain ⟨e0, he0, hen0⟩ : ∃ e0 ∈ F.L, e0.nm = a := ⟨e, (getT_nm HGA.out).1, (getT_nm HGA.out).2⟩
  obtain ⟨u, hu, hun, _⟩ := HG.out.par e0 he0 a.dropLast (a.getLast HANE.out) (by rw [hen0]; exact (List.dropLast_concat_getLast HANE.out).symm)
  have := getT_of HG.out.srt hu
  rw [hun] at this; exact ⟨u, this⟩
 obtain ⟨j, hj, _⟩ := atI_get HG.out.srt hu
 have hun := (getT_nm hu).2
 obtain ⟨gv, cap, hv, hgv⟩ := H.out.form (by have := (List.getElem?_eq_some_iff.1 hj).1; have h2 := H.out.len; omega)
 injection hv with g1 g2 g3
 subst g1 g3
 have hX9 := H.out.below HB9.out
 have c01 : w9.cell? ⟨r, 1, none⟩ = some (.int .i64 (F.clock : Int)) := cell_of_heap hX9.book
 have f01 : w9.frozen? ⟨r, 1, none⟩ = false := frozen_of_heap hX9.book
 obtain ⟨W3, hW3⟩ : ∃ W3, W3 = w9.setCell ⟨r, 1, none⟩ (.int .i64 ((F.clock : Int) + 1)) := ⟨_, rfl⟩
 have hX3 : RTree B W3 r (.slice (some ⟨gv, 0, none⟩) R.length vc) R { F with clock := F.clock + 1 } := by
  have := hX9.clocked (F.clock + 1)
  rw [Int.natCast_add] at this
  rw [hW3]; exact this
 have HX3 := Lib.hid hX3; have HW3 := Lib.hid hW3
 have hrb : r < w.heap.size := lt_of_heap H.out.book
 have hT3 : Turn (r :: ob (.slice (some ⟨gv, 0, none⟩) R.length vc)) w W3 := by rw [hW3]; exact (Turn.of_below HB9.out : Turn (r :: ob (.slice (some ⟨gv, 0, none⟩) R.length vc)) w w9).setCell (p := ⟨r, 1, none⟩) (.inl (by simp)) _
 have HT3 := Lib.hid hT3
 have hgvw : gv < w.heap.size := hgv
 -- rows of names stay
 have hge1 : ∀ q ∈ ob (.slice (some ⟨ga, 0, none⟩) a.length ac), w.heap.size ≤ q := fun q hq => rowS_ge HPA9.out.row q hq
 have hge2 : ∀ q ∈ ob (.slice (some ⟨gb, 0, none⟩) b.length bc), w.heap.size ≤ q := fun q hq => Nat.le_trans HB1.out.size (rowS_ge HPB9.out.row q hq)
 have hgaw : w.heap.size ≤ ga := hge1 ga (by simp [ob, Value.ownBlock])
 have hgbw : w.heap.size ≤ gb := hge2 gb (by simp [ob, Value.ownBlock])
 have KP : Hid (∀ w', Turn [r, gv] w9 w' → PathAt w.heap.size w' (.slice (some ⟨ga, 0, none⟩) a.length ac) a ∧ PathAt w1.heap.size w' (.slice (some ⟨gb, 0, none⟩) b.length bc) b) := Lib.hid (fun w' ht => ⟨HPA9.out.kept (fun q hq => ht.block q (rowS_lt HPA9.out.row q hq) (by have := hge1 q hq; simp; omega)), HPB9.out.kept (fun q hq => ht.block q (rowS_lt HPB9.out.row q hq) (by have := hge2 q hq; simp; omega))⟩)
 have ht93 : Turn [r, gv] w9 W3 := by rw [hW3]; exact (Turn.refl [r, gv] w9).setCell (p := ⟨r, 1, none⟩) (.inl (by simp)) _
 have HT93 := Lib.hid ht93
 have HSTA3 : Hid (St.StrsAt W3 (.slice (some ⟨ga, 0, none⟩) a.dropLast.length ac) a.dropLast) := Lib.hid (by
  obtain ⟨_, _, hv1, _, _, hst⟩ := (KP.out W3 ht93).1.front HANE.out
  injection hv1 with k1 k2 k3
  injection k1 with k1; injection k1 with k1
  rw [← k1, ← k3, HUA.out] at hst; exact hst)
 have HU := Lib.hid hu; have HJ := Lib.hid hj; have HUN := Lib.hid hun
 have HHGA := Lib.hid hgaw; have HHGB := Lib.hid hgbw
 clear hX9 hX3 hW3 hT3 hge1 hge2 ht93 hu hj hun g2
 go_upto_region 26 with (fail)
 rw [← HW3.out]
 refine mv_r26 _ _ _ _ _ _ _ _ _ _ _ _ _ _ _ _ _ _ _ _ _ _ _ _ _ _ _ _ _ _ _ _ _ _ _ _ _ _ _ _ _ _ _ _ _ _ _ _ _ _ _ _ _ _ _ _ _ _ _ _ _ _ _ _ _ _ _ _ _ _ _ _ _ _ _ _ _ _ _ _ _ _ _ _ _ _ _ _ _ _ _ _ _ _ _ _ _ _ _ _ _ _ _ _ _ _ _ _ _ _ _ _ _ _ _ _ _ _ _ _ _ _ _ _ _ _ _ _ _ _ _ _ _ _ _ _ _ _ _ _ _ _ _ _ _ _ _ _ _ _ _ _ _ _ _ _ _ _ _ _ _ _ _ _ _ _ _ _ _ _ _ _ _ _ _ _ _ _ _ _ _ _ _ _ _ _ _ _ _ _ _ _ _ _ _ _ _ _ _ _ _ _ _ _ _ _ _ _ _ _ _ _ _ _ _ _ _ _ _ _ _ _ _ _ _ (by intro c a a_ w hd h; have h2 : a.defers = [] ∧ _ := h; exact And.intro (hd.symm.trans h2.1) h2.2) (e := u) (j := j) hlen2 (by rw [← HUA.out]; omega) HX3 HSTA3 (Lib.hid HG.out.srt) HJ HUN.out ?_
 intro t147 t148 t149 t150 t151 t152 t153 t154 t155 t156 t157 t158 t159 w10 h10
 obtain ⟨m1, hm1, hme1, hX10, ht10, hrob1⟩ := h10
 obtain ⟨F1, hF1⟩ : ∃ F1 : Tr, F1 = { F with clock := F.clock + 1, L := F.L.set j { u with tick := ((F.clock + 1 : Nat) : Int) } } := ⟨_, rfl⟩
 obtain ⟨R1, hR1⟩ : ∃ R1, R1 = R.set j { m1 with tick := ((F.clock + 1 : Nat) : Int) } := ⟨_, rfl⟩
 have hX10' : RTree B w10 r (.slice (some ⟨gv, 0, none⟩) R.length vc) R1 F1 := by rw [hF1, hR1]; exact hX10
 have hrob1' : robL R1 = robL R := by rw [hR1]; exact hrob1
 have hr1l : R.length = R1.length := by rw [hR1, List.length_set]
 have hF1L : F1.L = tickN [a.dropLast] ((F.clock + 1 : Nat) : Int) F.L := by
  rw [hF1]; show F.L.set j _ = _; rw [set_tick HG.out.srt HJ.out, HUN.out]
 have hF1c : F1.clock = F.clock + 1 := by rw [hF1]
 have hF1s : SrtT F1.L := by rw [hF1L]; exact tick_srt HG.out.srt _ _
 obtain ⟨d1, hd1⟩ : ∃ d1, getT b.dropLast F1.L = some d1 := by rw [hF1L]; exact tick_get HDG.out
 obtain ⟨j2, hj2, _⟩ := atI_get hF1s hd1
 have hdn := (getT_nm hd1).2
 have ht910 : Turn [r, gv] w9 w10 := HT93.out.trans ht10 (fun y hy => .inl (by simp at hy; simp [hy]))
 have HT10 : Hid (Turn (r :: ob (.slice (some ⟨gv, 0, none⟩) R.length vc)) w w10) := Lib.hid (HT3.out.trans ht10 (fun y hy => .inl (by simp at hy; simp [ob, Value.ownBlock, hy])))
 have HSTB10 : Hid (St.StrsAt w10 (.slice (some ⟨gb, 0, none⟩) b.dropLast.length bc) b.dropLast) := Lib.hid (by
  obtain ⟨_, _, hv1, _, _, hst⟩ := (KP.out w10 ht910).2.front HBNE.out
  injection hv1 with k1 k2 k3
  injection k1 with k1; injection k1 with k1
  rw [← k1, ← k3, HUB.out] at hst; exact hst)
 rw [hr1l] at hX10'
 have HX10 := Lib.hid hX10'; have HRB1 := Lib.hid hrob1'; have HR1L := Lib.hid hr1l; have HF1L := Lib.hid hF1L; have HF1C := Lib.hid hF1c; have HF1S := Lib.hid hF1s
 have HJ2 := Lib.hid hj2; have HDN := Lib.hid hdn; have HT910 := Lib.hid ht910
 have HF1M : Hid (F1.most = F.most ∧ F1.reads = F.reads) := Lib.hid (by rw [hF1]; exact ⟨rfl, rfl⟩)
 clear hm1 hme1 hX10 hX10' ht10 hrob1 hrob1' hF1 hR1 hF1L hF1c hF1s hd1 hj2 hdn ht910
 go_upto_region 27 with (fail)
 refine mv_r27 _ _ _ _ _ _ _ _ _ _ _ _ _ _ _ _ _ _ _ _ _ _ _ _ _ _ _ _ _ _ _ _ _ _ _ _ _ _ _ _ _ _ _ _ _ _ _ _ _ _ _ _ _ _ _ _ _ _ _ _ _ _ _ _ _ _ _ _ _ _ _ _ _ _ _ _ _ _ _ _ _ _ _ _ _ _ _ _ _ _ _ _ _ _ _ _ _ _ _ _ _ _ _ _ _ _ _ _ _ _ _ _ _ _ _ _ _ _ _ _ _ _ _ _ _ _ _ _ _ _ _ _ _ _ _ _ _ _ _ _ _ _ _ _ _ _ _ _ _ _ _ _ _ _ _ _ _ _ _ _ _ _ _ _ _ _ _ _ _ _ _ _ _ _ _ _ _ _ _ _ _ _ _ _ _ _ _ _ _ _ _ _ _ _ _ _ _ _ _ _ _ _ _ _ _ _ _ _ _ _ _ _ _ _ _ _ _ _ _ _ _ _ _ _ _ (by intro c a a_ w hd h; have h2 : a.defers = [] ∧ _ := h; exact And.intro (hd.symm.trans h2.1) h2.2) (e := d1) (j := j2) (by omega) (by rw [← HUB.out]; omega) HX10 HSTB10 HF1S HJ2 HDN.out ?_
 intro t160 t161 t162 t163 t164 t165 t166 t167 t168 t169 t170 t171 t172 w11 h11
 obtain ⟨m2, hm2, hme2, hX11, ht11, hrob2⟩ := h11
 obtain ⟨F2, hF2⟩ : ∃ F2 : Tr, F2 = { F1 with L := F1.L.set j2 { d1 with tick := (F1.clock : Int) } } := ⟨_, rfl⟩
 obtain ⟨R2, hR2⟩ : ∃ R2, R2 = R1.set j2 { m2 with tick := (F1.clock : Int) } := ⟨_, rfl⟩
 have hX11' : RTree B w11 r (.slice (some ⟨gv, 0, none⟩) R1.length vc) R2 F2 := by rw [hF2, hR2]; exact hX11
 have hr2l : R1.length = R2.length := by rw [hR2, List.length_set]
 have hF2L : F2.L = tickN [a.dropLast, b.dropLast] ((F.clock + 1 : Nat) : Int) F.L := by
  rw [hF2]; show F1.L.set j2 _ = _; rw [set_tick HF1S.out HJ2.out, HDN.out, HF1L.out, HF1C.out, tickN_two]
 have hF2o : F2.clock = F.clock + 1 ∧ F2.most = F.most ∧ F2.reads = F.reads := by rw [hF2]; exact ⟨HF1C.out, HF1M.out.1, HF1M.out.2⟩
 have ht911 : Turn [r, gv] w9 w11 := HT910.out.trans ht11 (fun y hy => .inl (by simp at hy; simp [hy]))
 have HT11 : Hid (Turn (r :: ob (.slice (some ⟨gv, 0, none⟩) R.length vc)) w w11) := Lib.hid (HT10.out.trans ht11 (fun y hy => .inl (by simp at hy; simp [ob, Value.ownBlock, hy])))
 have HRB2 : Hid (robL R2 = robL R) := Lib.hid (by rw [hR2, hrob2]; exact HRB1.out)
 rw [hr2l] at hX11'
 have HX11 := Lib.hid hX11'; have HR2L := Lib.hid hr2l; have HF2L := Lib.hid hF2L; have HF2O := Lib.hid hF2o
 have HPA11 := Lib.hid (KP.out w11 ht911).1
 have HPB11 := Lib.hid (KP.out w11 ht911).2
 have hd2 : Hid (∀ m ∈ R2, m.nm.length ≤ 1000) := Lib.hid (fun m hm => by
  have h1 : m.te ∈ F2.L := by rw [hX11'.is]; exact List.mem_map.2 ⟨m, hm, rfl⟩
  rw [hF2L] at h1
  obtain ⟨x, hx, hxe⟩ := List.mem_map.1 h1
  have h2 : x.nm = m.nm := by
   have h3 : (if x.nm ∈ [a.dropLast, b.dropLast] then ({ x with tick := ((F.clock + 1 : Nat) : Int) } : TE) else x).nm = m.te.nm := congrArg TE.nm hxe
   split at h3 <;> exact h3
  have := HG.out.deep x hx
  rw [← h2]; exact Nat.le_trans this (by decide))
 clear hm2 hme2 hX11 hX11' ht11 hrob2 hF2 hR2 hF2L hF2o ht911
 go_upto_block 2 with (fail)
 refine mv_b2 _ _ _ _ _ _ _ _ _ _ _ _ _ _ _ _ _ _ _ _ _ _ _ _ _ _ _ _ _ _ _ _ _ _ _ _ _ _ _ _ _ _ _ _ _ _ _ _ _ _ _ _ _ _ _ _ _ _ _ _ _ _ _ _ _ _ _ _ _ _ _ _ _ _ _ _ _ _ _ _ _ _ _ _ _ _ _ _ _ _ _ _ _ _ _ _ _ _ _ _ _ _ _ _ _ _ _ _ _ _ _ _ _ _ _ _ _ _ _ _ _ _ _ _ _ _ _ _ _ _ _ _ _ _ _ _ _ _ _ _ _ _ _ _ _ _ _ _ _ _ _ _ _ _ _ _ _ _ _ _ _ _ _ _ _ _ _ _ _ _ _ _ _ _ _ _ _ _ _ _ _ _ _ _ _ _ _ _ _ _ _ _ _ _ _ _ _ _ _ _ _ _ _ _ _ _ _ _ _ _ _ _ _ _ _ _ _ _ _ _ _ (by intro c a a_ w hd h; have h2 : a.defers = [] ∧ _ := h; exact And.intro (hd.symm.trans h2.1) h2.2) (by omega) (by omega) (by omega) HANE.out HX11 (Lib.hid HPA11.out.strs) HPB11 hd2 ?_
 intro t17 t18 t19 t20 t173 t174 t175 t176 t177 t178 t179 t180 t181 t182 t183 t184 t185 t186 t187 t188 t189 t190 t191 t192 t193 t194 t195 t196 t197 t198 t199 t200 t201 t202 t203 t204 t205 t206 t207 t208 t209 t210 w12 h12
 obtain ⟨G, hI⟩ := h12
 obtain ⟨htree, hgo, hgor, hgn, hgb, hgb2, htE, hst⟩ := rmove_end H.out HBL.out HT11.out (by have h1 := HX11.out; rw [← HR2L.out, ← HR1L.out] at h1; exact h1) HRB2.out hI
 have hX12 := HX11.out.below hI.bel
 have c00 : w12.cell? ⟨r, 0, none⟩ = some (.slice (some ⟨gv, 0, none⟩) R2.length vc) := cell_of_heap hX12.book
 have f00 : w12.frozen? ⟨r, 0, none⟩ = false := frozen_of_heap hX12.book
 have hte := hI.te
 have hst0 := hI.stay
 rw [List.take_length] at hst0
 obtain ⟨sa, sc, hsv⟩ := rowS_slice hst0
 have hr2 : R2.length = R.length := by rw [← HR2L.out, ← HR1L.out]
 obtain ⟨qa, qc, hqv⟩ := rowS_slice hI.go
 subst hsv hqv
 have hgl : G.length ≤ R2.length := by
  have h1 := congrArg List.length hte
  rw [List.length_map, List.length_map] at h1
  have h2 : (onR a (R2.take R2.length)).length ≤ (R2.take R2.length).length := List.length_filter_le _ _
  rw [List.length_take] at h2
  omega
 have hol := offR_len a R2
 have HTREE := Lib.hid htree; have HGO := Lib.hid hgo; have HGOR := Lib.hid hgor; have HGN := Lib.hid hgn; have HGBB := Lib.hid hgb; have HGB2 := Lib.hid hgb2; have HTE := Lib.hid htE; have HSTV := Lib.hid hst
 have HTEL : Hid (putsT (G.map RN.te) (dropT a F2.L) = (moveN p q F).L) := Lib.hid (by
  have h1 := HMS.out HC.out
  have h2 : (moveN p q F).L = tickN [a.dropLast, b.dropLast] ((F.clock + 1 : Nat) : Int) (moveT a b F.L) := by rw [moveN, ← HA.out, ← HBQ.out]
  rw [h2] at h1 ⊢
  have hnot : ¬ (a.length < b.length ∧ a <+: b) := fun h => HNOT.out (.inr ⟨h.1, List.prefix_iff_eq_take.1 h.2⟩)
  have hm := move_list HG.out.srt HG.out.par HANE.out HBNE.out HGB.out hnot h1 F2.L HF2L.out
  rw [← hm]
  congr 1
  rw [hte, onR_te, HX11.out.is, List.take_length])
 clear htree hgo hgor hgn hgb hgb2 htE hst hI hte hX12 hst0 hr1l hr2l
 go_upto_block 4 with (fail)
 refine mv_b4 _ _ _ _ _ _ _ _ _ _ _ _ _ _ _ _ _ _ _ _ _ _ _ _ _ _ _ _ _ _ _ _ _ _ _ _ _ _ _ _ _ _ _ _ _ _ _ _ _ _ _ _ _ _ _ _ _ _ _ _ _ _ _ _ _ _ _ _ _ _ _ _ _ _ _ _ _ _ _ _ _ _ _ _ _ _ _ _ _ _ _ _ _ _ _ _ _ _ _ _ _ _ _ _ _ _ _ _ _ _ _ _ _ _ _ _ _ _ _ _ _ _ _ _ _ _ _ _ _ _ _ _ _ _ _ _ _ _ _ _ _ _ _ _ _ _ _ _ _ _ _ _ _ _ _ _ _ _ _ _ _ _ _ _ _ _ _ _ _ _ _ _ _ _ _ _ _ _ _ _ _ _ _ _ _ _ _ _ _ _ _ _ _ _ _ _ _ _ _ _ _ _ _ _ _ _ _ _ _ _ _ _ _ _ _ _ _ _ _ _ _ _ _ _ (by intro c a a_ w hd h; have h2 : a.defers = [] ∧ _ := h; exact And.intro (hd.symm.trans h2.1) h2.2) (by omega) HTREE HGO HGOR HGN HGBB (Lib.hid (Nat.le_trans HBL.out HTE.out.size)) ?_
 intro t21 t215 t216 t217 t218 t219 t220 t221 t222 t223 t224 t225 t226 w14 h14
 obtain ⟨v', htF, htT, htO⟩ := h14
 have FINAL : Hid (RPost B w r (.slice (some ⟨gv, 0, none⟩) R.length vc) R (moveN p q F) 0 (.returned (.int .i64 0)) w14) := by
  refine Lib.hid ⟨rfl, v', putsR G (offR a R2), ?_, HTE.out.trans htT (fun y hy => .inl (by simp at hy; simp [hy])), fun b hb => ?_⟩
  · have hS : moveN p q F = { F2 with L := (moveN p q F).L } := by
     obtain ⟨k1, k2, k3⟩ := HF2O.out
     rw [moveN]
     show Tr.mk _ _ _ _ = Tr.mk _ F2.clock F2.most F2.reads
     rw [k1, k2, k3]
    rw [hS, ← HTEL.out]
    exact htF
  · rw [rblk, List.mem_cons, List.mem_append] at hb
    rcases hb with rfl | hb | hb
    · exact .inl (by simp [rblk])
    · refine .inr ?_
      rcases htO b hb with h1 | h1
      · exact HSTV.out b h1
      · exact Nat.le_trans HTE.out.size h1
    · rcases robL_puts hb with hb | hb
      · obtain ⟨m, hm, hb⟩ := List.mem_flatMap.1 hb
        rcases HGB2.out m hm b hb with h1 | h1
        · exact .inl (by rw [rblk, List.mem_cons, List.mem_append]; exact .inr (.inr h1))
        · exact .inr h1
      · have hb := offR_rob hb
        rw [HRB2.out] at hb
        exact .inl (by rw [rblk, List.mem_cons, List.mem_append]; exact .inr (.inr hb))
 clear htF htT htO
 go_wp2
 go_ret
 exact YES.out _ HC.out FINAL.out
end Go.Proofs.YtnkapojbijbbaaaGreatDoor.Sr
