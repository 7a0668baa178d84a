import Derived.Test.YtnkapojbijbbaaaGreatDoorZPSrLawSt
import Derived.Test.YtnkapojbijbbaaaGreatDoorZPZz
set_option linter.unusedSimpArgs false
set_option linter.unusedVariables false
set_option maxHeartbeats 40000000
set_option maxRecDepth 100000
namespace Go.Proofs.YtnkapojbijbbaaaGreatDoor.Sr
open Go.RowKit Go.Maps Go.WideMaps Rf Go.Proofs.YtnkapojbijbbaaaGreatDoor.Nm St
theorem ch_p10 {Q : Exit → Act → World → Prop} (u1 u2 u4 u5 u6 u8 u9 u10 u11 u12 u13 u14 u15 u16 u17 u18 u19 u20 u21 u22 u23 u24 u25 u26 u27 u28 u29 u30 u31 u32 u33 u34 u35 u36 u37 u38 u39 u40 u41 u42 u43 u44 u45 u46 u47 u48 u49 u50 u51 u52 u53 u54 u55 u56 u57 u58 u59 u60 u61 u62 u63 u64 u65 u66 u67 u68 u69 u70 u71 u72 u73 u74 u75 u76 u77 u78 u79 u80 u81 u82 u83 u84 u85 u86 u87 u88 u89 u90 u91 u92 u93 u94 u95 u96 u97 u98 u99 u100 u101 u102 u103 u104 u105 u106 u107 u108 u109 u110 u111 u112 u113 u114 u115 u116 u117 u118 u119 u120 u121 u122 u123 u124 u125 u126 u127 u128 u129 u130 u131 u132 u133 u134 u135 u136 u137 u138 u139 u140 u141 u142 u143 u144 u145 u146 u147 u148 u149 u150 u151 u152 u153 u154 u155 u156 u157 u158 u159 u160 u161 u162 u163 u164 u165 u166 u167 u168 u169 u170 u171 u172 u173 u174 u175 u176 u177 u178 u179 : Value) {r g b q j i n cap k ba oa : Nat} {w ws : World} {T : Tr} {X : List SE} {qv jv : Value} {R : List RN} {x : Chg}
 (hP : ∀ c (a a' : Act) w, a.defers = a'.defers → Q (.panic c) a w → Q (.panic c) a' w) (hil : (i : Int) < (n : Int)) (hnm : n ≤ 9223372036854775807) (HRG : Hid (∀ W, Below w.heap.size w W → W.rangeAt ba (oa + i * 4) x.cells)) (HFX : x.Fits) (HTR : Hid (TreeAt w.heap.size ws r T)) (HLW : Hid (Below w.heap.size w ws))
 (HK : ∀ (t8 t50 t51 t52 t53 t54 t55 t56 t57 t58 t59 : Value) (w' : World), (∃ s, t8 = .pointer (some ⟨s, 0, none⟩) ∧ w'.heap[s]? = some (.cells (statN x.path T.L).stat.toArray 40) ∧ ws.heap.size ≤ s ∧ Below ws.heap.size ws w') → Q .normal ⟨#[.slice (some ⟨ba, oa, none⟩) n cap, u1, u2, .pointer (some ⟨r, 0, none⟩), u4, u5, u6, .int .i64 (i : Int), t8, .int .i64 (findE x.path T.L), u10, u11, u12, u13, u14, u15, u16, u17, u18, u19, u20, u21, u22, u23, u24, u25, u26, u27, u28, u29, u30, u31, u32, u33, u34, u35, u36, u37, u38, u39, u40, u41, u42, u43, u44, u45, u46, u47, u48, u49, t50, t51, t52, t53, t54, t55, t56, t57, t58, t59, u60, u61, u62, u63, u64, u65, u66, u67, u68, u69, u70, u71, u72, u73, u74, u75, u76, u77, u78, u79, u80, u81, u82, u83, u84, u85, u86, u87, u88, u89, u90, u91, u92, u93, u94, u95, u96, u97, u98, u99, u100, u101, u102, u103, u104, u105, u106, u107, u108, u109, u110, u111, u112, u113, u114, u115, u116, u117, u118, u119, u120, u121, u122, u123, u124, u125, u126, u127, u128, u129, u130, u131, u132, u133, u134, u135, u136, u137, u138, u139, u140, u141, u142, u143, u144, u145, u146, u147, u148, u149, u150, u151, u152, u153, u154, u155, u156, u157, u158, u159, u160, u161, u162, u163, u164, u165, u166, u167, u168, u169, u170, u171, u172, u173, u174, u175, u176, u177, u178, u179], []⟩ w') :
 Code.wp Tryz.prog (chR 10) Q ⟨#[.slice (some ⟨ba, oa, none⟩) n cap, u1, u2, .pointer (some ⟨r, 0, none⟩), u4, u5, u6, .int .i64 (i : Int), u8, u9, u10, u11, u12, u13, u14, u15, u16, u17, u18, u19, u20, u21, u22, u23, u24, u25, u26, u27, u28, u29, u30, u31, u32, u33, u34, u35, u36, u37, u38, u39, u40, u41, u42, u43, u44, u45, u46, u47, u48, u49, u50, u51, u52, u53, u54, u55, u56, u57, u58, u59, u60, u61, u62, u63, u64, u65, u66, u67, u68, u69, u70, u71, u72, u73, u74, u75, u76, u77, u78, u79, u80, u81, u82, u83, u84, u85, u86, u87, u88, u89, u90, u91, u92, u93, u94, u95, u96, u97, u98, u99, u100, u101, u102, u103, u104, u105, u106, u107, u108, u109, u110, u111, u112, u113, u114, u115, u116, u117, u118, u119, u120, u121, u122, u123, u124, u125, u126, u127, u128, u129, u130, u131, u132, u133, u134, u135, u136, u137, u138, u139, u140, u141, u142, u143, u144, u145, u146, u147, u148, u149, u150, u151, u152, u153, u154, u155, u156, u157, u158, u159, u160, u161, u162, u163, u164, u165, u166, u167, u168, u169, u170, u171, u172, u173, u174, u175, u176, u177, u178, u179], []⟩ ws := by
 have HKH := Lib.hid HK
 clear HK
 conv => arg 2; whnf
 have ST := stat_any w.heap.size ws r T x.path (by have := HFX.path; omega) HTR.out
 unfold ptr at ST
 obtain ⟨S0, hS0⟩ : ∃ S0, S0 = statN x.path T.L := ⟨_, rfl⟩
 rw [← hS0] at ST
 have ST := Lib.hid ST
 have HS0 := Lib.hid hS0
 obtain ⟨fe, hfe⟩ : ∃ fe, fe = findE x.path T.L := ⟨_, rfl⟩
 rw [← hfe] at ST
 have HFE := Lib.hid hfe
 have k1 : ws.cell? ⟨ba, oa + i * 4 + 1, none⟩ = some (.string ⟨x.path.toArray⟩) := HRG.out ws HLW.out 1 _ rfl
 have HON : Hid (S0.stat.toArray.all (·.oneCell') = true) := Lib.hid (oneV _ (by intro v hv; simp [SE.stat] at hv; rcases hv with rfl | rfl | rfl | rfl <;> rfl))
 clear hS0 hfe
 go_wp2_with fail
 refine ST.out.mono ?_
 rintro ex w1 ⟨rfl, hb1⟩
 have HB1 := Lib.hid hb1
 clear hb1 ST k1
 go_wp2_with (first
  | (refine Sh.wpList_store_new (by first | rfl | rw [one_size]) rfl 40 (.tmp 8) (.tmp 58) rfl S0.stat.toArray rfl rfl infoSt rfl HON.out ?_
     intro w2 hq2 hb2 hs2
     have HQ2 := Lib.hid hq2; have HB2 := Lib.hid (HB1.out.trans (hb2.mono HB1.out.size))
     clear hq2 hb2 hs2)
  | fail)
 have hfin := HQ2.out
 rw [HS0.out] at hfin
 rw [HFE.out]
 exact HKH.out _ _ _ _ _ _ _ _ _ _ _ _ ⟨w1.heap.size, rfl, hfin, HB1.out.size, HB2.out⟩
theorem ch_p11 {Q : Exit → Act → World → Prop} (u1 u2 u3 u5 u6 u8 u9 u10 u11 u12 u13 u14 u15 u16 u17 u18 u19 u20 u21 u22 u23 u24 u25 u26 u27 u28 u29 u30 u31 u32 u33 u34 u35 u36 u37 u38 u39 u40 u41 u42 u43 u44 u45 u46 u47 u48 u49 u50 u51 u52 u53 u54 u55 u56 u57 u58 u59 u60 u61 u62 u63 u64 u65 u66 u67 u68 u69 u70 u71 u72 u73 u74 u75 u76 u77 u78 u79 u80 u81 u82 u83 u84 u85 u86 u87 u88 u89 u90 u91 u92 u93 u94 u95 u96 u97 u98 u99 u100 u101 u102 u103 u104 u105 u106 u107 u108 u109 u110 u111 u112 u113 u114 u115 u116 u117 u118 u119 u120 u121 u122 u123 u124 u125 u126 u127 u128 u129 u130 u131 u132 u133 u134 u135 u136 u137 u138 u139 u140 u141 u142 u143 u144 u145 u146 u147 u148 u149 u150 u151 u152 u153 u154 u155 u156 u157 u158 u159 u160 u161 u162 u163 u164 u165 u166 u167 u168 u169 u170 u171 u172 u173 u174 u175 u176 u177 u178 u179 : Value) {r g b q j i n cap k ba oa : Nat} {w ws : World} {T : Tr} {X : List SE} {qv jv : Value} {R : List RN} {x : Chg}
 (hP : ∀ c (a a' : Act) w, a.defers = a'.defers → Q (.panic c) a w → Q (.panic c) a' w) (hil : (i : Int) < (n : Int)) (hnm : n ≤ 9223372036854775807) (HRG : Hid (∀ W, Below w.heap.size w W → W.rangeAt ba (oa + i * 4) x.cells)) (HFX : x.Fits) (HTR : Hid (RTree w.heap.size ws q qv R T.bare)) (HTB : Hid (Tabs ws)) (HGF : Hid (GoodF k T.bare)) (hk : k ≤ 1000) (HLW : Hid (Below w.heap.size w ws))
 (HK : ∀ (t10 t60 t61 t62 t63 t64 t65 t66 t67 t68 t69 : Value) (w' : World), (∃ s, t10 = .pointer (some ⟨s, 0, none⟩) ∧ w'.heap[s]? = some (.cells (statN x.path T.L).stat.toArray 44) ∧ ws.heap.size ≤ s ∧ Below ws.heap.size ws w') → Q .normal ⟨#[.slice (some ⟨ba, oa, none⟩) n cap, u1, u2, u3, .pointer (some ⟨q, 0, none⟩), u5, u6, .int .i64 (i : Int), u8, u9, t10, .int .i64 (findE x.path T.L), u12, u13, u14, u15, u16, u17, u18, u19, u20, u21, u22, u23, u24, u25, u26, u27, u28, u29, u30, u31, u32, u33, u34, u35, u36, u37, u38, u39, u40, u41, u42, u43, u44, u45, u46, u47, u48, u49, u50, u51, u52, u53, u54, u55, u56, u57, u58, u59, t60, t61, t62, t63, t64, t65, t66, t67, t68, t69, u70, u71, u72, u73, u74, u75, u76, u77, u78, u79, u80, u81, u82, u83, u84, u85, u86, u87, u88, u89, u90, u91, u92, u93, u94, u95, u96, u97, u98, u99, u100, u101, u102, u103, u104, u105, u106, u107, u108, u109, u110, u111, u112, u113, u114, u115, u116, u117, u118, u119, u120, u121, u122, u123, u124, u125, u126, u127, u128, u129, u130, u131, u132, u133, u134, u135, u136, u137, u138, u139, u140, u141, u142, u143, u144, u145, u146, u147, u148, u149, u150, u151, u152, u153, u154, u155, u156, u157, u158, u159, u160, u161, u162, u163, u164, u165, u166, u167, u168, u169, u170, u171, u172, u173, u174, u175, u176, u177, u178, u179], []⟩ w') :
 Code.wp Tryz.prog (chR 11) Q ⟨#[.slice (some ⟨ba, oa, none⟩) n cap, u1, u2, u3, .pointer (some ⟨q, 0, none⟩), u5, u6, .int .i64 (i : Int), u8, u9, u10, u11, u12, u13, u14, u15, u16, u17, u18, u19, u20, u21, u22, u23, u24, u25, u26, u27, u28, u29, u30, u31, u32, u33, u34, u35, u36, u37, u38, u39, u40, u41, u42, u43, u44, u45, u46, u47, u48, u49, u50, u51, u52, u53, u54, u55, u56, u57, u58, u59, u60, u61, u62, u63, u64, u65, u66, u67, u68, u69, u70, u71, u72, u73, u74, u75, u76, u77, u78, u79, u80, u81, u82, u83, u84, u85, u86, u87, u88, u89, u90, u91, u92, u93, u94, u95, u96, u97, u98, u99, u100, u101, u102, u103, u104, u105, u106, u107, u108, u109, u110, u111, u112, u113, u114, u115, u116, u117, u118, u119, u120, u121, u122, u123, u124, u125, u126, u127, u128, u129, u130, u131, u132, u133, u134, u135, u136, u137, u138, u139, u140, u141, u142, u143, u144, u145, u146, u147, u148, u149, u150, u151, u152, u153, u154, u155, u156, u157, u158, u159, u160, u161, u162, u163, u164, u165, u166, u167, u168, u169, u170, u171, u172, u173, u174, u175, u176, u177, u178, u179], []⟩ ws := by
 have HKH := Lib.hid HK
 clear HK
 conv => arg 2; whnf
 have ST := rstat_any w.heap.size ws q qv R T.bare k x.path HTB.out (by have := HFX.path; omega) HGF.out (by omega) HTR.out
 rw [show statN x.path T.bare.L = statN x.path T.L from statN_bare _ _, show findE x.path T.bare.L = findE x.path T.L from findE_bare _ _] at ST
 unfold ptr at ST
 obtain ⟨S0, hS0⟩ : ∃ S0, S0 = statN x.path T.L := ⟨_, rfl⟩
 rw [← hS0] at ST
 have ST := Lib.hid ST
 have HS0 := Lib.hid hS0
 obtain ⟨fe, hfe⟩ : ∃ fe, fe = findE x.path T.L := ⟨_, rfl⟩
 rw [← hfe] at ST
 have HFE := Lib.hid hfe
 have k1 : ws.cell? ⟨ba, oa + i * 4 + 1, none⟩ = some (.string ⟨x.path.toArray⟩) := HRG.out ws HLW.out 1 _ rfl
 have HON : Hid (S0.stat.toArray.all (·.oneCell') = true) := Lib.hid (oneV _ (by intro v hv; simp [SE.stat] at hv; rcases hv with rfl | rfl | rfl | rfl <;> rfl))
 clear hS0 hfe
 go_wp2_with fail
 refine ST.out.mono ?_
 rintro ex w1 ⟨rfl, hb1⟩
 have HB1 := Lib.hid hb1
 clear hb1 ST k1
 go_wp2_with (first
  | (refine Sh.wpList_store_new (by first | rfl | rw [one_size]) rfl 44 (.tmp 10) (.tmp 68) rfl S0.stat.toArray rfl rfl infoStR rfl HON.out ?_
     intro w2 hq2 hb2 hs2
     have HQ2 := Lib.hid hq2; have HB2 := Lib.hid (HB1.out.trans (hb2.mono HB1.out.size))
     clear hq2 hb2 hs2)
  | fail)
 have hfin := HQ2.out
 rw [HS0.out] at hfin
 rw [HFE.out]
 exact HKH.out _ _ _ _ _ _ _ _ _ _ _ _ ⟨w1.heap.size, rfl, hfin, HB1.out.size, HB2.out⟩
end Go.Proofs.YtnkapojbijbbaaaGreatDoor.Sr
namespace Go.Proofs.YtnkapojbijbbaaaGreatDoor.Sr
open Go.RowKit Go.Maps Go.WideMaps Rf Go.Proofs.YtnkapojbijbbaaaGreatDoor.Nm St
theorem ch_p13 {Q : Exit → Act → World → Prop} (u1 u2 u3 u4 u6 u9 u10 u11 u12 u13 u14 u15 u16 u17 u18 u19 u20 u21 u22 u23 u24 u25 u26 u27 u28 u29 u30 u31 u32 u33 u34 u35 u36 u37 u38 u39 u40 u41 u42 u43 u44 u45 u46 u47 u48 u49 u50 u51 u52 u53 u54 u55 u56 u57 u58 u59 u60 u61 u62 u63 u64 u65 u66 u67 u68 u69 u70 u71 u72 u73 u74 u75 u76 u77 u78 u79 u80 u81 u82 u83 u84 u85 u86 u87 u88 u89 u90 u91 u92 u93 u94 u95 u96 u97 u98 u99 u100 u101 u102 u103 u104 u105 u106 u107 u108 u109 u110 u111 u112 u113 u114 u115 u116 u117 u118 u119 u120 u121 u122 u123 u124 u125 u126 u127 u128 u129 u130 u131 u132 u133 u134 u135 u136 u137 u138 u139 u140 u141 u142 u143 u144 u145 u146 u147 u148 u149 u150 u151 u152 u153 u154 u155 u156 u157 u158 u159 u160 u161 u162 u163 u164 u165 u166 u167 u168 u169 u170 u171 u172 u173 u174 u175 u176 u177 u178 u179 : Value) {r g b q j i n cap k ba oa : Nat} {s8 : Nat} {w ws : World} {T : Tr} {X : List SE} {qv jv : Value} {R : List RN} {x : Chg}
 (hP : ∀ c (a a' : Act) w, a.defers = a'.defers → Q (.panic c) a w → Q (.panic c) a' w) (hil : (i : Int) < (n : Int)) (hnm : n ≤ 9223372036854775807) (HRG : Hid (∀ W, Below w.heap.size w W → W.rangeAt ba (oa + i * 4) x.cells)) (HFX : x.Fits) {Y : List SE} (HS : Hid (ChSt w.heap.size ws r T g b X q qv R T.bare j jv Y)) (HG : Hid (Good k T ∧ T.clock ≤ k)) (hk : k ≤ 900) (HLW : Hid (Below w.heap.size w ws)) (HQ : Hid (ws.heap[s8]? = some (.cells (statN x.path T.L).stat.toArray 40))) (HQW : Hid (b < s8))
 (HK : ∀ (t84 t85 t86 t87 t88 t89 t90 t91 t92 t93 t94 t95 t96 t97 t98 : Value) (w' : World), (ChSt w.heap.size w' r T g b (setX (entM x.path x.more T.L) X).2 q qv R T.bare j jv Y ∧ Below w.heap.size w w' ∧ Turn [b] ws w') → Q .normal ⟨#[.slice (some ⟨ba, oa, none⟩) n cap, u1, u2, u3, u4, .pointer (some ⟨g, 0, none⟩), u6, .int .i64 (i : Int), .pointer (some ⟨s8, 0, none⟩), u9, u10, u11, u12, u13, u14, u15, u16, u17, u18, u19, u20, u21, u22, u23, u24, u25, u26, u27, u28, u29, u30, u31, u32, u33, u34, u35, u36, u37, u38, u39, u40, u41, u42, u43, u44, u45, u46, u47, u48, u49, u50, u51, u52, u53, u54, u55, u56, u57, u58, u59, u60, u61, u62, u63, u64, u65, u66, u67, u68, u69, u70, u71, u72, u73, u74, u75, u76, u77, u78, u79, u80, u81, u82, u83, t84, t85, t86, t87, t88, t89, t90, t91, t92, t93, t94, t95, t96, t97, t98, u99, u100, u101, u102, u103, u104, u105, u106, u107, u108, u109, u110, u111, u112, u113, u114, u115, u116, u117, u118, u119, u120, u121, u122, u123, u124, u125, u126, u127, u128, u129, u130, u131, u132, u133, u134, u135, u136, u137, u138, u139, u140, u141, u142, u143, u144, u145, u146, u147, u148, u149, u150, u151, u152, u153, u154, u155, u156, u157, u158, u159, u160, u161, u162, u163, u164, u165, u166, u167, u168, u169, u170, u171, u172, u173, u174, u175, u176, u177, u178, u179], []⟩ w') :
 Code.wp Tryz.prog (chR 13) Q ⟨#[.slice (some ⟨ba, oa, none⟩) n cap, u1, u2, u3, u4, .pointer (some ⟨g, 0, none⟩), u6, .int .i64 (i : Int), .pointer (some ⟨s8, 0, none⟩), u9, u10, u11, u12, u13, u14, u15, u16, u17, u18, u19, u20, u21, u22, u23, u24, u25, u26, u27, u28, u29, u30, u31, u32, u33, u34, u35, u36, u37, u38, u39, u40, u41, u42, u43, u44, u45, u46, u47, u48, u49, u50, u51, u52, u53, u54, u55, u56, u57, u58, u59, u60, u61, u62, u63, u64, u65, u66, u67, u68, u69, u70, u71, u72, u73, u74, u75, u76, u77, u78, u79, u80, u81, u82, u83, u84, u85, u86, u87, u88, u89, u90, u91, u92, u93, u94, u95, u96, u97, u98, u99, u100, u101, u102, u103, u104, u105, u106, u107, u108, u109, u110, u111, u112, u113, u114, u115, u116, u117, u118, u119, u120, u121, u122, u123, u124, u125, u126, u127, u128, u129, u130, u131, u132, u133, u134, u135, u136, u137, u138, u139, u140, u141, u142, u143, u144, u145, u146, u147, u148, u149, u150, u151, u152, u153, u154, u155, u156, u157, u158, u159, u160, u161, u162, u163, u164, u165, u166, u167, u168, u169, u170, u171, u172, u173, u174, u175, u176, u177, u178, u179], []⟩ ws := by
 have HKH := Lib.hid HK
 clear HK
 conv => arg 2; whnf
 obtain ⟨S0, hS0⟩ : ∃ S0, S0 = statN x.path T.L := ⟨_, rfl⟩
 obtain ⟨E0, hE0⟩ : ∃ E0, E0 = entM x.path x.more T.L := ⟨_, rfl⟩
 have HE0 := Lib.hid hE0
 have HF : Hid E0.Fits := Lib.hid (by rw [hE0]; exact entM_fits HG.out.1 (by omega) HFX.path (idOf_length _))
 have HCE : Hid (enV E0 = .agg (.string ⟨x.path.toArray⟩ :: .int .u8 (S0.node : Int) :: .int .i64 S0.size :: .int .u64 (S0.ino : Int) :: .int .i64 S0.tick :: .int .u8 1 :: Lib.byteCells (idOf x.more)).toArray) := Lib.hid (by rw [hE0, hS0]; rfl)
 rw [← hS0] at HQ
 have KS : Hid (∀ w', Below ws.heap.size ws w' → w'.rangeAt s8 0 S0.stat ∧ w'.cell? ⟨ba, oa + i * 4 + 1, none⟩ = some (.string ⟨x.path.toArray⟩) ∧ w'.cell? ⟨ba, oa + i * 4 + 2, none⟩ = some (.string ⟨x.more.toArray⟩)) := Lib.hid (fun w' hb => by
  have hr := HRG.out w' (HLW.out.trans (hb.mono HLW.out.size))
  exact ⟨range_block ((hb.block _ (lt_of_heap HQ.out)).trans HQ.out), hr 1 _ rfl, hr 2 _ rfl⟩)
 clear hS0 hE0
 refine wp_region_held_drew (S := (fun w' : World => w'.rangeAt s8 0 S0.stat ∧ w'.cell? ⟨ba, oa + i * 4 + 1, none⟩ = some (.string ⟨x.path.toArray⟩) ∧ w'.cell? ⟨ba, oa + i * 4 + 2, none⟩ = some (.string ⟨x.more.toArray⟩))) (by kernel_rfl) (KS.out _ (Below.refl _ _).drew) (fun hHeld => ?_)
 refine tk 0 rfl (v := ?_) (fun _ _ _ h => hP _ _ _ _ (by rfl) h) ?chp130 hHeld ?_
 case chp130 => intro wS hSw; have k1 := hSw.2.1; have k2 := hSw.2.2; go_simp; try with_reducible rfl
 try simp only [Act.put, zA, zB, zC, zD, zE, zF]
 refine tk 1 rfl (v := ?_) (fun _ _ _ h => hP _ _ _ _ (by rfl) h) ?chp131 hHeld ?_
 case chp131 => intro wS hSw; have k1 := hSw.2.1; have k2 := hSw.2.2; go_simp; try with_reducible rfl
 try simp only [Act.put, zA, zB, zC, zD, zE, zF]
 refine tk 2 rfl (v := ?_) (fun _ _ _ h => hP _ _ _ _ (by rfl) h) ?chp132 hHeld ?_
 case chp132 => intro wS hSw; have k1 := hSw.2.1; have k2 := hSw.2.2; go_simp; try with_reducible rfl
 try simp only [Act.put, zA, zB, zC, zD, zE, zF]
 refine tk 3 rfl (v := ?_) (fun _ _ _ h => hP _ _ _ _ (by rfl) h) ?chp133 hHeld ?_
 case chp133 => intro wS hSw; have k1 := hSw.2.1; have k2 := hSw.2.2; go_simp; try with_reducible rfl
 try simp only [Act.put, zA, zB, zC, zD, zE, zF]
 refine tk 4 rfl (v := ?_) (fun _ _ _ h => hP _ _ _ _ (by rfl) h) ?chp134 hHeld ?_
 case chp134 => intro wS hSw; have k1 := hSw.2.1; have k2 := hSw.2.2; go_simp; try with_reducible rfl
 try simp only [Act.put, zA, zB, zC, zD, zE, zF]
 refine tk 5 rfl (v := ?_) (fun _ _ _ h => hP _ _ _ _ (by rfl) h) ?chp135 hHeld ?_
 case chp135 => intro wS hSw; have k1 := hSw.2.1; have k2 := hSw.2.2; go_simp; try with_reducible rfl
 try simp only [Act.put, zA, zB, zC, zD, zE, zF]
 refine' wpAnyH_take (i := 6) (v := _) rfl (by kernel_rfl) (by kernel_rfl) (by kernel_rfl) (fun _ _ _ h => hP _ _ _ _ (by rfl) h) (yieldsIf_load_mid (by rfl) _ _ rfl s8 0 rfl S0.stat _ ?chp136S ?chp136u ?chp136d ?chp136i) hHeld ?chp136x
 case chp136S => intro wS hSw; exact hSw.1
 case chp136u => exact Tryz.underlying40
 case chp136d => rfl
 case chp136i => exact infoSt
 try simp only [Act.put, zA, zB, zC, zD, zE, zF]
 refine tk 7 rfl (v := ?_) (fun _ _ _ h => hP _ _ _ _ (by rfl) h) ?chp137 hHeld ?_
 case chp137 => intro wS hSw; have k1 := hSw.2.1; have k2 := hSw.2.2; go_simp; try with_reducible rfl
 try simp only [Act.put, zA, zB, zC, zD, zE, zF]
 refine tk 8 rfl (v := ?_) (fun _ _ _ h => hP _ _ _ _ (by rfl) h) ?chp138 hHeld ?_
 case chp138 => intro wS hSw; have k1 := hSw.2.1; have k2 := hSw.2.2; go_simp; try with_reducible rfl
 try simp only [Act.put, zA, zB, zC, zD, zE, zF]
 refine tk 9 rfl (v := ?_) (fun _ _ _ h => hP _ _ _ _ (by rfl) h) ?chp139 hHeld ?_
 case chp139 => intro wS hSw; have k1 := hSw.2.1; have k2 := hSw.2.2; go_simp; try with_reducible rfl
 try simp only [Act.put, zA, zB, zC, zD, zE, zF]
 refine tk 10 rfl (v := ?_) (fun _ _ _ h => hP _ _ _ _ (by rfl) h) ?chp1310 hHeld ?_
 case chp1310 => intro wS hSw; have k1 := hSw.2.1; have k2 := hSw.2.2; go_simp; try with_reducible rfl
 try simp only [Act.put, zA, zB, zC, zD, zE, zF]
 refine tk 11 rfl (v := ?_) (fun _ _ _ h => hP _ _ _ _ (by rfl) h) ?chp1311 hHeld ?_
 case chp1311 => intro wS hSw; have k1 := hSw.2.1; have k2 := hSw.2.2; go_simp; try with_reducible rfl
 try simp only [Act.put, zA, zB, zC, zD, zE, zF]
 refine wpAnyH_ready (rs := [12]) (by kernel_rfl) (by simp) ?_
 refine AllReadyH.cons rfl (fun K hK => ?_) AllReadyH.nil
 go_simp
 refine (id_any ws.drew x.more (by have := HFX.more; unfold maxLen; omega)).mono ?_
 rintro ex w4 ⟨rfl, hb4⟩
 have HB4 : Hid (Below ws.heap.size ws w4) := Lib.hid ((Below.refl _ ws).drew.trans hb4)
 clear hb4
 refine hK.out _ _ (KS.out _ HB4.out) (fun hHeld2 => ?_)
 clear hK K hHeld
 have hHeld := hHeld2
 clear hHeld2
 try simp only [Act.put, zA, zB, zC, zD, zE, zF]
 refine tk 13 rfl (v := (.agg (.string ⟨x.path.toArray⟩ :: .int .u8 (S0.node : Int) :: .int .i64 S0.size :: .int .u64 (S0.ino : Int) :: .int .i64 S0.tick :: .int .u8 1 :: Lib.byteCells (idOf x.more)).toArray)) (fun _ _ _ h => hP _ _ _ _ (by rfl) h) ?chp1313 hHeld ?_
 case chp1313 =>
  intro wS hSw
  refine exec_ben (x0 := .tmp 89) (x1 := .tmp 90) (x2 := .const (.int .u8 1)) (x3 := .tmp 96) ⟨x.path.toArray⟩ (S0.node : Int) S0.size (S0.ino : Int) S0.tick 1 (idOf x.more) (idOf_length x.more) ?_ ?_ ?_ ?_ ?_
  all_goals first | kernel_rfl | rfl
 try simp only [Act.put, zA, zB, zC, zD, zE, zF]
 refine wpAnyH_ready (rs := [14]) (by kernel_rfl) (by simp) ?_
 refine AllReadyH.cons rfl (fun K hK => ?_) AllReadyH.nil
 have SE4 := set_any w.heap.size w4 g b X E0 HF.out (HS.out.below HB4.out).idx
 unfold ptr at SE4
 rw [HCE.out] at SE4
 go_simp
 refine SE4.mono ?_
 rintro ez w5 ⟨rfl, hi5, hu5⟩
 have HS5 := Lib.hid ((HS.out.below HB4.out).set hi5 hu5)
 have HL5 := Lib.hid ((HLW.out.trans (HB4.out.mono HLW.out.size)).trans ((HS.out.below HB4.out).lowB hu5))
 have HT5 : Hid (Turn [b] ws w5) := Lib.hid ((Turn.of_below HB4.out).trans hu5 (fun y hy => .inl hy))
 have KS5 : Hid (w5.rangeAt s8 0 S0.stat ∧ w5.cell? ⟨ba, oa + i * 4 + 1, none⟩ = some (.string ⟨x.path.toArray⟩) ∧ w5.cell? ⟨ba, oa + i * 4 + 2, none⟩ = some (.string ⟨x.more.toArray⟩)) := Lib.hid (by
  have hr := HRG.out w5 HL5.out
  exact ⟨range_block ((HT5.out.block _ (lt_of_heap HQ.out) (by have := HQW.out; simp; omega)).trans HQ.out), hr 1 _ rfl, hr 2 _ rfl⟩)
 clear hi5 hu5
 refine hK.out _ _ KS5.out (fun hHeld2 => ?_)
 clear hK K hHeld
 have hHeld := hHeld2
 clear hHeld2
 try simp only [Act.put, zA, zB, zC, zD, zE, zF]
 refine wpAnyH_done (by kernel_rfl) ?_ _
 clear hHeld
 try simp only [Act.put, zA, zB, zC, zD, zE, zF]
 exact HKH.out _ _ _ _ _ _ _ _ _ _ _ _ _ _ _ _ ⟨by have h := HS5.out; rw [HE0.out] at h; exact h, HL5.out, HT5.out⟩
end Go.Proofs.YtnkapojbijbbaaaGreatDoor.Sr
