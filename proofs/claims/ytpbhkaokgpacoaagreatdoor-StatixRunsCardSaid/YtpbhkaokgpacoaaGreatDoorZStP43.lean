import Derived.Test.YtpbhkaokgpacoaaGreatDoorZStRunsKit
set_option linter.unusedSimpArgs false
set_option linter.unusedVariables false
/-
  The law: the answers are alike, and all that is told.
-/
namespace Go.Proofs.YtpbhkaokgpacoaaGreatDoor.St
open Go.RowKit Go.Maps Go.WideMaps Go.Proofs.YtpbhkaokgpacoaaGreatDoor.Rf Go.Proofs.YtpbhkaokgpacoaaGreatDoor.Rd

set_option linter.unusedSimpArgs false in
set_option maxHeartbeats 40000000 in
set_option maxRecDepth 100000 in
theorem p43 {Q : Exit → Act → World → Prop} (u0 u1 u2 u5 u8 u9 u10 u11 u12 u13 u14 u15 u16 u25 u26 u27 u28 u29 u30 u31 u32 u33 u34 u35 u36 u37 u38 u39 u40 u41 u42 u43 u44 u45 u46 u47 u48 u49 u50 u51 u52 u53 u54 u55 u56 u57 u58 u59 u60 u61 u62 u63 u64 u65 u66 u67 u68 u69 u70 u71 u72 u73 u74 u75 u76 u77 u78 u79 u80 u81 u82 u83 u84 u85 u86 u87 u88 u89 u90 u91 u92 u93 u94 u95 u96 u97 u98 u99 u100 u101 u102 u103 u104 u105 u106 u107 u108 u109 u110 u111 u112 u113 u114 u115 u116 u117 u118 u119 u120 u121 u122 u123 u124 u125 u126 u127 u128 u129 u130 u131 u132 u133 u134 u135 u136 u137 u138 u139 u140 u141 u142 u143 u144 u145 u146 u147 u148 u149 u150 u151 u152 u153 u154 u155 u156 u157 u158 u159 u160 u161 u162 u163 u164 u165 u166 u167 u168 u169 u170 u171 u172 u173 u174 u175 u176 u177 u178 u179 u180 u181 u182 u183 u184 u185 u186 u187 u188 u189 u190 u191 u192 u193 u194 u195 u196 u197 u198 u199 u200 u201 u202 u203 u204 u205 u206 u207 u208 u209 u210 u211 u212 u213 u214 u215 u216 u217 u218 u219 u220 u221 u222 u223 u224 u225 u226 u227 u228 u229 u230 u231 u232 u233 u234 u235 u236 u237 u238 u239 u240 u241 u242 u243 u244 u245 u246 u247 u248 u249 u250 u251 u252 u253 u254 u255 u256 u257 u258 u259 u260 u261 u262 u263 u264 u265 u266 u267 u268 u269 u270 u271 u272 u273 u274 u275 u276 u277 u278 u279 u280 u281 u282 u283 u284 u285 u286 u287 u288 u289 u290 : Value) (w : World) (c xa ma q : Nat) (it : It) (g b r : Nat) (v : Value) (L : List SE) (g' b' r' : Nat) (v' : Value) (L' : List SE) (W : World) (E1 E2 E3 E4 : Nat) (e f : SE) (vc : Int) (vb : Bool)
    (hP : ∀ c (a a' : Act) w, a.defers = a'.defers → Q (.panic c) a w → Q (.panic c) a' w) (hS : StpSt w c xa ma q it g b r v L L g' b' r' v' L' W) (hq : B4 c xa ma q g r it E1 E2 E3 E4 e f W) (he : e.Fits) (hf : f.Fits)
    (HK : ∀ (t249 t250 t251 t252 t253 t254 t255 t256 t257 t258 t259 t260 t261 t262 t263 t264 t265 t266 t267 t268 t269 t270 t271 t272 t273 t274 t275 t276 t277 : Value) (w' : World), Below W.heap.size W w' → Q .normal ⟨#[u0, u1, u2, .pointer (some ⟨xa, 0, none⟩), .pointer (some ⟨ma, 0, none⟩), u5, .int .i64 (c : Int), .pointer (some ⟨q, 0, none⟩), u8, u9, u10, u11, u12, u13, u14, u15, u16, .pointer (some ⟨E1, 0, none⟩), .int .i64 vc, .pointer (some ⟨E2, 0, none⟩), .int .i64 vc, .pointer (some ⟨E3, 0, none⟩), .bool vb, .pointer (some ⟨E4, 0, none⟩), .bool vb, u25, u26, u27, u28, u29, u30, u31, u32, u33, u34, u35, u36, u37, u38, u39, u40, u41, u42, u43, u44, u45, u46, u47, u48, u49, u50, u51, u52, u53, u54, u55, u56, u57, u58, u59, u60, u61, u62, u63, u64, u65, u66, u67, u68, u69, u70, u71, u72, u73, u74, u75, u76, u77, u78, u79, u80, u81, u82, u83, u84, u85, u86, u87, u88, u89, u90, u91, u92, u93, u94, u95, u96, u97, u98, u99, u100, u101, u102, u103, u104, u105, u106, u107, u108, u109, u110, u111, u112, u113, u114, u115, u116, u117, u118, u119, u120, u121, u122, u123, u124, u125, u126, u127, u128, u129, u130, u131, u132, u133, u134, u135, u136, u137, u138, u139, u140, u141, u142, u143, u144, u145, u146, u147, u148, u149, u150, u151, u152, u153, u154, u155, u156, u157, u158, u159, u160, u161, u162, u163, u164, u165, u166, u167, u168, u169, u170, u171, u172, u173, u174, u175, u176, u177, u178, u179, u180, u181, u182, u183, u184, u185, u186, u187, u188, u189, u190, u191, u192, u193, u194, u195, u196, u197, u198, u199, u200, u201, u202, u203, u204, u205, u206, u207, u208, u209, u210, u211, u212, u213, u214, u215, u216, u217, u218, u219, u220, u221, u222, u223, u224, u225, u226, u227, u228, u229, u230, u231, u232, u233, u234, u235, u236, u237, u238, u239, u240, u241, u242, u243, u244, u245, u246, u247, u248, t249, t250, t251, t252, t253, t254, t255, t256, t257, t258, t259, t260, t261, t262, t263, t264, t265, t266, t267, t268, t269, t270, t271, t272, t273, t274, t275, t276, t277, .bool false, u279, u280, u281, u282, u283, u284, u285, u286, u287, u288, u289, u290], []⟩ w') :
    Code.wp Tryz.prog (regF 43) Q ⟨#[u0, u1, u2, .pointer (some ⟨xa, 0, none⟩), .pointer (some ⟨ma, 0, none⟩), u5, .int .i64 (c : Int), .pointer (some ⟨q, 0, none⟩), u8, u9, u10, u11, u12, u13, u14, u15, u16, .pointer (some ⟨E1, 0, none⟩), .int .i64 vc, .pointer (some ⟨E2, 0, none⟩), .int .i64 vc, .pointer (some ⟨E3, 0, none⟩), .bool vb, .pointer (some ⟨E4, 0, none⟩), .bool vb, u25, u26, u27, u28, u29, u30, u31, u32, u33, u34, u35, u36, u37, u38, u39, u40, u41, u42, u43, u44, u45, u46, u47, u48, u49, u50, u51, u52, u53, u54, u55, u56, u57, u58, u59, u60, u61, u62, u63, u64, u65, u66, u67, u68, u69, u70, u71, u72, u73, u74, u75, u76, u77, u78, u79, u80, u81, u82, u83, u84, u85, u86, u87, u88, u89, u90, u91, u92, u93, u94, u95, u96, u97, u98, u99, u100, u101, u102, u103, u104, u105, u106, u107, u108, u109, u110, u111, u112, u113, u114, u115, u116, u117, u118, u119, u120, u121, u122, u123, u124, u125, u126, u127, u128, u129, u130, u131, u132, u133, u134, u135, u136, u137, u138, u139, u140, u141, u142, u143, u144, u145, u146, u147, u148, u149, u150, u151, u152, u153, u154, u155, u156, u157, u158, u159, u160, u161, u162, u163, u164, u165, u166, u167, u168, u169, u170, u171, u172, u173, u174, u175, u176, u177, u178, u179, u180, u181, u182, u183, u184, u185, u186, u187, u188, u189, u190, u191, u192, u193, u194, u195, u196, u197, u198, u199, u200, u201, u202, u203, u204, u205, u206, u207, u208, u209, u210, u211, u212, u213, u214, u215, u216, u217, u218, u219, u220, u221, u222, u223, u224, u225, u226, u227, u228, u229, u230, u231, u232, u233, u234, u235, u236, u237, u238, u239, u240, u241, u242, u243, u244, u245, u246, u247, u248, u249, u250, u251, u252, u253, u254, u255, u256, u257, u258, u259, u260, u261, u262, u263, u264, u265, u266, u267, u268, u269, u270, u271, u272, u273, u274, u275, u276, u277, u278, u279, u280, u281, u282, u283, u284, u285, u286, u287, u288, u289, u290], []⟩ W := by
  have hST := Lib.hid hS
  have hc2 : (c : Int) < 2 := by have := hS.run.hc; omega
  have h4 := Lib.hid hq
  have CA : Hid (∀ W', Below W.heap.size W W' → Calls Tryz.prog 24 #[.agg e.cells.toArray, .agg e.cells.toArray] W' fun x w' => x = .returned (.bool true) ∧ Below W'.heap.size W' w') := Lib.hid (fun W' _ => alike_any W' e he)
  have CB : Hid (∀ W', Below W.heap.size W W' → Calls Tryz.prog 24 #[.agg f.cells.toArray, .agg f.cells.toArray] W' fun x w' => x = .returned (.bool true) ∧ Below W'.heap.size W' w') := Lib.hid (fun W' _ => alike_any W' f hf)
  have CT : Hid (∀ W', Below W.heap.size W W' → Calls Tryz.prog 25 #[.pointer (some ⟨g, 0, none⟩), .pointer (some ⟨r, 0, none⟩)] W' fun x w' => x = .returned (.bool true) ∧ Below W'.heap.size W' w') := Lib.hid (fun W' h => told_any w.heap.size W' g b r v L (hS.run.below h).cur.ix (hS.run.below h).cur.rf hS.run.cur.mL)
  have EO1 := Lib.hid he.en; have EO2 := Lib.hid he.enR; have EO3 := Lib.hid hf.en; have EO4 := Lib.hid hf.enR
  clear hS hq he hf
  conv => arg 2; whnf
  refine wp_region_held_drew (S := (fun w' : World => B4 c xa ma q g r it E1 E2 E3 E4 e f w')) (by kernel_rfl) (B4.mk' hST.out ((Below.refl _ _).drew) h4.out) (fun hHeld => ?_)
  refine' wpAnyH_take (i := 0) (v := _) rfl (by kernel_rfl) (by kernel_rfl) (by kernel_rfl) (fun _ _ _ h => hP _ _ _ _ (by rfl) h) (yieldsIf_load_mid (by rfl) _ _ rfl E1 0 rfl e.cells _ ?ra0S ?ra0u ?ra0d ?ra0i) hHeld ?ra0x
  case ra0S =>
    intro wS hSw
    exact range_block hSw.q1
  case ra0u => exact Tryz.underlying44
  case ra0d => rfl
  case ra0i => exact EO1.out.infoL
  try simp only [Act.put, List.getElem_toArray, List.getElem_cons_zero, List.getElem_cons_succ, List.setIfInBounds_toArray, List.set_cons_zero, List.set_cons_succ]
  refine' wpAnyH_take (i := 1) (v := _) rfl (by kernel_rfl) (by kernel_rfl) (by kernel_rfl) (fun _ _ _ h => hP _ _ _ _ (by rfl) h) (yieldsIf_load_mid (by rfl) _ _ rfl E2 0 rfl e.cells _ ?ra1S ?ra1u ?ra1d ?ra1i) hHeld ?ra1x
  case ra1S =>
    intro wS hSw
    exact range_block hSw.q2
  case ra1u => exact Tryz.underlying49
  case ra1d => rfl
  case ra1i => exact EO2.out.infoL
  try simp only [Act.put, List.getElem_toArray, List.getElem_cons_zero, List.getElem_cons_succ, List.setIfInBounds_toArray, List.set_cons_zero, List.set_cons_succ]
  refine wpAnyH_ready (rs := [2]) (by kernel_rfl) (by simp) ?_
  refine AllReadyH.cons rfl (fun K hK => ?_) AllReadyH.nil
  go_simp
  refine (CA.out _ ((Below.refl W.heap.size W).drew)).mono ?_
  rintro ex w1 ⟨rfl, hbw1⟩
  have HBw1 : Hid (Below W.heap.size W w1) := Lib.hid ((((Below.refl W.heap.size W).drew)).trans (hbw1.mono (((Below.refl W.heap.size W).drew)).size))
  have HSw1 := Lib.hid (B4.mk' hST.out HBw1.out h4.out)
  clear hbw1
  go_wp2_with fail
  refine hK.out _ _ HSw1.out (fun hHeld2 => ?_)
  clear hK K hHeld
  have hHeld := hHeld2
  clear hHeld2
  try simp only [Act.put, List.getElem_toArray, List.getElem_cons_zero, List.getElem_cons_succ, List.setIfInBounds_toArray, List.set_cons_zero, List.set_cons_succ]
  refine wpAnyH_take (i := 3) (v := ?_) rfl (by kernel_rfl) (by kernel_rfl) (by kernel_rfl) (fun _ _ _ h => hP _ _ _ _ (by rfl) h) (Or.inl ⟨by rfl, ?ra3⟩) hHeld ?_
  case ra3 =>
    intro wS hSw
    obtain ⟨k0, k1, k2⟩ := hSw.bs
    go_simp
    try with_reducible rfl
  try simp only [Act.put, List.getElem_toArray, List.getElem_cons_zero, List.getElem_cons_succ, List.setIfInBounds_toArray, List.set_cons_zero, List.set_cons_succ]
  refine wpAnyH_take (i := 4) (v := ?_) rfl (by kernel_rfl) (by kernel_rfl) (by kernel_rfl) (fun _ _ _ h => hP _ _ _ _ (by rfl) h) (Or.inl ⟨by rfl, ?ra4⟩) hHeld ?_
  case ra4 =>
    intro wS hSw
    obtain ⟨k0, k1, k2⟩ := hSw.bs
    go_simp
    try with_reducible rfl
  try simp only [Act.put, List.getElem_toArray, List.getElem_cons_zero, List.getElem_cons_succ, List.setIfInBounds_toArray, List.set_cons_zero, List.set_cons_succ]
  refine wpAnyH_take (i := 5) (v := ?_) rfl (by kernel_rfl) (by kernel_rfl) (by kernel_rfl) (fun _ _ _ h => hP _ _ _ _ (by rfl) h) (Or.inl ⟨by rfl, ?ra5⟩) hHeld ?_
  case ra5 =>
    intro wS hSw
    obtain ⟨k0, k1, k2⟩ := hSw.bs
    go_simp
    try with_reducible rfl
  try simp only [Act.put, List.getElem_toArray, List.getElem_cons_zero, List.getElem_cons_succ, List.setIfInBounds_toArray, List.set_cons_zero, List.set_cons_succ]
  refine wpAnyH_take (i := 6) (v := ?_) rfl (by kernel_rfl) (by kernel_rfl) (by kernel_rfl) (fun _ _ _ h => hP _ _ _ _ (by rfl) h) (Or.inl ⟨by rfl, ?ra6⟩) hHeld ?_
  case ra6 =>
    intro wS hSw
    obtain ⟨k0, k1, k2⟩ := hSw.bs
    go_simp
    try with_reducible rfl
  try simp only [Act.put, List.getElem_toArray, List.getElem_cons_zero, List.getElem_cons_succ, List.setIfInBounds_toArray, List.set_cons_zero, List.set_cons_succ]
  refine wpAnyH_take (i := 7) (v := ?_) rfl (by kernel_rfl) (by kernel_rfl) (by kernel_rfl) (fun _ _ _ h => hP _ _ _ _ (by rfl) h) (Or.inl ⟨by rfl, ?ra7⟩) hHeld ?_
  case ra7 =>
    intro wS hSw
    obtain ⟨k0, k1, k2⟩ := hSw.bs
    go_simp
    try with_reducible rfl
  try simp only [Act.put, List.getElem_toArray, List.getElem_cons_zero, List.getElem_cons_succ, List.setIfInBounds_toArray, List.set_cons_zero, List.set_cons_succ]
  refine wpAnyH_take (i := 8) (v := ?_) rfl (by kernel_rfl) (by kernel_rfl) (by kernel_rfl) (fun _ _ _ h => hP _ _ _ _ (by rfl) h) (Or.inl ⟨by rfl, ?ra8⟩) hHeld ?_
  case ra8 =>
    intro wS hSw
    obtain ⟨k0, k1, k2⟩ := hSw.bs
    go_simp
    try with_reducible rfl
  try simp only [Act.put, List.getElem_toArray, List.getElem_cons_zero, List.getElem_cons_succ, List.setIfInBounds_toArray, List.set_cons_zero, List.set_cons_succ]
  refine wpAnyH_take (i := 9) (v := ?_) rfl (by kernel_rfl) (by kernel_rfl) (by kernel_rfl) (fun _ _ _ h => hP _ _ _ _ (by rfl) h) (Or.inl ⟨by rfl, ?ra9⟩) hHeld ?_
  case ra9 =>
    intro wS hSw
    obtain ⟨k0, k1, k2⟩ := hSw.bs
    go_simp
    try with_reducible rfl
  try simp only [Act.put, List.getElem_toArray, List.getElem_cons_zero, List.getElem_cons_succ, List.setIfInBounds_toArray, List.set_cons_zero, List.set_cons_succ]
  refine' wpAnyH_take (i := 10) (v := _) rfl (by kernel_rfl) (by kernel_rfl) (by kernel_rfl) (fun _ _ _ h => hP _ _ _ _ (by rfl) h) (yieldsIf_load_mid (by rfl) _ _ rfl E3 0 rfl f.cells _ ?ra10S ?ra10u ?ra10d ?ra10i) hHeld ?ra10x
  case ra10S =>
    intro wS hSw
    exact range_block hSw.q3
  case ra10u => exact Tryz.underlying44
  case ra10d => rfl
  case ra10i => exact EO3.out.infoL
  try simp only [Act.put, List.getElem_toArray, List.getElem_cons_zero, List.getElem_cons_succ, List.setIfInBounds_toArray, List.set_cons_zero, List.set_cons_succ]
  refine' wpAnyH_take (i := 11) (v := _) rfl (by kernel_rfl) (by kernel_rfl) (by kernel_rfl) (fun _ _ _ h => hP _ _ _ _ (by rfl) h) (yieldsIf_load_mid (by rfl) _ _ rfl E4 0 rfl f.cells _ ?ra11S ?ra11u ?ra11d ?ra11i) hHeld ?ra11x
  case ra11S =>
    intro wS hSw
    exact range_block hSw.q4
  case ra11u => exact Tryz.underlying49
  case ra11d => rfl
  case ra11i => exact EO4.out.infoL
  try simp only [Act.put, List.getElem_toArray, List.getElem_cons_zero, List.getElem_cons_succ, List.setIfInBounds_toArray, List.set_cons_zero, List.set_cons_succ]
  refine wpAnyH_ready (rs := [12]) (by kernel_rfl) (by simp) ?_
  refine AllReadyH.cons rfl (fun K hK => ?_) AllReadyH.nil
  go_simp
  refine (CB.out _ HBw1.out).mono ?_
  rintro ex w2 ⟨rfl, hbw2⟩
  have HBw2 : Hid (Below W.heap.size W w2) := Lib.hid ((HBw1.out).trans (hbw2.mono (HBw1.out).size))
  have HSw2 := Lib.hid (B4.mk' hST.out HBw2.out h4.out)
  clear hbw2
  go_wp2_with fail
  refine hK.out _ _ HSw2.out (fun hHeld2 => ?_)
  clear hK K hHeld
  have hHeld := hHeld2
  clear hHeld2
  try simp only [Act.put, List.getElem_toArray, List.getElem_cons_zero, List.getElem_cons_succ, List.setIfInBounds_toArray, List.set_cons_zero, List.set_cons_succ]
  refine wpAnyH_take (i := 13) (v := ?_) rfl (by kernel_rfl) (by kernel_rfl) (by kernel_rfl) (fun _ _ _ h => hP _ _ _ _ (by rfl) h) (Or.inl ⟨by rfl, ?ra13⟩) hHeld ?_
  case ra13 =>
    intro wS hSw
    obtain ⟨k0, k1, k2⟩ := hSw.bs
    go_simp
    try with_reducible rfl
  try simp only [Act.put, List.getElem_toArray, List.getElem_cons_zero, List.getElem_cons_succ, List.setIfInBounds_toArray, List.set_cons_zero, List.set_cons_succ]
  refine wpAnyH_take (i := 14) (v := ?_) rfl (by kernel_rfl) (by kernel_rfl) (by kernel_rfl) (fun _ _ _ h => hP _ _ _ _ (by rfl) h) (Or.inl ⟨by rfl, ?ra14⟩) hHeld ?_
  case ra14 =>
    intro wS hSw
    obtain ⟨k0, k1, k2⟩ := hSw.bs
    go_simp
    try with_reducible rfl
  try simp only [Act.put, List.getElem_toArray, List.getElem_cons_zero, List.getElem_cons_succ, List.setIfInBounds_toArray, List.set_cons_zero, List.set_cons_succ]
  refine wpAnyH_take (i := 15) (v := ?_) rfl (by kernel_rfl) (by kernel_rfl) (by kernel_rfl) (fun _ _ _ h => hP _ _ _ _ (by rfl) h) (Or.inl ⟨by rfl, ?ra15⟩) hHeld ?_
  case ra15 =>
    intro wS hSw
    obtain ⟨k0, k1, k2⟩ := hSw.bs
    go_simp
    try with_reducible rfl
  try simp only [Act.put, List.getElem_toArray, List.getElem_cons_zero, List.getElem_cons_succ, List.setIfInBounds_toArray, List.set_cons_zero, List.set_cons_succ]
  refine wpAnyH_take (i := 16) (v := ?_) rfl (by kernel_rfl) (by kernel_rfl) (by kernel_rfl) (fun _ _ _ h => hP _ _ _ _ (by rfl) h) (Or.inl ⟨by rfl, ?ra16⟩) hHeld ?_
  case ra16 =>
    intro wS hSw
    obtain ⟨k0, k1, k2⟩ := hSw.bs
    go_simp
    try with_reducible rfl
  try simp only [Act.put, List.getElem_toArray, List.getElem_cons_zero, List.getElem_cons_succ, List.setIfInBounds_toArray, List.set_cons_zero, List.set_cons_succ]
  refine wpAnyH_take (i := 17) (v := ?_) rfl (by kernel_rfl) (by kernel_rfl) (by kernel_rfl) (fun _ _ _ h => hP _ _ _ _ (by rfl) h) (Or.inl ⟨by rfl, ?ra17⟩) hHeld ?_
  case ra17 =>
    intro wS hSw
    obtain ⟨k0, k1, k2⟩ := hSw.bs
    go_simp
    try with_reducible rfl
  try simp only [Act.put, List.getElem_toArray, List.getElem_cons_zero, List.getElem_cons_succ, List.setIfInBounds_toArray, List.set_cons_zero, List.set_cons_succ]
  refine wpAnyH_take (i := 18) (v := ?_) rfl (by kernel_rfl) (by kernel_rfl) (by kernel_rfl) (fun _ _ _ h => hP _ _ _ _ (by rfl) h) (Or.inl ⟨by rfl, ?ra18⟩) hHeld ?_
  case ra18 =>
    intro wS hSw
    obtain ⟨k0, k1, k2⟩ := hSw.bs
    go_simp
    try with_reducible rfl
  try simp only [Act.put, List.getElem_toArray, List.getElem_cons_zero, List.getElem_cons_succ, List.setIfInBounds_toArray, List.set_cons_zero, List.set_cons_succ]
  refine wpAnyH_take (i := 19) (v := ?_) rfl (by kernel_rfl) (by kernel_rfl) (by kernel_rfl) (fun _ _ _ h => hP _ _ _ _ (by rfl) h) (Or.inl ⟨by rfl, ?ra19⟩) hHeld ?_
  case ra19 =>
    intro wS hSw
    obtain ⟨k0, k1, k2⟩ := hSw.bs
    go_simp
    try with_reducible rfl
  try simp only [Act.put, List.getElem_toArray, List.getElem_cons_zero, List.getElem_cons_succ, List.setIfInBounds_toArray, List.set_cons_zero, List.set_cons_succ]
  refine wpAnyH_take (i := 20) (v := ?_) rfl (by kernel_rfl) (by kernel_rfl) (by kernel_rfl) (fun _ _ _ h => hP _ _ _ _ (by rfl) h) (Or.inl ⟨by rfl, ?ra20⟩) hHeld ?_
  case ra20 =>
    intro wS hSw
    obtain ⟨k0, k1, k2⟩ := hSw.bs
    go_simp
    try with_reducible rfl
  try simp only [Act.put, List.getElem_toArray, List.getElem_cons_zero, List.getElem_cons_succ, List.setIfInBounds_toArray, List.set_cons_zero, List.set_cons_succ]
  refine wpAnyH_take (i := 21) (v := ?_) rfl (by kernel_rfl) (by kernel_rfl) (by kernel_rfl) (fun _ _ _ h => hP _ _ _ _ (by rfl) h) (Or.inl ⟨by rfl, ?ra21⟩) hHeld ?_
  case ra21 =>
    intro wS hSw
    obtain ⟨k0, k1, k2⟩ := hSw.bs
    go_simp
    try with_reducible rfl
  try simp only [Act.put, List.getElem_toArray, List.getElem_cons_zero, List.getElem_cons_succ, List.setIfInBounds_toArray, List.set_cons_zero, List.set_cons_succ]
  refine wpAnyH_take (i := 22) (v := ?_) rfl (by kernel_rfl) (by kernel_rfl) (by kernel_rfl) (fun _ _ _ h => hP _ _ _ _ (by rfl) h) (Or.inl ⟨by rfl, ?ra22⟩) hHeld ?_
  case ra22 =>
    intro wS hSw
    obtain ⟨k0, k1, k2⟩ := hSw.bs
    go_simp
    try with_reducible rfl
  try simp only [Act.put, List.getElem_toArray, List.getElem_cons_zero, List.getElem_cons_succ, List.setIfInBounds_toArray, List.set_cons_zero, List.set_cons_succ]
  refine wpAnyH_take (i := 23) (v := ?_) rfl (by kernel_rfl) (by kernel_rfl) (by kernel_rfl) (fun _ _ _ h => hP _ _ _ _ (by rfl) h) (Or.inl ⟨by rfl, ?ra23⟩) hHeld ?_
  case ra23 =>
    intro wS hSw
    obtain ⟨k0, k1, k2⟩ := hSw.bs
    go_simp
    try with_reducible rfl
  try simp only [Act.put, List.getElem_toArray, List.getElem_cons_zero, List.getElem_cons_succ, List.setIfInBounds_toArray, List.set_cons_zero, List.set_cons_succ]
  refine wpAnyH_take (i := 24) (v := ?_) rfl (by kernel_rfl) (by kernel_rfl) (by kernel_rfl) (fun _ _ _ h => hP _ _ _ _ (by rfl) h) (Or.inl ⟨by rfl, ?ra24⟩) hHeld ?_
  case ra24 =>
    intro wS hSw
    obtain ⟨k0, k1, k2⟩ := hSw.bs
    go_simp
    try with_reducible rfl
  try simp only [Act.put, List.getElem_toArray, List.getElem_cons_zero, List.getElem_cons_succ, List.setIfInBounds_toArray, List.set_cons_zero, List.set_cons_succ]
  refine wpAnyH_take (i := 25) (v := ?_) rfl (by kernel_rfl) (by kernel_rfl) (by kernel_rfl) (fun _ _ _ h => hP _ _ _ _ (by rfl) h) (Or.inl ⟨by rfl, ?ra25⟩) hHeld ?_
  case ra25 =>
    intro wS hSw
    obtain ⟨k0, k1, k2⟩ := hSw.bs
    go_simp
    try with_reducible rfl
  try simp only [Act.put, List.getElem_toArray, List.getElem_cons_zero, List.getElem_cons_succ, List.setIfInBounds_toArray, List.set_cons_zero, List.set_cons_succ]
  refine wpAnyH_take (i := 26) (v := ?_) rfl (by kernel_rfl) (by kernel_rfl) (by kernel_rfl) (fun _ _ _ h => hP _ _ _ _ (by rfl) h) (Or.inl ⟨by rfl, ?ra26⟩) hHeld ?_
  case ra26 =>
    intro wS hSw
    obtain ⟨k0, k1, k2⟩ := hSw.bs
    go_simp
    try with_reducible rfl
  try simp only [Act.put, List.getElem_toArray, List.getElem_cons_zero, List.getElem_cons_succ, List.setIfInBounds_toArray, List.set_cons_zero, List.set_cons_succ]
  refine wpAnyH_ready (rs := [27]) (by kernel_rfl) (by simp) ?_
  refine AllReadyH.cons rfl (fun K hK => ?_) AllReadyH.nil
  go_simp
  refine (CT.out _ HBw2.out).mono ?_
  rintro ex w3 ⟨rfl, hbw3⟩
  have HBw3 : Hid (Below W.heap.size W w3) := Lib.hid ((HBw2.out).trans (hbw3.mono (HBw2.out).size))
  have HSw3 := Lib.hid (B4.mk' hST.out HBw3.out h4.out)
  clear hbw3
  go_wp2_with fail
  refine hK.out _ _ HSw3.out (fun hHeld2 => ?_)
  clear hK K hHeld
  have hHeld := hHeld2
  clear hHeld2
  try simp only [Act.put, List.getElem_toArray, List.getElem_cons_zero, List.getElem_cons_succ, List.setIfInBounds_toArray, List.set_cons_zero, List.set_cons_succ]
  refine wpAnyH_take (i := 28) (v := ?_) rfl (by kernel_rfl) (by kernel_rfl) (by kernel_rfl) (fun _ _ _ h => hP _ _ _ _ (by rfl) h) (Or.inl ⟨by rfl, ?ra28⟩) hHeld ?_
  case ra28 =>
    intro wS hSw
    obtain ⟨k0, k1, k2⟩ := hSw.bs
    go_simp
    try with_reducible rfl
  try simp only [Act.put, List.getElem_toArray, List.getElem_cons_zero, List.getElem_cons_succ, List.setIfInBounds_toArray, List.set_cons_zero, List.set_cons_succ]
  refine wpAnyH_take (i := 29) (v := ?_) rfl (by kernel_rfl) (by kernel_rfl) (by kernel_rfl) (fun _ _ _ h => hP _ _ _ _ (by rfl) h) (Or.inl ⟨by rfl, ?ra29⟩) hHeld ?_
  case ra29 =>
    intro wS hSw
    obtain ⟨k0, k1, k2⟩ := hSw.bs
    go_simp
    try with_reducible rfl
  try simp only [Act.put, List.getElem_toArray, List.getElem_cons_zero, List.getElem_cons_succ, List.setIfInBounds_toArray, List.set_cons_zero, List.set_cons_succ]
  refine wpAnyH_done (by kernel_rfl) ?_ _
  clear hHeld
  try simp only [Act.put, List.getElem_toArray, List.getElem_cons_zero, List.getElem_cons_succ, List.setIfInBounds_toArray, List.set_cons_zero, List.set_cons_succ]
  exact HK _ _ _ _ _ _ _ _ _ _ _ _ _ _ _ _ _ _ _ _ _ _ _ _ _ _ _ _ _ _ HBw3.out
end Go.Proofs.YtpbhkaokgpacoaaGreatDoor.St
