import Derived.Test.YthcjjekkjbidlaaDoorZPSrPieces
set_option linter.unusedSimpArgs false
set_option linter.unusedVariables false
/-
  SourceWhole's walk: one node's stat and list.
-/
namespace Go.Proofs.YthcjjekkjbidlaaDoor.Sr
open Go.RowKit Go.Maps Go.WideMaps Go.Proofs.YthcjjekkjbidlaaDoor.Rf Go.Proofs.YthcjjekkjbidlaaDoor.Nm Go.Proofs.YthcjjekkjbidlaaDoor.St
set_option linter.unusedSimpArgs false in
set_option maxHeartbeats 40000000 in
set_option maxRecDepth 100000 in
theorem wh_b3 {Q : Exit → Act → World → Prop} (u0 u1 u2 u3 u4 u5 u6 u8 u12 u13 u14 u15 u16 u17 u18 u19 u20 u21 u22 u23 u24 u25 u26 u27 u28 u29 u30 u31 u32 u33 u34 u35 u36 u37 u38 u39 u40 u41 u42 u43 u44 u45 u46 u47 u48 u49 u50 u51 u52 u53 u54 u55 u56 u57 u58 u59 u60 u61 u62 u63 u64 u65 u66 u67 u68 u69 u70 u71 u72 u73 u74 u75 u76 u77 u78 u79 u80 u81 u82 u83 u84 u85 u86 u87 u88 u89 u90 u91 u92 u93 u94 u95 u96 u97 u98 u99 u100 u101 u102 u103 u104 u105 u106 u107 u108 u109 u110 u111 u112 u113 u114 u115 u116 u117 u118 u119 u120 u121 u122 u123 u124 u125 u126 u127 u128 u129 u130 u131 u132 u133 u134 u135 u136 u137 u138 u139 u140 u141 u142 u143 u144 u145 u146 u147 u148 u149 u150 u151 u152 u153 u154 u155 u156 u157 u158 u159 u160 u161 u162 u163 u164 u165 u166 u167 u168 u169 u170 u171 u172 u173 u174 u175 u176 u177 u178 u179 u180 u181 u182 u183 u184 u185 u186 u187 u188 u189 u190 u191 u192 u193 u194 u195 u196 u197 u198 u199 u200 u201 u202 u203 u204 u205 : Value) {r k al nl C n B : Nat} {T : Tr} {va : Option Addr} {vc : Nat} {R0 : List (TE × Value)} {w5 wr : World} {e : TE}
    (hP : ∀ c (a a' : Act) w, a.defers = a'.defers → Q (.panic c) a w → Q (.panic c) a' w) (HT : Hid (TreeAt B w5 r T)) (HO0 : Hid (OutAt C w5 (.slice va T.L.length vc) R0)) (HM0 : Hid (R0.map (·.1) = T.L)) (HB5 : Hid (Below w5.heap.size w5 wr)) (G0 : Hid (Good n T)) (hn : n ≤ 60) (he : T.L[k]? = some e) (hal : al ≤ 100000)
    (hnl : nl = (namesT T.L e.nm).length)
    (HK : ∀ (t6 t12 t13 t14 t15 t46 t47 t48 t49 t50 t51 t52 t53 t54 t55 t56 t57 t58 t59 t60 t61 t62 t63 t64 t65 t66 t67 t68 t69 t70 t71 t72 t73 t74 t75 t76 t77 t78 t79 t80 t81 t82 t83 t84 t85 t86 t87 t88 t89 t90 t91 t92 t93 t94 t95 t96 t97 t98 t99 t100 t101 t102 t103 t104 t105 t106 t107 t108 t109 t110 t111 t112 t113 t114 t115 t116 t117 t118 t119 t120 t121 t122 t123 t124 t125 t126 t127 t128 t129 t130 t131 : Value) (w' : World), Below wr.heap.size wr w' → Q .normal ⟨#[u0, u1, u2, u3, u4, u5, t6, .pointer (some ⟨r, 0, none⟩), u8, .slice va T.L.length vc, .int .i64 ((al + nl : Nat) : Int), .int .i64 (k : Int), t12, t13, t14, t15, u16, u17, u18, u19, u20, u21, u22, u23, u24, u25, u26, u27, u28, u29, u30, u31, u32, u33, u34, u35, u36, u37, u38, u39, u40, u41, u42, u43, u44, u45, t46, t47, t48, t49, t50, t51, t52, t53, t54, t55, t56, t57, t58, t59, t60, t61, t62, t63, t64, t65, t66, t67, t68, t69, t70, t71, t72, t73, t74, t75, t76, t77, t78, t79, t80, t81, t82, t83, t84, t85, t86, t87, t88, t89, t90, t91, t92, t93, t94, t95, t96, t97, t98, t99, t100, t101, t102, t103, t104, t105, t106, t107, t108, t109, t110, t111, t112, t113, t114, t115, t116, t117, t118, t119, t120, t121, t122, t123, t124, t125, t126, t127, t128, t129, t130, t131, u132, u133, u134, u135, u136, u137, u138, u139, u140, u141, u142, u143, u144, u145, u146, u147, u148, u149, u150, u151, u152, u153, u154, u155, u156, u157, u158, u159, u160, u161, u162, u163, u164, u165, u166, u167, u168, u169, u170, u171, u172, u173, u174, u175, u176, u177, u178, u179, u180, u181, u182, u183, u184, u185, u186, u187, u188, u189, u190, u191, u192, u193, u194, u195, u196, u197, u198, u199, u200, u201, u202, u203, u204, u205], []⟩ w') :
    Code.wp Tryd.prog (whB 3) Q ⟨#[u0, u1, u2, u3, u4, u5, u6, .pointer (some ⟨r, 0, none⟩), u8, .slice va T.L.length vc, .int .i64 (al : Int), .int .i64 (k : Int), u12, u13, u14, u15, u16, u17, u18, u19, u20, u21, u22, u23, u24, u25, u26, u27, u28, u29, u30, u31, u32, u33, u34, u35, u36, u37, u38, u39, u40, u41, u42, u43, u44, u45, u46, u47, u48, u49, u50, u51, u52, u53, u54, u55, u56, u57, u58, u59, u60, u61, u62, u63, u64, u65, u66, u67, u68, u69, u70, u71, u72, u73, u74, u75, u76, u77, u78, u79, u80, u81, u82, u83, u84, u85, u86, u87, u88, u89, u90, u91, u92, u93, u94, u95, u96, u97, u98, u99, u100, u101, u102, u103, u104, u105, u106, u107, u108, u109, u110, u111, u112, u113, u114, u115, u116, u117, u118, u119, u120, u121, u122, u123, u124, u125, u126, u127, u128, u129, u130, u131, u132, u133, u134, u135, u136, u137, u138, u139, u140, u141, u142, u143, u144, u145, u146, u147, u148, u149, u150, u151, u152, u153, u154, u155, u156, u157, u158, u159, u160, u161, u162, u163, u164, u165, u166, u167, u168, u169, u170, u171, u172, u173, u174, u175, u176, u177, u178, u179, u180, u181, u182, u183, u184, u185, u186, u187, u188, u189, u190, u191, u192, u193, u194, u195, u196, u197, u198, u199, u200, u201, u202, u203, u204, u205], []⟩ wr := by
  have HKH := Lib.hid HK
  clear HK
  conv => arg 2; whnf
  have hkl : k < T.L.length := (List.getElem?_eq_some_iff.1 he).1
  have heT : e ∈ T.L := List.mem_of_getElem? he
  have hl0 : T.L.length ≤ 61 := by have := G0.out.len; omega
  obtain ⟨p, hp, hpy⟩ : ∃ p, R0[k]? = some p ∧ p.1 = e := by
    have h := he
    rw [← HM0.out, List.getElem?_map] at h
    obtain ⟨p, hp, h⟩ := Option.map_eq_some_iff.1 h
    exact ⟨p, hp, h⟩
  obtain ⟨e', xv⟩ := p
  obtain rfl : e = e' := hpy.symm
  obtain ⟨g0, rfl, hg0, hrow⟩ := told_row HO0.out hp
  have KR : Hid (∀ w', Below w5.heap.size w5 w' → w'.cell? ⟨g0, k * 11, none⟩ = some (.string ⟨(pathN e.nm).toArray⟩) ∧ w'.cell? ⟨g0, k * 11 + 1, none⟩ = some (.int .u8 (e.at_.node : Int)) ∧ w'.cell? ⟨g0, k * 11 + 9, none⟩ = some (.int .u64 (e.ino : Int)) ∧ w'.cell? ⟨g0, k * 11 + 10, none⟩ = some (.int .i64 e.tick)) := Lib.hid (fun w' hb => by
    have h := hrow w' hb
    exact ⟨h 0 _ rfl, h 1 _ rfl, h 9 _ rfl, h 10 _ rfl⟩)
  obtain ⟨a1, a2, a3, a4, a5⟩ := at_path G0.out HT.out.srt heT
  have hpl : (pathN e.nm).length ≤ 1000000 := by
    have := ((G0.out.fine (by omega)).names e heT).1
    rw [pathN]; split
    · decide
    · exact this
  have ST := stat_any B wr r T (pathN e.nm) (by omega) (HT.out.below HB5.out)
  rw [a1, a2] at ST
  have ST := Lib.hid ST
  have LI : Hid (∀ W, Below w5.heap.size w5 W → Calls Tryd.prog 34 #[.pointer (some ⟨r, 0, none⟩), .string ⟨(pathN e.nm).toArray⟩] W (ListPost W (pathN e.nm) T.L)) := Lib.hid (fun W hb => list_any B W r T (pathN e.nm) (by omega) (fun x hx => (G0.out.fine (by omega)).kids x hx) (HT.out.below hb))
  have NA : Hid (∀ W, Below w5.heap.size w5 W → Calls Tryd.prog 36 #[.slice (some ⟨g0, 0, none⟩) T.L.length vc, .string ⟨(pathN e.nm).toArray⟩] W fun z w' => ∃ v', z = .returned v' ∧ PathAt W.heap.size w' v' (namesT T.L e.nm) ∧ Below W.heap.size W w') := Lib.hid (fun W hb => names_told (HO0.out.below hb) HM0.out G0.out (by omega) heT)
  have A3 := Lib.hid a3; have A4 := Lib.hid a4; have A5 := Lib.hid a5
  have HNL : Hid (∀ s ∈ namesT T.L e.nm, s.length ≤ maxLen) := Lib.hid (fun s hs => by
    obtain ⟨kk, hkk, rfl⟩ := List.mem_map.1 hs
    obtain ⟨x, hx, h1, _⟩ := kidsT_mem.1 hkk
    exact ((G0.out.fine (by omega)).names x hx).2 kk.1 (by rw [h1]; simp))
  have HNC : Hid ((namesT T.L e.nm).length ≤ 61) := Lib.hid (Nat.le_trans (namesT_len _ _) hl0)
  have HSZ : Hid (e.at_.node = 2 → sizeT e T.L = ((namesT T.L e.nm).length : Int)) := Lib.hid (fun h => by rw [sizeT, if_neg (by omega), if_pos h, namesT, List.length_map])
  have HNF : Hid (e.at_.node ≠ 2 → namesT T.L e.nm = []) := Lib.hid (fun h => namesT_file HT.out heT h)
  have hklI : (k : Int) < (T.L.length : Int) := by omega
  have q0 := (KR.out wr HB5.out).1
  unfold ptr at *
  clear he heT hp hrow a1 a2 a3 a4 a5
  go_wp2_with fail
  refine ST.out.mono ?_
  rintro ex w6 ⟨rfl, hb6⟩
  have HB6 : Hid (Below w5.heap.size w5 w6) := Lib.hid (HB5.out.trans (hb6.mono HB5.out.size))
  have HBR6 : Hid (Below wr.heap.size wr w6) := Lib.hid hb6
  clear hb6 ST q0
  have hst : (statT e T.L).stat.toArray = #[.int .u8 (e.at_.node : Int), .int .i64 (sizeT e T.L), .int .u64 (e.ino : Int), .int .i64 e.tick] := rfl
  rw [hst]
  clear hst
  go_wp2_with (first
    | (refine Sh.wpList_store_new rfl rfl 25 (.tmp 12) (.tmp 54) rfl #[.int .u8 (e.at_.node : Int), .int .i64 (sizeT e T.L), .int .u64 (e.ino : Int), .int .i64 e.tick] rfl rfl infoSt rfl (oneSt _ _ _ _ rfl rfl rfl rfl) ?_
       intro w7 hq7 hb7 hs7
       have HQ7 : Hid (w7.heap[w6.heap.size]? = some (.cells #[.int .u8 (e.at_.node : Int), .int .i64 (sizeT e T.L), .int .u64 (e.ino : Int), .int .i64 e.tick] 25)) := Lib.hid hq7
       have HB7 : Hid (Below w5.heap.size w5 w7) := Lib.hid (HB6.out.trans (hb7.mono HB6.out.size))
       have HBR7 : Hid (Below wr.heap.size wr w7) := Lib.hid (HBR6.out.trans (hb7.mono HBR6.out.size))
       clear hq7 hb7 hs7)
    | fail)
  have KS : Hid (∀ w', Below w7.heap.size w7 w' → (w'.cell? ⟨w6.heap.size, 0, none⟩ = some (.int .u8 (e.at_.node : Int)) ∧ w'.cell? ⟨w6.heap.size, 1, none⟩ = some (.int .i64 (sizeT e T.L)) ∧ w'.cell? ⟨w6.heap.size, 2, none⟩ = some (.int .u64 (e.ino : Int)) ∧ w'.cell? ⟨w6.heap.size, 3, none⟩ = some (.int .i64 e.tick)) ∧ w'.cell? ⟨g0, k * 11 + 1, none⟩ = some (.int .u8 (e.at_.node : Int)) ∧ w'.cell? ⟨g0, k * 11 + 9, none⟩ = some (.int .u64 (e.ino : Int)) ∧ w'.cell? ⟨g0, k * 11 + 10, none⟩ = some (.int .i64 e.tick)) := Lib.hid (fun w' hb => by
    have h0 := (hb.block _ (lt_of_heap HQ7.out)).trans HQ7.out
    exact ⟨⟨cell_of_heap h0, cell_of_heap h0, cell_of_heap h0, cell_of_heap h0⟩, (KR.out w' (HB7.out.trans (hb.mono HB7.out.size))).2⟩)
  refine wp_region_held_drew (S := (fun w' : World => (w'.cell? ⟨w6.heap.size, 0, none⟩ = some (.int .u8 (e.at_.node : Int)) ∧ w'.cell? ⟨w6.heap.size, 1, none⟩ = some (.int .i64 (sizeT e T.L)) ∧ w'.cell? ⟨w6.heap.size, 2, none⟩ = some (.int .u64 (e.ino : Int)) ∧ w'.cell? ⟨w6.heap.size, 3, none⟩ = some (.int .i64 e.tick)) ∧ w'.cell? ⟨g0, k * 11 + 1, none⟩ = some (.int .u8 (e.at_.node : Int)) ∧ w'.cell? ⟨g0, k * 11 + 9, none⟩ = some (.int .u64 (e.ino : Int)) ∧ w'.cell? ⟨g0, k * 11 + 10, none⟩ = some (.int .i64 e.tick))) (by kernel_rfl) (KS.out _ (Below.refl _ _).drew) (fun hHeld => ?_)
  refine wpAnyH_take (i := 0) (v := ?_) rfl (by kernel_rfl) (by kernel_rfl) (by kernel_rfl) (fun _ _ _ h => hP _ _ _ _ (by rfl) h) (Or.inl ⟨by rfl, ?w140⟩) hHeld ?_
  case w140 =>
    intro wS hSw
    obtain ⟨⟨k0, k1, k2, k3⟩, k4, k5, k6⟩ := hSw
    go_simp
    try with_reducible rfl
  try simp only [Act.put, List.getElem_toArray, List.getElem_cons_zero, List.getElem_cons_succ, List.setIfInBounds_toArray, List.set_cons_zero, List.set_cons_succ]
  refine wpAnyH_take (i := 1) (v := ?_) rfl (by kernel_rfl) (by kernel_rfl) (by kernel_rfl) (fun _ _ _ h => hP _ _ _ _ (by rfl) h) (Or.inl ⟨by rfl, ?w141⟩) hHeld ?_
  case w141 =>
    intro wS hSw
    obtain ⟨⟨k0, k1, k2, k3⟩, k4, k5, k6⟩ := hSw
    go_simp
    try with_reducible rfl
  try simp only [Act.put, List.getElem_toArray, List.getElem_cons_zero, List.getElem_cons_succ, List.setIfInBounds_toArray, List.set_cons_zero, List.set_cons_succ]
  refine wpAnyH_take (i := 2) (v := ?_) rfl (by kernel_rfl) (by kernel_rfl) (by kernel_rfl) (fun _ _ _ h => hP _ _ _ _ (by rfl) h) (Or.inl ⟨by rfl, ?w142⟩) hHeld ?_
  case w142 =>
    intro wS hSw
    obtain ⟨⟨k0, k1, k2, k3⟩, k4, k5, k6⟩ := hSw
    go_simp
    try with_reducible rfl
  try simp only [Act.put, List.getElem_toArray, List.getElem_cons_zero, List.getElem_cons_succ, List.setIfInBounds_toArray, List.set_cons_zero, List.set_cons_succ]
  refine wpAnyH_take (i := 3) (v := ?_) rfl (by kernel_rfl) (by kernel_rfl) (by kernel_rfl) (fun _ _ _ h => hP _ _ _ _ (by rfl) h) (Or.inl ⟨by rfl, ?w143⟩) hHeld ?_
  case w143 =>
    intro wS hSw
    obtain ⟨⟨k0, k1, k2, k3⟩, k4, k5, k6⟩ := hSw
    go_simp
    try with_reducible rfl
  try simp only [Act.put, List.getElem_toArray, List.getElem_cons_zero, List.getElem_cons_succ, List.setIfInBounds_toArray, List.set_cons_zero, List.set_cons_succ]
  refine wpAnyH_take (i := 4) (v := ?_) rfl (by kernel_rfl) (by kernel_rfl) (by kernel_rfl) (fun _ _ _ h => hP _ _ _ _ (by rfl) h) (Or.inl ⟨by rfl, ?w144⟩) hHeld ?_
  case w144 =>
    intro wS hSw
    obtain ⟨⟨k0, k1, k2, k3⟩, k4, k5, k6⟩ := hSw
    go_simp
    try with_reducible rfl
  try simp only [Act.put, List.getElem_toArray, List.getElem_cons_zero, List.getElem_cons_succ, List.setIfInBounds_toArray, List.set_cons_zero, List.set_cons_succ]
  refine wpAnyH_take (i := 5) (v := ?_) rfl (by kernel_rfl) (by kernel_rfl) (by kernel_rfl) (fun _ _ _ h => hP _ _ _ _ (by rfl) h) (Or.inl ⟨by rfl, ?w145⟩) hHeld ?_
  case w145 =>
    intro wS hSw
    obtain ⟨⟨k0, k1, k2, k3⟩, k4, k5, k6⟩ := hSw
    go_simp
    try with_reducible rfl
  try simp only [Act.put, List.getElem_toArray, List.getElem_cons_zero, List.getElem_cons_succ, List.setIfInBounds_toArray, List.set_cons_zero, List.set_cons_succ]
  refine wpAnyH_take (i := 6) (v := ?_) rfl (by kernel_rfl) (by kernel_rfl) (by kernel_rfl) (fun _ _ _ h => hP _ _ _ _ (by rfl) h) (Or.inl ⟨by rfl, ?w146⟩) hHeld ?_
  case w146 =>
    intro wS hSw
    obtain ⟨⟨k0, k1, k2, k3⟩, k4, k5, k6⟩ := hSw
    go_simp
    try with_reducible rfl
  try simp only [Act.put, List.getElem_toArray, List.getElem_cons_zero, List.getElem_cons_succ, List.setIfInBounds_toArray, List.set_cons_zero, List.set_cons_succ]
  refine wpAnyH_take (i := 7) (v := ?_) rfl (by kernel_rfl) (by kernel_rfl) (by kernel_rfl) (fun _ _ _ h => hP _ _ _ _ (by rfl) h) (Or.inl ⟨by rfl, ?w147⟩) hHeld ?_
  case w147 =>
    intro wS hSw
    obtain ⟨⟨k0, k1, k2, k3⟩, k4, k5, k6⟩ := hSw
    go_simp
    try with_reducible rfl
  try simp only [Act.put, List.getElem_toArray, List.getElem_cons_zero, List.getElem_cons_succ, List.setIfInBounds_toArray, List.set_cons_zero, List.set_cons_succ]
  refine wpAnyH_take (i := 8) (v := ?_) rfl (by kernel_rfl) (by kernel_rfl) (by kernel_rfl) (fun _ _ _ h => hP _ _ _ _ (by rfl) h) (Or.inl ⟨by rfl, ?w148⟩) hHeld ?_
  case w148 =>
    intro wS hSw
    obtain ⟨⟨k0, k1, k2, k3⟩, k4, k5, k6⟩ := hSw
    go_simp
    try with_reducible rfl
  try simp only [Act.put, List.getElem_toArray, List.getElem_cons_zero, List.getElem_cons_succ, List.setIfInBounds_toArray, List.set_cons_zero, List.set_cons_succ]
  refine wpAnyH_take (i := 9) (v := ?_) rfl (by kernel_rfl) (by kernel_rfl) (by kernel_rfl) (fun _ _ _ h => hP _ _ _ _ (by rfl) h) (Or.inl ⟨by rfl, ?w149⟩) hHeld ?_
  case w149 =>
    intro wS hSw
    obtain ⟨⟨k0, k1, k2, k3⟩, k4, k5, k6⟩ := hSw
    go_simp
    try with_reducible rfl
  try simp only [Act.put, List.getElem_toArray, List.getElem_cons_zero, List.getElem_cons_succ, List.setIfInBounds_toArray, List.set_cons_zero, List.set_cons_succ]
  refine wpAnyH_take (i := 10) (v := ?_) rfl (by kernel_rfl) (by kernel_rfl) (by kernel_rfl) (fun _ _ _ h => hP _ _ _ _ (by rfl) h) (Or.inl ⟨by rfl, ?w1410⟩) hHeld ?_
  case w1410 =>
    intro wS hSw
    obtain ⟨⟨k0, k1, k2, k3⟩, k4, k5, k6⟩ := hSw
    go_simp
    try with_reducible rfl
  try simp only [Act.put, List.getElem_toArray, List.getElem_cons_zero, List.getElem_cons_succ, List.setIfInBounds_toArray, List.set_cons_zero, List.set_cons_succ]
  refine wpAnyH_take (i := 11) (v := ?_) rfl (by kernel_rfl) (by kernel_rfl) (by kernel_rfl) (fun _ _ _ h => hP _ _ _ _ (by rfl) h) (Or.inl ⟨by rfl, ?w1411⟩) hHeld ?_
  case w1411 =>
    intro wS hSw
    obtain ⟨⟨k0, k1, k2, k3⟩, k4, k5, k6⟩ := hSw
    go_simp
    try with_reducible rfl
  try simp only [Act.put, List.getElem_toArray, List.getElem_cons_zero, List.getElem_cons_succ, List.setIfInBounds_toArray, List.set_cons_zero, List.set_cons_succ]
  refine wpAnyH_take (i := 12) (v := ?_) rfl (by kernel_rfl) (by kernel_rfl) (by kernel_rfl) (fun _ _ _ h => hP _ _ _ _ (by rfl) h) (Or.inl ⟨by rfl, ?w1412⟩) hHeld ?_
  case w1412 =>
    intro wS hSw
    obtain ⟨⟨k0, k1, k2, k3⟩, k4, k5, k6⟩ := hSw
    go_simp
    try with_reducible rfl
  try simp only [Act.put, List.getElem_toArray, List.getElem_cons_zero, List.getElem_cons_succ, List.setIfInBounds_toArray, List.set_cons_zero, List.set_cons_succ]
  refine wpAnyH_take (i := 13) (v := ?_) rfl (by kernel_rfl) (by kernel_rfl) (by kernel_rfl) (fun _ _ _ h => hP _ _ _ _ (by rfl) h) (Or.inl ⟨by rfl, ?w1413⟩) hHeld ?_
  case w1413 =>
    intro wS hSw
    obtain ⟨⟨k0, k1, k2, k3⟩, k4, k5, k6⟩ := hSw
    go_simp
    try with_reducible rfl
  try simp only [Act.put, List.getElem_toArray, List.getElem_cons_zero, List.getElem_cons_succ, List.setIfInBounds_toArray, List.set_cons_zero, List.set_cons_succ]
  refine wpAnyH_take (i := 14) (v := ?_) rfl (by kernel_rfl) (by kernel_rfl) (by kernel_rfl) (fun _ _ _ h => hP _ _ _ _ (by rfl) h) (Or.inl ⟨by rfl, ?w1414⟩) hHeld ?_
  case w1414 =>
    intro wS hSw
    obtain ⟨⟨k0, k1, k2, k3⟩, k4, k5, k6⟩ := hSw
    go_simp
    try with_reducible rfl
  try simp only [Act.put, List.getElem_toArray, List.getElem_cons_zero, List.getElem_cons_succ, List.setIfInBounds_toArray, List.set_cons_zero, List.set_cons_succ]
  refine wpAnyH_take (i := 15) (v := ?_) rfl (by kernel_rfl) (by kernel_rfl) (by kernel_rfl) (fun _ _ _ h => hP _ _ _ _ (by rfl) h) (Or.inl ⟨by rfl, ?w1415⟩) hHeld ?_
  case w1415 =>
    intro wS hSw
    obtain ⟨⟨k0, k1, k2, k3⟩, k4, k5, k6⟩ := hSw
    go_simp
    try with_reducible rfl
  try simp only [Act.put, List.getElem_toArray, List.getElem_cons_zero, List.getElem_cons_succ, List.setIfInBounds_toArray, List.set_cons_zero, List.set_cons_succ]
  refine wpAnyH_take (i := 16) (v := ?_) rfl (by kernel_rfl) (by kernel_rfl) (by kernel_rfl) (fun _ _ _ h => hP _ _ _ _ (by rfl) h) (Or.inl ⟨by rfl, ?w1416⟩) hHeld ?_
  case w1416 =>
    intro wS hSw
    obtain ⟨⟨k0, k1, k2, k3⟩, k4, k5, k6⟩ := hSw
    go_simp
    try with_reducible rfl
  try simp only [Act.put, List.getElem_toArray, List.getElem_cons_zero, List.getElem_cons_succ, List.setIfInBounds_toArray, List.set_cons_zero, List.set_cons_succ]
  refine wpAnyH_take (i := 17) (v := ?_) rfl (by kernel_rfl) (by kernel_rfl) (by kernel_rfl) (fun _ _ _ h => hP _ _ _ _ (by rfl) h) (Or.inl ⟨by rfl, ?w1417⟩) hHeld ?_
  case w1417 =>
    intro wS hSw
    obtain ⟨⟨k0, k1, k2, k3⟩, k4, k5, k6⟩ := hSw
    go_simp
    try with_reducible rfl
  try simp only [Act.put, List.getElem_toArray, List.getElem_cons_zero, List.getElem_cons_succ, List.setIfInBounds_toArray, List.set_cons_zero, List.set_cons_succ]
  refine wpAnyH_take (i := 18) (v := ?_) rfl (by kernel_rfl) (by kernel_rfl) (by kernel_rfl) (fun _ _ _ h => hP _ _ _ _ (by rfl) h) (Or.inl ⟨by rfl, ?w1418⟩) hHeld ?_
  case w1418 =>
    intro wS hSw
    obtain ⟨⟨k0, k1, k2, k3⟩, k4, k5, k6⟩ := hSw
    go_simp
    try with_reducible rfl
  try simp only [Act.put, List.getElem_toArray, List.getElem_cons_zero, List.getElem_cons_succ, List.setIfInBounds_toArray, List.set_cons_zero, List.set_cons_succ]
  refine wpAnyH_take (i := 19) (v := ?_) rfl (by kernel_rfl) (by kernel_rfl) (by kernel_rfl) (fun _ _ _ h => hP _ _ _ _ (by rfl) h) (Or.inl ⟨by rfl, ?w1419⟩) hHeld ?_
  case w1419 =>
    intro wS hSw
    obtain ⟨⟨k0, k1, k2, k3⟩, k4, k5, k6⟩ := hSw
    go_simp
    try with_reducible rfl
  try simp only [Act.put, List.getElem_toArray, List.getElem_cons_zero, List.getElem_cons_succ, List.setIfInBounds_toArray, List.set_cons_zero, List.set_cons_succ]
  refine wpAnyH_take (i := 20) (v := ?_) rfl (by kernel_rfl) (by kernel_rfl) (by kernel_rfl) (fun _ _ _ h => hP _ _ _ _ (by rfl) h) (Or.inl ⟨by rfl, ?w1420⟩) hHeld ?_
  case w1420 =>
    intro wS hSw
    obtain ⟨⟨k0, k1, k2, k3⟩, k4, k5, k6⟩ := hSw
    go_simp
    try with_reducible rfl
  try simp only [Act.put, List.getElem_toArray, List.getElem_cons_zero, List.getElem_cons_succ, List.setIfInBounds_toArray, List.set_cons_zero, List.set_cons_succ]
  refine wpAnyH_take (i := 21) (v := ?_) rfl (by kernel_rfl) (by kernel_rfl) (by kernel_rfl) (fun _ _ _ h => hP _ _ _ _ (by rfl) h) (Or.inl ⟨by rfl, ?w1421⟩) hHeld ?_
  case w1421 =>
    intro wS hSw
    obtain ⟨⟨k0, k1, k2, k3⟩, k4, k5, k6⟩ := hSw
    go_simp
    try with_reducible rfl
  try simp only [Act.put, List.getElem_toArray, List.getElem_cons_zero, List.getElem_cons_succ, List.setIfInBounds_toArray, List.set_cons_zero, List.set_cons_succ]
  refine wpAnyH_take (i := 22) (v := ?_) rfl (by kernel_rfl) (by kernel_rfl) (by kernel_rfl) (fun _ _ _ h => hP _ _ _ _ (by rfl) h) (Or.inl ⟨by rfl, ?w1422⟩) hHeld ?_
  case w1422 =>
    intro wS hSw
    obtain ⟨⟨k0, k1, k2, k3⟩, k4, k5, k6⟩ := hSw
    go_simp
    try with_reducible rfl
  try simp only [Act.put, List.getElem_toArray, List.getElem_cons_zero, List.getElem_cons_succ, List.setIfInBounds_toArray, List.set_cons_zero, List.set_cons_succ]
  refine wpAnyH_take (i := 23) (v := ?_) rfl (by kernel_rfl) (by kernel_rfl) (by kernel_rfl) (fun _ _ _ h => hP _ _ _ _ (by rfl) h) (Or.inl ⟨by rfl, ?w1423⟩) hHeld ?_
  case w1423 =>
    intro wS hSw
    obtain ⟨⟨k0, k1, k2, k3⟩, k4, k5, k6⟩ := hSw
    go_simp
    try with_reducible rfl
  try simp only [Act.put, List.getElem_toArray, List.getElem_cons_zero, List.getElem_cons_succ, List.setIfInBounds_toArray, List.set_cons_zero, List.set_cons_succ]
  refine wpAnyH_take (i := 24) (v := ?_) rfl (by kernel_rfl) (by kernel_rfl) (by kernel_rfl) (fun _ _ _ h => hP _ _ _ _ (by rfl) h) (Or.inl ⟨by rfl, ?w1424⟩) hHeld ?_
  case w1424 =>
    intro wS hSw
    obtain ⟨⟨k0, k1, k2, k3⟩, k4, k5, k6⟩ := hSw
    go_simp
    try with_reducible rfl
  try simp only [Act.put, List.getElem_toArray, List.getElem_cons_zero, List.getElem_cons_succ, List.setIfInBounds_toArray, List.set_cons_zero, List.set_cons_succ]
  refine wpAnyH_take (i := 25) (v := ?_) rfl (by kernel_rfl) (by kernel_rfl) (by kernel_rfl) (fun _ _ _ h => hP _ _ _ _ (by rfl) h) (Or.inl ⟨by rfl, ?w1425⟩) hHeld ?_
  case w1425 =>
    intro wS hSw
    obtain ⟨⟨k0, k1, k2, k3⟩, k4, k5, k6⟩ := hSw
    go_simp
    try with_reducible rfl
  try simp only [Act.put, List.getElem_toArray, List.getElem_cons_zero, List.getElem_cons_succ, List.setIfInBounds_toArray, List.set_cons_zero, List.set_cons_succ]
  refine wpAnyH_take (i := 26) (v := ?_) rfl (by kernel_rfl) (by kernel_rfl) (by kernel_rfl) (fun _ _ _ h => hP _ _ _ _ (by rfl) h) (Or.inl ⟨by rfl, ?w1426⟩) hHeld ?_
  case w1426 =>
    intro wS hSw
    obtain ⟨⟨k0, k1, k2, k3⟩, k4, k5, k6⟩ := hSw
    go_simp
    try with_reducible rfl
  try simp only [Act.put, List.getElem_toArray, List.getElem_cons_zero, List.getElem_cons_succ, List.setIfInBounds_toArray, List.set_cons_zero, List.set_cons_succ]
  refine wpAnyH_take (i := 27) (v := ?_) rfl (by kernel_rfl) (by kernel_rfl) (by kernel_rfl) (fun _ _ _ h => hP _ _ _ _ (by rfl) h) (Or.inl ⟨by rfl, ?w1427⟩) hHeld ?_
  case w1427 =>
    intro wS hSw
    obtain ⟨⟨k0, k1, k2, k3⟩, k4, k5, k6⟩ := hSw
    go_simp
    try with_reducible rfl
  try simp only [Act.put, List.getElem_toArray, List.getElem_cons_zero, List.getElem_cons_succ, List.setIfInBounds_toArray, List.set_cons_zero, List.set_cons_succ]
  refine wpAnyH_take (i := 28) (v := ?_) rfl (by kernel_rfl) (by kernel_rfl) (by kernel_rfl) (fun _ _ _ h => hP _ _ _ _ (by rfl) h) (Or.inl ⟨by rfl, ?w1428⟩) hHeld ?_
  case w1428 =>
    intro wS hSw
    obtain ⟨⟨k0, k1, k2, k3⟩, k4, k5, k6⟩ := hSw
    go_simp
    try with_reducible rfl
  try simp only [Act.put, List.getElem_toArray, List.getElem_cons_zero, List.getElem_cons_succ, List.setIfInBounds_toArray, List.set_cons_zero, List.set_cons_succ]
  refine wpAnyH_take (i := 29) (v := ?_) rfl (by kernel_rfl) (by kernel_rfl) (by kernel_rfl) (fun _ _ _ h => hP _ _ _ _ (by rfl) h) (Or.inl ⟨by rfl, ?w1429⟩) hHeld ?_
  case w1429 =>
    intro wS hSw
    obtain ⟨⟨k0, k1, k2, k3⟩, k4, k5, k6⟩ := hSw
    go_simp
    try with_reducible rfl
  try simp only [Act.put, List.getElem_toArray, List.getElem_cons_zero, List.getElem_cons_succ, List.setIfInBounds_toArray, List.set_cons_zero, List.set_cons_succ]
  refine wpAnyH_take (i := 30) (v := ?_) rfl (by kernel_rfl) (by kernel_rfl) (by kernel_rfl) (fun _ _ _ h => hP _ _ _ _ (by rfl) h) (Or.inl ⟨by rfl, ?w1430⟩) hHeld ?_
  case w1430 =>
    intro wS hSw
    obtain ⟨⟨k0, k1, k2, k3⟩, k4, k5, k6⟩ := hSw
    go_simp
    try with_reducible rfl
  try simp only [Act.put, List.getElem_toArray, List.getElem_cons_zero, List.getElem_cons_succ, List.setIfInBounds_toArray, List.set_cons_zero, List.set_cons_succ]
  refine wpAnyH_take (i := 31) (v := ?_) rfl (by kernel_rfl) (by kernel_rfl) (by kernel_rfl) (fun _ _ _ h => hP _ _ _ _ (by rfl) h) (Or.inl ⟨by rfl, ?w1431⟩) hHeld ?_
  case w1431 =>
    intro wS hSw
    obtain ⟨⟨k0, k1, k2, k3⟩, k4, k5, k6⟩ := hSw
    go_simp
    try with_reducible rfl
  try simp only [Act.put, List.getElem_toArray, List.getElem_cons_zero, List.getElem_cons_succ, List.setIfInBounds_toArray, List.set_cons_zero, List.set_cons_succ]
  refine wpAnyH_take (i := 32) (v := ?_) rfl (by kernel_rfl) (by kernel_rfl) (by kernel_rfl) (fun _ _ _ h => hP _ _ _ _ (by rfl) h) (Or.inl ⟨by rfl, ?w1432⟩) hHeld ?_
  case w1432 =>
    intro wS hSw
    obtain ⟨⟨k0, k1, k2, k3⟩, k4, k5, k6⟩ := hSw
    go_simp
    try with_reducible rfl
  try simp only [Act.put, List.getElem_toArray, List.getElem_cons_zero, List.getElem_cons_succ, List.setIfInBounds_toArray, List.set_cons_zero, List.set_cons_succ]
  refine wpAnyH_done (by kernel_rfl) ?_ _
  clear hHeld
  try simp only [Act.put, List.getElem_toArray, List.getElem_cons_zero, List.getElem_cons_succ, List.setIfInBounds_toArray, List.set_cons_zero, List.set_cons_succ]
  have q1 := (KR.out w7.drew HB7.out.drew).1
  go_wp2_with fail
  refine (LI.out w7.drew HB7.out.drew).mono ?_
  rintro ex w8 ⟨v8, rfl, ho8, hb8⟩
  have HB8 : Hid (Below w5.heap.size w5 w8) := Lib.hid (HB7.out.drew.trans (hb8.mono HB7.out.drew.size))
  have HBR8 : Hid (Below wr.heap.size wr w8) := Lib.hid (HBR7.out.drew.trans (hb8.mono HBR7.out.drew.size))
  obtain ⟨⟨s0, s1, _, _⟩, _⟩ := KS.out w8 ((Below.refl _ w7).drew.trans hb8)
  have q8 := (KR.out w8 HB8.out).1
  rw [A3.out]
  have HO8 := Lib.hid ho8
  obtain ⟨a8, c8, rfl⟩ := rowS_slice ho8
  clear hb8 ho8 q1 KS
  by_cases hnd : e.at_.node = 2
  · rw [if_neg (by simp [hnd])]
    have hL := A4.out hnd
    rw [hL] at HO8 ⊢
    have hsz := HSZ.out hnd
    rw [hsz] at s1
    rw [hnd] at s0
    have HP8 : Hid (PathAt w7.drew.heap.size w8 (.slice a8 (namesT T.L e.nm).length c8) (namesT T.L e.nm)) := Lib.hid ⟨HO8.out, HNL.out⟩
    have hnc := HNC.out
    obtain ⟨NL, hNL⟩ : ∃ NL, NL = namesT T.L e.nm := ⟨_, rfl⟩
    rw [← hNL] at HP8 s1 hnc NA ⊢
    have HNLE := Lib.hid hNL
    clear hnd hL hsz HO8 hNL A3 A4 A5 HSZ HNF HNL HNC
    go_wp2_with (first
      | (refine (NA.out w8 HB8.out).mono ?_
         rintro ez w9 ⟨v9, rfl, hp9, hb9⟩
         have HP9 := Lib.hid hp9.strs
         have HP89 := Lib.hid ((HP8.out.below hb9).strs)
         have HB9 : Hid (Below w5.heap.size w5 w9) := Lib.hid (HB8.out.trans (hb9.mono HB8.out.size))
         have HBR9 : Hid (Below wr.heap.size wr w9) := Lib.hid (HBR8.out.trans (hb9.mono HBR8.out.size))
         obtain ⟨a9, c9, rfl⟩ := rowS_slice hp9.row
         clear hp9 hb9)
      | (refine (texts_any w9 NL (.slice a8 NL.length c8) (.slice a9 NL.length c9) HP89.out HP9.out).mono ?_
         rintro ez w10 ⟨rfl, hb10⟩
         have HBR10 : Hid (Below wr.heap.size wr w10) := Lib.hid (HBR9.out.trans (hb10.mono HBR9.out.size))
         clear hb10)
      | fail)
    have hcast : (al : Int) + (NL.length : Int) = ((al + NL.length : Nat) : Int) := by omega
    rw [hcast, show NL.length = nl by rw [hnl, HNLE.out]]
    exact HKH.out _ _ _ _ _ _ _ _ _ _ _ _ _ _ _ _ _ _ _ _ _ _ _ _ _ _ _ _ _ _ _ _ _ _ _ _ _ _ _ _ _ _ _ _ _ _ _ _ _ _ _ _ _ _ _ _ _ _ _ _ _ _ _ _ _ _ _ _ _ _ _ _ _ _ _ _ _ _ _ _ _ _ _ _ _ _ _ _ _ _ _ _ HBR10.out
  · rw [if_pos hnd]
    have hL := A5.out hnd
    rw [hL] at HO8 ⊢
    have hN := HNF.out hnd
    have HNLE := Lib.hid hN
    have hb2 : (((e.at_.node : Nat) : Int) == 2) = false := by rw [beq_eq_false_iff_ne]; omega
    obtain rfl : nl = 0 := by rw [hnl, hN]; rfl
    clear hnd hL HO8 hN hnl A3 A4 A5 HSZ HNF HNL HNC NA
    go_wp2
    exact HKH.out _ _ _ _ _ _ _ _ _ _ _ _ _ _ _ _ _ _ _ _ _ _ _ _ _ _ _ _ _ _ _ _ _ _ _ _ _ _ _ _ _ _ _ _ _ _ _ _ _ _ _ _ _ _ _ _ _ _ _ _ _ _ _ _ _ _ _ _ _ _ _ _ _ _ _ _ _ _ _ _ _ _ _ _ _ _ _ _ _ _ _ _ HBR8.out
end Go.Proofs.YthcjjekkjbidlaaDoor.Sr
