import Derived.Test.YtpbhkaokgpacoaaGreatDoorZStRunsKit
set_option linter.unusedSimpArgs false
set_option linter.unusedVariables false
/-
  The law: an entry is asked for.
-/
namespace Go.Proofs.YtpbhkaokgpacoaaGreatDoor.St
open Go.RowKit Go.Maps Go.WideMaps Go.Proofs.YtpbhkaokgpacoaaGreatDoor.Rf Go.Proofs.YtpbhkaokgpacoaaGreatDoor.Rd

set_option linter.unusedSimpArgs false in
set_option maxHeartbeats 40000000 in
set_option maxRecDepth 100000 in
theorem p39 {Q : Exit → Act → World → Prop} (u0 u1 u2 u5 u8 u9 u10 u11 u12 u13 u14 u15 u16 u17 u18 u19 u20 u21 u22 u23 u24 u25 u26 u27 u28 u29 u30 u31 u32 u33 u34 u35 u36 u37 u38 u39 u40 u41 u42 u43 u44 u45 u46 u47 u48 u49 u50 u51 u52 u53 u54 u55 u56 u57 u58 u59 u60 u61 u62 u63 u64 u65 u66 u67 u68 u69 u70 u71 u72 u73 u74 u75 u76 u77 u78 u79 u80 u81 u82 u83 u84 u85 u86 u87 u88 u89 u90 u91 u92 u93 u94 u95 u96 u97 u98 u99 u100 u101 u102 u103 u104 u105 u106 u107 u108 u109 u110 u111 u112 u113 u114 u115 u116 u117 u118 u119 u120 u121 u122 u123 u124 u125 u126 u127 u128 u129 u130 u131 u132 u133 u134 u135 u136 u137 u138 u139 u140 u141 u142 u143 u144 u145 u146 u147 u148 u149 u150 u151 u152 u153 u154 u155 u156 u157 u158 u159 u160 u161 u162 u163 u164 u165 u166 u167 u168 u169 u170 u171 u172 u173 u174 u175 u176 u177 u178 u179 u180 u181 u182 u183 u184 u185 u186 u187 u188 u189 u190 u191 u192 u193 u194 u195 u196 u197 u198 u199 u200 u201 u202 u203 u204 u205 u206 u207 u208 u209 u210 u211 u212 u213 u214 u215 u216 u217 u218 u219 u220 u221 u222 u223 u224 u225 u226 u227 u228 u229 u230 u231 u232 u233 u234 u235 u236 u237 u238 u239 u240 u241 u242 u243 u244 u245 u246 u247 u248 u249 u250 u251 u252 u253 u254 u255 u256 u257 u258 u259 u260 u261 u262 u263 u264 u265 u266 u267 u268 u269 u270 u271 u272 u273 u274 u275 u276 u277 u278 u279 u280 u281 u282 u283 u284 u285 u286 u287 u288 u289 u290 : Value) (w : World) (c xa ma q : Nat) (it : It) (g b r : Nat) (v : Value) (L : List SE) (g' b' r' : Nat) (v' : Value) (L' : List SE) (W : World)
    (hP : ∀ c (a a' : Act) w, a.defers = a'.defers → Q (.panic c) a w → Q (.panic c) a' w) (hx : it.Fits) (hT : Nm.Tabs w) (hS : StpSt w c xa ma q it g b r v L L g' b' r' v' L' W)
    (HK : ∀ (t207 t208 t209 t210 t211 t212 t213 t214 t215 : Value) (E : Nat) (w' : World), w'.heap[E]? = some (.cells (getV it.path L).cells.toArray 44) → Below W.heap.size W w' → Q .normal ⟨#[u0, u1, u2, .pointer (some ⟨xa, 0, none⟩), .pointer (some ⟨ma, 0, none⟩), u5, .int .i64 (c : Int), .pointer (some ⟨q, 0, none⟩), u8, u9, u10, u11, u12, u13, u14, u15, u16, .pointer (some ⟨E, 0, none⟩), .int .i64 (getE it.path L), u19, u20, u21, u22, u23, u24, u25, u26, u27, u28, u29, u30, u31, u32, u33, u34, u35, u36, u37, u38, u39, u40, u41, u42, u43, u44, u45, u46, u47, u48, u49, u50, u51, u52, u53, u54, u55, u56, u57, u58, u59, u60, u61, u62, u63, u64, u65, u66, u67, u68, u69, u70, u71, u72, u73, u74, u75, u76, u77, u78, u79, u80, u81, u82, u83, u84, u85, u86, u87, u88, u89, u90, u91, u92, u93, u94, u95, u96, u97, u98, u99, u100, u101, u102, u103, u104, u105, u106, u107, u108, u109, u110, u111, u112, u113, u114, u115, u116, u117, u118, u119, u120, u121, u122, u123, u124, u125, u126, u127, u128, u129, u130, u131, u132, u133, u134, u135, u136, u137, u138, u139, u140, u141, u142, u143, u144, u145, u146, u147, u148, u149, u150, u151, u152, u153, u154, u155, u156, u157, u158, u159, u160, u161, u162, u163, u164, u165, u166, u167, u168, u169, u170, u171, u172, u173, u174, u175, u176, u177, u178, u179, u180, u181, u182, u183, u184, u185, u186, u187, u188, u189, u190, u191, u192, u193, u194, u195, u196, u197, u198, u199, u200, u201, u202, u203, u204, u205, u206, t207, t208, t209, t210, t211, t212, t213, t214, t215, u216, u217, u218, u219, u220, u221, u222, u223, u224, u225, u226, u227, u228, u229, u230, u231, u232, u233, u234, u235, u236, u237, u238, u239, u240, u241, u242, u243, u244, u245, u246, u247, u248, u249, u250, u251, u252, u253, u254, u255, u256, u257, u258, u259, u260, u261, u262, u263, u264, u265, u266, u267, u268, u269, u270, u271, u272, u273, u274, u275, u276, u277, u278, u279, u280, u281, u282, u283, u284, u285, u286, u287, u288, u289, u290], []⟩ w') :
    Code.wp Tryz.prog (regF 39) Q ⟨#[u0, u1, u2, .pointer (some ⟨xa, 0, none⟩), .pointer (some ⟨ma, 0, none⟩), u5, .int .i64 (c : Int), .pointer (some ⟨q, 0, none⟩), u8, u9, u10, u11, u12, u13, u14, u15, u16, u17, u18, u19, u20, u21, u22, u23, u24, u25, u26, u27, u28, u29, u30, u31, u32, u33, u34, u35, u36, u37, u38, u39, u40, u41, u42, u43, u44, u45, u46, u47, u48, u49, u50, u51, u52, u53, u54, u55, u56, u57, u58, u59, u60, u61, u62, u63, u64, u65, u66, u67, u68, u69, u70, u71, u72, u73, u74, u75, u76, u77, u78, u79, u80, u81, u82, u83, u84, u85, u86, u87, u88, u89, u90, u91, u92, u93, u94, u95, u96, u97, u98, u99, u100, u101, u102, u103, u104, u105, u106, u107, u108, u109, u110, u111, u112, u113, u114, u115, u116, u117, u118, u119, u120, u121, u122, u123, u124, u125, u126, u127, u128, u129, u130, u131, u132, u133, u134, u135, u136, u137, u138, u139, u140, u141, u142, u143, u144, u145, u146, u147, u148, u149, u150, u151, u152, u153, u154, u155, u156, u157, u158, u159, u160, u161, u162, u163, u164, u165, u166, u167, u168, u169, u170, u171, u172, u173, u174, u175, u176, u177, u178, u179, u180, u181, u182, u183, u184, u185, u186, u187, u188, u189, u190, u191, u192, u193, u194, u195, u196, u197, u198, u199, u200, u201, u202, u203, u204, u205, u206, u207, u208, u209, u210, u211, u212, u213, u214, u215, u216, u217, u218, u219, u220, u221, u222, u223, u224, u225, u226, u227, u228, u229, u230, u231, u232, u233, u234, u235, u236, u237, u238, u239, u240, u241, u242, u243, u244, u245, u246, u247, u248, u249, u250, u251, u252, u253, u254, u255, u256, u257, u258, u259, u260, u261, u262, u263, u264, u265, u266, u267, u268, u269, u270, u271, u272, u273, u274, u275, u276, u277, u278, u279, u280, u281, u282, u283, u284, u285, u286, u287, u288, u289, u290], []⟩ W := by
  have hST := Lib.hid hS
  have hc2 : (c : Int) < 2 := by have := hS.run.hc; omega
  have HX := Lib.hid hx
  have hsz : (⟨it.path.toArray⟩ : ByteArray).size ≤ maxLen := by show it.path.length ≤ _; have := hx.path; unfold maxLen; omega
  have CG : Hid (∀ W', Below W.heap.size W W' → Calls Tryz.prog 20 #[.pointer (some ⟨g, 0, none⟩), .string ⟨it.path.toArray⟩] W' fun e w' => e = .returned (.tuple #[enV (getV it.path L), .int .i64 (getE it.path L)]) ∧ Below W'.heap.size W' w') := Lib.hid (fun W' h => by
    have := get_any w.heap.size W' g b L ⟨it.path.toArray⟩ hsz (hS.run.below h).cur.ix
    rw [ba_data] at this
    exact this)
  have EOK := Lib.hid (hS.run.cur.ix.fitsGet it.path).en
  rw [show (getL it.path L).getD zeroS = getV it.path L from rfl] at EOK
  generalize getV it.path L = V at *
  generalize getE it.path L = vc at *
  clear hx hT hS hsz
  conv => arg 2; whnf
  refine wp_region_held_drew (S := (fun w' : World => Bs c xa ma q g r it w')) (by kernel_rfl) (show Bs c xa ma q g r it W.drew from hST.out.drew.bs) (fun hHeld => ?_)
  refine wpAnyH_take (i := 0) (v := ?_) rfl (by kernel_rfl) (by kernel_rfl) (by kernel_rfl) (fun _ _ _ h => hP _ _ _ _ (by rfl) h) (Or.inl ⟨by rfl, ?ra0⟩) hHeld ?_
  case ra0 =>
    intro wS hSw
    obtain ⟨k0, k1, k2⟩ := hSw
    have k3 := ItAt.path k2
    go_simp
    try with_reducible rfl
  try simp only [Act.put, List.getElem_toArray, List.getElem_cons_zero, List.getElem_cons_succ, List.setIfInBounds_toArray, List.set_cons_zero, List.set_cons_succ]
  refine wpAnyH_take (i := 1) (v := ?_) rfl (by kernel_rfl) (by kernel_rfl) (by kernel_rfl) (fun _ _ _ h => hP _ _ _ _ (by rfl) h) (Or.inl ⟨by rfl, ?ra1⟩) hHeld ?_
  case ra1 =>
    intro wS hSw
    obtain ⟨k0, k1, k2⟩ := hSw
    have k3 := ItAt.path k2
    go_simp
    try with_reducible rfl
  try simp only [Act.put, List.getElem_toArray, List.getElem_cons_zero, List.getElem_cons_succ, List.setIfInBounds_toArray, List.set_cons_zero, List.set_cons_succ]
  refine wpAnyH_take (i := 2) (v := ?_) rfl (by kernel_rfl) (by kernel_rfl) (by kernel_rfl) (fun _ _ _ h => hP _ _ _ _ (by rfl) h) (Or.inl ⟨by rfl, ?ra2⟩) hHeld ?_
  case ra2 =>
    intro wS hSw
    obtain ⟨k0, k1, k2⟩ := hSw
    have k3 := ItAt.path k2
    go_simp
    try with_reducible rfl
  try simp only [Act.put, List.getElem_toArray, List.getElem_cons_zero, List.getElem_cons_succ, List.setIfInBounds_toArray, List.set_cons_zero, List.set_cons_succ]
  refine wpAnyH_take (i := 3) (v := ?_) rfl (by kernel_rfl) (by kernel_rfl) (by kernel_rfl) (fun _ _ _ h => hP _ _ _ _ (by rfl) h) (Or.inl ⟨by rfl, ?ra3⟩) hHeld ?_
  case ra3 =>
    intro wS hSw
    obtain ⟨k0, k1, k2⟩ := hSw
    have k3 := ItAt.path k2
    go_simp
    try with_reducible rfl
  try simp only [Act.put, List.getElem_toArray, List.getElem_cons_zero, List.getElem_cons_succ, List.setIfInBounds_toArray, List.set_cons_zero, List.set_cons_succ]
  refine wpAnyH_take (i := 4) (v := ?_) rfl (by kernel_rfl) (by kernel_rfl) (by kernel_rfl) (fun _ _ _ h => hP _ _ _ _ (by rfl) h) (Or.inl ⟨by rfl, ?ra4⟩) hHeld ?_
  case ra4 =>
    intro wS hSw
    obtain ⟨k0, k1, k2⟩ := hSw
    have k3 := ItAt.path k2
    go_simp
    try with_reducible rfl
  try simp only [Act.put, List.getElem_toArray, List.getElem_cons_zero, List.getElem_cons_succ, List.setIfInBounds_toArray, List.set_cons_zero, List.set_cons_succ]
  refine wpAnyH_ready (rs := [5, 9]) (by kernel_rfl) (by simp) ?_
  refine AllReadyH.cons rfl (fun K hK => ?_) (AllReadyH.cons rfl (fun K hK => ?_) AllReadyH.nil)
  · skip
    go_simp
    refine (CG.out _ ((Below.refl W.heap.size W).drew)).mono ?_
    rintro ex wx1 ⟨rfl, hbwx1⟩
    have HBwx1 : Hid (Below W.heap.size W wx1) := Lib.hid ((((Below.refl W.heap.size W).drew)).trans (hbwx1.mono (((Below.refl W.heap.size W).drew)).size))
    have HSwx1 := Lib.hid (hST.out.below HBwx1.out).bs
    clear hbwx1
    go_wp2_with fail
    refine hK.out _ _ HSwx1.out (fun hHeld2 => ?_)
    clear hK K hHeld
    have hHeld := hHeld2
    clear hHeld2
    try simp only [Act.put, List.getElem_toArray, List.getElem_cons_zero, List.getElem_cons_succ, List.setIfInBounds_toArray, List.set_cons_zero, List.set_cons_succ]
    refine wpAnyH_take (i := 6) (v := ?_) rfl (by kernel_rfl) (by kernel_rfl) (by kernel_rfl) (fun _ _ _ h => hP _ _ _ _ (by rfl) h) (Or.inl ⟨by rfl, ?ra6⟩) hHeld ?_
    case ra6 =>
      intro wS hSw
      obtain ⟨k0, k1, k2⟩ := hSw
      have k3 := ItAt.path k2
      go_simp
      try with_reducible rfl
    try simp only [Act.put, List.getElem_toArray, List.getElem_cons_zero, List.getElem_cons_succ, List.setIfInBounds_toArray, List.set_cons_zero, List.set_cons_succ]
    refine wpAnyH_take (i := 7) (v := ?_) rfl (by kernel_rfl) (by kernel_rfl) (by kernel_rfl) (fun _ _ _ h => hP _ _ _ _ (by rfl) h) (Or.inl ⟨by rfl, ?ra7⟩) hHeld ?_
    case ra7 =>
      intro wS hSw
      obtain ⟨k0, k1, k2⟩ := hSw
      have k3 := ItAt.path k2
      go_simp
      try with_reducible rfl
    try simp only [Act.put, List.getElem_toArray, List.getElem_cons_zero, List.getElem_cons_succ, List.setIfInBounds_toArray, List.set_cons_zero, List.set_cons_succ]
    refine wpAnyH_take (i := 8) (v := ?_) rfl (by kernel_rfl) (by kernel_rfl) (by kernel_rfl) (fun _ _ _ h => hP _ _ _ _ (by rfl) h) (Or.inl ⟨by rfl, ?ra8⟩) hHeld ?_
    case ra8 =>
      intro wS hSw
      obtain ⟨k0, k1, k2⟩ := hSw
      have k3 := ItAt.path k2
      go_simp
      try with_reducible rfl
    try simp only [Act.put, List.getElem_toArray, List.getElem_cons_zero, List.getElem_cons_succ, List.setIfInBounds_toArray, List.set_cons_zero, List.set_cons_succ]
    refine wpAnyH_ready (rs := [9]) (by kernel_rfl) (by simp) ?_
    refine AllReadyH.cons rfl (fun K hK => ?_) AllReadyH.nil
    have HAx2 : Hid ((wx1.alloc (.cells zeroS.cells.toArray 44)).heap[wx1.heap.size]? = some (.cells zeroS.cells.toArray 44)) := Lib.hid (MapKept.heap_alloc wx1 (.cells zeroS.cells.toArray 44)).1
    have HBx2 : Hid (Below W.heap.size W (wx1.alloc (.cells zeroS.cells.toArray 44))) := Lib.hid ((HBwx1.out).alloc (HBwx1.out).size (.cells zeroS.cells.toArray 44))
    have GEx2 : Hid (W.heap.size ≤ wx1.heap.size) := Lib.hid (HBwx1.out).size
    have HSx2 := Lib.hid (hST.out.below HBx2.out).bs
    go_simp
    refine hK.out _ _ HSx2.out (fun hHeld2 => ?_)
    clear hK K hHeld
    have hHeld := hHeld2
    clear hHeld2
    try simp only [Act.put, List.getElem_toArray, List.getElem_cons_zero, List.getElem_cons_succ, List.setIfInBounds_toArray, List.set_cons_zero, List.set_cons_succ]
    refine wpAnyH_ready (rs := [10]) (by kernel_rfl) (by simp) ?_
    refine AllReadyH.cons rfl (fun K hK => ?_) AllReadyH.nil
    refine step_wp rfl ?_
    refine wp_store_new (w := wx1) (p := wx1.heap.size) rfl _ _ _ rfl V.cells.toArray ?sawx3 ?sbwx3 EOK.out.info ?scwx3 EOK.out.one ?sdwx3
    case sawx3 => rfl
    case sbwx3 => rfl
    case scwx3 => exact EOK.out.z
    intro wx3 hqwx3 hbwx3 _
    have HBwx3 : Hid (Below W.heap.size W wx3) := Lib.hid ((HBwx1.out).trans (hbwx3.mono (HBwx1.out).size))
    have HQwx3 := Lib.hid hqwx3
    have HSwx3 := Lib.hid (hST.out.below HBwx3.out).bs
    refine hK.out _ _ HSwx3.out (fun hHeld2 => ?_)
    clear hK K hHeld
    have hHeld := hHeld2
    clear hHeld2
    try simp only [Act.put, List.getElem_toArray, List.getElem_cons_zero, List.getElem_cons_succ, List.setIfInBounds_toArray, List.set_cons_zero, List.set_cons_succ]
    refine wpAnyH_ready (rs := [11]) (by kernel_rfl) (by simp) ?_
    refine AllReadyH.cons rfl (fun K hK => ?_) AllReadyH.nil
    go_simp
    refine hK.out _ _ HSwx3.out (fun hHeld2 => ?_)
    clear hK K hHeld
    have hHeld := hHeld2
    clear hHeld2
    try simp only [Act.put, List.getElem_toArray, List.getElem_cons_zero, List.getElem_cons_succ, List.setIfInBounds_toArray, List.set_cons_zero, List.set_cons_succ]
    refine wpAnyH_done (by kernel_rfl) ?_ _
    clear hHeld
    try simp only [Act.put, List.getElem_toArray, List.getElem_cons_zero, List.getElem_cons_succ, List.setIfInBounds_toArray, List.set_cons_zero, List.set_cons_succ]
    exact HK _ _ _ _ _ _ _ _ _ _ wx3 HQwx3.out HBwx3.out
  · skip
    have HAx4 : Hid ((W.alloc (.cells zeroS.cells.toArray 44)).drew.heap[W.heap.size]? = some (.cells zeroS.cells.toArray 44)) := Lib.hid (MapKept.heap_alloc W (.cells zeroS.cells.toArray 44)).1
    have HBx4 : Hid (Below W.heap.size W (W.alloc (.cells zeroS.cells.toArray 44)).drew) := Lib.hid (((Below.refl W.heap.size W).alloc (Nat.le_refl _) (.cells zeroS.cells.toArray 44)).drew)
    have GEx4 : Hid (W.heap.size ≤ W.heap.size) := Lib.hid (Nat.le_refl _)
    have HSx4 := Lib.hid (hST.out.below HBx4.out).bs
    go_simp
    refine hK.out _ _ HSx4.out (fun hHeld2 => ?_)
    clear hK K hHeld
    have hHeld := hHeld2
    clear hHeld2
    try simp only [Act.put, List.getElem_toArray, List.getElem_cons_zero, List.getElem_cons_succ, List.setIfInBounds_toArray, List.set_cons_zero, List.set_cons_succ]
    refine wpAnyH_ready (rs := [5]) (by kernel_rfl) (by simp) ?_
    refine AllReadyH.cons rfl (fun K hK => ?_) AllReadyH.nil
    go_simp
    refine (CG.out _ HBx4.out).mono ?_
    rintro ex wx5 ⟨rfl, hbwx5⟩
    have HBwx5 : Hid (Below W.heap.size W wx5) := Lib.hid ((HBx4.out).trans (hbwx5.mono (HBx4.out).size))
    have HSwx5 := Lib.hid (hST.out.below HBwx5.out).bs
    have HAwx5 := Lib.hid ((hbwx5.block _ (lt_of_heap HAx4.out)).trans HAx4.out)
    clear hbwx5
    go_wp2_with fail
    refine hK.out _ _ HSwx5.out (fun hHeld2 => ?_)
    clear hK K hHeld
    have hHeld := hHeld2
    clear hHeld2
    try simp only [Act.put, List.getElem_toArray, List.getElem_cons_zero, List.getElem_cons_succ, List.setIfInBounds_toArray, List.set_cons_zero, List.set_cons_succ]
    refine wpAnyH_take (i := 6) (v := ?_) rfl (by kernel_rfl) (by kernel_rfl) (by kernel_rfl) (fun _ _ _ h => hP _ _ _ _ (by rfl) h) (Or.inl ⟨by rfl, ?ra14⟩) hHeld ?_
    case ra14 =>
      intro wS hSw
      obtain ⟨k0, k1, k2⟩ := hSw
      have k3 := ItAt.path k2
      go_simp
      try with_reducible rfl
    try simp only [Act.put, List.getElem_toArray, List.getElem_cons_zero, List.getElem_cons_succ, List.setIfInBounds_toArray, List.set_cons_zero, List.set_cons_succ]
    refine wpAnyH_take (i := 7) (v := ?_) rfl (by kernel_rfl) (by kernel_rfl) (by kernel_rfl) (fun _ _ _ h => hP _ _ _ _ (by rfl) h) (Or.inl ⟨by rfl, ?ra15⟩) hHeld ?_
    case ra15 =>
      intro wS hSw
      obtain ⟨k0, k1, k2⟩ := hSw
      have k3 := ItAt.path k2
      go_simp
      try with_reducible rfl
    try simp only [Act.put, List.getElem_toArray, List.getElem_cons_zero, List.getElem_cons_succ, List.setIfInBounds_toArray, List.set_cons_zero, List.set_cons_succ]
    refine wpAnyH_take (i := 8) (v := ?_) rfl (by kernel_rfl) (by kernel_rfl) (by kernel_rfl) (fun _ _ _ h => hP _ _ _ _ (by rfl) h) (Or.inl ⟨by rfl, ?ra16⟩) hHeld ?_
    case ra16 =>
      intro wS hSw
      obtain ⟨k0, k1, k2⟩ := hSw
      have k3 := ItAt.path k2
      go_simp
      try with_reducible rfl
    try simp only [Act.put, List.getElem_toArray, List.getElem_cons_zero, List.getElem_cons_succ, List.setIfInBounds_toArray, List.set_cons_zero, List.set_cons_succ]
    refine wpAnyH_ready (rs := [10]) (by kernel_rfl) (by simp) ?_
    refine AllReadyH.cons rfl (fun K hK => ?_) AllReadyH.nil
    refine step_wp rfl ?_
    refine wp_store_at HAwx5.out _ _ _ rfl V.cells.toArray ?sawx6 ?sbwx6 EOK.out.info ?scwx6 EOK.out.one ?sdwx6
    case sawx6 => rfl
    case sbwx6 => rfl
    case scwx6 => exact EOK.out.z
    intro wx6 hqwx6 htwx6 _
    have HBwx6 : Hid (Below W.heap.size W wx6) := Lib.hid ((HBwx5.out).trans (htwx6.below (by intro x hx; simp at hx; subst hx; exact GEx4.out) (HBwx5.out).size))
    have HQwx6 := Lib.hid hqwx6
    have HSwx6 := Lib.hid (hST.out.below HBwx6.out).bs
    refine hK.out _ _ HSwx6.out (fun hHeld2 => ?_)
    clear hK K hHeld
    have hHeld := hHeld2
    clear hHeld2
    try simp only [Act.put, List.getElem_toArray, List.getElem_cons_zero, List.getElem_cons_succ, List.setIfInBounds_toArray, List.set_cons_zero, List.set_cons_succ]
    refine wpAnyH_ready (rs := [11]) (by kernel_rfl) (by simp) ?_
    refine AllReadyH.cons rfl (fun K hK => ?_) AllReadyH.nil
    go_simp
    refine hK.out _ _ HSwx6.out (fun hHeld2 => ?_)
    clear hK K hHeld
    have hHeld := hHeld2
    clear hHeld2
    try simp only [Act.put, List.getElem_toArray, List.getElem_cons_zero, List.getElem_cons_succ, List.setIfInBounds_toArray, List.set_cons_zero, List.set_cons_succ]
    refine wpAnyH_done (by kernel_rfl) ?_ _
    clear hHeld
    try simp only [Act.put, List.getElem_toArray, List.getElem_cons_zero, List.getElem_cons_succ, List.setIfInBounds_toArray, List.set_cons_zero, List.set_cons_succ]
    exact HK _ _ _ _ _ _ _ _ _ _ wx6 HQwx6.out HBwx6.out
end Go.Proofs.YtpbhkaokgpacoaaGreatDoor.St
/-
  The law: an entry is asked for, of the reference.
-/
namespace Go.Proofs.YtpbhkaokgpacoaaGreatDoor.St
open Go.RowKit Go.Maps Go.WideMaps Go.Proofs.YtpbhkaokgpacoaaGreatDoor.Rf Go.Proofs.YtpbhkaokgpacoaaGreatDoor.Rd

set_option linter.unusedSimpArgs false in
set_option maxHeartbeats 40000000 in
set_option maxRecDepth 100000 in
theorem p40 {Q : Exit → Act → World → Prop} (u0 u1 u2 u5 u8 u9 u10 u11 u12 u13 u14 u15 u16 u17 u18 u19 u20 u21 u22 u23 u24 u25 u26 u27 u28 u29 u30 u31 u32 u33 u34 u35 u36 u37 u38 u39 u40 u41 u42 u43 u44 u45 u46 u47 u48 u49 u50 u51 u52 u53 u54 u55 u56 u57 u58 u59 u60 u61 u62 u63 u64 u65 u66 u67 u68 u69 u70 u71 u72 u73 u74 u75 u76 u77 u78 u79 u80 u81 u82 u83 u84 u85 u86 u87 u88 u89 u90 u91 u92 u93 u94 u95 u96 u97 u98 u99 u100 u101 u102 u103 u104 u105 u106 u107 u108 u109 u110 u111 u112 u113 u114 u115 u116 u117 u118 u119 u120 u121 u122 u123 u124 u125 u126 u127 u128 u129 u130 u131 u132 u133 u134 u135 u136 u137 u138 u139 u140 u141 u142 u143 u144 u145 u146 u147 u148 u149 u150 u151 u152 u153 u154 u155 u156 u157 u158 u159 u160 u161 u162 u163 u164 u165 u166 u167 u168 u169 u170 u171 u172 u173 u174 u175 u176 u177 u178 u179 u180 u181 u182 u183 u184 u185 u186 u187 u188 u189 u190 u191 u192 u193 u194 u195 u196 u197 u198 u199 u200 u201 u202 u203 u204 u205 u206 u207 u208 u209 u210 u211 u212 u213 u214 u215 u216 u217 u218 u219 u220 u221 u222 u223 u224 u225 u226 u227 u228 u229 u230 u231 u232 u233 u234 u235 u236 u237 u238 u239 u240 u241 u242 u243 u244 u245 u246 u247 u248 u249 u250 u251 u252 u253 u254 u255 u256 u257 u258 u259 u260 u261 u262 u263 u264 u265 u266 u267 u268 u269 u270 u271 u272 u273 u274 u275 u276 u277 u278 u279 u280 u281 u282 u283 u284 u285 u286 u287 u288 u289 u290 : Value) (w : World) (c xa ma q : Nat) (it : It) (g b r : Nat) (v : Value) (L : List SE) (g' b' r' : Nat) (v' : Value) (L' : List SE) (W : World)
    (hP : ∀ c (a a' : Act) w, a.defers = a'.defers → Q (.panic c) a w → Q (.panic c) a' w) (hx : it.Fits) (hT : Nm.Tabs w) (hS : StpSt w c xa ma q it g b r v L L g' b' r' v' L' W)
    (HK : ∀ (t216 t217 t218 t219 t220 t221 t222 t223 t224 : Value) (E : Nat) (w' : World), w'.heap[E]? = some (.cells (getV it.path L).cells.toArray 49) → Below W.heap.size W w' → Q .normal ⟨#[u0, u1, u2, .pointer (some ⟨xa, 0, none⟩), .pointer (some ⟨ma, 0, none⟩), u5, .int .i64 (c : Int), .pointer (some ⟨q, 0, none⟩), u8, u9, u10, u11, u12, u13, u14, u15, u16, u17, u18, .pointer (some ⟨E, 0, none⟩), .int .i64 (getE it.path L), u21, u22, u23, u24, u25, u26, u27, u28, u29, u30, u31, u32, u33, u34, u35, u36, u37, u38, u39, u40, u41, u42, u43, u44, u45, u46, u47, u48, u49, u50, u51, u52, u53, u54, u55, u56, u57, u58, u59, u60, u61, u62, u63, u64, u65, u66, u67, u68, u69, u70, u71, u72, u73, u74, u75, u76, u77, u78, u79, u80, u81, u82, u83, u84, u85, u86, u87, u88, u89, u90, u91, u92, u93, u94, u95, u96, u97, u98, u99, u100, u101, u102, u103, u104, u105, u106, u107, u108, u109, u110, u111, u112, u113, u114, u115, u116, u117, u118, u119, u120, u121, u122, u123, u124, u125, u126, u127, u128, u129, u130, u131, u132, u133, u134, u135, u136, u137, u138, u139, u140, u141, u142, u143, u144, u145, u146, u147, u148, u149, u150, u151, u152, u153, u154, u155, u156, u157, u158, u159, u160, u161, u162, u163, u164, u165, u166, u167, u168, u169, u170, u171, u172, u173, u174, u175, u176, u177, u178, u179, u180, u181, u182, u183, u184, u185, u186, u187, u188, u189, u190, u191, u192, u193, u194, u195, u196, u197, u198, u199, u200, u201, u202, u203, u204, u205, u206, u207, u208, u209, u210, u211, u212, u213, u214, u215, t216, t217, t218, t219, t220, t221, t222, t223, t224, u225, u226, u227, u228, u229, u230, u231, u232, u233, u234, u235, u236, u237, u238, u239, u240, u241, u242, u243, u244, u245, u246, u247, u248, u249, u250, u251, u252, u253, u254, u255, u256, u257, u258, u259, u260, u261, u262, u263, u264, u265, u266, u267, u268, u269, u270, u271, u272, u273, u274, u275, u276, u277, u278, u279, u280, u281, u282, u283, u284, u285, u286, u287, u288, u289, u290], []⟩ w') :
    Code.wp Tryz.prog (regF 40) Q ⟨#[u0, u1, u2, .pointer (some ⟨xa, 0, none⟩), .pointer (some ⟨ma, 0, none⟩), u5, .int .i64 (c : Int), .pointer (some ⟨q, 0, none⟩), u8, u9, u10, u11, u12, u13, u14, u15, u16, u17, u18, u19, u20, u21, u22, u23, u24, u25, u26, u27, u28, u29, u30, u31, u32, u33, u34, u35, u36, u37, u38, u39, u40, u41, u42, u43, u44, u45, u46, u47, u48, u49, u50, u51, u52, u53, u54, u55, u56, u57, u58, u59, u60, u61, u62, u63, u64, u65, u66, u67, u68, u69, u70, u71, u72, u73, u74, u75, u76, u77, u78, u79, u80, u81, u82, u83, u84, u85, u86, u87, u88, u89, u90, u91, u92, u93, u94, u95, u96, u97, u98, u99, u100, u101, u102, u103, u104, u105, u106, u107, u108, u109, u110, u111, u112, u113, u114, u115, u116, u117, u118, u119, u120, u121, u122, u123, u124, u125, u126, u127, u128, u129, u130, u131, u132, u133, u134, u135, u136, u137, u138, u139, u140, u141, u142, u143, u144, u145, u146, u147, u148, u149, u150, u151, u152, u153, u154, u155, u156, u157, u158, u159, u160, u161, u162, u163, u164, u165, u166, u167, u168, u169, u170, u171, u172, u173, u174, u175, u176, u177, u178, u179, u180, u181, u182, u183, u184, u185, u186, u187, u188, u189, u190, u191, u192, u193, u194, u195, u196, u197, u198, u199, u200, u201, u202, u203, u204, u205, u206, u207, u208, u209, u210, u211, u212, u213, u214, u215, u216, u217, u218, u219, u220, u221, u222, u223, u224, u225, u226, u227, u228, u229, u230, u231, u232, u233, u234, u235, u236, u237, u238, u239, u240, u241, u242, u243, u244, u245, u246, u247, u248, u249, u250, u251, u252, u253, u254, u255, u256, u257, u258, u259, u260, u261, u262, u263, u264, u265, u266, u267, u268, u269, u270, u271, u272, u273, u274, u275, u276, u277, u278, u279, u280, u281, u282, u283, u284, u285, u286, u287, u288, u289, u290], []⟩ W := by
  have hST := Lib.hid hS
  have hc2 : (c : Int) < 2 := by have := hS.run.hc; omega
  have HX := Lib.hid hx
  have hsz : (⟨it.path.toArray⟩ : ByteArray).size ≤ maxLen := by show it.path.length ≤ _; have := hx.path; unfold maxLen; omega
  have CG : Hid (∀ W', Below W.heap.size W W' → Calls Tryz.prog 21 #[.pointer (some ⟨r, 0, none⟩), .string ⟨it.path.toArray⟩] W' fun e w' => e = .returned (.tuple #[enV (getV it.path L), .int .i64 (getE it.path L)]) ∧ Below W'.heap.size W' w') := Lib.hid (fun W' h => by
    have := ref_get w.heap.size W' r v L ⟨it.path.toArray⟩ hsz (hS.run.below h).cur.rf
    rw [ba_data] at this
    exact this)
  have EOK := Lib.hid (hS.run.cur.rf.fitsGet it.path).enR
  rw [show (getL it.path L).getD zeroS = getV it.path L from rfl] at EOK
  generalize getV it.path L = V at *
  generalize getE it.path L = vc at *
  clear hx hT hS hsz
  conv => arg 2; whnf
  refine wp_region_held_drew (S := (fun w' : World => Bs c xa ma q g r it w')) (by kernel_rfl) (show Bs c xa ma q g r it W.drew from hST.out.drew.bs) (fun hHeld => ?_)
  refine wpAnyH_take (i := 0) (v := ?_) rfl (by kernel_rfl) (by kernel_rfl) (by kernel_rfl) (fun _ _ _ h => hP _ _ _ _ (by rfl) h) (Or.inl ⟨by rfl, ?ra0⟩) hHeld ?_
  case ra0 =>
    intro wS hSw
    obtain ⟨k0, k1, k2⟩ := hSw
    have k3 := ItAt.path k2
    go_simp
    try with_reducible rfl
  try simp only [Act.put, List.getElem_toArray, List.getElem_cons_zero, List.getElem_cons_succ, List.setIfInBounds_toArray, List.set_cons_zero, List.set_cons_succ]
  refine wpAnyH_take (i := 1) (v := ?_) rfl (by kernel_rfl) (by kernel_rfl) (by kernel_rfl) (fun _ _ _ h => hP _ _ _ _ (by rfl) h) (Or.inl ⟨by rfl, ?ra1⟩) hHeld ?_
  case ra1 =>
    intro wS hSw
    obtain ⟨k0, k1, k2⟩ := hSw
    have k3 := ItAt.path k2
    go_simp
    try with_reducible rfl
  try simp only [Act.put, List.getElem_toArray, List.getElem_cons_zero, List.getElem_cons_succ, List.setIfInBounds_toArray, List.set_cons_zero, List.set_cons_succ]
  refine wpAnyH_take (i := 2) (v := ?_) rfl (by kernel_rfl) (by kernel_rfl) (by kernel_rfl) (fun _ _ _ h => hP _ _ _ _ (by rfl) h) (Or.inl ⟨by rfl, ?ra2⟩) hHeld ?_
  case ra2 =>
    intro wS hSw
    obtain ⟨k0, k1, k2⟩ := hSw
    have k3 := ItAt.path k2
    go_simp
    try with_reducible rfl
  try simp only [Act.put, List.getElem_toArray, List.getElem_cons_zero, List.getElem_cons_succ, List.setIfInBounds_toArray, List.set_cons_zero, List.set_cons_succ]
  refine wpAnyH_take (i := 3) (v := ?_) rfl (by kernel_rfl) (by kernel_rfl) (by kernel_rfl) (fun _ _ _ h => hP _ _ _ _ (by rfl) h) (Or.inl ⟨by rfl, ?ra3⟩) hHeld ?_
  case ra3 =>
    intro wS hSw
    obtain ⟨k0, k1, k2⟩ := hSw
    have k3 := ItAt.path k2
    go_simp
    try with_reducible rfl
  try simp only [Act.put, List.getElem_toArray, List.getElem_cons_zero, List.getElem_cons_succ, List.setIfInBounds_toArray, List.set_cons_zero, List.set_cons_succ]
  refine wpAnyH_take (i := 4) (v := ?_) rfl (by kernel_rfl) (by kernel_rfl) (by kernel_rfl) (fun _ _ _ h => hP _ _ _ _ (by rfl) h) (Or.inl ⟨by rfl, ?ra4⟩) hHeld ?_
  case ra4 =>
    intro wS hSw
    obtain ⟨k0, k1, k2⟩ := hSw
    have k3 := ItAt.path k2
    go_simp
    try with_reducible rfl
  try simp only [Act.put, List.getElem_toArray, List.getElem_cons_zero, List.getElem_cons_succ, List.setIfInBounds_toArray, List.set_cons_zero, List.set_cons_succ]
  refine wpAnyH_ready (rs := [5, 9]) (by kernel_rfl) (by simp) ?_
  refine AllReadyH.cons rfl (fun K hK => ?_) (AllReadyH.cons rfl (fun K hK => ?_) AllReadyH.nil)
  · skip
    go_simp
    refine (CG.out _ ((Below.refl W.heap.size W).drew)).mono ?_
    rintro ex wx1 ⟨rfl, hbwx1⟩
    have HBwx1 : Hid (Below W.heap.size W wx1) := Lib.hid ((((Below.refl W.heap.size W).drew)).trans (hbwx1.mono (((Below.refl W.heap.size W).drew)).size))
    have HSwx1 := Lib.hid (hST.out.below HBwx1.out).bs
    clear hbwx1
    go_wp2_with fail
    refine hK.out _ _ HSwx1.out (fun hHeld2 => ?_)
    clear hK K hHeld
    have hHeld := hHeld2
    clear hHeld2
    try simp only [Act.put, List.getElem_toArray, List.getElem_cons_zero, List.getElem_cons_succ, List.setIfInBounds_toArray, List.set_cons_zero, List.set_cons_succ]
    refine wpAnyH_take (i := 6) (v := ?_) rfl (by kernel_rfl) (by kernel_rfl) (by kernel_rfl) (fun _ _ _ h => hP _ _ _ _ (by rfl) h) (Or.inl ⟨by rfl, ?ra6⟩) hHeld ?_
    case ra6 =>
      intro wS hSw
      obtain ⟨k0, k1, k2⟩ := hSw
      have k3 := ItAt.path k2
      go_simp
      try with_reducible rfl
    try simp only [Act.put, List.getElem_toArray, List.getElem_cons_zero, List.getElem_cons_succ, List.setIfInBounds_toArray, List.set_cons_zero, List.set_cons_succ]
    refine wpAnyH_take (i := 7) (v := ?_) rfl (by kernel_rfl) (by kernel_rfl) (by kernel_rfl) (fun _ _ _ h => hP _ _ _ _ (by rfl) h) (Or.inl ⟨by rfl, ?ra7⟩) hHeld ?_
    case ra7 =>
      intro wS hSw
      obtain ⟨k0, k1, k2⟩ := hSw
      have k3 := ItAt.path k2
      go_simp
      try with_reducible rfl
    try simp only [Act.put, List.getElem_toArray, List.getElem_cons_zero, List.getElem_cons_succ, List.setIfInBounds_toArray, List.set_cons_zero, List.set_cons_succ]
    refine wpAnyH_take (i := 8) (v := ?_) rfl (by kernel_rfl) (by kernel_rfl) (by kernel_rfl) (fun _ _ _ h => hP _ _ _ _ (by rfl) h) (Or.inl ⟨by rfl, ?ra8⟩) hHeld ?_
    case ra8 =>
      intro wS hSw
      obtain ⟨k0, k1, k2⟩ := hSw
      have k3 := ItAt.path k2
      go_simp
      try with_reducible rfl
    try simp only [Act.put, List.getElem_toArray, List.getElem_cons_zero, List.getElem_cons_succ, List.setIfInBounds_toArray, List.set_cons_zero, List.set_cons_succ]
    refine wpAnyH_ready (rs := [9]) (by kernel_rfl) (by simp) ?_
    refine AllReadyH.cons rfl (fun K hK => ?_) AllReadyH.nil
    have HAx2 : Hid ((wx1.alloc (.cells zeroS.cells.toArray 49)).heap[wx1.heap.size]? = some (.cells zeroS.cells.toArray 49)) := Lib.hid (MapKept.heap_alloc wx1 (.cells zeroS.cells.toArray 49)).1
    have HBx2 : Hid (Below W.heap.size W (wx1.alloc (.cells zeroS.cells.toArray 49))) := Lib.hid ((HBwx1.out).alloc (HBwx1.out).size (.cells zeroS.cells.toArray 49))
    have GEx2 : Hid (W.heap.size ≤ wx1.heap.size) := Lib.hid (HBwx1.out).size
    have HSx2 := Lib.hid (hST.out.below HBx2.out).bs
    go_simp
    refine hK.out _ _ HSx2.out (fun hHeld2 => ?_)
    clear hK K hHeld
    have hHeld := hHeld2
    clear hHeld2
    try simp only [Act.put, List.getElem_toArray, List.getElem_cons_zero, List.getElem_cons_succ, List.setIfInBounds_toArray, List.set_cons_zero, List.set_cons_succ]
    refine wpAnyH_ready (rs := [10]) (by kernel_rfl) (by simp) ?_
    refine AllReadyH.cons rfl (fun K hK => ?_) AllReadyH.nil
    refine step_wp rfl ?_
    refine wp_store_new (w := wx1) (p := wx1.heap.size) rfl _ _ _ rfl V.cells.toArray ?sawx3 ?sbwx3 EOK.out.info ?scwx3 EOK.out.one ?sdwx3
    case sawx3 => rfl
    case sbwx3 => rfl
    case scwx3 => exact EOK.out.z
    intro wx3 hqwx3 hbwx3 _
    have HBwx3 : Hid (Below W.heap.size W wx3) := Lib.hid ((HBwx1.out).trans (hbwx3.mono (HBwx1.out).size))
    have HQwx3 := Lib.hid hqwx3
    have HSwx3 := Lib.hid (hST.out.below HBwx3.out).bs
    refine hK.out _ _ HSwx3.out (fun hHeld2 => ?_)
    clear hK K hHeld
    have hHeld := hHeld2
    clear hHeld2
    try simp only [Act.put, List.getElem_toArray, List.getElem_cons_zero, List.getElem_cons_succ, List.setIfInBounds_toArray, List.set_cons_zero, List.set_cons_succ]
    refine wpAnyH_ready (rs := [11]) (by kernel_rfl) (by simp) ?_
    refine AllReadyH.cons rfl (fun K hK => ?_) AllReadyH.nil
    go_simp
    refine hK.out _ _ HSwx3.out (fun hHeld2 => ?_)
    clear hK K hHeld
    have hHeld := hHeld2
    clear hHeld2
    try simp only [Act.put, List.getElem_toArray, List.getElem_cons_zero, List.getElem_cons_succ, List.setIfInBounds_toArray, List.set_cons_zero, List.set_cons_succ]
    refine wpAnyH_done (by kernel_rfl) ?_ _
    clear hHeld
    try simp only [Act.put, List.getElem_toArray, List.getElem_cons_zero, List.getElem_cons_succ, List.setIfInBounds_toArray, List.set_cons_zero, List.set_cons_succ]
    exact HK _ _ _ _ _ _ _ _ _ _ wx3 HQwx3.out HBwx3.out
  · skip
    have HAx4 : Hid ((W.alloc (.cells zeroS.cells.toArray 49)).drew.heap[W.heap.size]? = some (.cells zeroS.cells.toArray 49)) := Lib.hid (MapKept.heap_alloc W (.cells zeroS.cells.toArray 49)).1
    have HBx4 : Hid (Below W.heap.size W (W.alloc (.cells zeroS.cells.toArray 49)).drew) := Lib.hid (((Below.refl W.heap.size W).alloc (Nat.le_refl _) (.cells zeroS.cells.toArray 49)).drew)
    have GEx4 : Hid (W.heap.size ≤ W.heap.size) := Lib.hid (Nat.le_refl _)
    have HSx4 := Lib.hid (hST.out.below HBx4.out).bs
    go_simp
    refine hK.out _ _ HSx4.out (fun hHeld2 => ?_)
    clear hK K hHeld
    have hHeld := hHeld2
    clear hHeld2
    try simp only [Act.put, List.getElem_toArray, List.getElem_cons_zero, List.getElem_cons_succ, List.setIfInBounds_toArray, List.set_cons_zero, List.set_cons_succ]
    refine wpAnyH_ready (rs := [5]) (by kernel_rfl) (by simp) ?_
    refine AllReadyH.cons rfl (fun K hK => ?_) AllReadyH.nil
    go_simp
    refine (CG.out _ HBx4.out).mono ?_
    rintro ex wx5 ⟨rfl, hbwx5⟩
    have HBwx5 : Hid (Below W.heap.size W wx5) := Lib.hid ((HBx4.out).trans (hbwx5.mono (HBx4.out).size))
    have HSwx5 := Lib.hid (hST.out.below HBwx5.out).bs
    have HAwx5 := Lib.hid ((hbwx5.block _ (lt_of_heap HAx4.out)).trans HAx4.out)
    clear hbwx5
    go_wp2_with fail
    refine hK.out _ _ HSwx5.out (fun hHeld2 => ?_)
    clear hK K hHeld
    have hHeld := hHeld2
    clear hHeld2
    try simp only [Act.put, List.getElem_toArray, List.getElem_cons_zero, List.getElem_cons_succ, List.setIfInBounds_toArray, List.set_cons_zero, List.set_cons_succ]
    refine wpAnyH_take (i := 6) (v := ?_) rfl (by kernel_rfl) (by kernel_rfl) (by kernel_rfl) (fun _ _ _ h => hP _ _ _ _ (by rfl) h) (Or.inl ⟨by rfl, ?ra14⟩) hHeld ?_
    case ra14 =>
      intro wS hSw
      obtain ⟨k0, k1, k2⟩ := hSw
      have k3 := ItAt.path k2
      go_simp
      try with_reducible rfl
    try simp only [Act.put, List.getElem_toArray, List.getElem_cons_zero, List.getElem_cons_succ, List.setIfInBounds_toArray, List.set_cons_zero, List.set_cons_succ]
    refine wpAnyH_take (i := 7) (v := ?_) rfl (by kernel_rfl) (by kernel_rfl) (by kernel_rfl) (fun _ _ _ h => hP _ _ _ _ (by rfl) h) (Or.inl ⟨by rfl, ?ra15⟩) hHeld ?_
    case ra15 =>
      intro wS hSw
      obtain ⟨k0, k1, k2⟩ := hSw
      have k3 := ItAt.path k2
      go_simp
      try with_reducible rfl
    try simp only [Act.put, List.getElem_toArray, List.getElem_cons_zero, List.getElem_cons_succ, List.setIfInBounds_toArray, List.set_cons_zero, List.set_cons_succ]
    refine wpAnyH_take (i := 8) (v := ?_) rfl (by kernel_rfl) (by kernel_rfl) (by kernel_rfl) (fun _ _ _ h => hP _ _ _ _ (by rfl) h) (Or.inl ⟨by rfl, ?ra16⟩) hHeld ?_
    case ra16 =>
      intro wS hSw
      obtain ⟨k0, k1, k2⟩ := hSw
      have k3 := ItAt.path k2
      go_simp
      try with_reducible rfl
    try simp only [Act.put, List.getElem_toArray, List.getElem_cons_zero, List.getElem_cons_succ, List.setIfInBounds_toArray, List.set_cons_zero, List.set_cons_succ]
    refine wpAnyH_ready (rs := [10]) (by kernel_rfl) (by simp) ?_
    refine AllReadyH.cons rfl (fun K hK => ?_) AllReadyH.nil
    refine step_wp rfl ?_
    refine wp_store_at HAwx5.out _ _ _ rfl V.cells.toArray ?sawx6 ?sbwx6 EOK.out.info ?scwx6 EOK.out.one ?sdwx6
    case sawx6 => rfl
    case sbwx6 => rfl
    case scwx6 => exact EOK.out.z
    intro wx6 hqwx6 htwx6 _
    have HBwx6 : Hid (Below W.heap.size W wx6) := Lib.hid ((HBwx5.out).trans (htwx6.below (by intro x hx; simp at hx; subst hx; exact GEx4.out) (HBwx5.out).size))
    have HQwx6 := Lib.hid hqwx6
    have HSwx6 := Lib.hid (hST.out.below HBwx6.out).bs
    refine hK.out _ _ HSwx6.out (fun hHeld2 => ?_)
    clear hK K hHeld
    have hHeld := hHeld2
    clear hHeld2
    try simp only [Act.put, List.getElem_toArray, List.getElem_cons_zero, List.getElem_cons_succ, List.setIfInBounds_toArray, List.set_cons_zero, List.set_cons_succ]
    refine wpAnyH_ready (rs := [11]) (by kernel_rfl) (by simp) ?_
    refine AllReadyH.cons rfl (fun K hK => ?_) AllReadyH.nil
    go_simp
    refine hK.out _ _ HSwx6.out (fun hHeld2 => ?_)
    clear hK K hHeld
    have hHeld := hHeld2
    clear hHeld2
    try simp only [Act.put, List.getElem_toArray, List.getElem_cons_zero, List.getElem_cons_succ, List.setIfInBounds_toArray, List.set_cons_zero, List.set_cons_succ]
    refine wpAnyH_done (by kernel_rfl) ?_ _
    clear hHeld
    try simp only [Act.put, List.getElem_toArray, List.getElem_cons_zero, List.getElem_cons_succ, List.setIfInBounds_toArray, List.set_cons_zero, List.set_cons_succ]
    exact HK _ _ _ _ _ _ _ _ _ _ wx6 HQwx6.out HBwx6.out
end Go.Proofs.YtpbhkaokgpacoaaGreatDoor.St
