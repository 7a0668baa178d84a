import Derived.Test.YtpbhkaokgpacoaaGreatDoorZStRunsKit
set_option linter.unusedSimpArgs false
set_option linter.unusedVariables false
/-
  The law: is a file as it was entered?
-/
namespace Go.Proofs.YtpbhkaokgpacoaaGreatDoor.St
open Go.RowKit Go.Maps Go.WideMaps Go.Proofs.YtpbhkaokgpacoaaGreatDoor.Rf Go.Proofs.YtpbhkaokgpacoaaGreatDoor.Rd

set_option linter.unusedSimpArgs false in
set_option maxHeartbeats 40000000 in
set_option maxRecDepth 100000 in
theorem p41 {Q : Exit → Act → World → Prop} (u0 u1 u2 u5 u8 u9 u10 u11 u12 u13 u14 u15 u16 u17 u18 u19 u20 u21 u22 u23 u24 u25 u26 u27 u28 u29 u30 u31 u32 u33 u34 u35 u36 u37 u38 u39 u40 u41 u42 u43 u44 u45 u46 u47 u48 u49 u50 u51 u52 u53 u54 u55 u56 u57 u58 u59 u60 u61 u62 u63 u64 u65 u66 u67 u68 u69 u70 u71 u72 u73 u74 u75 u76 u77 u78 u79 u80 u81 u82 u83 u84 u85 u86 u87 u88 u89 u90 u91 u92 u93 u94 u95 u96 u97 u98 u99 u100 u101 u102 u103 u104 u105 u106 u107 u108 u109 u110 u111 u112 u113 u114 u115 u116 u117 u118 u119 u120 u121 u122 u123 u124 u125 u126 u127 u128 u129 u130 u131 u132 u133 u134 u135 u136 u137 u138 u139 u140 u141 u142 u143 u144 u145 u146 u147 u148 u149 u150 u151 u152 u153 u154 u155 u156 u157 u158 u159 u160 u161 u162 u163 u164 u165 u166 u167 u168 u169 u170 u171 u172 u173 u174 u175 u176 u177 u178 u179 u180 u181 u182 u183 u184 u185 u186 u187 u188 u189 u190 u191 u192 u193 u194 u195 u196 u197 u198 u199 u200 u201 u202 u203 u204 u205 u206 u207 u208 u209 u210 u211 u212 u213 u214 u215 u216 u217 u218 u219 u220 u221 u222 u223 u224 u225 u226 u227 u228 u229 u230 u231 u232 u233 u234 u235 u236 u237 u238 u239 u240 u241 u242 u243 u244 u245 u246 u247 u248 u249 u250 u251 u252 u253 u254 u255 u256 u257 u258 u259 u260 u261 u262 u263 u264 u265 u266 u267 u268 u269 u270 u271 u272 u273 u274 u275 u276 u277 u278 u279 u280 u281 u282 u283 u284 u285 u286 u287 u288 u289 u290 : Value) (w : World) (c xa ma q : Nat) (it : It) (g b r : Nat) (v : Value) (L : List SE) (g' b' r' : Nat) (v' : Value) (L' : List SE) (W : World)
    (hP : ∀ c (a a' : Act) w, a.defers = a'.defers → Q (.panic c) a w → Q (.panic c) a' w) (hx : it.Fits) (hT : Nm.Tabs w) (hS : StpSt w c xa ma q it g b r v L L g' b' r' v' L' W)
    (HK : ∀ (t225 t226 t227 t228 t229 t230 t231 t232 t233 t234 t235 t236 : Value) (E : Nat) (w' : World), w'.heap[E]? = some (.cells (freshX it.path it.se L).1.cells.toArray 44) → Below W.heap.size W w' → Q .normal ⟨#[u0, u1, u2, .pointer (some ⟨xa, 0, none⟩), .pointer (some ⟨ma, 0, none⟩), u5, .int .i64 (c : Int), .pointer (some ⟨q, 0, none⟩), u8, u9, u10, u11, u12, u13, u14, u15, u16, u17, u18, u19, u20, .pointer (some ⟨E, 0, none⟩), .bool (freshX it.path it.se L).2, u23, u24, u25, u26, u27, u28, u29, u30, u31, u32, u33, u34, u35, u36, u37, u38, u39, u40, u41, u42, u43, u44, u45, u46, u47, u48, u49, u50, u51, u52, u53, u54, u55, u56, u57, u58, u59, u60, u61, u62, u63, u64, u65, u66, u67, u68, u69, u70, u71, u72, u73, u74, u75, u76, u77, u78, u79, u80, u81, u82, u83, u84, u85, u86, u87, u88, u89, u90, u91, u92, u93, u94, u95, u96, u97, u98, u99, u100, u101, u102, u103, u104, u105, u106, u107, u108, u109, u110, u111, u112, u113, u114, u115, u116, u117, u118, u119, u120, u121, u122, u123, u124, u125, u126, u127, u128, u129, u130, u131, u132, u133, u134, u135, u136, u137, u138, u139, u140, u141, u142, u143, u144, u145, u146, u147, u148, u149, u150, u151, u152, u153, u154, u155, u156, u157, u158, u159, u160, u161, u162, u163, u164, u165, u166, u167, u168, u169, u170, u171, u172, u173, u174, u175, u176, u177, u178, u179, u180, u181, u182, u183, u184, u185, u186, u187, u188, u189, u190, u191, u192, u193, u194, u195, u196, u197, u198, u199, u200, u201, u202, u203, u204, u205, u206, u207, u208, u209, u210, u211, u212, u213, u214, u215, u216, u217, u218, u219, u220, u221, u222, u223, u224, t225, t226, t227, t228, t229, t230, t231, t232, t233, t234, t235, t236, u237, u238, u239, u240, u241, u242, u243, u244, u245, u246, u247, u248, u249, u250, u251, u252, u253, u254, u255, u256, u257, u258, u259, u260, u261, u262, u263, u264, u265, u266, u267, u268, u269, u270, u271, u272, u273, u274, u275, u276, u277, u278, u279, u280, u281, u282, u283, u284, u285, u286, u287, u288, u289, u290], []⟩ w') :
    Code.wp Tryz.prog (regF 41) Q ⟨#[u0, u1, u2, .pointer (some ⟨xa, 0, none⟩), .pointer (some ⟨ma, 0, none⟩), u5, .int .i64 (c : Int), .pointer (some ⟨q, 0, none⟩), u8, u9, u10, u11, u12, u13, u14, u15, u16, u17, u18, u19, u20, u21, u22, u23, u24, u25, u26, u27, u28, u29, u30, u31, u32, u33, u34, u35, u36, u37, u38, u39, u40, u41, u42, u43, u44, u45, u46, u47, u48, u49, u50, u51, u52, u53, u54, u55, u56, u57, u58, u59, u60, u61, u62, u63, u64, u65, u66, u67, u68, u69, u70, u71, u72, u73, u74, u75, u76, u77, u78, u79, u80, u81, u82, u83, u84, u85, u86, u87, u88, u89, u90, u91, u92, u93, u94, u95, u96, u97, u98, u99, u100, u101, u102, u103, u104, u105, u106, u107, u108, u109, u110, u111, u112, u113, u114, u115, u116, u117, u118, u119, u120, u121, u122, u123, u124, u125, u126, u127, u128, u129, u130, u131, u132, u133, u134, u135, u136, u137, u138, u139, u140, u141, u142, u143, u144, u145, u146, u147, u148, u149, u150, u151, u152, u153, u154, u155, u156, u157, u158, u159, u160, u161, u162, u163, u164, u165, u166, u167, u168, u169, u170, u171, u172, u173, u174, u175, u176, u177, u178, u179, u180, u181, u182, u183, u184, u185, u186, u187, u188, u189, u190, u191, u192, u193, u194, u195, u196, u197, u198, u199, u200, u201, u202, u203, u204, u205, u206, u207, u208, u209, u210, u211, u212, u213, u214, u215, u216, u217, u218, u219, u220, u221, u222, u223, u224, u225, u226, u227, u228, u229, u230, u231, u232, u233, u234, u235, u236, u237, u238, u239, u240, u241, u242, u243, u244, u245, u246, u247, u248, u249, u250, u251, u252, u253, u254, u255, u256, u257, u258, u259, u260, u261, u262, u263, u264, u265, u266, u267, u268, u269, u270, u271, u272, u273, u274, u275, u276, u277, u278, u279, u280, u281, u282, u283, u284, u285, u286, u287, u288, u289, u290], []⟩ W := by
  have hST := Lib.hid hS
  have hc2 : (c : Int) < 2 := by have := hS.run.hc; omega
  have HX := Lib.hid hx
  have hsz : (⟨it.path.toArray⟩ : ByteArray).size ≤ maxLen := by show it.path.length ≤ _; have := hx.path; unfold maxLen; omega
  have CI : Hid (∀ W', Below W.heap.size W W' → Calls Tryz.prog 9 #[.agg it.cells.toArray] W' fun e w' => e = .returned (enV it.se) ∧ Below W'.heap.size W' w') := Lib.hid (fun W' _ => in_any W' it HX.out)
  have CF : Hid (∀ W', Below W.heap.size W W' → Calls Tryz.prog 22 #[.pointer (some ⟨g, 0, none⟩), .string ⟨it.path.toArray⟩, .agg it.se.stat.toArray] W' fun e w' => e = .returned (.tuple #[enV (freshX it.path it.se L).1, .bool (freshX it.path it.se L).2]) ∧ Below W'.heap.size W' w') := Lib.hid (fun W' h => by
    have := fresh_any w.heap.size W' g b L ⟨it.path.toArray⟩ hsz it.se (hS.run.below h).cur.ix
    rw [ba_data] at this
    exact this)
  have EOK := Lib.hid (fresh_fits hS.run.cur.ix.fits it.path it.se).en
  obtain ⟨⟨V, vc⟩, hV⟩ : ∃ V, V = (freshX it.path it.se L) := ⟨_, rfl⟩
  rw [← hV] at EOK HK
  simp only [← hV] at CF
  dsimp only at EOK HK CF
  clear hV hx hT hS hsz
  conv => arg 2; whnf
  refine wp_region_held_drew (S := (fun w' : World => Bs c xa ma q g r it w')) (by kernel_rfl) (show Bs c xa ma q g r it W.drew from hST.out.drew.bs) (fun hHeld => ?_)
  refine wpAnyH_take (i := 0) (v := ?_) rfl (by kernel_rfl) (by kernel_rfl) (by kernel_rfl) (fun _ _ _ h => hP _ _ _ _ (by rfl) h) (Or.inl ⟨by rfl, ?ra0⟩) hHeld ?_
  case ra0 =>
    intro wS hSw
    obtain ⟨k0, k1, k2⟩ := hSw
    have k3 := ItAt.path k2
    go_simp
    try with_reducible rfl
  try simp only [Act.put, List.getElem_toArray, List.getElem_cons_zero, List.getElem_cons_succ, List.setIfInBounds_toArray, List.set_cons_zero, List.set_cons_succ]
  refine wpAnyH_take (i := 1) (v := ?_) rfl (by kernel_rfl) (by kernel_rfl) (by kernel_rfl) (fun _ _ _ h => hP _ _ _ _ (by rfl) h) (Or.inl ⟨by rfl, ?ra1⟩) hHeld ?_
  case ra1 =>
    intro wS hSw
    obtain ⟨k0, k1, k2⟩ := hSw
    have k3 := ItAt.path k2
    go_simp
    try with_reducible rfl
  try simp only [Act.put, List.getElem_toArray, List.getElem_cons_zero, List.getElem_cons_succ, List.setIfInBounds_toArray, List.set_cons_zero, List.set_cons_succ]
  refine wpAnyH_take (i := 2) (v := ?_) rfl (by kernel_rfl) (by kernel_rfl) (by kernel_rfl) (fun _ _ _ h => hP _ _ _ _ (by rfl) h) (Or.inl ⟨by rfl, ?ra2⟩) hHeld ?_
  case ra2 =>
    intro wS hSw
    obtain ⟨k0, k1, k2⟩ := hSw
    have k3 := ItAt.path k2
    go_simp
    try with_reducible rfl
  try simp only [Act.put, List.getElem_toArray, List.getElem_cons_zero, List.getElem_cons_succ, List.setIfInBounds_toArray, List.set_cons_zero, List.set_cons_succ]
  refine wpAnyH_take (i := 3) (v := ?_) rfl (by kernel_rfl) (by kernel_rfl) (by kernel_rfl) (fun _ _ _ h => hP _ _ _ _ (by rfl) h) (Or.inl ⟨by rfl, ?ra3⟩) hHeld ?_
  case ra3 =>
    intro wS hSw
    obtain ⟨k0, k1, k2⟩ := hSw
    have k3 := ItAt.path k2
    go_simp
    try with_reducible rfl
  try simp only [Act.put, List.getElem_toArray, List.getElem_cons_zero, List.getElem_cons_succ, List.setIfInBounds_toArray, List.set_cons_zero, List.set_cons_succ]
  refine wpAnyH_take (i := 4) (v := ?_) rfl (by kernel_rfl) (by kernel_rfl) (by kernel_rfl) (fun _ _ _ h => hP _ _ _ _ (by rfl) h) (Or.inl ⟨by rfl, ?ra4⟩) hHeld ?_
  case ra4 =>
    intro wS hSw
    obtain ⟨k0, k1, k2⟩ := hSw
    have k3 := ItAt.path k2
    go_simp
    try with_reducible rfl
  try simp only [Act.put, List.getElem_toArray, List.getElem_cons_zero, List.getElem_cons_succ, List.setIfInBounds_toArray, List.set_cons_zero, List.set_cons_succ]
  refine' wpAnyH_take (i := 5) (v := _) rfl (by kernel_rfl) (by kernel_rfl) (by kernel_rfl) (fun _ _ _ h => hP _ _ _ _ (by rfl) h) (yieldsIf_load_mid (by rfl) _ _ rfl q 0 rfl it.cells _ ?ra5S ?ra5u ?ra5d ?ra5i) hHeld ?ra5x
  case ra5S =>
    intro wS hSw
    exact ItAt.range hSw.iq
  case ra5u => exact Tryz.underlying33
  case ra5d => rfl
  case ra5i => exact (info33 it)
  try simp only [Act.put, List.getElem_toArray, List.getElem_cons_zero, List.getElem_cons_succ, List.setIfInBounds_toArray, List.set_cons_zero, List.set_cons_succ]
  refine wpAnyH_ready (rs := [6, 12]) (by kernel_rfl) (by simp) ?_
  refine AllReadyH.cons rfl (fun K hK => ?_) (AllReadyH.cons rfl (fun K hK => ?_) AllReadyH.nil)
  · skip
    go_simp
    refine (CI.out _ ((Below.refl W.heap.size W).drew)).mono ?_
    rintro ex wx1 ⟨rfl, hbwx1⟩
    have HBwx1 : Hid (Below W.heap.size W wx1) := Lib.hid ((((Below.refl W.heap.size W).drew)).trans (hbwx1.mono (((Below.refl W.heap.size W).drew)).size))
    have HSwx1 := Lib.hid (hST.out.below HBwx1.out).bs
    clear hbwx1
    go_wp2_with fail
    refine hK.out _ _ HSwx1.out (fun hHeld2 => ?_)
    clear hK K hHeld
    have hHeld := hHeld2
    clear hHeld2
    try simp only [Act.put, List.getElem_toArray, List.getElem_cons_zero, List.getElem_cons_succ, List.setIfInBounds_toArray, List.set_cons_zero, List.set_cons_succ]
    refine wpAnyH_take (i := 7) (v := .agg it.se.stat.toArray) rfl (by kernel_rfl) (by kernel_rfl) (by kernel_rfl) (fun _ _ _ h => hP _ _ _ _ (by rfl) h) (Or.inl ⟨by rfl, ?ra7⟩) hHeld ?_
    case ra7 =>
      intro wS hSw
      clear hSw hHeld
      go_simp
      try with_reducible rfl
      try rfl
    try simp only [Act.put, List.getElem_toArray, List.getElem_cons_zero, List.getElem_cons_succ, List.setIfInBounds_toArray, List.set_cons_zero, List.set_cons_succ]
    refine wpAnyH_ready (rs := [8, 12]) (by kernel_rfl) (by simp) ?_
    refine AllReadyH.cons rfl (fun K hK => ?_) (AllReadyH.cons rfl (fun K hK => ?_) AllReadyH.nil)
    · skip
      go_simp
      refine (CF.out _ HBwx1.out).mono ?_
      rintro ex wx2 ⟨rfl, hbwx2⟩
      have HBwx2 : Hid (Below W.heap.size W wx2) := Lib.hid ((HBwx1.out).trans (hbwx2.mono (HBwx1.out).size))
      have HSwx2 := Lib.hid (hST.out.below HBwx2.out).bs
      clear hbwx2
      go_wp2_with fail
      refine hK.out _ _ HSwx2.out (fun hHeld2 => ?_)
      clear hK K hHeld
      have hHeld := hHeld2
      clear hHeld2
      try simp only [Act.put, List.getElem_toArray, List.getElem_cons_zero, List.getElem_cons_succ, List.setIfInBounds_toArray, List.set_cons_zero, List.set_cons_succ]
      refine wpAnyH_take (i := 9) (v := ?_) rfl (by kernel_rfl) (by kernel_rfl) (by kernel_rfl) (fun _ _ _ h => hP _ _ _ _ (by rfl) h) (Or.inl ⟨by rfl, ?ra9⟩) hHeld ?_
      case ra9 =>
        intro wS hSw
        obtain ⟨k0, k1, k2⟩ := hSw
        have k3 := ItAt.path k2
        go_simp
        try with_reducible rfl
      try simp only [Act.put, List.getElem_toArray, List.getElem_cons_zero, List.getElem_cons_succ, List.setIfInBounds_toArray, List.set_cons_zero, List.set_cons_succ]
      refine wpAnyH_take (i := 10) (v := ?_) rfl (by kernel_rfl) (by kernel_rfl) (by kernel_rfl) (fun _ _ _ h => hP _ _ _ _ (by rfl) h) (Or.inl ⟨by rfl, ?ra10⟩) hHeld ?_
      case ra10 =>
        intro wS hSw
        obtain ⟨k0, k1, k2⟩ := hSw
        have k3 := ItAt.path k2
        go_simp
        try with_reducible rfl
      try simp only [Act.put, List.getElem_toArray, List.getElem_cons_zero, List.getElem_cons_succ, List.setIfInBounds_toArray, List.set_cons_zero, List.set_cons_succ]
      refine wpAnyH_take (i := 11) (v := ?_) rfl (by kernel_rfl) (by kernel_rfl) (by kernel_rfl) (fun _ _ _ h => hP _ _ _ _ (by rfl) h) (Or.inl ⟨by rfl, ?ra11⟩) hHeld ?_
      case ra11 =>
        intro wS hSw
        obtain ⟨k0, k1, k2⟩ := hSw
        have k3 := ItAt.path k2
        go_simp
        try with_reducible rfl
      try simp only [Act.put, List.getElem_toArray, List.getElem_cons_zero, List.getElem_cons_succ, List.setIfInBounds_toArray, List.set_cons_zero, List.set_cons_succ]
      refine wpAnyH_ready (rs := [12]) (by kernel_rfl) (by simp) ?_
      refine AllReadyH.cons rfl (fun K hK => ?_) AllReadyH.nil
      have HAx3 : Hid ((wx2.alloc (.cells zeroS.cells.toArray 44)).heap[wx2.heap.size]? = some (.cells zeroS.cells.toArray 44)) := Lib.hid (MapKept.heap_alloc wx2 (.cells zeroS.cells.toArray 44)).1
      have HBx3 : Hid (Below W.heap.size W (wx2.alloc (.cells zeroS.cells.toArray 44))) := Lib.hid ((HBwx2.out).alloc (HBwx2.out).size (.cells zeroS.cells.toArray 44))
      have GEx3 : Hid (W.heap.size ≤ wx2.heap.size) := Lib.hid (HBwx2.out).size
      have HSx3 := Lib.hid (hST.out.below HBx3.out).bs
      go_simp
      refine hK.out _ _ HSx3.out (fun hHeld2 => ?_)
      clear hK K hHeld
      have hHeld := hHeld2
      clear hHeld2
      try simp only [Act.put, List.getElem_toArray, List.getElem_cons_zero, List.getElem_cons_succ, List.setIfInBounds_toArray, List.set_cons_zero, List.set_cons_succ]
      refine wpAnyH_ready (rs := [13]) (by kernel_rfl) (by simp) ?_
      refine AllReadyH.cons rfl (fun K hK => ?_) AllReadyH.nil
      refine step_wp rfl ?_
      refine wp_store_new (w := wx2) (p := wx2.heap.size) rfl _ _ _ rfl V.cells.toArray ?sawx4 ?sbwx4 EOK.out.info ?scwx4 EOK.out.one ?sdwx4
      case sawx4 => rfl
      case sbwx4 => rfl
      case scwx4 => exact EOK.out.z
      intro wx4 hqwx4 hbwx4 _
      have HBwx4 : Hid (Below W.heap.size W wx4) := Lib.hid ((HBwx2.out).trans (hbwx4.mono (HBwx2.out).size))
      have HQwx4 := Lib.hid hqwx4
      have HSwx4 := Lib.hid (hST.out.below HBwx4.out).bs
      refine hK.out _ _ HSwx4.out (fun hHeld2 => ?_)
      clear hK K hHeld
      have hHeld := hHeld2
      clear hHeld2
      try simp only [Act.put, List.getElem_toArray, List.getElem_cons_zero, List.getElem_cons_succ, List.setIfInBounds_toArray, List.set_cons_zero, List.set_cons_succ]
      refine wpAnyH_ready (rs := [14]) (by kernel_rfl) (by simp) ?_
      refine AllReadyH.cons rfl (fun K hK => ?_) AllReadyH.nil
      go_simp
      refine hK.out _ _ HSwx4.out (fun hHeld2 => ?_)
      clear hK K hHeld
      have hHeld := hHeld2
      clear hHeld2
      try simp only [Act.put, List.getElem_toArray, List.getElem_cons_zero, List.getElem_cons_succ, List.setIfInBounds_toArray, List.set_cons_zero, List.set_cons_succ]
      refine wpAnyH_done (by kernel_rfl) ?_ _
      clear hHeld
      try simp only [Act.put, List.getElem_toArray, List.getElem_cons_zero, List.getElem_cons_succ, List.setIfInBounds_toArray, List.set_cons_zero, List.set_cons_succ]
      exact HK _ _ _ _ _ _ _ _ _ _ _ _ _ wx4 HQwx4.out HBwx4.out
    · skip
      have HAx5 : Hid ((wx1.alloc (.cells zeroS.cells.toArray 44)).heap[wx1.heap.size]? = some (.cells zeroS.cells.toArray 44)) := Lib.hid (MapKept.heap_alloc wx1 (.cells zeroS.cells.toArray 44)).1
      have HBx5 : Hid (Below W.heap.size W (wx1.alloc (.cells zeroS.cells.toArray 44))) := Lib.hid ((HBwx1.out).alloc (HBwx1.out).size (.cells zeroS.cells.toArray 44))
      have GEx5 : Hid (W.heap.size ≤ wx1.heap.size) := Lib.hid (HBwx1.out).size
      have HSx5 := Lib.hid (hST.out.below HBx5.out).bs
      go_simp
      refine hK.out _ _ HSx5.out (fun hHeld2 => ?_)
      clear hK K hHeld
      have hHeld := hHeld2
      clear hHeld2
      try simp only [Act.put, List.getElem_toArray, List.getElem_cons_zero, List.getElem_cons_succ, List.setIfInBounds_toArray, List.set_cons_zero, List.set_cons_succ]
      refine wpAnyH_ready (rs := [8]) (by kernel_rfl) (by simp) ?_
      refine AllReadyH.cons rfl (fun K hK => ?_) AllReadyH.nil
      go_simp
      refine (CF.out _ HBx5.out).mono ?_
      rintro ex wx6 ⟨rfl, hbwx6⟩
      have HBwx6 : Hid (Below W.heap.size W wx6) := Lib.hid ((HBx5.out).trans (hbwx6.mono (HBx5.out).size))
      have HSwx6 := Lib.hid (hST.out.below HBwx6.out).bs
      have HAwx6 := Lib.hid ((hbwx6.block _ (lt_of_heap HAx5.out)).trans HAx5.out)
      clear hbwx6
      go_wp2_with fail
      refine hK.out _ _ HSwx6.out (fun hHeld2 => ?_)
      clear hK K hHeld
      have hHeld := hHeld2
      clear hHeld2
      try simp only [Act.put, List.getElem_toArray, List.getElem_cons_zero, List.getElem_cons_succ, List.setIfInBounds_toArray, List.set_cons_zero, List.set_cons_succ]
      refine wpAnyH_take (i := 9) (v := ?_) rfl (by kernel_rfl) (by kernel_rfl) (by kernel_rfl) (fun _ _ _ h => hP _ _ _ _ (by rfl) h) (Or.inl ⟨by rfl, ?ra17⟩) hHeld ?_
      case ra17 =>
        intro wS hSw
        obtain ⟨k0, k1, k2⟩ := hSw
        have k3 := ItAt.path k2
        go_simp
        try with_reducible rfl
      try simp only [Act.put, List.getElem_toArray, List.getElem_cons_zero, List.getElem_cons_succ, List.setIfInBounds_toArray, List.set_cons_zero, List.set_cons_succ]
      refine wpAnyH_take (i := 10) (v := ?_) rfl (by kernel_rfl) (by kernel_rfl) (by kernel_rfl) (fun _ _ _ h => hP _ _ _ _ (by rfl) h) (Or.inl ⟨by rfl, ?ra18⟩) hHeld ?_
      case ra18 =>
        intro wS hSw
        obtain ⟨k0, k1, k2⟩ := hSw
        have k3 := ItAt.path k2
        go_simp
        try with_reducible rfl
      try simp only [Act.put, List.getElem_toArray, List.getElem_cons_zero, List.getElem_cons_succ, List.setIfInBounds_toArray, List.set_cons_zero, List.set_cons_succ]
      refine wpAnyH_take (i := 11) (v := ?_) rfl (by kernel_rfl) (by kernel_rfl) (by kernel_rfl) (fun _ _ _ h => hP _ _ _ _ (by rfl) h) (Or.inl ⟨by rfl, ?ra19⟩) hHeld ?_
      case ra19 =>
        intro wS hSw
        obtain ⟨k0, k1, k2⟩ := hSw
        have k3 := ItAt.path k2
        go_simp
        try with_reducible rfl
      try simp only [Act.put, List.getElem_toArray, List.getElem_cons_zero, List.getElem_cons_succ, List.setIfInBounds_toArray, List.set_cons_zero, List.set_cons_succ]
      refine wpAnyH_ready (rs := [13]) (by kernel_rfl) (by simp) ?_
      refine AllReadyH.cons rfl (fun K hK => ?_) AllReadyH.nil
      refine step_wp rfl ?_
      refine wp_store_at HAwx6.out _ _ _ rfl V.cells.toArray ?sawx7 ?sbwx7 EOK.out.info ?scwx7 EOK.out.one ?sdwx7
      case sawx7 => rfl
      case sbwx7 => rfl
      case scwx7 => exact EOK.out.z
      intro wx7 hqwx7 htwx7 _
      have HBwx7 : Hid (Below W.heap.size W wx7) := Lib.hid ((HBwx6.out).trans (htwx7.below (by intro x hx; simp at hx; subst hx; exact GEx5.out) (HBwx6.out).size))
      have HQwx7 := Lib.hid hqwx7
      have HSwx7 := Lib.hid (hST.out.below HBwx7.out).bs
      refine hK.out _ _ HSwx7.out (fun hHeld2 => ?_)
      clear hK K hHeld
      have hHeld := hHeld2
      clear hHeld2
      try simp only [Act.put, List.getElem_toArray, List.getElem_cons_zero, List.getElem_cons_succ, List.setIfInBounds_toArray, List.set_cons_zero, List.set_cons_succ]
      refine wpAnyH_ready (rs := [14]) (by kernel_rfl) (by simp) ?_
      refine AllReadyH.cons rfl (fun K hK => ?_) AllReadyH.nil
      go_simp
      refine hK.out _ _ HSwx7.out (fun hHeld2 => ?_)
      clear hK K hHeld
      have hHeld := hHeld2
      clear hHeld2
      try simp only [Act.put, List.getElem_toArray, List.getElem_cons_zero, List.getElem_cons_succ, List.setIfInBounds_toArray, List.set_cons_zero, List.set_cons_succ]
      refine wpAnyH_done (by kernel_rfl) ?_ _
      clear hHeld
      try simp only [Act.put, List.getElem_toArray, List.getElem_cons_zero, List.getElem_cons_succ, List.setIfInBounds_toArray, List.set_cons_zero, List.set_cons_succ]
      exact HK _ _ _ _ _ _ _ _ _ _ _ _ _ wx7 HQwx7.out HBwx7.out
  · skip
    have HAx8 : Hid ((W.alloc (.cells zeroS.cells.toArray 44)).drew.heap[W.heap.size]? = some (.cells zeroS.cells.toArray 44)) := Lib.hid (MapKept.heap_alloc W (.cells zeroS.cells.toArray 44)).1
    have HBx8 : Hid (Below W.heap.size W (W.alloc (.cells zeroS.cells.toArray 44)).drew) := Lib.hid (((Below.refl W.heap.size W).alloc (Nat.le_refl _) (.cells zeroS.cells.toArray 44)).drew)
    have GEx8 : Hid (W.heap.size ≤ W.heap.size) := Lib.hid (Nat.le_refl _)
    have HSx8 := Lib.hid (hST.out.below HBx8.out).bs
    go_simp
    refine hK.out _ _ HSx8.out (fun hHeld2 => ?_)
    clear hK K hHeld
    have hHeld := hHeld2
    clear hHeld2
    try simp only [Act.put, List.getElem_toArray, List.getElem_cons_zero, List.getElem_cons_succ, List.setIfInBounds_toArray, List.set_cons_zero, List.set_cons_succ]
    refine wpAnyH_ready (rs := [6]) (by kernel_rfl) (by simp) ?_
    refine AllReadyH.cons rfl (fun K hK => ?_) AllReadyH.nil
    go_simp
    refine (CI.out _ HBx8.out).mono ?_
    rintro ex wx9 ⟨rfl, hbwx9⟩
    have HBwx9 : Hid (Below W.heap.size W wx9) := Lib.hid ((HBx8.out).trans (hbwx9.mono (HBx8.out).size))
    have HSwx9 := Lib.hid (hST.out.below HBwx9.out).bs
    have HAwx9 := Lib.hid ((hbwx9.block _ (lt_of_heap HAx8.out)).trans HAx8.out)
    clear hbwx9
    go_wp2_with fail
    refine hK.out _ _ HSwx9.out (fun hHeld2 => ?_)
    clear hK K hHeld
    have hHeld := hHeld2
    clear hHeld2
    try simp only [Act.put, List.getElem_toArray, List.getElem_cons_zero, List.getElem_cons_succ, List.setIfInBounds_toArray, List.set_cons_zero, List.set_cons_succ]
    refine wpAnyH_take (i := 7) (v := .agg it.se.stat.toArray) rfl (by kernel_rfl) (by kernel_rfl) (by kernel_rfl) (fun _ _ _ h => hP _ _ _ _ (by rfl) h) (Or.inl ⟨by rfl, ?ra24⟩) hHeld ?_
    case ra24 =>
      intro wS hSw
      clear hSw hHeld
      go_simp
      try with_reducible rfl
      try rfl
    try simp only [Act.put, List.getElem_toArray, List.getElem_cons_zero, List.getElem_cons_succ, List.setIfInBounds_toArray, List.set_cons_zero, List.set_cons_succ]
    refine wpAnyH_ready (rs := [8]) (by kernel_rfl) (by simp) ?_
    refine AllReadyH.cons rfl (fun K hK => ?_) AllReadyH.nil
    go_simp
    refine (CF.out _ HBwx9.out).mono ?_
    rintro ex wx10 ⟨rfl, hbwx10⟩
    have HBwx10 : Hid (Below W.heap.size W wx10) := Lib.hid ((HBwx9.out).trans (hbwx10.mono (HBwx9.out).size))
    have HSwx10 := Lib.hid (hST.out.below HBwx10.out).bs
    have HAwx10 := Lib.hid ((hbwx10.block _ (lt_of_heap HAwx9.out)).trans HAwx9.out)
    clear hbwx10
    go_wp2_with fail
    refine hK.out _ _ HSwx10.out (fun hHeld2 => ?_)
    clear hK K hHeld
    have hHeld := hHeld2
    clear hHeld2
    try simp only [Act.put, List.getElem_toArray, List.getElem_cons_zero, List.getElem_cons_succ, List.setIfInBounds_toArray, List.set_cons_zero, List.set_cons_succ]
    refine wpAnyH_take (i := 9) (v := ?_) rfl (by kernel_rfl) (by kernel_rfl) (by kernel_rfl) (fun _ _ _ h => hP _ _ _ _ (by rfl) h) (Or.inl ⟨by rfl, ?ra26⟩) hHeld ?_
    case ra26 =>
      intro wS hSw
      obtain ⟨k0, k1, k2⟩ := hSw
      have k3 := ItAt.path k2
      go_simp
      try with_reducible rfl
    try simp only [Act.put, List.getElem_toArray, List.getElem_cons_zero, List.getElem_cons_succ, List.setIfInBounds_toArray, List.set_cons_zero, List.set_cons_succ]
    refine wpAnyH_take (i := 10) (v := ?_) rfl (by kernel_rfl) (by kernel_rfl) (by kernel_rfl) (fun _ _ _ h => hP _ _ _ _ (by rfl) h) (Or.inl ⟨by rfl, ?ra27⟩) hHeld ?_
    case ra27 =>
      intro wS hSw
      obtain ⟨k0, k1, k2⟩ := hSw
      have k3 := ItAt.path k2
      go_simp
      try with_reducible rfl
    try simp only [Act.put, List.getElem_toArray, List.getElem_cons_zero, List.getElem_cons_succ, List.setIfInBounds_toArray, List.set_cons_zero, List.set_cons_succ]
    refine wpAnyH_take (i := 11) (v := ?_) rfl (by kernel_rfl) (by kernel_rfl) (by kernel_rfl) (fun _ _ _ h => hP _ _ _ _ (by rfl) h) (Or.inl ⟨by rfl, ?ra28⟩) hHeld ?_
    case ra28 =>
      intro wS hSw
      obtain ⟨k0, k1, k2⟩ := hSw
      have k3 := ItAt.path k2
      go_simp
      try with_reducible rfl
    try simp only [Act.put, List.getElem_toArray, List.getElem_cons_zero, List.getElem_cons_succ, List.setIfInBounds_toArray, List.set_cons_zero, List.set_cons_succ]
    refine wpAnyH_ready (rs := [13]) (by kernel_rfl) (by simp) ?_
    refine AllReadyH.cons rfl (fun K hK => ?_) AllReadyH.nil
    refine step_wp rfl ?_
    refine wp_store_at HAwx10.out _ _ _ rfl V.cells.toArray ?sawx11 ?sbwx11 EOK.out.info ?scwx11 EOK.out.one ?sdwx11
    case sawx11 => rfl
    case sbwx11 => rfl
    case scwx11 => exact EOK.out.z
    intro wx11 hqwx11 htwx11 _
    have HBwx11 : Hid (Below W.heap.size W wx11) := Lib.hid ((HBwx10.out).trans (htwx11.below (by intro x hx; simp at hx; subst hx; exact GEx8.out) (HBwx10.out).size))
    have HQwx11 := Lib.hid hqwx11
    have HSwx11 := Lib.hid (hST.out.below HBwx11.out).bs
    refine hK.out _ _ HSwx11.out (fun hHeld2 => ?_)
    clear hK K hHeld
    have hHeld := hHeld2
    clear hHeld2
    try simp only [Act.put, List.getElem_toArray, List.getElem_cons_zero, List.getElem_cons_succ, List.setIfInBounds_toArray, List.set_cons_zero, List.set_cons_succ]
    refine wpAnyH_ready (rs := [14]) (by kernel_rfl) (by simp) ?_
    refine AllReadyH.cons rfl (fun K hK => ?_) AllReadyH.nil
    go_simp
    refine hK.out _ _ HSwx11.out (fun hHeld2 => ?_)
    clear hK K hHeld
    have hHeld := hHeld2
    clear hHeld2
    try simp only [Act.put, List.getElem_toArray, List.getElem_cons_zero, List.getElem_cons_succ, List.setIfInBounds_toArray, List.set_cons_zero, List.set_cons_succ]
    refine wpAnyH_done (by kernel_rfl) ?_ _
    clear hHeld
    try simp only [Act.put, List.getElem_toArray, List.getElem_cons_zero, List.getElem_cons_succ, List.setIfInBounds_toArray, List.set_cons_zero, List.set_cons_succ]
    exact HK _ _ _ _ _ _ _ _ _ _ _ _ _ wx11 HQwx11.out HBwx11.out
end Go.Proofs.YtpbhkaokgpacoaaGreatDoor.St
