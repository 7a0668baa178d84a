import Derived.Test.YthcjjekkjbidlaaDoorZPSrPieces
set_option linter.unusedSimpArgs false
set_option linter.unusedVariables false
/-
  SourceHonest's walk: no two nodes have one number, or one path.
-/
namespace Go.Proofs.YthcjjekkjbidlaaDoor.Sr
open Go.RowKit Go.Maps Go.WideMaps Go.Proofs.YthcjjekkjbidlaaDoor.Rf Go.Proofs.YthcjjekkjbidlaaDoor.Nm Go.Proofs.YthcjjekkjbidlaaDoor.St
set_option linter.unusedSimpArgs false in
set_option maxHeartbeats 40000000 in
set_option maxRecDepth 100000 in
theorem hn_b4 {Q : Exit → Act → World → Prop} (u0 u1 u2 u3 u4 u5 u6 u7 u8 u9 u11 u12 u16 u17 u18 u19 u20 u21 u22 u23 u24 u25 u26 u27 u28 u29 u30 u31 u32 u33 u34 u35 u36 u37 u38 u39 u40 u41 u42 u43 u44 u45 u46 u47 u48 u49 u50 u51 u52 u53 u54 u55 u56 u57 u58 u59 u60 u61 u62 u63 u64 u65 u66 u67 u68 u69 u70 u71 u72 u73 u74 u75 u76 u77 u78 u79 u80 u81 u82 u83 u84 u85 u86 u87 u88 u89 u90 u91 u92 u93 u94 u95 u96 u97 u98 u99 u100 u101 u102 u103 u104 u105 u106 u107 u108 u109 u110 u111 u112 u113 u114 u115 u116 u117 u118 u119 u120 u121 u122 u123 u124 u125 u126 u127 u128 u129 u130 u131 u132 u133 u134 u135 u136 u137 u138 u139 u140 u141 u142 u143 u144 u145 u146 u147 u148 u149 u150 u151 u152 u153 u154 u155 u156 u157 u158 u159 u160 u161 u162 u163 u164 u165 u166 u167 u168 u169 u170 u171 u172 u173 u174 u175 u176 u177 u178 u179 u180 u181 u182 u183 u184 u185 u186 u187 u188 u189 u190 u191 u192 u193 u194 u195 u196 u197 u198 u199 u200 u201 u202 u203 u204 u205 u206 u207 u208 u209 u210 u211 u212 u213 u214 u215 u216 u217 u218 u219 u220 u221 u222 u223 u224 u225 u226 u227 u228 u229 u230 u231 u232 u233 u234 u235 u236 u237 u238 u239 u240 u241 u242 u243 u244 u245 u246 u247 u248 u249 u250 u251 u252 u253 : Value) {na : Option Addr} {nc k q C : Nat} {L : List TE} {e : TE} {xv : Value} {R1 : List (TE × Value)} {w5 wr : World} {n : Nat} {T' : Tr}
    (hP : ∀ c (a a' : Act) w, a.defers = a'.defers → Q (.panic c) a w → Q (.panic c) a' w) (HL : Hid (L = T'.L)) (HO : Hid (OutAt C w5 (.slice na L.length nc) R1)) (HM : Hid (R1.map (·.1) = L)) (HB5 : Hid (Below w5.heap.size w5 wr)) (HQ : Hid (NodeVar wr q e xv)) (hk : L[k]? = some e) (hlen : L.length ≤ 1000) (G : Hid (Good n T')) (HS : Hid (SrtT T'.L))
    (HK : ∀ (t2 t15 t121 t122 t123 t124 t125 t126 t127 t128 t129 t130 t131 t132 t133 t134 t135 t136 t137 t138 t139 t140 t141 t142 t143 : Value) (w' : World), Below wr.heap.size wr w' → Q .normal ⟨#[u0, u1, t2, u3, u4, u5, u6, u7, u8, u9, .slice na L.length nc, u11, u12, .int .i64 (k : Int), .pointer (some ⟨q, 0, none⟩), t15, u16, u17, u18, u19, u20, u21, u22, u23, u24, u25, u26, u27, u28, u29, u30, u31, u32, u33, u34, u35, u36, u37, u38, u39, u40, u41, u42, u43, u44, u45, u46, u47, u48, u49, u50, u51, u52, u53, u54, u55, u56, u57, u58, u59, u60, u61, u62, u63, u64, u65, u66, u67, u68, u69, u70, u71, u72, u73, u74, u75, u76, u77, u78, u79, u80, u81, u82, u83, u84, u85, u86, u87, u88, u89, u90, u91, u92, u93, u94, u95, u96, u97, u98, u99, u100, u101, u102, u103, u104, u105, u106, u107, u108, u109, u110, u111, u112, u113, u114, u115, u116, u117, u118, u119, u120, t121, t122, t123, t124, t125, t126, t127, t128, t129, t130, t131, t132, t133, t134, t135, t136, t137, t138, t139, t140, t141, t142, t143, u144, u145, u146, u147, u148, u149, u150, u151, u152, u153, u154, u155, u156, u157, u158, u159, u160, u161, u162, u163, u164, u165, u166, u167, u168, u169, u170, u171, u172, u173, u174, u175, u176, u177, u178, u179, u180, u181, u182, u183, u184, u185, u186, u187, u188, u189, u190, u191, u192, u193, u194, u195, u196, u197, u198, u199, u200, u201, u202, u203, u204, u205, u206, u207, u208, u209, u210, u211, u212, u213, u214, u215, u216, u217, u218, u219, u220, u221, u222, u223, u224, u225, u226, u227, u228, u229, u230, u231, u232, u233, u234, u235, u236, u237, u238, u239, u240, u241, u242, u243, u244, u245, u246, u247, u248, u249, u250, u251, u252, u253], []⟩ w') :
    Code.wp Tryd.prog (hnB 4) Q ⟨#[u0, u1, u2, u3, u4, u5, u6, u7, u8, u9, .slice na L.length nc, u11, u12, .int .i64 (k : Int), .pointer (some ⟨q, 0, none⟩), .int .i64 0, u16, u17, u18, u19, u20, u21, u22, u23, u24, u25, u26, u27, u28, u29, u30, u31, u32, u33, u34, u35, u36, u37, u38, u39, u40, u41, u42, u43, u44, u45, u46, u47, u48, u49, u50, u51, u52, u53, u54, u55, u56, u57, u58, u59, u60, u61, u62, u63, u64, u65, u66, u67, u68, u69, u70, u71, u72, u73, u74, u75, u76, u77, u78, u79, u80, u81, u82, u83, u84, u85, u86, u87, u88, u89, u90, u91, u92, u93, u94, u95, u96, u97, u98, u99, u100, u101, u102, u103, u104, u105, u106, u107, u108, u109, u110, u111, u112, u113, u114, u115, u116, u117, u118, u119, u120, u121, u122, u123, u124, u125, u126, u127, u128, u129, u130, u131, u132, u133, u134, u135, u136, u137, u138, u139, u140, u141, u142, u143, u144, u145, u146, u147, u148, u149, u150, u151, u152, u153, u154, u155, u156, u157, u158, u159, u160, u161, u162, u163, u164, u165, u166, u167, u168, u169, u170, u171, u172, u173, u174, u175, u176, u177, u178, u179, u180, u181, u182, u183, u184, u185, u186, u187, u188, u189, u190, u191, u192, u193, u194, u195, u196, u197, u198, u199, u200, u201, u202, u203, u204, u205, u206, u207, u208, u209, u210, u211, u212, u213, u214, u215, u216, u217, u218, u219, u220, u221, u222, u223, u224, u225, u226, u227, u228, u229, u230, u231, u232, u233, u234, u235, u236, u237, u238, u239, u240, u241, u242, u243, u244, u245, u246, u247, u248, u249, u250, u251, u252, u253], []⟩ wr := by
  have HKH := Lib.hid HK
  clear HK
  conv => arg 2; whnf
  have hkl : k < L.length := (List.getElem?_eq_some_iff.1 hk).1
  have HK0 := Lib.hid hk
  clear hk
  go_wp2
  go_loopw [15] (fun v15 ws => ∃ m : Nat, m ≤ k ∧ v15 = .int .i64 (m : Int) ∧ Hid (Below wr.heap.size wr ws)) (fun v15 _ => k - (RowKit.intOf v15).toNat)
  case atStart => exact ⟨0, by omega, rfl, Lib.hid (Below.refl _ _)⟩
  case round =>
    rename World => ws
    obtain ⟨m, hm, rfl, HB⟩ := hrel
    by_cases hml : (m : Int) < (k : Int)
    · have hm2 : m < k := by omega
      have hmL : m < L.length := by omega
      obtain ⟨y, hy⟩ : ∃ y, L[m]? = some y := ⟨_, List.getElem?_eq_getElem hmL⟩
      obtain ⟨p, hp, hpy⟩ : ∃ p, R1[m]? = some p ∧ p.1 = y := by
        have h := hy
        rw [← HM.out, List.getElem?_map] at h
        obtain ⟨p, hp, h⟩ := Option.map_eq_some_iff.1 h
        exact ⟨p, hp, h⟩
      obtain ⟨gr, rfl, hgr, hrow⟩ := told_row HO.out hp
      rw [hpy] at hrow
      have hyT : y ∈ T'.L := by rw [← HL.out]; exact List.mem_of_getElem? hy
      have heT : e ∈ T'.L := by rw [← HL.out]; exact List.mem_of_getElem? HK0.out
      have hsr := HS.out
      have hne : ahd y.nm e.nm = true := by
        rw [← HL.out] at hsr
        have := (List.pairwise_iff_getElem.1 hsr) m k hmL hkl hm2
        rw [List.getElem?_eq_getElem hmL] at hy
        have h2 := HK0.out
        rw [List.getElem?_eq_getElem hkl] at h2
        rw [Option.some.inj hy, Option.some.inj h2] at this
        exact this
      have hnm := ahd_ne hne
      have hino : y.ino ≠ e.ino := fun h => hnm (by rw [inos_inj G.out.inos hyT heT h])
      have hpath : pathN y.nm ≠ pathN e.nm := fun h => hnm (G.out.path_inj hyT heT h)
      obtain ⟨PS1, hP1⟩ : ∃ PS1 : ByteArray, PS1 = ⟨(pathN y.nm).toArray⟩ := ⟨_, rfl⟩
      obtain ⟨PS2, hP2⟩ : ∃ PS2 : ByteArray, PS2 = ⟨(pathN e.nm).toArray⟩ := ⟨_, rfl⟩
      have hps : PS1 ≠ PS2 := by
        rw [hP1, hP2]
        intro h
        injection h with h
        exact hpath (by simpa using h)
      have hb1 : (PS1.toList == PS2.toList) = false := (Lib.bytes_beq_false_iff _ _).2 hps
      have hb2 : (((y.ino : Nat) : Int) == ((e.ino : Nat) : Int)) = false := by rw [beq_eq_false_iff_ne]; omega
      have KS : Hid (∀ w', Below wr.heap.size wr w' → w'.cell? ⟨gr, m * 11, none⟩ = some (.string PS1) ∧ w'.cell? ⟨gr, m * 11 + 9, none⟩ = some (.int .u64 (y.ino : Int)) ∧ w'.cell? ⟨q, 0, none⟩ = some (.string PS2) ∧ w'.cell? ⟨q, 9, none⟩ = some (.int .u64 (e.ino : Int))) := Lib.hid (fun w' hb => by
        obtain ⟨r1, r2, _⟩ := range_row (hrow w' (HB5.out.trans (hb.mono HB5.out.size)))
        obtain ⟨q1, _, q2, _⟩ := (HQ.out.below hb).cells
        rw [hP1, hP2]
        exact ⟨r1, r2, q1, q2⟩)
      clear hy hp hpy hrow hyT heT hsr hne hnm hino hpath hP1 hP2 hps
      go_wp2
      refine wp_region_held_drew (S := (fun w' : World => w'.cell? ⟨gr, m * 11, none⟩ = some (.string PS1) ∧ w'.cell? ⟨gr, m * 11 + 9, none⟩ = some (.int .u64 (y.ino : Int)) ∧ w'.cell? ⟨q, 0, none⟩ = some (.string PS2) ∧ w'.cell? ⟨q, 9, none⟩ = some (.int .u64 (e.ino : Int)))) (by kernel_rfl) (KS.out _ HB.out.drew) (fun hHeld => ?_)
      refine wpAnyH_take (i := 0) (v := ?_) rfl (by kernel_rfl) (by kernel_rfl) (by kernel_rfl) (fun _ _ _ h => hP _ _ _ _ (by rfl) h) (Or.inl ⟨by rfl, ?b40⟩) hHeld ?_
      case b40 =>
        intro wS hSw
        obtain ⟨k0, k1, k2, k3⟩ := hSw
        go_simp
        try with_reducible rfl
      try simp only [Act.put, List.getElem_toArray, List.getElem_cons_zero, List.getElem_cons_succ, List.setIfInBounds_toArray, List.set_cons_zero, List.set_cons_succ]
      refine wpAnyH_take (i := 1) (v := ?_) rfl (by kernel_rfl) (by kernel_rfl) (by kernel_rfl) (fun _ _ _ h => hP _ _ _ _ (by rfl) h) (Or.inl ⟨by rfl, ?b41⟩) hHeld ?_
      case b41 =>
        intro wS hSw
        obtain ⟨k0, k1, k2, k3⟩ := hSw
        go_simp
        try with_reducible rfl
      try simp only [Act.put, List.getElem_toArray, List.getElem_cons_zero, List.getElem_cons_succ, List.setIfInBounds_toArray, List.set_cons_zero, List.set_cons_succ]
      refine wpAnyH_take (i := 2) (v := ?_) rfl (by kernel_rfl) (by kernel_rfl) (by kernel_rfl) (fun _ _ _ h => hP _ _ _ _ (by rfl) h) (Or.inl ⟨by rfl, ?b42⟩) hHeld ?_
      case b42 =>
        intro wS hSw
        obtain ⟨k0, k1, k2, k3⟩ := hSw
        go_simp
        try with_reducible rfl
      try simp only [Act.put, List.getElem_toArray, List.getElem_cons_zero, List.getElem_cons_succ, List.setIfInBounds_toArray, List.set_cons_zero, List.set_cons_succ]
      refine wpAnyH_take (i := 3) (v := ?_) rfl (by kernel_rfl) (by kernel_rfl) (by kernel_rfl) (fun _ _ _ h => hP _ _ _ _ (by rfl) h) (Or.inl ⟨by rfl, ?b43⟩) hHeld ?_
      case b43 =>
        intro wS hSw
        obtain ⟨k0, k1, k2, k3⟩ := hSw
        go_simp
        try with_reducible rfl
      try simp only [Act.put, List.getElem_toArray, List.getElem_cons_zero, List.getElem_cons_succ, List.setIfInBounds_toArray, List.set_cons_zero, List.set_cons_succ]
      refine wpAnyH_take (i := 4) (v := ?_) rfl (by kernel_rfl) (by kernel_rfl) (by kernel_rfl) (fun _ _ _ h => hP _ _ _ _ (by rfl) h) (Or.inl ⟨by rfl, ?b44⟩) hHeld ?_
      case b44 =>
        intro wS hSw
        obtain ⟨k0, k1, k2, k3⟩ := hSw
        go_simp
        try with_reducible rfl
      try simp only [Act.put, List.getElem_toArray, List.getElem_cons_zero, List.getElem_cons_succ, List.setIfInBounds_toArray, List.set_cons_zero, List.set_cons_succ]
      refine wpAnyH_take (i := 5) (v := ?_) rfl (by kernel_rfl) (by kernel_rfl) (by kernel_rfl) (fun _ _ _ h => hP _ _ _ _ (by rfl) h) (Or.inl ⟨by rfl, ?b45⟩) hHeld ?_
      case b45 =>
        intro wS hSw
        obtain ⟨k0, k1, k2, k3⟩ := hSw
        go_simp
        try with_reducible rfl
      try simp only [Act.put, List.getElem_toArray, List.getElem_cons_zero, List.getElem_cons_succ, List.setIfInBounds_toArray, List.set_cons_zero, List.set_cons_succ]
      refine wpAnyH_take (i := 6) (v := ?_) rfl (by kernel_rfl) (by kernel_rfl) (by kernel_rfl) (fun _ _ _ h => hP _ _ _ _ (by rfl) h) (Or.inl ⟨by rfl, ?b46⟩) hHeld ?_
      case b46 =>
        intro wS hSw
        obtain ⟨k0, k1, k2, k3⟩ := hSw
        go_simp
        try with_reducible rfl
      try simp only [Act.put, List.getElem_toArray, List.getElem_cons_zero, List.getElem_cons_succ, List.setIfInBounds_toArray, List.set_cons_zero, List.set_cons_succ]
      refine wpAnyH_take (i := 7) (v := ?_) rfl (by kernel_rfl) (by kernel_rfl) (by kernel_rfl) (fun _ _ _ h => hP _ _ _ _ (by rfl) h) (Or.inl ⟨by rfl, ?b47⟩) hHeld ?_
      case b47 =>
        intro wS hSw
        obtain ⟨k0, k1, k2, k3⟩ := hSw
        go_simp
        try with_reducible rfl
      try simp only [Act.put, List.getElem_toArray, List.getElem_cons_zero, List.getElem_cons_succ, List.setIfInBounds_toArray, List.set_cons_zero, List.set_cons_succ]
      refine wpAnyH_take (i := 8) (v := ?_) rfl (by kernel_rfl) (by kernel_rfl) (by kernel_rfl) (fun _ _ _ h => hP _ _ _ _ (by rfl) h) (Or.inl ⟨by rfl, ?b48⟩) hHeld ?_
      case b48 =>
        intro wS hSw
        obtain ⟨k0, k1, k2, k3⟩ := hSw
        go_simp
        try with_reducible rfl
      try simp only [Act.put, List.getElem_toArray, List.getElem_cons_zero, List.getElem_cons_succ, List.setIfInBounds_toArray, List.set_cons_zero, List.set_cons_succ]
      refine wpAnyH_take (i := 9) (v := ?_) rfl (by kernel_rfl) (by kernel_rfl) (by kernel_rfl) (fun _ _ _ h => hP _ _ _ _ (by rfl) h) (Or.inl ⟨by rfl, ?b49⟩) hHeld ?_
      case b49 =>
        intro wS hSw
        obtain ⟨k0, k1, k2, k3⟩ := hSw
        go_simp
        try with_reducible rfl
      try simp only [Act.put, List.getElem_toArray, List.getElem_cons_zero, List.getElem_cons_succ, List.setIfInBounds_toArray, List.set_cons_zero, List.set_cons_succ]
      refine wpAnyH_take (i := 10) (v := ?_) rfl (by kernel_rfl) (by kernel_rfl) (by kernel_rfl) (fun _ _ _ h => hP _ _ _ _ (by rfl) h) (Or.inl ⟨by rfl, ?b410⟩) hHeld ?_
      case b410 =>
        intro wS hSw
        obtain ⟨k0, k1, k2, k3⟩ := hSw
        go_simp
        try with_reducible rfl
      try simp only [Act.put, List.getElem_toArray, List.getElem_cons_zero, List.getElem_cons_succ, List.setIfInBounds_toArray, List.set_cons_zero, List.set_cons_succ]
      refine wpAnyH_take (i := 11) (v := ?_) rfl (by kernel_rfl) (by kernel_rfl) (by kernel_rfl) (fun _ _ _ h => hP _ _ _ _ (by rfl) h) (Or.inl ⟨by rfl, ?b411⟩) hHeld ?_
      case b411 =>
        intro wS hSw
        obtain ⟨k0, k1, k2, k3⟩ := hSw
        go_simp
        try with_reducible rfl
      try simp only [Act.put, List.getElem_toArray, List.getElem_cons_zero, List.getElem_cons_succ, List.setIfInBounds_toArray, List.set_cons_zero, List.set_cons_succ]
      refine wpAnyH_take (i := 12) (v := ?_) rfl (by kernel_rfl) (by kernel_rfl) (by kernel_rfl) (fun _ _ _ h => hP _ _ _ _ (by rfl) h) (Or.inl ⟨by rfl, ?b412⟩) hHeld ?_
      case b412 =>
        intro wS hSw
        obtain ⟨k0, k1, k2, k3⟩ := hSw
        go_simp
        try with_reducible rfl
      try simp only [Act.put, List.getElem_toArray, List.getElem_cons_zero, List.getElem_cons_succ, List.setIfInBounds_toArray, List.set_cons_zero, List.set_cons_succ]
      refine wpAnyH_take (i := 13) (v := ?_) rfl (by kernel_rfl) (by kernel_rfl) (by kernel_rfl) (fun _ _ _ h => hP _ _ _ _ (by rfl) h) (Or.inl ⟨by rfl, ?b413⟩) hHeld ?_
      case b413 =>
        intro wS hSw
        obtain ⟨k0, k1, k2, k3⟩ := hSw
        go_simp
        try with_reducible rfl
      try simp only [Act.put, List.getElem_toArray, List.getElem_cons_zero, List.getElem_cons_succ, List.setIfInBounds_toArray, List.set_cons_zero, List.set_cons_succ]
      refine wpAnyH_take (i := 14) (v := ?_) rfl (by kernel_rfl) (by kernel_rfl) (by kernel_rfl) (fun _ _ _ h => hP _ _ _ _ (by rfl) h) (Or.inl ⟨by rfl, ?b414⟩) hHeld ?_
      case b414 =>
        intro wS hSw
        obtain ⟨k0, k1, k2, k3⟩ := hSw
        go_simp
        try with_reducible rfl
      try simp only [Act.put, List.getElem_toArray, List.getElem_cons_zero, List.getElem_cons_succ, List.setIfInBounds_toArray, List.set_cons_zero, List.set_cons_succ]
      refine wpAnyH_take (i := 15) (v := ?_) rfl (by kernel_rfl) (by kernel_rfl) (by kernel_rfl) (fun _ _ _ h => hP _ _ _ _ (by rfl) h) (Or.inl ⟨by rfl, ?b415⟩) hHeld ?_
      case b415 =>
        intro wS hSw
        obtain ⟨k0, k1, k2, k3⟩ := hSw
        go_simp
        try with_reducible rfl
      try simp only [Act.put, List.getElem_toArray, List.getElem_cons_zero, List.getElem_cons_succ, List.setIfInBounds_toArray, List.set_cons_zero, List.set_cons_succ]
      refine wpAnyH_take (i := 16) (v := ?_) rfl (by kernel_rfl) (by kernel_rfl) (by kernel_rfl) (fun _ _ _ h => hP _ _ _ _ (by rfl) h) (Or.inl ⟨by rfl, ?b416⟩) hHeld ?_
      case b416 =>
        intro wS hSw
        obtain ⟨k0, k1, k2, k3⟩ := hSw
        go_simp
        try with_reducible rfl
      try simp only [Act.put, List.getElem_toArray, List.getElem_cons_zero, List.getElem_cons_succ, List.setIfInBounds_toArray, List.set_cons_zero, List.set_cons_succ]
      refine wpAnyH_take (i := 17) (v := ?_) rfl (by kernel_rfl) (by kernel_rfl) (by kernel_rfl) (fun _ _ _ h => hP _ _ _ _ (by rfl) h) (Or.inl ⟨by rfl, ?b417⟩) hHeld ?_
      case b417 =>
        intro wS hSw
        obtain ⟨k0, k1, k2, k3⟩ := hSw
        go_simp
        try with_reducible rfl
      try simp only [Act.put, List.getElem_toArray, List.getElem_cons_zero, List.getElem_cons_succ, List.setIfInBounds_toArray, List.set_cons_zero, List.set_cons_succ]
      refine wpAnyH_done (by kernel_rfl) ?_ _
      clear hHeld
      try simp only [Act.put, List.getElem_toArray, List.getElem_cons_zero, List.getElem_cons_succ, List.setIfInBounds_toArray, List.set_cons_zero, List.set_cons_succ]
      go_wp2
      go_roundw
      case rel => exact ⟨m + 1, by omega, by go_num, Lib.hid HB.out.drew⟩
      case measure => simp [RowKit.intOf]; omega
    · obtain rfl : m = k := by omega
      go_wp2
      exact HKH.out _ _ _ _ _ _ _ _ _ _ _ _ _ _ _ _ _ _ _ _ _ _ _ _ _ _ HB.out
end Go.Proofs.YthcjjekkjbidlaaDoor.Sr
