import Derived.Test.YthcjjekkjbidlaaDoorZPWhP37
set_option linter.unusedSimpArgs false
set_option linter.unusedVariables false
/-
  SourceWhole's walk: one node behind the move there and back.
-/
namespace Go.Proofs.YthcjjekkjbidlaaDoor.Sr
open Go.RowKit Go.Maps Go.WideMaps Go.Proofs.YthcjjekkjbidlaaDoor.Rf Go.Proofs.YthcjjekkjbidlaaDoor.Nm Go.Proofs.YthcjjekkjbidlaaDoor.St
set_option linter.unusedSimpArgs false in
set_option maxHeartbeats 40000000 in
set_option maxRecDepth 100000 in
theorem wh_b5 {Q : Exit → Act → World → Prop} (u0 u1 u2 u3 u4 u5 u6 u7 u8 u10 u11 u12 u13 u14 u15 u18 u19 u20 u21 u22 u23 u24 u25 u26 u27 u28 u29 u30 u31 u32 u33 u34 u35 u36 u37 u38 u39 u40 u41 u42 u43 u44 u45 u46 u47 u48 u49 u50 u51 u52 u53 u54 u55 u56 u57 u58 u59 u60 u61 u62 u63 u64 u65 u66 u67 u68 u69 u70 u71 u72 u73 u74 u75 u76 u77 u78 u79 u80 u81 u82 u83 u84 u85 u86 u87 u88 u89 u90 u91 u92 u93 u94 u95 u96 u97 u98 u99 u100 u101 u102 u103 u104 u105 u106 u107 u108 u109 u110 u111 u112 u113 u114 u115 u116 u117 u118 u119 u120 u121 u122 u123 u124 u125 u126 u127 u128 u129 u130 u131 u132 u133 u134 u135 u136 u137 u138 u139 u140 u141 u142 u143 u144 u145 u146 u147 u148 u149 u150 u151 u152 u153 u154 u155 u156 u157 u158 u159 u160 u161 u162 u163 u164 u165 u166 u167 u168 u169 u170 u171 u172 u173 u174 u175 u176 u177 u178 u179 u180 u181 u182 u183 u184 u185 u186 u187 u188 u189 u190 u191 u192 u193 u194 u195 u196 u197 u198 u199 u200 u201 u202 u203 u204 u205 : Value) {k C C2 : Nat} {T : Tr} {L2 : List TE} {va xa : Option Addr} {vc xc : Nat} {R0 R2 : List (TE × Value)} {w5 w6 wr : World} {e e2 : TE}
    (hP : ∀ c (a a' : Act) w, a.defers = a'.defers → Q (.panic c) a w → Q (.panic c) a' w) (HO0 : Hid (OutAt C w5 (.slice va T.L.length vc) R0)) (HM0 : Hid (R0.map (·.1) = T.L)) (HB5 : Hid (Below w5.heap.size w5 wr)) (HO2 : Hid (OutAt C2 w6 (.slice xa T.L.length xc) R2)) (HM2 : Hid (R2.map (·.1) = L2)) (HB6 : Hid (Below w6.heap.size w6 wr))
    (hl : T.L.length ≤ 1000) (he : T.L[k]? = some e) (he2 : L2[k]? = some e2) (hnm : e2.nm = e.nm) (hin : e2.ino = e.ino) (hat : e2.at_ = e.at_) (hda : e2.data = e.data) (htk : e2.tick ≠ e.tick → e.at_.node = 2) (HA : chkA e.at_ = true)
    (HK : ∀ (t18 t167 t168 t169 t170 t171 t172 t173 t174 t175 t176 t177 t178 t179 t180 t181 t182 t183 t184 t185 t186 t187 t188 t189 t190 t191 t192 t193 t194 t195 t196 t197 t198 t199 t200 t201 t202 t203 t204 t205 : Value) (w' : World), Below wr.heap.size wr w' → Q .normal ⟨#[u0, u1, u2, u3, u4, u5, u6, u7, u8, .slice va T.L.length vc, u10, u11, u12, u13, u14, u15, .slice xa T.L.length xc, .int .i64 (k : Int), t18, u19, u20, u21, u22, u23, u24, u25, u26, u27, u28, u29, u30, u31, u32, u33, u34, u35, u36, u37, u38, u39, u40, u41, u42, u43, u44, u45, u46, u47, u48, u49, u50, u51, u52, u53, u54, u55, u56, u57, u58, u59, u60, u61, u62, u63, u64, u65, u66, u67, u68, u69, u70, u71, u72, u73, u74, u75, u76, u77, u78, u79, u80, u81, u82, u83, u84, u85, u86, u87, u88, u89, u90, u91, u92, u93, u94, u95, u96, u97, u98, u99, u100, u101, u102, u103, u104, u105, u106, u107, u108, u109, u110, u111, u112, u113, u114, u115, u116, u117, u118, u119, u120, u121, u122, u123, u124, u125, u126, u127, u128, u129, u130, u131, u132, u133, u134, u135, u136, u137, u138, u139, u140, u141, u142, u143, u144, u145, u146, u147, u148, u149, u150, u151, u152, u153, u154, u155, u156, u157, u158, u159, u160, u161, u162, u163, u164, u165, u166, t167, t168, t169, t170, t171, t172, t173, t174, t175, t176, t177, t178, t179, t180, t181, t182, t183, t184, t185, t186, t187, t188, t189, t190, t191, t192, t193, t194, t195, t196, t197, t198, t199, t200, t201, t202, t203, t204, t205], []⟩ w') :
    Code.wp Tryd.prog (whB 5) Q ⟨#[u0, u1, u2, u3, u4, u5, u6, u7, u8, .slice va T.L.length vc, u10, u11, u12, u13, u14, u15, .slice xa T.L.length xc, .int .i64 (k : Int), u18, u19, u20, u21, u22, u23, u24, u25, u26, u27, u28, u29, u30, u31, u32, u33, u34, u35, u36, u37, u38, u39, u40, u41, u42, u43, u44, u45, u46, u47, u48, u49, u50, u51, u52, u53, u54, u55, u56, u57, u58, u59, u60, u61, u62, u63, u64, u65, u66, u67, u68, u69, u70, u71, u72, u73, u74, u75, u76, u77, u78, u79, u80, u81, u82, u83, u84, u85, u86, u87, u88, u89, u90, u91, u92, u93, u94, u95, u96, u97, u98, u99, u100, u101, u102, u103, u104, u105, u106, u107, u108, u109, u110, u111, u112, u113, u114, u115, u116, u117, u118, u119, u120, u121, u122, u123, u124, u125, u126, u127, u128, u129, u130, u131, u132, u133, u134, u135, u136, u137, u138, u139, u140, u141, u142, u143, u144, u145, u146, u147, u148, u149, u150, u151, u152, u153, u154, u155, u156, u157, u158, u159, u160, u161, u162, u163, u164, u165, u166, u167, u168, u169, u170, u171, u172, u173, u174, u175, u176, u177, u178, u179, u180, u181, u182, u183, u184, u185, u186, u187, u188, u189, u190, u191, u192, u193, u194, u195, u196, u197, u198, u199, u200, u201, u202, u203, u204, u205], []⟩ wr := by
  have HKH := Lib.hid HK
  clear HK
  conv => arg 2; whnf
  have hkl : k < T.L.length := (List.getElem?_eq_some_iff.1 he).1
  obtain ⟨p, hp, hpy⟩ : ∃ p, R0[k]? = some p ∧ p.1 = e := by
    have h := he
    rw [← HM0.out, List.getElem?_map] at h
    obtain ⟨p, hp, h⟩ := Option.map_eq_some_iff.1 h
    exact ⟨p, hp, h⟩
  obtain ⟨e', yv⟩ := p
  obtain rfl : e = e' := hpy.symm
  obtain ⟨p2, hp2, hpy2⟩ : ∃ p, R2[k]? = some p ∧ p.1 = e2 := by
    have h := he2
    rw [← HM2.out, List.getElem?_map] at h
    obtain ⟨p, hp, h⟩ := Option.map_eq_some_iff.1 h
    exact ⟨p, hp, h⟩
  obtain ⟨e2', zv⟩ := p2
  obtain rfl : e2 = e2' := hpy2.symm
  obtain ⟨g0, rfl, hg0, hrow0⟩ := told_row HO0.out hp
  obtain ⟨g2, rfl, hg2, hrow2⟩ := told_row HO2.out hp2
  have HX0 : Hid (XsAt wr yv e.at_.xs) := Lib.hid (xs_below (told_xs HO0.out hp (fun x hx => attr_lens HA x hx)) HB5.out)
  have HX2 : Hid (XsAt wr zv e.at_.xs) := Lib.hid (by
    have h := told_xs HO2.out hp2 (fun x hx => attr_lens HA x (by rw [← hat]; exact hx))
    have h2 := xs_below h HB6.out
    rw [← hat]; exact h2)
  obtain ⟨t2, ht2⟩ : ∃ t2, t2 = e2.tick := ⟨_, rfl⟩
  obtain ⟨u, hu⟩ : ∃ u : TE, u = { e with tick := t2 } := ⟨_, rfl⟩
  have hv2 : vcells e2 zv = vcells u zv := by
    rw [hu]
    show _ = ncells ⟨(pathN e.nm).toArray⟩ e.at_ zv ⟨e.data.toArray⟩ e.ino t2
    rw [vcells_n, hnm, hat, hda, hin, ht2]
  have hrw := hrow2 wr HB6.out
  rw [show ((e2, zv) : TE × Value).1 = e2 from rfl, show ((e2, zv) : TE × Value).2 = zv from rfl, hv2] at hrw
  have HROW := Lib.hid hrw
  have KR0 : Hid (∀ w', Below wr.heap.size wr w' → w'.rangeAt g0 (k * 11) (vcells e yv)) := Lib.hid (fun w' hb => hrow0 w' (HB5.out.trans (hb.mono HB5.out.size)))
  rw [← ht2] at htk
  have HI : Hid ((Tryd.prog.info? VnT).map (·.size) = some (vcells u zv).toArray.size) := Lib.hid (by show _ = some 11; kernel_rfl)
  have HON : Hid ((vcells u zv).toArray.all (·.oneCell') = true) := Lib.hid (by
    rw [Array.all_eq_true_iff_forall_mem]
    intro x hx
    exact vcells_one u (xs_one HX2.out) x (by simpa using hx))
  have hklI : (k : Int) < (T.L.length : Int) := by omega
  have HU := Lib.hid hu; have HTK := Lib.hid htk
  clear he he2 hp hp2 hrow0 hrow2 hrw hv2 hnm hin hat hda htk ht2 hu
  go_wp2_with (first
    | (refine wpList_load_mid rfl _ _ rfl g2 (k * 11) rfl (vcells u zv) _ HROW.out Tryd.underlying70 rfl HI.out ?_)
    | (refine wpList_store_new rfl rfl VnT (.tmp 18) (.tmp 170) rfl (vcells u zv).toArray rfl rfl HI.out rfl HON.out ?_
       intro w2 hq2 hb2 hs2
       have HQ2 : Hid (NodeVar w2 wr.heap.size u zv) := Lib.hid hq2
       have HB2 : Hid (Below wr.heap.size wr w2) := Lib.hid hb2
       clear hq2 hb2 hs2)
    | fail)
  have KT : Hid (∀ w', Below w2.heap.size w2 w' → w'.cell? ⟨wr.heap.size, 10, none⟩ = some (.int .i64 t2) ∧ w'.cell? ⟨g0, k * 11 + 10, none⟩ = some (.int .i64 e.tick)) := Lib.hid (fun w' hb => by
    have h := (HQ2.out.below hb).cells.2.2.2
    rw [HU.out] at h
    exact ⟨h, (range_row (KR0.out w' (HB2.out.trans (hb.mono HB2.out.size)))).2.2⟩)
  by_cases ht : t2 = e.tick
  · subst ht
    have hue : u = e := HU.out
    rw [hue] at HQ2
    clear HU HTK hue HI HON HROW
    refine wp_region_held_drew (S := (fun w' : World => w'.cell? ⟨wr.heap.size, 10, none⟩ = some (.int .i64 e.tick) ∧ w'.cell? ⟨g0, k * 11 + 10, none⟩ = some (.int .i64 e.tick))) (by kernel_rfl) (KT.out _ (Below.refl _ _).drew) (fun hHeld => ?_)
    refine wpAnyH_take (i := 0) (v := ?_) rfl (by kernel_rfl) (by kernel_rfl) (by kernel_rfl) (fun _ _ _ h => hP _ _ _ _ (by rfl) h) (Or.inl ⟨by rfl, ?b5a0⟩) hHeld ?_
    case b5a0 =>
      intro wS hSw
      obtain ⟨k0, k1⟩ := hSw
      go_simp
      try with_reducible rfl
    try simp only [Act.put, List.getElem_toArray, List.getElem_cons_zero, List.getElem_cons_succ, List.setIfInBounds_toArray, List.set_cons_zero, List.set_cons_succ]
    refine wpAnyH_take (i := 1) (v := ?_) rfl (by kernel_rfl) (by kernel_rfl) (by kernel_rfl) (fun _ _ _ h => hP _ _ _ _ (by rfl) h) (Or.inl ⟨by rfl, ?b5a1⟩) hHeld ?_
    case b5a1 =>
      intro wS hSw
      obtain ⟨k0, k1⟩ := hSw
      go_simp
      try with_reducible rfl
    try simp only [Act.put, List.getElem_toArray, List.getElem_cons_zero, List.getElem_cons_succ, List.setIfInBounds_toArray, List.set_cons_zero, List.set_cons_succ]
    refine wpAnyH_take (i := 2) (v := ?_) rfl (by kernel_rfl) (by kernel_rfl) (by kernel_rfl) (fun _ _ _ h => hP _ _ _ _ (by rfl) h) (Or.inl ⟨by rfl, ?b5a2⟩) hHeld ?_
    case b5a2 =>
      intro wS hSw
      obtain ⟨k0, k1⟩ := hSw
      go_simp
      try with_reducible rfl
    try simp only [Act.put, List.getElem_toArray, List.getElem_cons_zero, List.getElem_cons_succ, List.setIfInBounds_toArray, List.set_cons_zero, List.set_cons_succ]
    refine wpAnyH_take (i := 3) (v := ?_) rfl (by kernel_rfl) (by kernel_rfl) (by kernel_rfl) (fun _ _ _ h => hP _ _ _ _ (by rfl) h) (Or.inl ⟨by rfl, ?b5a3⟩) hHeld ?_
    case b5a3 =>
      intro wS hSw
      obtain ⟨k0, k1⟩ := hSw
      go_simp
      try with_reducible rfl
    try simp only [Act.put, List.getElem_toArray, List.getElem_cons_zero, List.getElem_cons_succ, List.setIfInBounds_toArray, List.set_cons_zero, List.set_cons_succ]
    refine wpAnyH_take (i := 4) (v := ?_) rfl (by kernel_rfl) (by kernel_rfl) (by kernel_rfl) (fun _ _ _ h => hP _ _ _ _ (by rfl) h) (Or.inl ⟨by rfl, ?b5a4⟩) hHeld ?_
    case b5a4 =>
      intro wS hSw
      obtain ⟨k0, k1⟩ := hSw
      go_simp
      try with_reducible rfl
    try simp only [Act.put, List.getElem_toArray, List.getElem_cons_zero, List.getElem_cons_succ, List.setIfInBounds_toArray, List.set_cons_zero, List.set_cons_succ]
    refine wpAnyH_take (i := 5) (v := ?_) rfl (by kernel_rfl) (by kernel_rfl) (by kernel_rfl) (fun _ _ _ h => hP _ _ _ _ (by rfl) h) (Or.inl ⟨by rfl, ?b5a5⟩) hHeld ?_
    case b5a5 =>
      intro wS hSw
      obtain ⟨k0, k1⟩ := hSw
      go_simp
      try with_reducible rfl
    try simp only [Act.put, List.getElem_toArray, List.getElem_cons_zero, List.getElem_cons_succ, List.setIfInBounds_toArray, List.set_cons_zero, List.set_cons_succ]
    refine wpAnyH_take (i := 6) (v := ?_) rfl (by kernel_rfl) (by kernel_rfl) (by kernel_rfl) (fun _ _ _ h => hP _ _ _ _ (by rfl) h) (Or.inl ⟨by rfl, ?b5a6⟩) hHeld ?_
    case b5a6 =>
      intro wS hSw
      obtain ⟨k0, k1⟩ := hSw
      go_simp
      try with_reducible rfl
    try simp only [Act.put, List.getElem_toArray, List.getElem_cons_zero, List.getElem_cons_succ, List.setIfInBounds_toArray, List.set_cons_zero, List.set_cons_succ]
    refine wpAnyH_take (i := 7) (v := ?_) rfl (by kernel_rfl) (by kernel_rfl) (by kernel_rfl) (fun _ _ _ h => hP _ _ _ _ (by rfl) h) (Or.inl ⟨by rfl, ?b5a7⟩) hHeld ?_
    case b5a7 =>
      intro wS hSw
      obtain ⟨k0, k1⟩ := hSw
      go_simp
      try with_reducible rfl
    try simp only [Act.put, List.getElem_toArray, List.getElem_cons_zero, List.getElem_cons_succ, List.setIfInBounds_toArray, List.set_cons_zero, List.set_cons_succ]
    refine wpAnyH_done (by kernel_rfl) ?_ _
    clear hHeld
    try simp only [Act.put, List.getElem_toArray, List.getElem_cons_zero, List.getElem_cons_succ, List.setIfInBounds_toArray, List.set_cons_zero, List.set_cons_succ]
    have HQ3 : Hid (NodeVar w2.drew wr.heap.size e zv) := Lib.hid HQ2.out
    have HB3 : Hid (Below wr.heap.size wr w2.drew) := Lib.hid HB2.out.drew
    have HX3 : Hid (XsAt w2.drew zv e.at_.xs) := Lib.hid (xs_below HX2.out HB3.out)
    have HY3 : Hid (XsAt w2.drew yv e.at_.xs) := Lib.hid (xs_below HX0.out HB3.out)
    have KR3 : Hid (∀ w', Below w2.drew.heap.size w2.drew w' → w'.rangeAt g0 (k * 11) (vcells e yv)) := Lib.hid (fun w' hb => KR0.out w' (HB3.out.trans (hb.mono HB3.out.size)))
    clear KT HQ2 HB2 HX2 HX0 KR0
    go_upto_region 37 with (fail)
    refine wh37 _ _ _ _ _ _ _ _ _ _ _ _ _ _ _ _ _ _ _ _ _ _ _ _ _ _ _ _ _ _ _ _ _ _ _ _ _ _ _ _ _ _ _ _ _ _ _ _ _ _ _ _ _ _ _ _ _ _ _ _ _ _ _ _ _ _ _ _ _ _ _ _ _ _ _ _ _ _ _ _ _ _ _ _ _ _ _ _ _ _ _ _ _ _ _ _ _ _ _ _ _ _ _ _ _ _ _ _ _ _ _ _ _ _ _ _ _ _ _ _ _ _ _ _ _ _ _ _ _ _ _ _ _ _ _ _ _ _ _ _ _ _ _ _ _ _ _ _ _ _ _ _ _ _ _ _ _ _ _ _ _ _ _ _ _ _ _ _ _ _ _ _ _ _ _ _ _ _ _ _ _ _ _ _ _ _ _ _ _ _ _ _ _ _ _ _ _ _ _ _ _ _ _ (fun c a a' w hd h => hP c a a' w hd h) HQ3 HX3 HY3 hklI KR3 ?_
    intro t189 t190 t191 t192 t193 t194 t195 t196 t197 t198 t199 t200 t201 t202 t203 t204 w7 hb7
    have HB7 : Hid (Below wr.heap.size wr w7) := Lib.hid (HB3.out.trans (hb7.mono HB3.out.size))
    clear hb7 HQ3 HX3 HY3 KR3
    go_wp2
    exact HKH.out _ _ _ _ _ _ _ _ _ _ _ _ _ _ _ _ _ _ _ _ _ _ _ _ _ _ _ _ _ _ _ _ _ _ _ _ _ _ _ _ _ HB7.out
  · have hnd := HTK.out ht
    have hbt : (t2 == e.tick) = false := by rw [beq_eq_false_iff_ne]; exact ht
    obtain ⟨W, hW⟩ : ∃ W, W = (w2.setCell ⟨wr.heap.size, 10, none⟩ (.int .i64 e.tick)).drew := ⟨_, rfl⟩
    have hq0 : w2.heap[wr.heap.size]? = some (.cells (vcells u zv).toArray VnT) := HQ2.out
    have hqW : NodeVar W wr.heap.size e zv := by
      rw [hW]
      show (w2.setCell _ _).heap[_]? = _
      rw [setCell_heap _ _ _ _ _ _ hq0, HU.out]; rfl
    have hbW : Below wr.heap.size wr W := by rw [hW]; exact (HB2.out.setCell (Nat.le_refl _) _).drew
    have q1 : w2.drew.cell? ⟨wr.heap.size, 1, none⟩ = some (.int .u8 2) := by
      have h : w2.drew.cell? ⟨wr.heap.size, 1, none⟩ = some (.int .u8 (u.at_.node : Int)) := cell_of_heap hq0
      rw [h, HU.out]
      show some (Value.int .u8 (e.at_.node : Int)) = _
      rw [hnd]; rfl
    have q10 : w2.drew.cell? ⟨wr.heap.size, 10, none⟩ = some (.int .i64 u.tick) := cell_of_heap hq0
    have f10 : w2.drew.frozen? ⟨wr.heap.size, 10, none⟩ = false := frozen_of_heap hq0
    have g10 : w2.drew.cell? ⟨g0, k * 11 + 10, none⟩ = some (.int .i64 e.tick) := (KT.out w2.drew (Below.refl _ _).drew).2
    have HQ3 := Lib.hid hqW; have HB3 := Lib.hid hbW; have HW := Lib.hid hW
    clear HU HTK ht hnd hq0 hqW hbW hW HI HON HROW
    refine wp_region_held_drew (S := (fun w' : World => w'.cell? ⟨wr.heap.size, 10, none⟩ = some (.int .i64 t2) ∧ w'.cell? ⟨g0, k * 11 + 10, none⟩ = some (.int .i64 e.tick))) (by kernel_rfl) (KT.out _ (Below.refl _ _).drew) (fun hHeld => ?_)
    refine wpAnyH_take (i := 0) (v := ?_) rfl (by kernel_rfl) (by kernel_rfl) (by kernel_rfl) (fun _ _ _ h => hP _ _ _ _ (by rfl) h) (Or.inl ⟨by rfl, ?b5b0⟩) hHeld ?_
    case b5b0 =>
      intro wS hSw
      obtain ⟨k0, k1⟩ := hSw
      go_simp
      try with_reducible rfl
    try simp only [Act.put, List.getElem_toArray, List.getElem_cons_zero, List.getElem_cons_succ, List.setIfInBounds_toArray, List.set_cons_zero, List.set_cons_succ]
    refine wpAnyH_take (i := 1) (v := ?_) rfl (by kernel_rfl) (by kernel_rfl) (by kernel_rfl) (fun _ _ _ h => hP _ _ _ _ (by rfl) h) (Or.inl ⟨by rfl, ?b5b1⟩) hHeld ?_
    case b5b1 =>
      intro wS hSw
      obtain ⟨k0, k1⟩ := hSw
      go_simp
      try with_reducible rfl
    try simp only [Act.put, List.getElem_toArray, List.getElem_cons_zero, List.getElem_cons_succ, List.setIfInBounds_toArray, List.set_cons_zero, List.set_cons_succ]
    refine wpAnyH_take (i := 2) (v := ?_) rfl (by kernel_rfl) (by kernel_rfl) (by kernel_rfl) (fun _ _ _ h => hP _ _ _ _ (by rfl) h) (Or.inl ⟨by rfl, ?b5b2⟩) hHeld ?_
    case b5b2 =>
      intro wS hSw
      obtain ⟨k0, k1⟩ := hSw
      go_simp
      try with_reducible rfl
    try simp only [Act.put, List.getElem_toArray, List.getElem_cons_zero, List.getElem_cons_succ, List.setIfInBounds_toArray, List.set_cons_zero, List.set_cons_succ]
    refine wpAnyH_take (i := 3) (v := ?_) rfl (by kernel_rfl) (by kernel_rfl) (by kernel_rfl) (fun _ _ _ h => hP _ _ _ _ (by rfl) h) (Or.inl ⟨by rfl, ?b5b3⟩) hHeld ?_
    case b5b3 =>
      intro wS hSw
      obtain ⟨k0, k1⟩ := hSw
      go_simp
      try with_reducible rfl
    try simp only [Act.put, List.getElem_toArray, List.getElem_cons_zero, List.getElem_cons_succ, List.setIfInBounds_toArray, List.set_cons_zero, List.set_cons_succ]
    refine wpAnyH_take (i := 4) (v := ?_) rfl (by kernel_rfl) (by kernel_rfl) (by kernel_rfl) (fun _ _ _ h => hP _ _ _ _ (by rfl) h) (Or.inl ⟨by rfl, ?b5b4⟩) hHeld ?_
    case b5b4 =>
      intro wS hSw
      obtain ⟨k0, k1⟩ := hSw
      go_simp
      try with_reducible rfl
    try simp only [Act.put, List.getElem_toArray, List.getElem_cons_zero, List.getElem_cons_succ, List.setIfInBounds_toArray, List.set_cons_zero, List.set_cons_succ]
    refine wpAnyH_take (i := 5) (v := ?_) rfl (by kernel_rfl) (by kernel_rfl) (by kernel_rfl) (fun _ _ _ h => hP _ _ _ _ (by rfl) h) (Or.inl ⟨by rfl, ?b5b5⟩) hHeld ?_
    case b5b5 =>
      intro wS hSw
      obtain ⟨k0, k1⟩ := hSw
      go_simp
      try with_reducible rfl
    try simp only [Act.put, List.getElem_toArray, List.getElem_cons_zero, List.getElem_cons_succ, List.setIfInBounds_toArray, List.set_cons_zero, List.set_cons_succ]
    refine wpAnyH_take (i := 6) (v := ?_) rfl (by kernel_rfl) (by kernel_rfl) (by kernel_rfl) (fun _ _ _ h => hP _ _ _ _ (by rfl) h) (Or.inl ⟨by rfl, ?b5b6⟩) hHeld ?_
    case b5b6 =>
      intro wS hSw
      obtain ⟨k0, k1⟩ := hSw
      go_simp
      try with_reducible rfl
    try simp only [Act.put, List.getElem_toArray, List.getElem_cons_zero, List.getElem_cons_succ, List.setIfInBounds_toArray, List.set_cons_zero, List.set_cons_succ]
    refine wpAnyH_take (i := 7) (v := ?_) rfl (by kernel_rfl) (by kernel_rfl) (by kernel_rfl) (fun _ _ _ h => hP _ _ _ _ (by rfl) h) (Or.inl ⟨by rfl, ?b5b7⟩) hHeld ?_
    case b5b7 =>
      intro wS hSw
      obtain ⟨k0, k1⟩ := hSw
      go_simp
      try with_reducible rfl
    try simp only [Act.put, List.getElem_toArray, List.getElem_cons_zero, List.getElem_cons_succ, List.setIfInBounds_toArray, List.set_cons_zero, List.set_cons_succ]
    refine wpAnyH_done (by kernel_rfl) ?_ _
    clear hHeld
    try simp only [Act.put, List.getElem_toArray, List.getElem_cons_zero, List.getElem_cons_succ, List.setIfInBounds_toArray, List.set_cons_zero, List.set_cons_succ]
    go_upto_region 37 with (fail)
    rw [← HW.out]
    have HX3 : Hid (XsAt W zv e.at_.xs) := Lib.hid (xs_below HX2.out HB3.out)
    have HY3 : Hid (XsAt W yv e.at_.xs) := Lib.hid (xs_below HX0.out HB3.out)
    have KR3 : Hid (∀ w', Below W.heap.size W w' → w'.rangeAt g0 (k * 11) (vcells e yv)) := Lib.hid (fun w' hb => KR0.out w' (HB3.out.trans (hb.mono HB3.out.size)))
    clear KT HQ2 HB2 HX2 HX0 KR0 hbt q1 q10 f10 g10 HW
    refine wh37 _ _ _ _ _ _ _ _ _ _ _ _ _ _ _ _ _ _ _ _ _ _ _ _ _ _ _ _ _ _ _ _ _ _ _ _ _ _ _ _ _ _ _ _ _ _ _ _ _ _ _ _ _ _ _ _ _ _ _ _ _ _ _ _ _ _ _ _ _ _ _ _ _ _ _ _ _ _ _ _ _ _ _ _ _ _ _ _ _ _ _ _ _ _ _ _ _ _ _ _ _ _ _ _ _ _ _ _ _ _ _ _ _ _ _ _ _ _ _ _ _ _ _ _ _ _ _ _ _ _ _ _ _ _ _ _ _ _ _ _ _ _ _ _ _ _ _ _ _ _ _ _ _ _ _ _ _ _ _ _ _ _ _ _ _ _ _ _ _ _ _ _ _ _ _ _ _ _ _ _ _ _ _ _ _ _ _ _ _ _ _ _ _ _ _ _ _ _ _ _ _ _ _ (fun c a a' w hd h => hP c a a' w hd h) HQ3 HX3 HY3 hklI KR3 ?_
    intro t189 t190 t191 t192 t193 t194 t195 t196 t197 t198 t199 t200 t201 t202 t203 t204 w7 hb7
    have HB7 : Hid (Below wr.heap.size wr w7) := Lib.hid (HB3.out.trans (hb7.mono HB3.out.size))
    clear hb7 HQ3 HX3 HY3 KR3
    go_wp2
    exact HKH.out _ _ _ _ _ _ _ _ _ _ _ _ _ _ _ _ _ _ _ _ _ _ _ _ _ _ _ _ _ _ _ _ _ _ _ _ _ _ _ _ _ HB7.out
end Go.Proofs.YthcjjekkjbidlaaDoor.Sr
