import Derived.Test.YthcjjekkjbidlaaDoorZPHnB4
import Derived.Test.YthcjjekkjbidlaaDoorZPHnB6
import Derived.Test.YthcjjekkjbidlaaDoorZPHnP35
import Derived.Test.YthcjjekkjbidlaaDoorZPHnP38
import Derived.Test.YthcjjekkjbidlaaDoorZPHnP40C
import Derived.Test.YthcjjekkjbidlaaDoorZPHnP40S
import Derived.Deep.CutBlock
set_option linter.unusedSimpArgs false
set_option linter.unusedVariables false
/-
  SourceHonest's walk: one node.
-/
namespace Go.Proofs.YthcjjekkjbidlaaDoor.Sr
open Go.RowKit Go.Maps Go.WideMaps Go.Proofs.YthcjjekkjbidlaaDoor.Rf Go.Proofs.YthcjjekkjbidlaaDoor.Nm Go.Proofs.YthcjjekkjbidlaaDoor.St
theorem xs_below {w w' : World} {v : Value} {xs : Xs} (h : XsAt w v xs) (hb : Below w.heap.size w w') : XsAt w' v xs := h.kept hb.size (fun b hx => hb.block b (h.lt b hx))
theorem attr_lens {A : XA} (h : chkA A = true) : ∀ x ∈ A.xs, x.1.length ≤ maxLen ∧ x.2.length ≤ maxLen := by
  simp only [chkA, Bool.and_eq_true] at h
  have h2 := h.2.2.2.2.2
  generalize A.xs = xs at h2
  generalize ([] : List UInt8) = l at h2
  induction xs generalizing l with
  | nil => intro x hx; cases hx
  | cons y r ih =>
    simp only [xsFine, Bool.and_eq_true, decide_eq_true_eq] at h2
    intro x hx
    rcases List.mem_cons.1 hx with rfl | hx
    · have := (chk_le h2.1).1
      unfold maxLen; omega
    · exact ih _ h2.2.2.2 x hx
set_option linter.unusedSimpArgs false in
set_option maxHeartbeats 40000000 in
set_option maxRecDepth 100000 in
theorem hn_b3 {Q : Exit → Act → World → Prop} (u0 u1 u2 u6 u8 u9 u14 u15 u16 u17 u18 u19 u20 u21 u22 u23 u24 u25 u26 u27 u28 u29 u30 u31 u32 u33 u34 u35 u36 u37 u38 u39 u40 u41 u42 u43 u44 u45 u46 u47 u48 u49 u50 u51 u52 u53 u54 u55 u56 u57 u58 u59 u60 u61 u62 u63 u64 u65 u66 u67 u68 u69 u70 u71 u72 u73 u74 u75 u76 u77 u78 u79 u80 u81 u82 u83 u84 u85 u86 u87 u88 u89 u90 u91 u92 u93 u94 u95 u96 u97 u98 u99 u100 u101 u102 u103 u104 u105 u106 u107 u108 u109 u110 u111 u112 u113 u114 u115 u116 u117 u118 u119 u120 u121 u122 u123 u124 u125 u126 u127 u128 u129 u130 u131 u132 u133 u134 u135 u136 u137 u138 u139 u140 u141 u142 u143 u144 u145 u146 u147 u148 u149 u150 u151 u152 u153 u154 u155 u156 u157 u158 u159 u160 u161 u162 u163 u164 u165 u166 u167 u168 u169 u170 u171 u172 u173 u174 u175 u176 u177 u178 u179 u180 u181 u182 u183 u184 u185 u186 u187 u188 u189 u190 u191 u192 u193 u194 u195 u196 u197 u198 u199 u200 u201 u202 u203 u204 u205 u206 u207 u208 u209 u210 u211 u212 u213 u214 u215 u216 u217 u218 u219 u220 u221 u222 u223 u224 u225 u226 u227 u228 u229 u230 u231 u232 u233 u234 u235 u236 u237 u238 u239 u240 u241 u242 u243 u244 u245 u246 u247 u248 u249 u250 u251 u252 u253 : Value) {r g k mo C C0 n B : Nat} {T T' : Tr} {va na : Option Addr} {vc nc : Nat} {ch : Bool} {R0 R1 : List (TE × Value)} {w5 wr : World} {e : TE}
    (hP : ∀ c (a a' : Act) w, a.defers = a'.defers → Q (.panic c) a w → Q (.panic c) a' w) (HT : Hid (TreeAt B w5 r T')) (HO1 : Hid (OutAt C w5 (.slice na T'.L.length nc) R1)) (HM1 : Hid (R1.map (·.1) = T'.L)) (HO0 : Hid (OutAt C0 w5 (.slice va T.L.length vc) R0)) (HM0 : Hid (R0.map (·.1) = T.L)) (HB5 : Hid (Below w5.heap.size w5 wr))
    (G0 : Hid (Good n T)) (G1 : Hid (Good (n + 1) T')) (HS : Hid (SrtT T'.L)) (hn : n ≤ 60) (hWas : Hid (Was T T')) (hg : Hid (g ≤ T.most)) (HNO : Hid (ch = false → T'.L = T.L ∧ T'.clock = T.clock)) (he : T'.L[k]? = some e) (hmo : mo ≤ T'.most)
    (HK : ∀ (mo2 : Nat) (t2 t14 t15 t16 t17 t112 t113 t114 t115 t116 t117 t118 t119 t120 t121 t122 t123 t124 t125 t126 t127 t128 t129 t130 t131 t132 t133 t134 t135 t136 t137 t138 t139 t140 t141 t142 t143 t144 t145 t146 t147 t148 t149 t150 t151 t152 t153 t154 t155 t156 t157 t158 t159 t160 t161 t162 t163 t164 t165 t166 t167 t168 t169 t170 t171 t172 t173 t174 t175 t176 t177 t178 t179 t180 t181 t182 t183 t184 t185 t186 t187 t188 t189 t190 t191 t192 t193 t194 t195 t196 t197 t198 t199 t200 t201 t202 t203 t204 t205 t206 t207 t208 t209 t210 t211 t212 t213 t214 t215 t216 t217 t218 t219 t220 t221 t222 t223 t224 t225 t226 t227 t228 t229 t230 t231 t232 t233 t234 t235 t236 t237 t238 t239 t240 t241 t242 t243 t244 t245 t246 t247 t248 t249 t250 t251 : Value) (w' : World), mo2 ≤ T'.most ∧ Below wr.heap.size wr w' → Q .normal ⟨#[u0, u1, t2, .pointer (some ⟨r, 0, none⟩), .slice va T.L.length vc, .int .u64 (g : Int), u6, .int .i64 (T.clock : Int), u8, u9, .slice na T'.L.length nc, .bool ch, .int .u64 (mo2 : Int), .int .i64 (k : Int), t14, t15, t16, t17, u18, u19, u20, u21, u22, u23, u24, u25, u26, u27, u28, u29, u30, u31, u32, u33, u34, u35, u36, u37, u38, u39, u40, u41, u42, u43, u44, u45, u46, u47, u48, u49, u50, u51, u52, u53, u54, u55, u56, u57, u58, u59, u60, u61, u62, u63, u64, u65, u66, u67, u68, u69, u70, u71, u72, u73, u74, u75, u76, u77, u78, u79, u80, u81, u82, u83, u84, u85, u86, u87, u88, u89, u90, u91, u92, u93, u94, u95, u96, u97, u98, u99, u100, u101, u102, u103, u104, u105, u106, u107, u108, u109, u110, u111, t112, t113, t114, t115, t116, t117, t118, t119, t120, t121, t122, t123, t124, t125, t126, t127, t128, t129, t130, t131, t132, t133, t134, t135, t136, t137, t138, t139, t140, t141, t142, t143, t144, t145, t146, t147, t148, t149, t150, t151, t152, t153, t154, t155, t156, t157, t158, t159, t160, t161, t162, t163, t164, t165, t166, t167, t168, t169, t170, t171, t172, t173, t174, t175, t176, t177, t178, t179, t180, t181, t182, t183, t184, t185, t186, t187, t188, t189, t190, t191, t192, t193, t194, t195, t196, t197, t198, t199, t200, t201, t202, t203, t204, t205, t206, t207, t208, t209, t210, t211, t212, t213, t214, t215, t216, t217, t218, t219, t220, t221, t222, t223, t224, t225, t226, t227, t228, t229, t230, t231, t232, t233, t234, t235, t236, t237, t238, t239, t240, t241, t242, t243, t244, t245, t246, t247, t248, t249, t250, t251, u252, u253], []⟩ w') :
    Code.wp Tryd.prog (hnB 3) Q ⟨#[u0, u1, u2, .pointer (some ⟨r, 0, none⟩), .slice va T.L.length vc, .int .u64 (g : Int), u6, .int .i64 (T.clock : Int), u8, u9, .slice na T'.L.length nc, .bool ch, .int .u64 (mo : Int), .int .i64 (k : Int), u14, u15, u16, u17, u18, u19, u20, u21, u22, u23, u24, u25, u26, u27, u28, u29, u30, u31, u32, u33, u34, u35, u36, u37, u38, u39, u40, u41, u42, u43, u44, u45, u46, u47, u48, u49, u50, u51, u52, u53, u54, u55, u56, u57, u58, u59, u60, u61, u62, u63, u64, u65, u66, u67, u68, u69, u70, u71, u72, u73, u74, u75, u76, u77, u78, u79, u80, u81, u82, u83, u84, u85, u86, u87, u88, u89, u90, u91, u92, u93, u94, u95, u96, u97, u98, u99, u100, u101, u102, u103, u104, u105, u106, u107, u108, u109, u110, u111, u112, u113, u114, u115, u116, u117, u118, u119, u120, u121, u122, u123, u124, u125, u126, u127, u128, u129, u130, u131, u132, u133, u134, u135, u136, u137, u138, u139, u140, u141, u142, u143, u144, u145, u146, u147, u148, u149, u150, u151, u152, u153, u154, u155, u156, u157, u158, u159, u160, u161, u162, u163, u164, u165, u166, u167, u168, u169, u170, u171, u172, u173, u174, u175, u176, u177, u178, u179, u180, u181, u182, u183, u184, u185, u186, u187, u188, u189, u190, u191, u192, u193, u194, u195, u196, u197, u198, u199, u200, u201, u202, u203, u204, u205, u206, u207, u208, u209, u210, u211, u212, u213, u214, u215, u216, u217, u218, u219, u220, u221, u222, u223, u224, u225, u226, u227, u228, u229, u230, u231, u232, u233, u234, u235, u236, u237, u238, u239, u240, u241, u242, u243, u244, u245, u246, u247, u248, u249, u250, u251, u252, u253], []⟩ wr := by
  have HKH := Lib.hid HK
  clear HK
  conv => arg 2; whnf
  have hkl : k < T'.L.length := (List.getElem?_eq_some_iff.1 he).1
  have HE := Lib.hid he
  have heT : e ∈ T'.L := List.mem_of_getElem? he
  have HET := Lib.hid heT
  have hl1 : T'.L.length ≤ 62 := by have := G1.out.len; omega
  have hl0 : T.L.length ≤ 61 := by have := G0.out.len; omega
  obtain ⟨p, hp, hpy⟩ : ∃ p, R1[k]? = some p ∧ p.1 = e := by
    have h := he
    rw [← HM1.out, List.getElem?_map] at h
    obtain ⟨p, hp, h⟩ := Option.map_eq_some_iff.1 h
    exact ⟨p, hp, h⟩
  obtain ⟨e', xv⟩ := p
  obtain rfl : e = e' := hpy.symm
  obtain ⟨g1, rfl, hg1, hrow⟩ := told_row HO1.out hp
  have HROW := Lib.hid (hrow wr HB5.out)
  have HXV : Hid (XsAt w5 xv e.at_.xs) := Lib.hid (told_xs HO1.out hp (fun x hx => attr_lens (G1.out.att e heT) x hx))
  have HI : Hid ((Tryd.prog.info? VnT).map (·.size) = some (vcells e xv).toArray.size) := Lib.hid (by show _ = some 11; kernel_rfl)
  have HON : Hid ((vcells e xv).toArray.all (·.oneCell') = true) := Lib.hid (by
    rw [Array.all_eq_true_iff_forall_mem]
    intro u hu
    exact vcells_one e (xs_one HXV.out) u (by simpa using hu))
  have NW : Hid (∀ W, Below w5.heap.size w5 W → Calls Tryd.prog 12 #[.pointer (some ⟨r, 0, none⟩)] W fun e w' => e = .returned (.int .i64 (T'.clock : Int)) ∧ w' = W) := Lib.hid (fun W hb => now_any B W r T' (HT.out.below hb))
  have htk : e.tick ≤ (T'.clock : Int) := (G1.out.tick e heT).2
  have hbt : decide ((T'.clock : Int) < e.tick) = false := decide_eq_false (by omega)
  have hbt2 : ¬ ((T'.clock : Int) < e.tick) := by omega
  have hklI : (k : Int) < (T'.L.length : Int) := by omega
  have HTK := Lib.hid htk
  clear he heT hp hrow htk
  go_wp2_with (first
    | (refine wpList_load_mid rfl _ _ rfl g1 (k * 11) rfl (vcells e xv) _ HROW.out Tryd.underlying70 rfl HI.out ?_)
    | (refine wpList_store_new rfl rfl VnT (.tmp 14) (.tmp 115) rfl (vcells e xv).toArray rfl rfl HI.out rfl HON.out ?_
       intro w2 hq2 hb2 hs2
       have HQ2 : Hid (NodeVar w2 wr.heap.size e xv) := Lib.hid hq2
       have HB2 : Hid (Below w5.heap.size w5 w2) := Lib.hid (HB5.out.trans (hb2.mono HB5.out.size))
       have HBR : Hid (Below wr.heap.size wr w2) := Lib.hid hb2
       clear hq2 hb2 hs2)
    | fail)
  have HB25 : Hid (Below w2.heap.size w2 w2) := Lib.hid (Below.refl _ _)
  have KT : Hid (∀ w', Below w2.heap.size w2 w' → w'.cell? ⟨wr.heap.size, 10, none⟩ = some (.int .i64 e.tick)) := Lib.hid (fun w' hb => (HQ2.out.below hb).cells.2.2.2)
  refine wp_region_held_drew (S := (fun w' : World => w'.cell? ⟨wr.heap.size, 10, none⟩ = some (.int .i64 e.tick))) (by kernel_rfl) (KT.out _ HB25.out.drew) (fun hHeld => ?_)
  refine wpAnyH_take (i := 0) (v := ?_) rfl (by kernel_rfl) (by kernel_rfl) (by kernel_rfl) (fun _ _ _ h => hP _ _ _ _ (by rfl) h) (Or.inl ⟨by rfl, ?p210⟩) hHeld ?_
  case p210 =>
    intro wS hSw
    go_simp
    try with_reducible rfl
  try simp only [Act.put, List.getElem_toArray, List.getElem_cons_zero, List.getElem_cons_succ, List.setIfInBounds_toArray, List.set_cons_zero, List.set_cons_succ]
  refine wpAnyH_take (i := 1) (v := ?_) rfl (by kernel_rfl) (by kernel_rfl) (by kernel_rfl) (fun _ _ _ h => hP _ _ _ _ (by rfl) h) (Or.inl ⟨by rfl, ?p211⟩) hHeld ?_
  case p211 =>
    intro wS hSw
    have k0 := hSw
    go_simp
    try with_reducible rfl
  try simp only [Act.put, List.getElem_toArray, List.getElem_cons_zero, List.getElem_cons_succ, List.setIfInBounds_toArray, List.set_cons_zero, List.set_cons_succ]
  refine wpAnyH_take (i := 2) (v := ?_) rfl (by kernel_rfl) (by kernel_rfl) (by kernel_rfl) (fun _ _ _ h => hP _ _ _ _ (by rfl) h) (Or.inl ⟨by rfl, ?p212⟩) hHeld ?_
  case p212 =>
    intro wS hSw
    go_simp
    try with_reducible rfl
  try simp only [Act.put, List.getElem_toArray, List.getElem_cons_zero, List.getElem_cons_succ, List.setIfInBounds_toArray, List.set_cons_zero, List.set_cons_succ]
  refine wpAnyH_ready (rs := [3]) (by kernel_rfl) (by simp) ?_
  refine AllReadyH.cons rfl (fun K hK => ?_) AllReadyH.nil
  go_simp
  refine (NW.out w2.drew HB2.out.drew).mono ?_
  rintro ez wz ⟨rfl, hwz⟩
  subst hwz
  go_wp2_with fail
  refine hK.out _ _ (KT.out _ HB25.out.drew) (fun hHeld2 => ?_)
  clear hK K hHeld
  have hHeld := hHeld2
  clear hHeld2
  try simp only [Act.put, List.getElem_toArray, List.getElem_cons_zero, List.getElem_cons_succ, List.setIfInBounds_toArray, List.set_cons_zero, List.set_cons_succ]
  refine wpAnyH_take (i := 4) (v := ?_) rfl (by kernel_rfl) (by kernel_rfl) (by kernel_rfl) (fun _ _ _ h => hP _ _ _ _ (by rfl) h) (Or.inl ⟨by rfl, ?p214⟩) hHeld ?_
  case p214 =>
    intro wS hSw
    go_simp
    try with_reducible rfl
  try simp only [Act.put, List.getElem_toArray, List.getElem_cons_zero, List.getElem_cons_succ, List.setIfInBounds_toArray, List.set_cons_zero, List.set_cons_succ]
  refine wpAnyH_done (by kernel_rfl) ?_ _
  clear hHeld
  try simp only [Act.put, List.getElem_toArray, List.getElem_cons_zero, List.getElem_cons_succ, List.setIfInBounds_toArray, List.set_cons_zero, List.set_cons_succ]
  clear hbt hbt2 KT HB25
  have HQ3 : Hid (NodeVar w2.drew wr.heap.size e xv) := Lib.hid HQ2.out
  have HB3 : Hid (Below w5.heap.size w5 w2.drew) := Lib.hid HB2.out.drew
  have HBR3 : Hid (Below wr.heap.size wr w2.drew) := Lib.hid HBR.out.drew
  go_upto_block 4 with (fail)
  refine hn_b4 _ _ _ _ _ _ _ _ _ _ _ _ _ _ _ _ _ _ _ _ _ _ _ _ _ _ _ _ _ _ _ _ _ _ _ _ _ _ _ _ _ _ _ _ _ _ _ _ _ _ _ _ _ _ _ _ _ _ _ _ _ _ _ _ _ _ _ _ _ _ _ _ _ _ _ _ _ _ _ _ _ _ _ _ _ _ _ _ _ _ _ _ _ _ _ _ _ _ _ _ _ _ _ _ _ _ _ _ _ _ _ _ _ _ _ _ _ _ _ _ _ _ _ _ _ _ _ _ _ _ _ _ _ _ _ _ _ _ _ _ _ _ _ _ _ _ _ _ _ _ _ _ _ _ _ _ _ _ _ _ _ _ _ _ _ _ _ _ _ _ _ _ _ _ _ _ _ _ _ _ _ _ _ _ _ _ _ _ _ _ _ _ _ _ _ _ _ _ _ _ _ _ _ _ _ _ _ _ _ _ _ _ _ _ _ _ _ _ _ _ _ _ _ _ _ _ _ _ _ _ _ _ _ _ _ _ _ _ _ _ _ _ _ _ _ _ _ _ _ _ (fun c a a' w hd h => hP c a a' w hd h) (Lib.hid rfl) HO1 HM1 HB3 HQ3 HE.out (by omega) G1 HS ?_
  intro t2 t15 t121 t122 t123 t124 t125 t126 t127 t128 t129 t130 t131 t132 t133 t134 t135 t136 t137 t138 t139 t140 t141 t142 t143 w4 hb4
  have HQ4 : Hid (NodeVar w4 wr.heap.size e xv) := Lib.hid (HQ3.out.below hb4)
  have HB4 : Hid (Below w5.heap.size w5 w4) := Lib.hid (HB3.out.trans (hb4.mono HB3.out.size))
  have HBR4 : Hid (Below wr.heap.size wr w4) := Lib.hid (HBR3.out.trans (hb4.mono HBR3.out.size))
  have c9 : w4.cell? ⟨wr.heap.size, 9, none⟩ = some (.int .u64 (e.ino : Int)) := HQ4.out.cells.2.2.1
  clear hb4 HQ3 HB3 HBR3 HQ2 HB2 HBR
  go_upto_block 6 with (fail)
  obtain ⟨mo2, hmo2⟩ : ∃ mo2, mo2 = max mo e.ino := ⟨_, rfl⟩
  have hmx : max (mo : Int) (e.ino : Int) = (mo2 : Int) := by rw [hmo2]; omega
  have HMO : Hid (mo2 ≤ T'.most) := Lib.hid (by rw [hmo2]; have := (G1.out.ino e HET.out).2; omega)
  rw [hmx]
  clear hmx hmo2 c9
  refine hn_b6 _ _ _ _ _ _ _ _ _ _ _ _ _ _ _ _ _ _ _ _ _ _ _ _ _ _ _ _ _ _ _ _ _ _ _ _ _ _ _ _ _ _ _ _ _ _ _ _ _ _ _ _ _ _ _ _ _ _ _ _ _ _ _ _ _ _ _ _ _ _ _ _ _ _ _ _ _ _ _ _ _ _ _ _ _ _ _ _ _ _ _ _ _ _ _ _ _ _ _ _ _ _ _ _ _ _ _ _ _ _ _ _ _ _ _ _ _ _ _ _ _ _ _ _ _ _ _ _ _ _ _ _ _ _ _ _ _ _ _ _ _ _ _ _ _ _ _ _ _ _ _ _ _ _ _ _ _ _ _ _ _ _ _ _ _ _ _ _ _ _ _ _ _ _ _ _ _ _ _ _ _ _ _ _ _ _ _ _ _ _ _ _ _ _ _ _ _ _ _ _ _ _ _ _ _ _ _ _ _ _ _ _ _ _ _ _ _ _ _ _ _ _ _ _ _ _ _ _ _ _ _ _ _ _ _ _ _ _ _ _ _ _ _ _ _ _ _ _ _ _ (fun c a a' w hd h => hP c a a' w hd h) HO0 HM0 HB4 (Lib.hid (fun w' hb => (HQ4.out.below hb).cells.2.2.1)) (by omega) ?_
  intro o t17 t148 t149 t150 t151 t152 t153 t154 t155 t156 t157 t158 t159 t160 t161 t162 w6 h6
  obtain ⟨hok, hb6⟩ := h6
  have HOK := Lib.hid hok
  have HQ6 : Hid (NodeVar w6 wr.heap.size e xv) := Lib.hid (HQ4.out.below hb6)
  have HB6 : Hid (Below w5.heap.size w5 w6) := Lib.hid (HB4.out.trans (hb6.mono HB4.out.size))
  have HBR6 : Hid (Below wr.heap.size wr w6) := Lib.hid (HBR4.out.trans (hb6.mono HBR4.out.size))
  clear hok hb6 HQ4 HB4 HBR4
  have HX6 : Hid (XsAt w6 xv e.at_.xs) := Lib.hid (xs_below HXV.out HB6.out)
  go_upto_region 35 with (fail)
  refine hn35 _ _ _ _ _ _ _ _ _ _ _ _ _ _ _ _ _ _ _ _ _ _ _ _ _ _ _ _ _ _ _ _ _ _ _ _ _ _ _ _ _ _ _ _ _ _ _ _ _ _ _ _ _ _ _ _ _ _ _ _ _ _ _ _ _ _ _ _ _ _ _ _ _ _ _ _ _ _ _ _ _ _ _ _ _ _ _ _ _ _ _ _ _ _ _ _ _ _ _ _ _ _ _ _ _ _ _ _ _ _ _ _ _ _ _ _ _ _ _ _ _ _ _ _ _ _ _ _ _ _ _ _ _ _ _ _ _ _ _ _ _ _ _ _ _ _ _ _ _ _ _ _ _ _ _ _ _ _ _ _ _ _ _ _ _ _ _ _ _ _ _ _ _ _ _ _ _ _ _ _ _ _ _ _ _ _ _ _ _ _ _ _ _ _ _ _ _ _ _ _ _ _ _ _ _ _ _ _ _ _ _ _ _ _ _ _ _ _ _ _ _ _ _ _ _ _ _ _ _ _ _ _ _ _ _ _ _ _ _ _ _ _ _ _ _ _ _ _ _ _ (fun c a a' w hd h => hP c a a' w hd h) HQ6 HX6 (fun hc => ?_) ?_
  · have hL := (HNO.out hc).1
    have he0 : T.L[k]? = some e := by rw [← hL]; exact HE.out
    obtain ⟨p0, hp0, hpy0⟩ : ∃ p, R0[k]? = some p ∧ p.1 = e := by
      have h := he0
      rw [← HM0.out, List.getElem?_map] at h
      obtain ⟨p, hp, h⟩ := Option.map_eq_some_iff.1 h
      exact ⟨p, hp, h⟩
    obtain ⟨g0, hva, _, hrow0⟩ := told_row HO0.out hp0
    rw [hpy0] at hrow0
    have hx0 := told_xs HO0.out hp0 (by rw [hpy0]; exact fun x hx => attr_lens (G1.out.att e HET.out) x hx)
    rw [hpy0] at hx0
    exact ⟨g0, p0.2, hva, by have := (List.getElem?_eq_some_iff.1 he0).1; omega, xs_below hx0 HB6.out, fun w' hb => hrow0 w' (HB6.out.trans (hb.mono HB6.out.size))⟩
  intro t163 t164 t165 t166 t167 t168 t169 t170 t171 t172 t173 t174 t175 t176 t177 t178 t179 t180 t181 t182 w7 hb7
  have HQ7 : Hid (NodeVar w7 wr.heap.size e xv) := Lib.hid (HQ6.out.below hb7)
  have HB7 : Hid (Below w5.heap.size w5 w7) := Lib.hid (HB6.out.trans (hb7.mono HB6.out.size))
  have HBR7 : Hid (Below wr.heap.size wr w7) := Lib.hid (HBR6.out.trans (hb7.mono HBR6.out.size))
  clear hb7 HQ6 HB6 HBR6 HX6 HNO
  rcases node_cases hWas.out G0.out hg.out HET.out with hnew | ⟨x0, hx0, hi0, hcase⟩
  · obtain ⟨hn1, hn2, hn3⟩ := hnew
    obtain rfl : o = -1 := by
      rcases HOK.out with ⟨h, _⟩ | ⟨j, x, _, hx, hi⟩
      · exact h
      · exact absurd hi (hn1 x (List.mem_of_getElem? hx))
    have KS : Hid (∀ w', Below w7.heap.size w7 w' → w'.cell? ⟨wr.heap.size, 9, none⟩ = some (.int .u64 (e.ino : Int)) ∧ w'.cell? ⟨wr.heap.size, 10, none⟩ = some (.int .i64 (T'.clock : Int))) := Lib.hid (fun w' hb => by
      obtain ⟨_, _, q3, q4⟩ := (HQ7.out.below hb).cells
      rw [hn3] at q4
      exact ⟨q3, q4⟩)
    clear hn1 hn3
    go_upto_region 38 with (fail)
    refine hn38 _ _ _ _ _ _ _ _ _ _ _ _ _ _ _ _ _ _ _ _ _ _ _ _ _ _ _ _ _ _ _ _ _ _ _ _ _ _ _ _ _ _ _ _ _ _ _ _ _ _ _ _ _ _ _ _ _ _ _ _ _ _ _ _ _ _ _ _ _ _ _ _ _ _ _ _ _ _ _ _ _ _ _ _ _ _ _ _ _ _ _ _ _ _ _ _ _ _ _ _ _ _ _ _ _ _ _ _ _ _ _ _ _ _ _ _ _ _ _ _ _ _ _ _ _ _ _ _ _ _ _ _ _ _ _ _ _ _ _ _ _ _ _ _ _ _ _ _ _ _ _ _ _ _ _ _ _ _ _ _ _ _ _ _ _ _ _ _ _ _ _ _ _ _ _ _ _ _ _ _ _ _ _ _ _ _ _ _ _ _ _ _ _ _ _ _ _ _ _ _ _ _ _ _ _ _ _ _ _ _ _ _ _ _ _ _ _ _ _ _ _ _ _ _ _ _ _ _ _ _ _ _ _ _ _ _ _ _ _ _ _ _ _ _ _ _ _ _ _ _ _ (fun c a a' w hd h => hP c a a' w hd h) KS hn2 (Lib.hid (fun W hb => NW.out W (HB7.out.trans (hb.mono HB7.out.size)))) ?_
    intro t186 t187 t188 t189 t190 t191 t192 t193 t194 t195 w8 hb8
    have HBR8 : Hid (Below wr.heap.size wr w8) := Lib.hid (HBR7.out.trans (hb8.mono HBR7.out.size))
    clear hb8 KS hn2
    go_wp2
    exact HKH.out mo2 _ _ _ _ _ _ _ _ _ _ _ _ _ _ _ _ _ _ _ _ _ _ _ _ _ _ _ _ _ _ _ _ _ _ _ _ _ _ _ _ _ _ _ _ _ _ _ _ _ _ _ _ _ _ _ _ _ _ _ _ _ _ _ _ _ _ _ _ _ _ _ _ _ _ _ _ _ _ _ _ _ _ _ _ _ _ _ _ _ _ _ _ _ _ _ _ _ _ _ _ _ _ _ _ _ _ _ _ _ _ _ _ _ _ _ _ _ _ _ _ _ _ _ _ _ _ _ _ _ _ _ _ _ _ _ _ _ _ _ _ _ _ _ _ _ _ ⟨HMO.out, HBR8.out⟩
  · obtain ⟨j, hj, ho⟩ : ∃ j : Nat, T.L[j]? = some x0 ∧ o = (j : Int) := by
      rcases HOK.out with ⟨_, h⟩ | ⟨j, x, h1, hx, hi⟩
      · obtain ⟨j, hj, hjx⟩ := List.mem_iff_getElem.1 hx0
        exact absurd hi0 (h j x0 hj (by rw [List.getElem?_eq_getElem hj, hjx]))
      · exact ⟨j, by rw [hx, inos_inj G0.out.inos (List.mem_of_getElem? hx) hx0 (hi.trans hi0.symm)], h1⟩
    subst ho
    have hjl : j < T.L.length := (List.getElem?_eq_some_iff.1 hj).1
    obtain ⟨p0, hp0, hpy0⟩ : ∃ p, R0[j]? = some p ∧ p.1 = x0 := by
      have h := hj
      rw [← HM0.out, List.getElem?_map] at h
      obtain ⟨p, hp, h⟩ := Option.map_eq_some_iff.1 h
      exact ⟨p, hp, h⟩
    obtain ⟨x0', yv⟩ := p0
    obtain rfl : x0 = x0' := hpy0.symm
    obtain ⟨g0, rfl, _, hrow0⟩ := told_row HO0.out hp0
    have HRW : Hid (∀ w', Below w7.heap.size w7 w' → w'.rangeAt g0 (j * 11) (vcells x0 yv)) := Lib.hid (fun w' hb => hrow0 w' (HB7.out.trans (hb.mono HB7.out.size)))
    have hcl : (T.clock : Int) ≤ 1099511627776 := by have := G0.out.clock; omega
    have HX0 := Lib.hid hx0
    rcases hcase with hsame | ⟨hne, htk⟩
    · obtain ⟨s1, s2, s3, s4⟩ := hsame
      have HYV : Hid (XsAt w7 yv e.at_.xs) := Lib.hid (by
        have h := told_xs HO0.out hp0 (fun x hx => attr_lens (G0.out.att x0 hx0) x hx)
        rw [s2]; exact xs_below h HB7.out)
      have HXV7 : Hid (XsAt w7 xv e.at_.xs) := Lib.hid (xs_below HXV.out HB7.out)
      have NA : Hid (∀ W, Below w7.heap.size w7 W → Calls Tryd.prog 36 #[.slice (some ⟨g1, 0, none⟩) T'.L.length nc, .string ⟨(pathN e.nm).toArray⟩] W fun z w' => ∃ v', z = .returned v' ∧ PathAt W.heap.size w' v' (namesT T'.L e.nm) ∧ Below W.heap.size W w') := Lib.hid (fun W hb =>
        names_told (HO1.out.below (HB7.out.trans (hb.mono HB7.out.size))) HM1.out G1.out (by omega) HET.out)
      have NB : Hid (∀ W, Below w7.heap.size w7 W → Calls Tryd.prog 36 #[.slice (some ⟨g0, 0, none⟩) T.L.length vc, .string ⟨(pathN x0.nm).toArray⟩] W fun z w' => ∃ v', z = .returned v' ∧ PathAt W.heap.size w' v' (namesT T'.L e.nm) ∧ Below W.heap.size W w') := Lib.hid (fun W hb => by
        rw [s4]
        exact names_told (HO0.out.below (HB7.out.trans (hb.mono HB7.out.size))) HM0.out G0.out (by omega) HX0.out)
      obtain ⟨tk, htk⟩ : ∃ tk, tk = e.tick := ⟨_, rfl⟩
      have hi0' := hi0
      clear hj hp0 hrow0 hi0 hx0
      go_upto_region 40 with (fail)
      refine hn40s _ _ _ _ _ _ _ _ _ _ _ _ _ _ _ _ _ _ _ _ _ _ _ _ _ _ _ _ _ _ _ _ _ _ _ _ _ _ _ _ _ _ _ _ _ _ _ _ _ _ _ _ _ _ _ _ _ _ _ _ _ _ _ _ _ _ _ _ _ _ _ _ _ _ _ _ _ _ _ _ _ _ _ _ _ _ _ _ _ _ _ _ _ _ _ _ _ _ _ _ _ _ _ _ _ _ _ _ _ _ _ _ _ _ _ _ _ _ _ _ _ _ _ _ _ _ _ _ _ _ _ _ _ _ _ _ _ _ _ _ _ _ _ _ _ _ _ _ _ _ _ _ _ _ _ _ _ _ _ _ _ _ _ _ _ _ _ _ _ _ _ _ _ _ _ _ _ _ _ _ _ _ _ _ _ _ _ _ _ _ _ _ _ _ _ _ _ _ _ _ _ _ _ _ _ _ _ _ _ _ _ _ _ _ _ _ _ _ _ _ _ _ _ _ _ _ _ _ _ _ _ _ _ _ _ _ _ _ _ _ _ _ _ _ _ _ _ _ _ (fun c a a' w hd h => hP c a a' w hd h) rfl htk.symm (s1.symm.trans htk.symm) s2.symm s3.symm hi0' HQ7 HRW hjl HXV7 HYV NA NB ?_
      intro t197 t198 t199 t200 t201 t202 t203 t204 t205 t206 t207 t208 t209 t210 t211 t212 t213 t214 t215 t216 t217 t218 t219 t220 t221 t222 t223 t224 t225 t226 t227 t228 t229 t230 t231 t232 t233 t234 t235 t236 t237 t238 t239 t240 t241 t242 t243 t244 t245 t246 t247 t248 t249 t250 w8 hb8
      have HBR8 : Hid (Below wr.heap.size wr w8) := Lib.hid (HBR7.out.trans (hb8.mono HBR7.out.size))
      clear hb8 NA NB htk s1 s2 s3 s4
      go_wp2
      exact HKH.out mo2 _ _ _ _ _ _ _ _ _ _ _ _ _ _ _ _ _ _ _ _ _ _ _ _ _ _ _ _ _ _ _ _ _ _ _ _ _ _ _ _ _ _ _ _ _ _ _ _ _ _ _ _ _ _ _ _ _ _ _ _ _ _ _ _ _ _ _ _ _ _ _ _ _ _ _ _ _ _ _ _ _ _ _ _ _ _ _ _ _ _ _ _ _ _ _ _ _ _ _ _ _ _ _ _ _ _ _ _ _ _ _ _ _ _ _ _ _ _ _ _ _ _ _ _ _ _ _ _ _ _ _ _ _ _ _ _ _ _ _ _ _ _ _ _ _ _ ⟨HMO.out, HBR8.out⟩
    · have KS : Hid (∀ w', Below w7.heap.size w7 w' → w'.cell? ⟨wr.heap.size, 10, none⟩ = some (.int .i64 ((T.clock : Int) + 1)) ∧ w'.cell? ⟨g0, j * 11 + 10, none⟩ = some (.int .i64 x0.tick)) := Lib.hid (fun w' hb => by
        obtain ⟨_, _, _, q4⟩ := (HQ7.out.below hb).cells
        rw [htk] at q4
        exact ⟨q4, (range_row (HRW.out w' hb)).2.2⟩)
      have hne2 : (T.clock : Int) + 1 ≠ x0.tick := by rw [← htk]; exact hne
      have hc00 : (0 : Int) ≤ (T.clock : Int) := by omega
      clear hj hp0 hrow0 hi0 hx0 hne htk
      go_upto_region 40 with (fail)
      refine hn40c _ _ _ _ _ _ _ _ _ _ _ _ _ _ _ _ _ _ _ _ _ _ _ _ _ _ _ _ _ _ _ _ _ _ _ _ _ _ _ _ _ _ _ _ _ _ _ _ _ _ _ _ _ _ _ _ _ _ _ _ _ _ _ _ _ _ _ _ _ _ _ _ _ _ _ _ _ _ _ _ _ _ _ _ _ _ _ _ _ _ _ _ _ _ _ _ _ _ _ _ _ _ _ _ _ _ _ _ _ _ _ _ _ _ _ _ _ _ _ _ _ _ _ _ _ _ _ _ _ _ _ _ _ _ _ _ _ _ _ _ _ _ _ _ _ _ _ _ _ _ _ _ _ _ _ _ _ _ _ _ _ _ _ _ _ _ _ _ _ _ _ _ _ _ _ _ _ _ _ _ _ _ _ _ _ _ _ _ _ _ _ _ _ _ _ _ _ _ _ _ _ _ _ _ _ _ _ _ _ _ _ _ _ _ _ _ _ _ _ _ _ _ _ _ _ _ _ _ _ _ _ _ _ _ _ _ _ _ _ _ _ _ _ _ _ _ _ _ _ (fun c a a' w hd h => hP c a a' w hd h) rfl KS hjl ⟨hc00, hcl⟩ hne2 ?_
      intro t197 t198 t199 t200 t201 t202 t203 t204 t205 t206 t207 t208 t209 t210 t211 t212 t213 t214 t215 t216 t217 t218 t219 t220 t221 t222 t223 t224 t225 t226 t227 t228 t229 t230 t231 t232 t233 t234 t235 t236 t237 t238 t239 t240 t241 t242 t243 t244 t245 t246 t247 t248 t249 t250 w8 hb8
      have HBR8 : Hid (Below wr.heap.size wr w8) := Lib.hid (HBR7.out.trans (hb8.mono HBR7.out.size))
      clear hb8 KS hne2
      go_wp2
      exact HKH.out mo2 _ _ _ _ _ _ _ _ _ _ _ _ _ _ _ _ _ _ _ _ _ _ _ _ _ _ _ _ _ _ _ _ _ _ _ _ _ _ _ _ _ _ _ _ _ _ _ _ _ _ _ _ _ _ _ _ _ _ _ _ _ _ _ _ _ _ _ _ _ _ _ _ _ _ _ _ _ _ _ _ _ _ _ _ _ _ _ _ _ _ _ _ _ _ _ _ _ _ _ _ _ _ _ _ _ _ _ _ _ _ _ _ _ _ _ _ _ _ _ _ _ _ _ _ _ _ _ _ _ _ _ _ _ _ _ _ _ _ _ _ _ _ _ _ _ _ ⟨HMO.out, HBR8.out⟩
end Go.Proofs.YthcjjekkjbidlaaDoor.Sr
