import Derived.Test.YtnkapojbijbbaaaGreatDoorZPZz
import Derived.Test.YtnkapojbijbbaaaGreatDoorZPSrLawSt
set_option linter.unusedSimpArgs false
set_option linter.unusedVariables false
set_option maxHeartbeats 40000000
set_option maxRecDepth 100000
namespace Go.Proofs.YtnkapojbijbbaaaGreatDoor.Sr
open Go.RowKit Go.Maps Go.WideMaps Rf Go.Proofs.YtnkapojbijbbaaaGreatDoor.Nm St
theorem ch_p14 {Q : Exit → Act → World → Prop} (u1 u2 u3 u4 u5 u8 u9 u11 u12 u13 u14 u15 u16 u17 u18 u19 u20 u21 u22 u23 u24 u25 u26 u27 u28 u29 u30 u31 u32 u33 u34 u35 u36 u37 u38 u39 u40 u41 u42 u43 u44 u45 u46 u47 u48 u49 u50 u51 u52 u53 u54 u55 u56 u57 u58 u59 u60 u61 u62 u63 u64 u65 u66 u67 u68 u69 u70 u71 u72 u73 u74 u75 u76 u77 u78 u79 u80 u81 u82 u83 u84 u85 u86 u87 u88 u89 u90 u91 u92 u93 u94 u95 u96 u97 u98 u99 u100 u101 u102 u103 u104 u105 u106 u107 u108 u109 u110 u111 u112 u113 u114 u115 u116 u117 u118 u119 u120 u121 u122 u123 u124 u125 u126 u127 u128 u129 u130 u131 u132 u133 u134 u135 u136 u137 u138 u139 u140 u141 u142 u143 u144 u145 u146 u147 u148 u149 u150 u151 u152 u153 u154 u155 u156 u157 u158 u159 u160 u161 u162 u163 u164 u165 u166 u167 u168 u169 u170 u171 u172 u173 u174 u175 u176 u177 u178 u179 : Value) {r g b q j i n cap k ba oa : Nat} {s10 : Nat} {w ws : World} {T : Tr} {X : List SE} {qv jv : Value} {R : List RN} {x : Chg}
 (hP : ∀ c (a a' : Act) w, a.defers = a'.defers → Q (.panic c) a w → Q (.panic c) a' w) (hil : (i : Int) < (n : Int)) (hnm : n ≤ 9223372036854775807) (HRG : Hid (∀ W, Below w.heap.size w W → W.rangeAt ba (oa + i * 4) x.cells)) (HFX : x.Fits) {Y : List SE} (HS : Hid (ChSt w.heap.size ws r T g b X q qv R T.bare j jv Y)) (HG : Hid (Good k T ∧ T.clock ≤ k)) (hk : k ≤ 900) (HLW : Hid (Below w.heap.size w ws)) (HQ : Hid (ws.heap[s10]? = some (.cells (statN x.path T.L).stat.toArray 44))) (HTB : Hid (Tabs w)) (HQW : Hid (s10 ∉ j :: ob jv))
 (HK : ∀ (t99 t100 t101 t102 t103 t104 t105 t106 t107 t108 t109 t110 t111 t112 t113 : Value) (w' : World), (∃ jv', ChSt w.heap.size w' r T g b X q qv R T.bare j jv' (setX (entM x.path x.more T.L) Y).2 ∧ Below w.heap.size w w') → Q .normal ⟨#[.slice (some ⟨ba, oa, none⟩) n cap, u1, u2, u3, u4, u5, .pointer (some ⟨j, 0, none⟩), .int .i64 (i : Int), u8, u9, .pointer (some ⟨s10, 0, none⟩), u11, u12, u13, u14, u15, u16, u17, u18, u19, u20, u21, u22, u23, u24, u25, u26, u27, u28, u29, u30, u31, u32, u33, u34, u35, u36, u37, u38, u39, u40, u41, u42, u43, u44, u45, u46, u47, u48, u49, u50, u51, u52, u53, u54, u55, u56, u57, u58, u59, u60, u61, u62, u63, u64, u65, u66, u67, u68, u69, u70, u71, u72, u73, u74, u75, u76, u77, u78, u79, u80, u81, u82, u83, u84, u85, u86, u87, u88, u89, u90, u91, u92, u93, u94, u95, u96, u97, u98, t99, t100, t101, t102, t103, t104, t105, t106, t107, t108, t109, t110, t111, t112, t113, u114, u115, u116, u117, u118, u119, u120, u121, u122, u123, u124, u125, u126, u127, u128, u129, u130, u131, u132, u133, u134, u135, u136, u137, u138, u139, u140, u141, u142, u143, u144, u145, u146, u147, u148, u149, u150, u151, u152, u153, u154, u155, u156, u157, u158, u159, u160, u161, u162, u163, u164, u165, u166, u167, u168, u169, u170, u171, u172, u173, u174, u175, u176, u177, u178, u179], []⟩ w') :
 Code.wp Tryz.prog (chR 14) Q ⟨#[.slice (some ⟨ba, oa, none⟩) n cap, u1, u2, u3, u4, u5, .pointer (some ⟨j, 0, none⟩), .int .i64 (i : Int), u8, u9, .pointer (some ⟨s10, 0, none⟩), u11, u12, u13, u14, u15, u16, u17, u18, u19, u20, u21, u22, u23, u24, u25, u26, u27, u28, u29, u30, u31, u32, u33, u34, u35, u36, u37, u38, u39, u40, u41, u42, u43, u44, u45, u46, u47, u48, u49, u50, u51, u52, u53, u54, u55, u56, u57, u58, u59, u60, u61, u62, u63, u64, u65, u66, u67, u68, u69, u70, u71, u72, u73, u74, u75, u76, u77, u78, u79, u80, u81, u82, u83, u84, u85, u86, u87, u88, u89, u90, u91, u92, u93, u94, u95, u96, u97, u98, u99, u100, u101, u102, u103, u104, u105, u106, u107, u108, u109, u110, u111, u112, u113, u114, u115, u116, u117, u118, u119, u120, u121, u122, u123, u124, u125, u126, u127, u128, u129, u130, u131, u132, u133, u134, u135, u136, u137, u138, u139, u140, u141, u142, u143, u144, u145, u146, u147, u148, u149, u150, u151, u152, u153, u154, u155, u156, u157, u158, u159, u160, u161, u162, u163, u164, u165, u166, u167, u168, u169, u170, u171, u172, u173, u174, u175, u176, u177, u178, u179], []⟩ ws := by
 have HKH := Lib.hid HK
 clear HK
 conv => arg 2; whnf
 obtain ⟨S0, hS0⟩ : ∃ S0, S0 = statN x.path T.L := ⟨_, rfl⟩
 obtain ⟨E0, hE0⟩ : ∃ E0, E0 = entM x.path x.more T.L := ⟨_, rfl⟩
 have HE0 := Lib.hid hE0
 have HF : Hid E0.Fits := Lib.hid (by rw [hE0]; exact entM_fits HG.out.1 (by omega) HFX.path (idOf_length _))
 have HCE : Hid (enV E0 = .agg (.string ⟨x.path.toArray⟩ :: .int .u8 (S0.node : Int) :: .int .i64 S0.size :: .int .u64 (S0.ino : Int) :: .int .i64 S0.tick :: .int .u8 1 :: Lib.byteCells (idOf x.more)).toArray) := Lib.hid (by rw [hE0, hS0]; rfl)
 rw [← hS0] at HQ
 have KS : Hid (∀ w', Below ws.heap.size ws w' → w'.rangeAt s10 0 S0.stat ∧ w'.cell? ⟨ba, oa + i * 4 + 1, none⟩ = some (.string ⟨x.path.toArray⟩) ∧ w'.cell? ⟨ba, oa + i * 4 + 2, none⟩ = some (.string ⟨x.more.toArray⟩)) := Lib.hid (fun w' hb => by
  have hr := HRG.out w' (HLW.out.trans (hb.mono HLW.out.size))
  exact ⟨range_block ((hb.block _ (lt_of_heap HQ.out)).trans HQ.out), hr 1 _ rfl, hr 2 _ rfl⟩)
 clear hS0 hE0
 refine wp_region_held_drew (S := (fun w' : World => w'.rangeAt s10 0 S0.stat ∧ w'.cell? ⟨ba, oa + i * 4 + 1, none⟩ = some (.string ⟨x.path.toArray⟩) ∧ w'.cell? ⟨ba, oa + i * 4 + 2, none⟩ = some (.string ⟨x.more.toArray⟩))) (by kernel_rfl) (KS.out _ (Below.refl _ _).drew) (fun hHeld => ?_)
 refine tk 0 rfl (v := ?_) (fun _ _ _ h => hP _ _ _ _ (by rfl) h) ?chp140 hHeld ?_
 case chp140 => intro wS hSw; have k1 := hSw.2.1; have k2 := hSw.2.2; go_simp; try with_reducible rfl
 try simp only [Act.put, zA, zB, zC, zD, zE, zF]
 refine tk 1 rfl (v := ?_) (fun _ _ _ h => hP _ _ _ _ (by rfl) h) ?chp141 hHeld ?_
 case chp141 => intro wS hSw; have k1 := hSw.2.1; have k2 := hSw.2.2; go_simp; try with_reducible rfl
 try simp only [Act.put, zA, zB, zC, zD, zE, zF]
 refine tk 2 rfl (v := ?_) (fun _ _ _ h => hP _ _ _ _ (by rfl) h) ?chp142 hHeld ?_
 case chp142 => intro wS hSw; have k1 := hSw.2.1; have k2 := hSw.2.2; go_simp; try with_reducible rfl
 try simp only [Act.put, zA, zB, zC, zD, zE, zF]
 refine tk 3 rfl (v := ?_) (fun _ _ _ h => hP _ _ _ _ (by rfl) h) ?chp143 hHeld ?_
 case chp143 => intro wS hSw; have k1 := hSw.2.1; have k2 := hSw.2.2; go_simp; try with_reducible rfl
 try simp only [Act.put, zA, zB, zC, zD, zE, zF]
 refine tk 4 rfl (v := ?_) (fun _ _ _ h => hP _ _ _ _ (by rfl) h) ?chp144 hHeld ?_
 case chp144 => intro wS hSw; have k1 := hSw.2.1; have k2 := hSw.2.2; go_simp; try with_reducible rfl
 try simp only [Act.put, zA, zB, zC, zD, zE, zF]
 refine tk 5 rfl (v := ?_) (fun _ _ _ h => hP _ _ _ _ (by rfl) h) ?chp145 hHeld ?_
 case chp145 => intro wS hSw; have k1 := hSw.2.1; have k2 := hSw.2.2; go_simp; try with_reducible rfl
 try simp only [Act.put, zA, zB, zC, zD, zE, zF]
 refine' wpAnyH_take (i := 6) (v := _) rfl (by kernel_rfl) (by kernel_rfl) (by kernel_rfl) (fun _ _ _ h => hP _ _ _ _ (by rfl) h) (yieldsIf_load_mid (by rfl) _ _ rfl s10 0 rfl S0.stat _ ?chp146S ?chp146u ?chp146d ?chp146i) hHeld ?chp146x
 case chp146S => intro wS hSw; exact hSw.1
 case chp146u => exact Tryz.underlying44
 case chp146d => rfl
 case chp146i => exact infoStR
 try simp only [Act.put, zA, zB, zC, zD, zE, zF]
 refine tk 7 rfl (v := ?_) (fun _ _ _ h => hP _ _ _ _ (by rfl) h) ?chp147 hHeld ?_
 case chp147 => intro wS hSw; have k1 := hSw.2.1; have k2 := hSw.2.2; go_simp; try with_reducible rfl
 try simp only [Act.put, zA, zB, zC, zD, zE, zF]
 refine tk 8 rfl (v := ?_) (fun _ _ _ h => hP _ _ _ _ (by rfl) h) ?chp148 hHeld ?_
 case chp148 => intro wS hSw; have k1 := hSw.2.1; have k2 := hSw.2.2; go_simp; try with_reducible rfl
 try simp only [Act.put, zA, zB, zC, zD, zE, zF]
 refine tk 9 rfl (v := ?_) (fun _ _ _ h => hP _ _ _ _ (by rfl) h) ?chp149 hHeld ?_
 case chp149 => intro wS hSw; have k1 := hSw.2.1; have k2 := hSw.2.2; go_simp; try with_reducible rfl
 try simp only [Act.put, zA, zB, zC, zD, zE, zF]
 refine tk 10 rfl (v := ?_) (fun _ _ _ h => hP _ _ _ _ (by rfl) h) ?chp1410 hHeld ?_
 case chp1410 => intro wS hSw; have k1 := hSw.2.1; have k2 := hSw.2.2; go_simp; try with_reducible rfl
 try simp only [Act.put, zA, zB, zC, zD, zE, zF]
 refine tk 11 rfl (v := ?_) (fun _ _ _ h => hP _ _ _ _ (by rfl) h) ?chp1411 hHeld ?_
 case chp1411 => intro wS hSw; have k1 := hSw.2.1; have k2 := hSw.2.2; go_simp; try with_reducible rfl
 try simp only [Act.put, zA, zB, zC, zD, zE, zF]
 refine wpAnyH_ready (rs := [12]) (by kernel_rfl) (by simp) ?_
 refine AllReadyH.cons rfl (fun K hK => ?_) AllReadyH.nil
 go_simp
 refine (id_any ws.drew x.more (by have := HFX.more; unfold maxLen; omega)).mono ?_
 rintro ex w4 ⟨rfl, hb4⟩
 have HB4 : Hid (Below ws.heap.size ws w4) := Lib.hid ((Below.refl _ ws).drew.trans hb4)
 clear hb4
 refine hK.out _ _ (KS.out _ HB4.out) (fun hHeld2 => ?_)
 clear hK K hHeld
 have hHeld := hHeld2
 clear hHeld2
 try simp only [Act.put, zA, zB, zC, zD, zE, zF]
 refine tk 13 rfl (v := (.agg (.string ⟨x.path.toArray⟩ :: .int .u8 (S0.node : Int) :: .int .i64 S0.size :: .int .u64 (S0.ino : Int) :: .int .i64 S0.tick :: .int .u8 1 :: Lib.byteCells (idOf x.more)).toArray)) (fun _ _ _ h => hP _ _ _ _ (by rfl) h) ?chp1413 hHeld ?_
 case chp1413 =>
  intro wS hSw
  refine exec_benR (x0 := .tmp 104) (x1 := .tmp 105) (x2 := .const (.int .u8 1)) (x3 := .tmp 111) ⟨x.path.toArray⟩ (S0.node : Int) S0.size (S0.ino : Int) S0.tick 1 (idOf x.more) (idOf_length x.more) ?_ ?_ ?_ ?_ ?_
  all_goals first | kernel_rfl | rfl
 try simp only [Act.put, zA, zB, zC, zD, zE, zF]
 refine wpAnyH_ready (rs := [14]) (by kernel_rfl) (by simp) ?_
 refine AllReadyH.cons rfl (fun K hK => ?_) AllReadyH.nil
 have SE4 := ref_set w.heap.size w4 (HTB.out.below (HLW.out.trans (HB4.out.mono HLW.out.size))) j jv Y E0 HF.out (HS.out.below HB4.out).rix
 unfold ptr at SE4
 rw [HCE.out] at SE4
 go_simp
 refine SE4.mono ?_
 rintro ez w5 ⟨jv5, rfl, hi5, hu5, ho5⟩
 have HS5 := Lib.hid ((HS.out.below HB4.out).rset hi5 hu5 (fun x hx => (ho5 x hx)))
 have HL5 := Lib.hid ((HLW.out.trans (HB4.out.mono HLW.out.size)).trans ((HS.out.below HB4.out).lowJ hu5))
 have HT5 : Hid (Turn (j :: ob jv) ws w5) := Lib.hid ((Turn.of_below HB4.out).trans hu5 (fun y hy => .inl hy))
 have KS5 : Hid (w5.rangeAt s10 0 S0.stat ∧ w5.cell? ⟨ba, oa + i * 4 + 1, none⟩ = some (.string ⟨x.path.toArray⟩) ∧ w5.cell? ⟨ba, oa + i * 4 + 2, none⟩ = some (.string ⟨x.more.toArray⟩)) := Lib.hid (by
  have hr := HRG.out w5 HL5.out
  exact ⟨range_block ((HT5.out.block _ (lt_of_heap HQ.out) HQW.out).trans HQ.out), hr 1 _ rfl, hr 2 _ rfl⟩)
 clear hi5 hu5 ho5
 refine hK.out _ _ KS5.out (fun hHeld2 => ?_)
 clear hK K hHeld
 have hHeld := hHeld2
 clear hHeld2
 try simp only [Act.put, zA, zB, zC, zD, zE, zF]
 refine wpAnyH_done (by kernel_rfl) ?_ _
 clear hHeld
 try simp only [Act.put, zA, zB, zC, zD, zE, zF]
 exact HKH.out _ _ _ _ _ _ _ _ _ _ _ _ _ _ _ _ ⟨jv5, by have h := HS5.out; rw [HE0.out] at h; exact h, HL5.out⟩
end Go.Proofs.YtnkapojbijbbaaaGreatDoor.Sr
namespace Go.Proofs.YtnkapojbijbbaaaGreatDoor.Sr
open Go.RowKit Go.Maps Go.WideMaps Rf Go.Proofs.YtnkapojbijbbaaaGreatDoor.Nm St
def RowIs (w : World) (g : Nat) (C : List (List UInt8)) (f : Nat) : Prop :=
 ∃ cur T, w.heap[g]? = some (.cells cur T) ∧ ∀ (j : Nat) x, f ≤ j → C[j]? = some x → cur[j]? = some (sv x)
section
variable {w w' : World} {g g' f j : Nat} {C : List (List UInt8)} {x : List UInt8} {v : Value}
theorem RowIs.cell (h : RowIs w g C f) (hj : f ≤ j) (hx : C[j]? = some x) : w.cell? ⟨g, j, none⟩ = some (sv x) := by
 obtain ⟨cur, T, hq, hc⟩ := h
 rw [cell_of_heap hq]; exact hc j x hj hx
theorem RowIs.frozen (h : RowIs w g C f) : w.frozen? ⟨g, j, none⟩ = false := by
 obtain ⟨cur, T, hq, hc⟩ := h
 exact frozen_of_heap hq
theorem RowIs.same (h : RowIs w g C f) (hb : w'.heap[g]? = w.heap[g]?) : RowIs w' g C f := by
 obtain ⟨cur, T, hq, hc⟩ := h
 exact ⟨cur, T, hb.trans hq, hc⟩
theorem RowIs.set (h : RowIs w g C j) : RowIs (w.setCell ⟨g, j, none⟩ v) g C (j + 1) := by
 obtain ⟨cur, T, hq, hc⟩ := h
 refine ⟨_, T, setCell_heap _ _ _ _ _ _ hq, fun i x hi hx => ?_⟩
 rw [Array.getElem?_setIfInBounds_ne (by omega)]
 exact hc i x (by omega) hx
theorem RowIs.other (h : RowIs w g C f) (hg : g ≠ g') : RowIs (w.setCell ⟨g', j, none⟩ v) g C f := h.same (Below.heap_setCell _ _ _ _ hg)
theorem RowIs.of {B n : Nat} (h : w.ownsRow B 9 1 v n (C.map sv)) (hn : n ≠ 0) : ∃ g cap, v = .slice (some ⟨g, 0, none⟩) n cap ∧ B ≤ g ∧ g < w.heap.size ∧ RowIs w g C 0 := by
 obtain ⟨h1, ⟨hc, h0⟩ | ⟨g, cap, cur, hv, a1, a2, a3, a4, a5, a6⟩⟩ := h
 · first | exact absurd h0.1 hn | exact absurd h0 hn | exact absurd (by simpa using h0) hn
 · refine ⟨g, cap, hv, a1, lt_of_heap a2, cur, _, a2, fun j x _ hx => ?_⟩
   have hk : (C.map sv)[j]? = some (sv x) := by rw [List.getElem?_map, hx]; rfl
   rw [← a6] at hk
   have hlt := (List.getElem?_eq_some_iff.1 hk).1
   rw [List.length_take] at hlt
   rw [List.getElem?_take_of_lt (by omega), Array.getElem?_toList] at hk
   exact hk
end
theorem ch_b2 {Q : Exit → Act → World → Prop} (u0 u1 u2 u3 u4 u5 u6 u7 u8 u9 u10 u11 u12 u14 u16 u19 u20 u21 u22 u23 u24 u25 u26 u27 u28 u29 u30 u31 u32 u33 u34 u35 u36 u37 u38 u39 u40 u41 u42 u43 u44 u45 u46 u47 u48 u49 u50 u51 u52 u53 u54 u55 u56 u57 u58 u59 u60 u61 u62 u63 u64 u65 u66 u67 u68 u69 u70 u71 u72 u73 u74 u75 u76 u77 u78 u79 u80 u81 u82 u83 u84 u85 u86 u87 u88 u89 u90 u91 u92 u93 u94 u95 u96 u97 u98 u99 u100 u101 u102 u103 u104 u105 u106 u107 u108 u109 u110 u111 u112 u113 u114 u115 u116 u117 u118 u119 u120 u121 u122 u123 u124 u125 u126 u127 u128 u129 u130 u131 u132 u133 u134 u135 u136 u137 u138 u139 u140 u141 u142 u143 u144 u145 u146 u147 u148 u149 u150 u151 u152 u153 u154 u155 u156 u157 u158 u159 u160 u161 u162 u163 u164 u165 u166 u167 u168 u169 u170 u171 u172 u173 u174 u175 u176 u177 u178 u179 : Value) {g3 g5 g7 c3 c5 c7 N : Nat} {C : List (List UInt8)} {w wr : World}
 (hP : ∀ c (a a' : Act) w, a.defers = a'.defers → Q (.panic c) a w → Q (.panic c) a' w) (hlm : C.length ≤ 1000000) (h35 : g5 ≠ g3) (h37 : g7 ≠ g3) (hN : N ≤ g3) (H3 : Hid (RowIs wr g3 C 0)) (H5 : Hid (RowIs wr g5 C 0)) (H7 : Hid (RowIs wr g7 C 0)) (HLW : Hid (Below N w wr))
 (HK : ∀ (t2 t18 t153 t154 t155 t156 t157 t158 t159 t160 t161 t162 t163 t164 t165 t166 t167 t168 t169 t170 t171 t172 t173 t174 t175 t176 t177 t178 t179 : Value) (w' : World), (Below N w w') → Q .normal ⟨#[u0, u1, t2, u3, u4, u5, u6, u7, u8, u9, u10, u11, u12, .slice (some ⟨g3, 0, none⟩) C.length c3, u14, .slice (some ⟨g5, 0, none⟩) C.length c5, u16, .slice (some ⟨g7, 0, none⟩) C.length c7, t18, u19, u20, u21, u22, u23, u24, u25, u26, u27, u28, u29, u30, u31, u32, u33, u34, u35, u36, u37, u38, u39, u40, u41, u42, u43, u44, u45, u46, u47, u48, u49, u50, u51, u52, u53, u54, u55, u56, u57, u58, u59, u60, u61, u62, u63, u64, u65, u66, u67, u68, u69, u70, u71, u72, u73, u74, u75, u76, u77, u78, u79, u80, u81, u82, u83, u84, u85, u86, u87, u88, u89, u90, u91, u92, u93, u94, u95, u96, u97, u98, u99, u100, u101, u102, u103, u104, u105, u106, u107, u108, u109, u110, u111, u112, u113, u114, u115, u116, u117, u118, u119, u120, u121, u122, u123, u124, u125, u126, u127, u128, u129, u130, u131, u132, u133, u134, u135, u136, u137, u138, u139, u140, u141, u142, u143, u144, u145, u146, u147, u148, u149, u150, u151, u152, t153, t154, t155, t156, t157, t158, t159, t160, t161, t162, t163, t164, t165, t166, t167, t168, t169, t170, t171, t172, t173, t174, t175, t176, t177, t178, t179], []⟩ w') :
 Code.wp Tryz.prog (chB 2) Q ⟨#[u0, u1, u2, u3, u4, u5, u6, u7, u8, u9, u10, u11, u12, .slice (some ⟨g3, 0, none⟩) C.length c3, u14, .slice (some ⟨g5, 0, none⟩) C.length c5, u16, .slice (some ⟨g7, 0, none⟩) C.length c7, .int .i64 0, u19, u20, u21, u22, u23, u24, u25, u26, u27, u28, u29, u30, u31, u32, u33, u34, u35, u36, u37, u38, u39, u40, u41, u42, u43, u44, u45, u46, u47, u48, u49, u50, u51, u52, u53, u54, u55, u56, u57, u58, u59, u60, u61, u62, u63, u64, u65, u66, u67, u68, u69, u70, u71, u72, u73, u74, u75, u76, u77, u78, u79, u80, u81, u82, u83, u84, u85, u86, u87, u88, u89, u90, u91, u92, u93, u94, u95, u96, u97, u98, u99, u100, u101, u102, u103, u104, u105, u106, u107, u108, u109, u110, u111, u112, u113, u114, u115, u116, u117, u118, u119, u120, u121, u122, u123, u124, u125, u126, u127, u128, u129, u130, u131, u132, u133, u134, u135, u136, u137, u138, u139, u140, u141, u142, u143, u144, u145, u146, u147, u148, u149, u150, u151, u152, u153, u154, u155, u156, u157, u158, u159, u160, u161, u162, u163, u164, u165, u166, u167, u168, u169, u170, u171, u172, u173, u174, u175, u176, u177, u178, u179], []⟩ wr := by
 have HKH := Lib.hid HK
 clear HK
 conv => arg 2; whnf
 go_wp2
 go_loopw [18] (fun v18 ws => ∃ i : Nat, i ≤ C.length ∧ v18 = .int .i64 (i : Int) ∧ Hid (RowIs ws g3 C i) ∧ Hid (RowIs ws g5 C 0) ∧ Hid (RowIs ws g7 C 0) ∧ Hid (Below N w ws)) (fun v18 _ => C.length - (RowKit.intOf v18).toNat)
 case atStart => exact ⟨0, by omega, rfl, H3, H5, H7, HLW⟩
 case round =>
  rename World => ws
  clear H3 H5 H7 HLW
  obtain ⟨i, hi, rfl, H3, H5, H7, HLW⟩ := hrel
  by_cases hil : (i : Int) < (C.length : Int)
  · have hi2 : i < C.length := by omega
    obtain ⟨x, hx⟩ : ∃ x, C[i]? = some x := ⟨_, List.getElem?_eq_getElem hi2⟩
    have d3 : ws.cell? ⟨g3, i, none⟩ = some (.string ⟨x.toArray⟩) := H3.out.cell (Nat.le_refl _) hx
    have d5 : ws.cell? ⟨g5, i, none⟩ = some (.string ⟨x.toArray⟩) := H5.out.cell (Nat.zero_le _) hx
    have d7 : ws.cell? ⟨g7, i, none⟩ = some (.string ⟨x.toArray⟩) := H7.out.cell (Nat.zero_le _) hx
    have f3 : ws.frozen? ⟨g3, i, none⟩ = false := H3.out.frozen
    have e5 : (ws.setCell ⟨g3, i, none⟩ (.string ⟨#[115, 112, 111, 105, 108, 116]⟩)).cell? ⟨g5, i, none⟩ = some (.string ⟨x.toArray⟩) := (H5.out.other h35).cell (Nat.zero_le _) hx
    have e7 : (ws.setCell ⟨g3, i, none⟩ (.string ⟨#[115, 112, 111, 105, 108, 116]⟩)).cell? ⟨g7, i, none⟩ = some (.string ⟨x.toArray⟩) := (H7.out.other h37).cell (Nat.zero_le _) hx
    have R3 := Lib.hid (H3.out.set (v := .string ⟨#[115, 112, 111, 105, 108, 116]⟩))
    have R5 := Lib.hid (H5.out.other (j := i) (v := .string ⟨#[115, 112, 111, 105, 108, 116]⟩) h35)
    have R7 := Lib.hid (H7.out.other (j := i) (v := .string ⟨#[115, 112, 111, 105, 108, 116]⟩) h37)
    have RB := Lib.hid (HLW.out.setCell (p := ⟨g3, i, none⟩) hN (.string ⟨#[115, 112, 111, 105, 108, 116]⟩))
    clear hx
    go_upto_region 24 with (fail)
    refine wp_region_held_drew (S := (fun w' : World => w'.cell? ⟨g3, i, none⟩ = some (.string ⟨x.toArray⟩) ∧ w'.cell? ⟨g7, i, none⟩ = some (.string ⟨x.toArray⟩))) (by kernel_rfl) (⟨d3, d7⟩) (fun hHeld => ?_)
    refine tk 0 rfl (v := ?_) (fun _ _ _ h => hP _ _ _ _ (by rfl) h) ?x240 hHeld ?_
    case x240 => intro wS hSw; have k1 := hSw.1; have k2 := hSw.2; go_simp; try with_reducible rfl
    try simp only [Act.put, zA, zB, zC, zD, zE, zF]
    refine tk 1 rfl (v := ?_) (fun _ _ _ h => hP _ _ _ _ (by rfl) h) ?x241 hHeld ?_
    case x241 => intro wS hSw; have k1 := hSw.1; have k2 := hSw.2; go_simp; try with_reducible rfl
    try simp only [Act.put, zA, zB, zC, zD, zE, zF]
    refine tk 2 rfl (v := ?_) (fun _ _ _ h => hP _ _ _ _ (by rfl) h) ?x242 hHeld ?_
    case x242 => intro wS hSw; have k1 := hSw.1; have k2 := hSw.2; go_simp; try with_reducible rfl
    try simp only [Act.put, zA, zB, zC, zD, zE, zF]
    refine tk 3 rfl (v := ?_) (fun _ _ _ h => hP _ _ _ _ (by rfl) h) ?x243 hHeld ?_
    case x243 => intro wS hSw; have k1 := hSw.1; have k2 := hSw.2; go_simp; try with_reducible rfl
    try simp only [Act.put, zA, zB, zC, zD, zE, zF]
    refine tk 4 rfl (v := ?_) (fun _ _ _ h => hP _ _ _ _ (by rfl) h) ?x244 hHeld ?_
    case x244 => intro wS hSw; have k1 := hSw.1; have k2 := hSw.2; go_simp; try with_reducible rfl
    try simp only [Act.put, zA, zB, zC, zD, zE, zF]
    refine tk 5 rfl (v := ?_) (fun _ _ _ h => hP _ _ _ _ (by rfl) h) ?x245 hHeld ?_
    case x245 => intro wS hSw; have k1 := hSw.1; have k2 := hSw.2; go_simp; try with_reducible rfl
    try simp only [Act.put, zA, zB, zC, zD, zE, zF]
    refine tk 6 rfl (v := ?_) (fun _ _ _ h => hP _ _ _ _ (by rfl) h) ?x246 hHeld ?_
    case x246 => intro wS hSw; have k1 := hSw.1; have k2 := hSw.2; go_simp; try with_reducible rfl
    try simp only [Act.put, zA, zB, zC, zD, zE, zF]
    refine tk 7 rfl (v := ?_) (fun _ _ _ h => hP _ _ _ _ (by rfl) h) ?x247 hHeld ?_
    case x247 => intro wS hSw; have k1 := hSw.1; have k2 := hSw.2; go_simp; try with_reducible rfl
    try simp only [Act.put, zA, zB, zC, zD, zE, zF]
    refine tk 8 rfl (v := ?_) (fun _ _ _ h => hP _ _ _ _ (by rfl) h) ?x248 hHeld ?_
    case x248 => intro wS hSw; have k1 := hSw.1; have k2 := hSw.2; go_simp; try with_reducible rfl
    try simp only [Act.put, zA, zB, zC, zD, zE, zF]
    refine wpAnyH_done (by kernel_rfl) ?_ _
    clear hHeld
    try simp only [Act.put, zA, zB, zC, zD, zE, zF]
    go_upto_region 27 with (fail)
    refine wp_region_held_drew (S := (fun w' : World => w'.cell? ⟨g5, i, none⟩ = some (.string ⟨x.toArray⟩) ∧ w'.cell? ⟨g7, i, none⟩ = some (.string ⟨x.toArray⟩))) (by kernel_rfl) (⟨e5, e7⟩) (fun hHeld => ?_)
    refine tk 0 rfl (v := ?_) (fun _ _ _ h => hP _ _ _ _ (by rfl) h) ?x270 hHeld ?_
    case x270 => intro wS hSw; have k1 := hSw.1; have k2 := hSw.2; go_simp; try with_reducible rfl
    try simp only [Act.put, zA, zB, zC, zD, zE, zF]
    refine tk 1 rfl (v := ?_) (fun _ _ _ h => hP _ _ _ _ (by rfl) h) ?x271 hHeld ?_
    case x271 => intro wS hSw; have k1 := hSw.1; have k2 := hSw.2; go_simp; try with_reducible rfl
    try simp only [Act.put, zA, zB, zC, zD, zE, zF]
    refine tk 2 rfl (v := ?_) (fun _ _ _ h => hP _ _ _ _ (by rfl) h) ?x272 hHeld ?_
    case x272 => intro wS hSw; have k1 := hSw.1; have k2 := hSw.2; go_simp; try with_reducible rfl
    try simp only [Act.put, zA, zB, zC, zD, zE, zF]
    refine tk 3 rfl (v := ?_) (fun _ _ _ h => hP _ _ _ _ (by rfl) h) ?x273 hHeld ?_
    case x273 => intro wS hSw; have k1 := hSw.1; have k2 := hSw.2; go_simp; try with_reducible rfl
    try simp only [Act.put, zA, zB, zC, zD, zE, zF]
    refine tk 4 rfl (v := ?_) (fun _ _ _ h => hP _ _ _ _ (by rfl) h) ?x274 hHeld ?_
    case x274 => intro wS hSw; have k1 := hSw.1; have k2 := hSw.2; go_simp; try with_reducible rfl
    try simp only [Act.put, zA, zB, zC, zD, zE, zF]
    refine tk 5 rfl (v := ?_) (fun _ _ _ h => hP _ _ _ _ (by rfl) h) ?x275 hHeld ?_
    case x275 => intro wS hSw; have k1 := hSw.1; have k2 := hSw.2; go_simp; try with_reducible rfl
    try simp only [Act.put, zA, zB, zC, zD, zE, zF]
    refine tk 6 rfl (v := ?_) (fun _ _ _ h => hP _ _ _ _ (by rfl) h) ?x276 hHeld ?_
    case x276 => intro wS hSw; have k1 := hSw.1; have k2 := hSw.2; go_simp; try with_reducible rfl
    try simp only [Act.put, zA, zB, zC, zD, zE, zF]
    refine tk 7 rfl (v := ?_) (fun _ _ _ h => hP _ _ _ _ (by rfl) h) ?x277 hHeld ?_
    case x277 => intro wS hSw; have k1 := hSw.1; have k2 := hSw.2; go_simp; try with_reducible rfl
    try simp only [Act.put, zA, zB, zC, zD, zE, zF]
    refine tk 8 rfl (v := ?_) (fun _ _ _ h => hP _ _ _ _ (by rfl) h) ?x278 hHeld ?_
    case x278 => intro wS hSw; have k1 := hSw.1; have k2 := hSw.2; go_simp; try with_reducible rfl
    try simp only [Act.put, zA, zB, zC, zD, zE, zF]
    refine wpAnyH_done (by kernel_rfl) ?_ _
    clear hHeld
    try simp only [Act.put, zA, zB, zC, zD, zE, zF]
    go_wp2
    go_roundw
    case rel => exact ⟨i + 1, by omega, by go_num, Lib.hid (R3.out.same rfl), Lib.hid (R5.out.same rfl), Lib.hid (R7.out.same rfl), Lib.hid RB.out.drew.drew⟩
    case measure => simp [RowKit.intOf]; omega
  · go_wp2
    exact HKH.out _ _ _ _ _ _ _ _ _ _ _ _ _ _ _ _ _ _ _ _ _ _ _ _ _ _ _ _ _ _ HLW.out
theorem ch_b2z {Q : Exit → Act → World → Prop} (u0 u1 u2 u3 u4 u5 u6 u7 u8 u9 u10 u11 u12 u14 u16 u19 u20 u21 u22 u23 u24 u25 u26 u27 u28 u29 u30 u31 u32 u33 u34 u35 u36 u37 u38 u39 u40 u41 u42 u43 u44 u45 u46 u47 u48 u49 u50 u51 u52 u53 u54 u55 u56 u57 u58 u59 u60 u61 u62 u63 u64 u65 u66 u67 u68 u69 u70 u71 u72 u73 u74 u75 u76 u77 u78 u79 u80 u81 u82 u83 u84 u85 u86 u87 u88 u89 u90 u91 u92 u93 u94 u95 u96 u97 u98 u99 u100 u101 u102 u103 u104 u105 u106 u107 u108 u109 u110 u111 u112 u113 u114 u115 u116 u117 u118 u119 u120 u121 u122 u123 u124 u125 u126 u127 u128 u129 u130 u131 u132 u133 u134 u135 u136 u137 u138 u139 u140 u141 u142 u143 u144 u145 u146 u147 u148 u149 u150 u151 u152 u153 u154 u155 u156 u157 u158 u159 u160 u161 u162 u163 u164 u165 u166 u167 u168 u169 u170 u171 u172 u173 u174 u175 u176 u177 u178 u179 : Value) {a3 a5 a7 : Option Addr} {c3 c5 c7 : Nat} {wr : World}
 (_hP : ∀ c (a a' : Act) w, a.defers = a'.defers → Q (.panic c) a w → Q (.panic c) a' w) 
 (HK : ∀ (t2 t18 t153 t154 t155 t156 t157 t158 t159 t160 t161 t162 t163 t164 t165 t166 t167 t168 t169 t170 t171 t172 t173 t174 t175 t176 t177 t178 t179 : Value) (w' : World), (w' = wr) → Q .normal ⟨#[u0, u1, t2, u3, u4, u5, u6, u7, u8, u9, u10, u11, u12, .slice a3 0 c3, u14, .slice a5 0 c5, u16, .slice a7 0 c7, t18, u19, u20, u21, u22, u23, u24, u25, u26, u27, u28, u29, u30, u31, u32, u33, u34, u35, u36, u37, u38, u39, u40, u41, u42, u43, u44, u45, u46, u47, u48, u49, u50, u51, u52, u53, u54, u55, u56, u57, u58, u59, u60, u61, u62, u63, u64, u65, u66, u67, u68, u69, u70, u71, u72, u73, u74, u75, u76, u77, u78, u79, u80, u81, u82, u83, u84, u85, u86, u87, u88, u89, u90, u91, u92, u93, u94, u95, u96, u97, u98, u99, u100, u101, u102, u103, u104, u105, u106, u107, u108, u109, u110, u111, u112, u113, u114, u115, u116, u117, u118, u119, u120, u121, u122, u123, u124, u125, u126, u127, u128, u129, u130, u131, u132, u133, u134, u135, u136, u137, u138, u139, u140, u141, u142, u143, u144, u145, u146, u147, u148, u149, u150, u151, u152, t153, t154, t155, t156, t157, t158, t159, t160, t161, t162, t163, t164, t165, t166, t167, t168, t169, t170, t171, t172, t173, t174, t175, t176, t177, t178, t179], []⟩ w') :
 Code.wp Tryz.prog (chB 2) Q ⟨#[u0, u1, u2, u3, u4, u5, u6, u7, u8, u9, u10, u11, u12, .slice a3 0 c3, u14, .slice a5 0 c5, u16, .slice a7 0 c7, .int .i64 0, u19, u20, u21, u22, u23, u24, u25, u26, u27, u28, u29, u30, u31, u32, u33, u34, u35, u36, u37, u38, u39, u40, u41, u42, u43, u44, u45, u46, u47, u48, u49, u50, u51, u52, u53, u54, u55, u56, u57, u58, u59, u60, u61, u62, u63, u64, u65, u66, u67, u68, u69, u70, u71, u72, u73, u74, u75, u76, u77, u78, u79, u80, u81, u82, u83, u84, u85, u86, u87, u88, u89, u90, u91, u92, u93, u94, u95, u96, u97, u98, u99, u100, u101, u102, u103, u104, u105, u106, u107, u108, u109, u110, u111, u112, u113, u114, u115, u116, u117, u118, u119, u120, u121, u122, u123, u124, u125, u126, u127, u128, u129, u130, u131, u132, u133, u134, u135, u136, u137, u138, u139, u140, u141, u142, u143, u144, u145, u146, u147, u148, u149, u150, u151, u152, u153, u154, u155, u156, u157, u158, u159, u160, u161, u162, u163, u164, u165, u166, u167, u168, u169, u170, u171, u172, u173, u174, u175, u176, u177, u178, u179], []⟩ wr := by
 have HKH := Lib.hid HK
 clear HK
 conv => arg 2; whnf
 go_wp2
 go_loopw [18] (fun v18 ws => v18 = .int .i64 0 ∧ ws = wr) (fun _ _ => 0)
 case atStart => exact ⟨rfl, rfl⟩
 case round =>
  obtain ⟨rfl, rfl⟩ := hrel
  go_wp2
  exact HKH.out _ _ _ _ _ _ _ _ _ _ _ _ _ _ _ _ _ _ _ _ _ _ _ _ _ _ _ _ _ _ rfl
end Go.Proofs.YtnkapojbijbbaaaGreatDoor.Sr
