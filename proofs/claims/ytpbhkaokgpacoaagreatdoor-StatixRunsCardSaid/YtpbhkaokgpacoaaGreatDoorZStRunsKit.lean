import Derived.Test.YtpbhkaokgpacoaaGreatDoorZStArg
set_option linter.unusedSimpArgs false
set_option linter.unusedVariables false
/-
  The regions of the law, taken out of its code.
-/
namespace Go.Proofs.YtpbhkaokgpacoaaGreatDoor.St
open Go.RowKit Go.Maps Go.WideMaps Go.Proofs.YtpbhkaokgpacoaaGreatDoor.Rf Go.Proofs.YtpbhkaokgpacoaaGreatDoor.Rd

def findR (n : Nat) : Code → Option Code
  | .region id ops d => if id = n then some (.region id ops d) else none
  | .seq a b => match findR n a with
    | some c => some c
    | none => findR n b
  | .block _ c => findR n c
  | .cond _ a b => match findR n a with
    | some c => some c
    | none => findR n b
  | .loop c => findR n c
  | _ => none
/-- A region of the law. -/
noncomputable def regF (n : Nat) : Code := (Tryz.f3.body.bind (findR n)).getD .skip
theorem It.len (x : It) : x.cells.length = 7 := rfl
theorem info33 (x : It) : (Tryz.prog.info? 33).map (·.size) = some x.cells.length := by rw [It.len]; kernel_rfl
theorem info33' (x : It) : (Tryz.prog.info? 33).map (·.size) = some x.cells.toArray.size := by show _ = some 7; kernel_rfl
theorem it_one (x : It) : x.cells.toArray.all (·.oneCell') = true := by
  refine Array.all_eq_true_iff_forall_mem.2 (fun u hu => ?_)
  simp [It.cells] at hu
  rcases hu with rfl | rfl | rfl | rfl | rfl | rfl | rfl <;> rfl
/-- The variable of the item. -/
def ItAt (W : World) (q : Nat) (it : It) : Prop := W.heap[q]? = some (.cells it.cells.toArray 33)
theorem ItAt.below {W W' : World} {q : Nat} {it : It} (h : ItAt W q it) (hb : Below W.heap.size W W') : ItAt W' q it := (hb.block _ (lt_of_heap h)).trans h
theorem ItAt.turn {W W' : World} {q : Nat} {it : It} {X : List Nat} (h : ItAt W q it) (hT : Turn X W W') (hq : q ∉ X) : ItAt W' q it := (hT.block _ (lt_of_heap h) hq).trans h
theorem ItAt.range {W : World} {q : Nat} {it : It} (h : ItAt W q it) : W.rangeAt q 0 it.cells := range_block h
theorem ItAt.path {W : World} {q : Nat} {it : It} (h : ItAt W q it) : W.cell? ⟨q, 0, none⟩ = some (.string ⟨it.path.toArray⟩) := by rw [cell_of_heap h]; rfl
end Go.Proofs.YtpbhkaokgpacoaaGreatDoor.St
/-
  The law: an entry may be, or not, on both sides alike.
-/
namespace Go.Proofs.YtpbhkaokgpacoaaGreatDoor.St
open Go.RowKit Go.Maps Go.WideMaps Go.Proofs.YtpbhkaokgpacoaaGreatDoor.Rf Go.Proofs.YtpbhkaokgpacoaaGreatDoor.Rd

set_option linter.unusedSimpArgs false in
set_option maxHeartbeats 40000000 in
set_option maxRecDepth 100000 in
theorem p12 {Q : Exit → Act → World → Prop} (u0 u1 u2 u3 u4 u5 u6 u8 u9 u10 u11 u12 u13 u14 u15 u16 u17 u18 u19 u20 u21 u22 u23 u24 u25 u26 u27 u28 u29 u30 u31 u32 u33 u34 u35 u36 u37 u38 u39 u40 u41 u42 u43 u44 u45 u46 u47 u48 u49 u50 u51 u52 u53 u54 u55 u56 u57 u58 u59 u60 u61 u62 u63 u64 u65 u66 u67 u68 u69 u70 u71 u72 u73 u74 u75 u76 u77 u78 u79 u80 u81 u82 u83 u84 u85 u86 u87 u88 u89 u90 u91 u92 u93 u94 u95 u96 u97 u98 u99 u100 u101 u102 u103 u104 u105 u106 u107 u108 u109 u110 u111 u112 u113 u114 u115 u116 u117 u118 u119 u120 u121 u122 u123 u124 u125 u126 u127 u128 u129 u130 u131 u132 u133 u134 u135 u136 u137 u138 u139 u140 u141 u142 u143 u144 u145 u146 u147 u148 u149 u150 u151 u152 u153 u154 u155 u156 u157 u158 u159 u160 u161 u162 u163 u164 u165 u166 u167 u168 u169 u170 u171 u172 u173 u174 u175 u176 u177 u178 u179 u180 u181 u182 u183 u184 u185 u186 u187 u188 u189 u190 u191 u192 u193 u194 u195 u196 u197 u198 u199 u200 u201 u202 u203 u204 u205 u206 u207 u208 u209 u210 u211 u212 u213 u214 u215 u216 u217 u218 u219 u220 u221 u222 u223 u224 u225 u226 u227 u228 u229 u230 u231 u232 u233 u234 u235 u236 u237 u238 u239 u240 u241 u242 u243 u244 u245 u246 u247 u248 u249 u250 u251 u252 u253 u254 u255 u256 u257 u258 u259 u260 u261 u262 u263 u264 u265 u266 u267 u268 u269 u270 u271 u272 u273 u274 u275 u276 u277 u278 u279 u280 u281 u282 u283 u284 u285 u286 u287 u288 u289 u290 : Value) (q : Nat) (it : It) (W : World)
    (hP : ∀ c (a a' : Act) w, a.defers = a'.defers → Q (.panic c) a w → Q (.panic c) a' w) (hx : it.Fits) (hQ : ItAt W q it) (hT : Nm.Tabs W)
    (HK : ∀ (t62 t63 t64 t65 t66 t67 : Value) (w' : World), Below W.heap.size W w' → Q .normal ⟨#[u0, u1, u2, u3, u4, u5, u6, .pointer (some ⟨q, 0, none⟩), u8, u9, u10, u11, u12, u13, u14, u15, u16, u17, u18, u19, u20, u21, u22, u23, u24, u25, u26, u27, u28, u29, u30, u31, u32, u33, u34, u35, u36, u37, u38, u39, u40, u41, u42, u43, u44, u45, u46, u47, u48, u49, u50, u51, u52, u53, u54, u55, u56, u57, u58, u59, u60, u61, t62, t63, t64, t65, t66, t67, .bool false, u69, u70, u71, u72, u73, u74, u75, u76, u77, u78, u79, u80, u81, u82, u83, u84, u85, u86, u87, u88, u89, u90, u91, u92, u93, u94, u95, u96, u97, u98, u99, u100, u101, u102, u103, u104, u105, u106, u107, u108, u109, u110, u111, u112, u113, u114, u115, u116, u117, u118, u119, u120, u121, u122, u123, u124, u125, u126, u127, u128, u129, u130, u131, u132, u133, u134, u135, u136, u137, u138, u139, u140, u141, u142, u143, u144, u145, u146, u147, u148, u149, u150, u151, u152, u153, u154, u155, u156, u157, u158, u159, u160, u161, u162, u163, u164, u165, u166, u167, u168, u169, u170, u171, u172, u173, u174, u175, u176, u177, u178, u179, u180, u181, u182, u183, u184, u185, u186, u187, u188, u189, u190, u191, u192, u193, u194, u195, u196, u197, u198, u199, u200, u201, u202, u203, u204, u205, u206, u207, u208, u209, u210, u211, u212, u213, u214, u215, u216, u217, u218, u219, u220, u221, u222, u223, u224, u225, u226, u227, u228, u229, u230, u231, u232, u233, u234, u235, u236, u237, u238, u239, u240, u241, u242, u243, u244, u245, u246, u247, u248, u249, u250, u251, u252, u253, u254, u255, u256, u257, u258, u259, u260, u261, u262, u263, u264, u265, u266, u267, u268, u269, u270, u271, u272, u273, u274, u275, u276, u277, u278, u279, u280, u281, u282, u283, u284, u285, u286, u287, u288, u289, u290], []⟩ w') :
    Code.wp Tryz.prog (regF 12) Q ⟨#[u0, u1, u2, u3, u4, u5, u6, .pointer (some ⟨q, 0, none⟩), u8, u9, u10, u11, u12, u13, u14, u15, u16, u17, u18, u19, u20, u21, u22, u23, u24, u25, u26, u27, u28, u29, u30, u31, u32, u33, u34, u35, u36, u37, u38, u39, u40, u41, u42, u43, u44, u45, u46, u47, u48, u49, u50, u51, u52, u53, u54, u55, u56, u57, u58, u59, u60, u61, u62, u63, u64, u65, u66, u67, u68, u69, u70, u71, u72, u73, u74, u75, u76, u77, u78, u79, u80, u81, u82, u83, u84, u85, u86, u87, u88, u89, u90, u91, u92, u93, u94, u95, u96, u97, u98, u99, u100, u101, u102, u103, u104, u105, u106, u107, u108, u109, u110, u111, u112, u113, u114, u115, u116, u117, u118, u119, u120, u121, u122, u123, u124, u125, u126, u127, u128, u129, u130, u131, u132, u133, u134, u135, u136, u137, u138, u139, u140, u141, u142, u143, u144, u145, u146, u147, u148, u149, u150, u151, u152, u153, u154, u155, u156, u157, u158, u159, u160, u161, u162, u163, u164, u165, u166, u167, u168, u169, u170, u171, u172, u173, u174, u175, u176, u177, u178, u179, u180, u181, u182, u183, u184, u185, u186, u187, u188, u189, u190, u191, u192, u193, u194, u195, u196, u197, u198, u199, u200, u201, u202, u203, u204, u205, u206, u207, u208, u209, u210, u211, u212, u213, u214, u215, u216, u217, u218, u219, u220, u221, u222, u223, u224, u225, u226, u227, u228, u229, u230, u231, u232, u233, u234, u235, u236, u237, u238, u239, u240, u241, u242, u243, u244, u245, u246, u247, u248, u249, u250, u251, u252, u253, u254, u255, u256, u257, u258, u259, u260, u261, u262, u263, u264, u265, u266, u267, u268, u269, u270, u271, u272, u273, u274, u275, u276, u277, u278, u279, u280, u281, u282, u283, u284, u285, u286, u287, u288, u289, u290], []⟩ W := by
  have HQ := Lib.hid hQ
  have CI : Hid (∀ W', Below W.heap.size W W' → Calls Tryz.prog 9 #[.agg it.cells.toArray] W' fun e w' => e = .returned (enV it.se) ∧ Below W'.heap.size W' w') := Lib.hid (fun W' _ => in_any W' it hx)
  have CW : Hid (∀ W', Below W.heap.size W W' → Calls Tryz.prog 11 #[.agg it.cells.toArray] W' fun e w' => e = .returned (enV it.se) ∧ Below W'.heap.size W' w') := Lib.hid (fun W' _ => want_any W' it hx)
  have CM : Hid (∀ W', Below W.heap.size W W' → Calls Tryz.prog 8 #[enV it.se] W' fun e w' => e = .returned (.int .i64 (mayN it.se)) ∧ Below W'.heap.size W' w') := Lib.hid (fun W' _ => may_any W' it.se (It.fits hx))
  have CR : Hid (∀ W', Below W.heap.size W W' → Calls Tryz.prog 10 #[enV it.se] W' fun e w' => e = .returned (.int .i64 (mayN it.se)) ∧ Below W'.heap.size W' w') := Lib.hid (fun W' hb => ref_may W' (hT.below hb) it.se (It.fits hx))
  clear hx hQ hT
  generalize mayN it.se = my at *
  conv => arg 2; whnf
  refine wp_region_held_drew (S := (fun w' : World => ItAt w' q it)) (by kernel_rfl) HQ.out (fun hHeld => ?_)
  refine' wpAnyH_take (i := 0) (v := _) rfl (by kernel_rfl) (by kernel_rfl) (by kernel_rfl) (fun _ _ _ h => hP _ _ _ _ (by rfl) h) (yieldsIf_load_mid (by rfl) _ _ rfl q 0 rfl it.cells _ ?ra0S ?ra0u ?ra0d ?ra0i) hHeld ?ra0x
  case ra0S =>
    intro wS hSw
    exact ItAt.range hSw
  case ra0u => exact Tryz.underlying33
  case ra0d => rfl
  case ra0i => exact (info33 it)
  try simp only [Act.put, List.getElem_toArray, List.getElem_cons_zero, List.getElem_cons_succ, List.setIfInBounds_toArray, List.set_cons_zero, List.set_cons_succ]
  refine' wpAnyH_take (i := 3) (v := _) rfl (by kernel_rfl) (by kernel_rfl) (by kernel_rfl) (fun _ _ _ h => hP _ _ _ _ (by rfl) h) (yieldsIf_load_mid (by rfl) _ _ rfl q 0 rfl it.cells _ ?ra1S ?ra1u ?ra1d ?ra1i) hHeld ?ra1x
  case ra1S =>
    intro wS hSw
    exact ItAt.range hSw
  case ra1u => exact Tryz.underlying33
  case ra1d => rfl
  case ra1i => exact (info33 it)
  try simp only [Act.put, List.getElem_toArray, List.getElem_cons_zero, List.getElem_cons_succ, List.setIfInBounds_toArray, List.set_cons_zero, List.set_cons_succ]
  refine wpAnyH_ready (rs := [1]) (by kernel_rfl) (by simp) ?_
  refine AllReadyH.cons rfl (fun K hK => ?_) AllReadyH.nil
  go_simp
  refine (CI.out _ ((Below.refl W.heap.size W).drew)).mono ?_
  rintro ex w1 ⟨rfl, hbw1⟩
  have HBw1 := Lib.hid ((((Below.refl W.heap.size W).drew)).trans (hbw1.mono (((Below.refl W.heap.size W).drew)).size))
  have HQw1 := Lib.hid (ItAt.below (show ItAt W.drew q it from HQ.out) hbw1)
  clear hbw1
  go_wp2_with fail
  refine hK.out _ _ HQw1.out (fun hHeld2 => ?_)
  clear hK K hHeld
  have hHeld := hHeld2
  clear hHeld2
  try simp only [Act.put, List.getElem_toArray, List.getElem_cons_zero, List.getElem_cons_succ, List.setIfInBounds_toArray, List.set_cons_zero, List.set_cons_succ]
  refine wpAnyH_ready (rs := [2]) (by kernel_rfl) (by simp) ?_
  refine AllReadyH.cons rfl (fun K hK => ?_) AllReadyH.nil
  go_simp
  refine (CM.out _ HBw1.out).mono ?_
  rintro ex w2 ⟨rfl, hbw2⟩
  have HBw2 := Lib.hid ((HBw1.out).trans (hbw2.mono (HBw1.out).size))
  have HQw2 := Lib.hid (ItAt.below HQw1.out hbw2)
  clear hbw2
  go_wp2_with fail
  refine hK.out _ _ HQw2.out (fun hHeld2 => ?_)
  clear hK K hHeld
  have hHeld := hHeld2
  clear hHeld2
  try simp only [Act.put, List.getElem_toArray, List.getElem_cons_zero, List.getElem_cons_succ, List.setIfInBounds_toArray, List.set_cons_zero, List.set_cons_succ]
  refine wpAnyH_ready (rs := [4]) (by kernel_rfl) (by simp) ?_
  refine AllReadyH.cons rfl (fun K hK => ?_) AllReadyH.nil
  go_simp
  refine (CW.out _ HBw2.out).mono ?_
  rintro ex w3 ⟨rfl, hbw3⟩
  have HBw3 := Lib.hid ((HBw2.out).trans (hbw3.mono (HBw2.out).size))
  have HQw3 := Lib.hid (ItAt.below HQw2.out hbw3)
  clear hbw3
  go_wp2_with fail
  refine hK.out _ _ HQw3.out (fun hHeld2 => ?_)
  clear hK K hHeld
  have hHeld := hHeld2
  clear hHeld2
  try simp only [Act.put, List.getElem_toArray, List.getElem_cons_zero, List.getElem_cons_succ, List.setIfInBounds_toArray, List.set_cons_zero, List.set_cons_succ]
  refine wpAnyH_ready (rs := [5]) (by kernel_rfl) (by simp) ?_
  refine AllReadyH.cons rfl (fun K hK => ?_) AllReadyH.nil
  go_simp
  refine (CR.out _ HBw3.out).mono ?_
  rintro ex w4 ⟨rfl, hbw4⟩
  have HBw4 := Lib.hid ((HBw3.out).trans (hbw4.mono (HBw3.out).size))
  have HQw4 := Lib.hid (ItAt.below HQw3.out hbw4)
  clear hbw4
  go_wp2_with fail
  refine hK.out _ _ HQw4.out (fun hHeld2 => ?_)
  clear hK K hHeld
  have hHeld := hHeld2
  clear hHeld2
  try simp only [Act.put, List.getElem_toArray, List.getElem_cons_zero, List.getElem_cons_succ, List.setIfInBounds_toArray, List.set_cons_zero, List.set_cons_succ]
  refine wpAnyH_take (i := 6) (v := .bool false) rfl (by kernel_rfl) (by kernel_rfl) (by kernel_rfl) (fun _ _ _ h => hP _ _ _ _ (by rfl) h) (Or.inl ⟨by rfl, ?ra6⟩) hHeld ?_
  case ra6 =>
    intro wS hSw
    clear hSw hHeld
    go_simp
    try with_reducible rfl
  try simp only [Act.put, List.getElem_toArray, List.getElem_cons_zero, List.getElem_cons_succ, List.setIfInBounds_toArray, List.set_cons_zero, List.set_cons_succ]
  refine wpAnyH_done (by kernel_rfl) ?_ _
  clear hHeld
  try simp only [Act.put, List.getElem_toArray, List.getElem_cons_zero, List.getElem_cons_succ, List.setIfInBounds_toArray, List.set_cons_zero, List.set_cons_succ]
  refine HK _ _ _ _ _ _ _ ?_
  exact HBw4.out
end Go.Proofs.YtpbhkaokgpacoaaGreatDoor.St
/-
  What the pieces of the law lean on: the cells that stay, the steps of the state.
-/
namespace Go.Proofs.YtpbhkaokgpacoaaGreatDoor.St
open Go.RowKit Go.Maps Go.WideMaps Go.Proofs.YtpbhkaokgpacoaaGreatDoor.Rf Go.Proofs.YtpbhkaokgpacoaaGreatDoor.Rd

def findT (n : Nat) : Code → Option Code
  | .seq a b => match findT n a with
    | some c => some c
    | none => findT n b
  | .block _ c => findT n c
  | .cond x a b => if (match x with | .tmp k => k == n | _ => false) then some a else match findT n a with
    | some c => some c
    | none => findT n b
  | .loop c => findT n c
  | _ => none
/-- What stands behind a test of the law. -/
noncomputable def thenF (n : Nat) : Code := (Tryz.f3.body.bind (findT n)).getD .skip
/-- The cells that the calls of a step read. -/
structure Bs (c xa ma q g r : Nat) (it : It) (W : World) : Prop where
  cx : W.cell? ⟨xa, c, none⟩ = some (.pointer (some ⟨g, 0, none⟩))
  cm : W.cell? ⟨ma, c, none⟩ = some (.pointer (some ⟨r, 0, none⟩))
  iq : ItAt W q it
theorem RunSt.bs {w : World} {c xa ma g b r : Nat} {v : Value} {L M : List SE} {g' b' r' : Nat} {v' : Value} {L' : List SE} {Q : List Nat} {W : World} {q : Nat} {it : It} (h : RunSt w c xa ma g b r v L M g' b' r' v' L' Q W) (hq : ItAt W q it) : Bs c xa ma q g r it W :=
  ⟨h.xs.cell, h.ms.cell, hq⟩
theorem setX_may {e : SE} {L : List SE} (h : ∀ x ∈ L, mayN x = 0) : ∀ x ∈ (setX e L).2, mayN x = 0 := by
  intro x hx
  rw [setX] at hx
  split at hx
  · exact h x hx
  · next hm =>
    split at hx
    · exact h x hx
    · rcases mem_insL hx with rfl | hx
      · simpa using hm
      · exact h x hx
theorem remL_may {p : List UInt8} {L : List SE} (h : ∀ x ∈ L, mayN x = 0) : ∀ x ∈ remL p L, mayN x = 0 := fun x hx => h x ((remL_sub p L).mem hx)
theorem keepL_may {ps : List (List UInt8)} {L : List SE} (h : ∀ x ∈ L, mayN x = 0) : ∀ x ∈ keepL ps L, mayN x = 0 := fun x hx => h x ((keepL_sub ps L).mem hx)
theorem RunSt.qlt {W : World} {q : Nat} {it : It} (h : ItAt W q it) : ∀ x ∈ [q], x < W.heap.size := fun x hx => by simp at hx; subst hx; exact lt_of_heap h
/-- The item's variable is none of the indexes'. -/
theorem RunSt.qn {w : World} {c xa ma g b r : Nat} {v : Value} {L M : List SE} {g' b' r' : Nat} {v' : Value} {L' : List SE} {q : Nat} {W : World} (h : RunSt w c xa ma g b r v L M g' b' r' v' L' [q] W) {X : List Nat} (hX : ∀ x ∈ X, x ∈ own g b r v) : q ∉ X := fun hq => h.out q (hX q hq) (by simp)
/-- The state of a step: the indexes, the item, the tables. -/
structure StpSt (w : World) (c xa ma q : Nat) (it : It) (g b r : Nat) (v : Value) (L M : List SE) (g' b' r' : Nat) (v' : Value) (L' : List SE) (W : World) : Prop where
  run : RunSt w c xa ma g b r v L M g' b' r' v' L' [q] W
  iq : ItAt W q it
section
variable {w : World} {c xa ma q : Nat} {it : It} {g b r : Nat} {v : Value} {L M : List SE} {g' b' r' : Nat} {v' : Value} {L' : List SE} {W W' : World}
theorem StpSt.bs (h : StpSt w c xa ma q it g b r v L M g' b' r' v' L' W) : Bs c xa ma q g r it W := h.run.bs h.iq
theorem StpSt.below (h : StpSt w c xa ma q it g b r v L M g' b' r' v' L' W) (hb : Below W.heap.size W W') : StpSt w c xa ma q it g b r v L M g' b' r' v' L' W' := ⟨h.run.below hb, h.iq.below hb⟩
theorem StpSt.drew (h : StpSt w c xa ma q it g b r v L M g' b' r' v' L' W) : StpSt w c xa ma q it g b r v L M g' b' r' v' L' W.drew := h.below (Below.refl _ _).drew
theorem StpSt.idx (h : StpSt w c xa ma q it g b r v L M g' b' r' v' L' W) {X : List Nat} (hT : Turn X W W') (hX : ∀ x ∈ X, x = g ∨ x = b) {b2 : Nat} {L2 : List SE}
    (hi : IndexAt w.heap.size W' g b2 L2) (hb2 : b2 = b ∨ W.heap.size ≤ b2) (hm : ∀ e ∈ L2, mayN e = 0) : StpSt w c xa ma q it g b2 r v L2 M g' b' r' v' L' W' :=
  ⟨h.run.idx hT hX hi hb2 hm (RunSt.qlt h.iq), h.iq.turn hT (h.run.qn (fun x hx => by rcases hX x hx with e | e <;> simp [own, e]))⟩
theorem StpSt.ref (h : StpSt w c xa ma q it g b r v L M g' b' r' v' L' W) {e : Ending} {n : Int} {M2 : List SE} (hp : RxPost w.heap.size W r v n M2 e W') : ∃ v2, e = .returned (.int .i64 n) ∧ StpSt w c xa ma q it g b r v2 L M2 g' b' r' v' L' W' := by
  obtain ⟨v2, he, h2, hT⟩ := h.run.ref hp (RunSt.qlt h.iq)
  exact ⟨v2, he, h2, h.iq.turn hT (h.run.qn (fun x hx => by simp only [own, List.mem_append]; exact .inr hx))⟩
end
theorem fresh_fits {L : List SE} (h : ∀ e ∈ L, e.Fits) (p : List UInt8) (s : SE) : (freshX p s L).1.Fits := by
  unfold freshX
  split
  · exact zero_fits
  · next e he =>
    split
    · exact h e (getL_path he).2
    · exact zero_fits
/-- The four answers' variables beside the cells that stay. -/
structure B4 (c xa ma q g r : Nat) (it : It) (E1 E2 E3 E4 : Nat) (e f : SE) (W : World) : Prop where
  bs : Bs c xa ma q g r it W
  q1 : W.heap[E1]? = some (.cells e.cells.toArray 44)
  q2 : W.heap[E2]? = some (.cells e.cells.toArray 49)
  q3 : W.heap[E3]? = some (.cells f.cells.toArray 44)
  q4 : W.heap[E4]? = some (.cells f.cells.toArray 49)
theorem B4.mk' {w : World} {c xa ma q : Nat} {it : It} {g b r : Nat} {v : Value} {L M : List SE} {g' b' r' : Nat} {v' : Value} {L' : List SE} {W W' : World} {E1 E2 E3 E4 : Nat} {e f : SE} (h : StpSt w c xa ma q it g b r v L M g' b' r' v' L' W) (hb : Below W.heap.size W W') (h4 : B4 c xa ma q g r it E1 E2 E3 E4 e f W) : B4 c xa ma q g r it E1 E2 E3 E4 e f W' :=
  ⟨(h.below hb).bs, (hb.block _ (lt_of_heap h4.q1)).trans h4.q1, (hb.block _ (lt_of_heap h4.q2)).trans h4.q2, (hb.block _ (lt_of_heap h4.q3)).trans h4.q3, (hb.block _ (lt_of_heap h4.q4)).trans h4.q4⟩
end Go.Proofs.YtpbhkaokgpacoaaGreatDoor.St
