import Derived.Test.YtkdkifciajfpnaaDoorZPSrPieces
import Derived.Test.YtkdkifciajfpnaaDoorZPSrSim
set_option linter.unusedSimpArgs false
set_option linter.unusedVariables false
/-
  munimentlaw18's rows: one node.
-/
namespace Go.Proofs.YtkdkifciajfpnaaDoor.Sr
open Go.RowKit Go.Maps Go.WideMaps Go.Proofs.YtkdkifciajfpnaaDoor.Rf Go.Proofs.YtkdkifciajfpnaaDoor.Nm Go.Proofs.YtkdkifciajfpnaaDoor.St

noncomputable def rwB (n : Nat) : Code := (Tryd.f9.body.bind (findB n)).getD .skip
set_option linter.unusedSimpArgs false in
set_option maxHeartbeats 40000000 in
set_option maxRecDepth 100000 in
theorem rw_b1 {Q : Exit → Act → World → Prop} (u2 u3 u4 u6 u7 u8 u9 u10 u11 u12 u13 u14 u15 u16 u17 u18 u19 u20 u21 u22 u23 u24 u25 u26 u27 u28 u29 u30 u31 u32 u33 u34 u35 u36 u37 u38 u39 : Value) {vc uc n i g1 g2 : Nat} {e : TE} {xv yv : Value} {wr : World}
    (hP : ∀ c (a a' : Act) w, a.defers = a'.defers → Q (.panic c) a w → Q (.panic c) a' w) (hin : (i : Int) < (n : Int)) (HX : Hid (XsAt wr xv e.at_.xs)) (HY : Hid (XsAt wr yv e.at_.xs)) (HR1 : Hid (∀ w', Below wr.heap.size wr w' → w'.rangeAt g1 (i * 11) (vcells e xv))) (HR2 : Hid (∀ w', Below wr.heap.size wr w' → w'.rangeAt g2 (i * 11) (vcells e yv)))
    (HK : ∀ (t4 t17 t18 t19 t20 t21 t22 t23 t24 t25 t26 t27 t28 t29 t30 t31 t32 t33 t34 t35 t36 t37 t38 t39 : Value) (w' : World), Below wr.heap.size wr w' → Q .normal ⟨#[.slice (some ⟨g1, 0, none⟩) n vc, .slice (some ⟨g2, 0, none⟩) n uc, u2, u3, t4, .int .i64 (i : Int), u6, u7, u8, u9, u10, u11, u12, u13, u14, u15, u16, t17, t18, t19, t20, t21, t22, t23, t24, t25, t26, t27, t28, t29, t30, t31, t32, t33, t34, t35, t36, t37, t38, t39], []⟩ w') :
    Code.wp Tryd.prog (rwB 1) Q ⟨#[.slice (some ⟨g1, 0, none⟩) n vc, .slice (some ⟨g2, 0, none⟩) n uc, u2, u3, u4, .int .i64 (i : Int), u6, u7, u8, u9, u10, u11, u12, u13, u14, u15, u16, u17, u18, u19, u20, u21, u22, u23, u24, u25, u26, u27, u28, u29, u30, u31, u32, u33, u34, u35, u36, u37, u38, u39], []⟩ wr := by
  have HKH := Lib.hid HK
  clear HK
  conv => arg 2; whnf
  obtain ⟨PS, hP'⟩ : ∃ PS : ByteArray, PS = ⟨(pathN e.nm).toArray⟩ := ⟨_, rfl⟩
  have KS : Hid (∀ w', Below wr.heap.size wr w' → w'.cell? ⟨g1, i * 11, none⟩ = some (.string PS) ∧ w'.cell? ⟨g2, i * 11, none⟩ = some (.string PS) ∧ w'.rangeAt g1 (i * 11) (vcells e xv) ∧ w'.rangeAt g2 (i * 11) (vcells e yv)) := Lib.hid (fun w' hb => by
    rw [hP']
    exact ⟨(range_row (HR1.out w' hb)).1, (range_row (HR2.out w' hb)).1, HR1.out w' hb, HR2.out w' hb⟩)
  have SM := same18_any wr.drew ⟨(pathN e.nm).toArray⟩ ⟨(pathN e.nm).toArray⟩ e.at_ ⟨e.data.toArray⟩ e.ino e.tick xv yv (HX.out.kept (Nat.le_refl _) (fun _ _ => rfl)) (HY.out.kept (Nat.le_refl _) (fun _ _ => rfl))
  rw [← vcells_n, ← vcells_n] at SM
  have SM := Lib.hid SM
  have HI : Hid ((Tryd.prog.info? VnT).map (·.size) = some (vcells e xv).toArray.size) := Lib.hid (by show _ = some 11; kernel_rfl)
  clear hP'
  go_upto_region 6 with (fail)
  refine wp_region_held_drew (S := (fun w' : World => w'.cell? ⟨g1, i * 11, none⟩ = some (.string PS) ∧ w'.cell? ⟨g2, i * 11, none⟩ = some (.string PS) ∧ w'.rangeAt g1 (i * 11) (vcells e xv) ∧ w'.rangeAt g2 (i * 11) (vcells e yv))) (by kernel_rfl) (KS.out _ (Below.refl _ _).drew) (fun hHeld => ?_)
  refine wpAnyH_take (i := 0) (v := ?_) rfl (by kernel_rfl) (by kernel_rfl) (by kernel_rfl) (fun _ _ _ h => hP _ _ _ _ (by rfl) h) (Or.inl ⟨by rfl, ?r60⟩) hHeld ?_
  case r60 =>
    intro wS hSw
    obtain ⟨k0, k1, k2, k3⟩ := hSw
    go_simp
    try with_reducible rfl
  try simp only [Act.put, List.getElem_toArray, List.getElem_cons_zero, List.getElem_cons_succ, List.setIfInBounds_toArray, List.set_cons_zero, List.set_cons_succ]
  refine wpAnyH_take (i := 1) (v := ?_) rfl (by kernel_rfl) (by kernel_rfl) (by kernel_rfl) (fun _ _ _ h => hP _ _ _ _ (by rfl) h) (Or.inl ⟨by rfl, ?r61⟩) hHeld ?_
  case r61 =>
    intro wS hSw
    obtain ⟨k0, k1, k2, k3⟩ := hSw
    go_simp
    try with_reducible rfl
  try simp only [Act.put, List.getElem_toArray, List.getElem_cons_zero, List.getElem_cons_succ, List.setIfInBounds_toArray, List.set_cons_zero, List.set_cons_succ]
  refine wpAnyH_take (i := 2) (v := ?_) rfl (by kernel_rfl) (by kernel_rfl) (by kernel_rfl) (fun _ _ _ h => hP _ _ _ _ (by rfl) h) (Or.inl ⟨by rfl, ?r62⟩) hHeld ?_
  case r62 =>
    intro wS hSw
    obtain ⟨k0, k1, k2, k3⟩ := hSw
    go_simp
    try with_reducible rfl
  try simp only [Act.put, List.getElem_toArray, List.getElem_cons_zero, List.getElem_cons_succ, List.setIfInBounds_toArray, List.set_cons_zero, List.set_cons_succ]
  refine wpAnyH_take (i := 3) (v := ?_) rfl (by kernel_rfl) (by kernel_rfl) (by kernel_rfl) (fun _ _ _ h => hP _ _ _ _ (by rfl) h) (Or.inl ⟨by rfl, ?r63⟩) hHeld ?_
  case r63 =>
    intro wS hSw
    obtain ⟨k0, k1, k2, k3⟩ := hSw
    go_simp
    try with_reducible rfl
  try simp only [Act.put, List.getElem_toArray, List.getElem_cons_zero, List.getElem_cons_succ, List.setIfInBounds_toArray, List.set_cons_zero, List.set_cons_succ]
  refine wpAnyH_take (i := 4) (v := ?_) rfl (by kernel_rfl) (by kernel_rfl) (by kernel_rfl) (fun _ _ _ h => hP _ _ _ _ (by rfl) h) (Or.inl ⟨by rfl, ?r64⟩) hHeld ?_
  case r64 =>
    intro wS hSw
    obtain ⟨k0, k1, k2, k3⟩ := hSw
    go_simp
    try with_reducible rfl
  try simp only [Act.put, List.getElem_toArray, List.getElem_cons_zero, List.getElem_cons_succ, List.setIfInBounds_toArray, List.set_cons_zero, List.set_cons_succ]
  refine wpAnyH_take (i := 5) (v := ?_) rfl (by kernel_rfl) (by kernel_rfl) (by kernel_rfl) (fun _ _ _ h => hP _ _ _ _ (by rfl) h) (Or.inl ⟨by rfl, ?r65⟩) hHeld ?_
  case r65 =>
    intro wS hSw
    obtain ⟨k0, k1, k2, k3⟩ := hSw
    go_simp
    try with_reducible rfl
  try simp only [Act.put, List.getElem_toArray, List.getElem_cons_zero, List.getElem_cons_succ, List.setIfInBounds_toArray, List.set_cons_zero, List.set_cons_succ]
  refine wpAnyH_take (i := 6) (v := ?_) rfl (by kernel_rfl) (by kernel_rfl) (by kernel_rfl) (fun _ _ _ h => hP _ _ _ _ (by rfl) h) (Or.inl ⟨by rfl, ?r66⟩) hHeld ?_
  case r66 =>
    intro wS hSw
    obtain ⟨k0, k1, k2, k3⟩ := hSw
    go_simp
    try with_reducible rfl
  try simp only [Act.put, List.getElem_toArray, List.getElem_cons_zero, List.getElem_cons_succ, List.setIfInBounds_toArray, List.set_cons_zero, List.set_cons_succ]
  refine wpAnyH_take (i := 7) (v := ?_) rfl (by kernel_rfl) (by kernel_rfl) (by kernel_rfl) (fun _ _ _ h => hP _ _ _ _ (by rfl) h) (Or.inl ⟨by rfl, ?r67⟩) hHeld ?_
  case r67 =>
    intro wS hSw
    obtain ⟨k0, k1, k2, k3⟩ := hSw
    go_simp
    try with_reducible rfl
  try simp only [Act.put, List.getElem_toArray, List.getElem_cons_zero, List.getElem_cons_succ, List.setIfInBounds_toArray, List.set_cons_zero, List.set_cons_succ]
  refine wpAnyH_take (i := 8) (v := ?_) rfl (by kernel_rfl) (by kernel_rfl) (by kernel_rfl) (fun _ _ _ h => hP _ _ _ _ (by rfl) h) (Or.inl ⟨by rfl, ?r68⟩) hHeld ?_
  case r68 =>
    intro wS hSw
    obtain ⟨k0, k1, k2, k3⟩ := hSw
    go_simp
    try with_reducible rfl
  try simp only [Act.put, List.getElem_toArray, List.getElem_cons_zero, List.getElem_cons_succ, List.setIfInBounds_toArray, List.set_cons_zero, List.set_cons_succ]
  refine wpAnyH_take (i := 9) (v := ?_) rfl (by kernel_rfl) (by kernel_rfl) (by kernel_rfl) (fun _ _ _ h => hP _ _ _ _ (by rfl) h) (Or.inl ⟨by rfl, ?r69⟩) hHeld ?_
  case r69 =>
    intro wS hSw
    obtain ⟨k0, k1, k2, k3⟩ := hSw
    go_simp
    try with_reducible rfl
  try simp only [Act.put, List.getElem_toArray, List.getElem_cons_zero, List.getElem_cons_succ, List.setIfInBounds_toArray, List.set_cons_zero, List.set_cons_succ]
  refine wpAnyH_take (i := 10) (v := ?_) rfl (by kernel_rfl) (by kernel_rfl) (by kernel_rfl) (fun _ _ _ h => hP _ _ _ _ (by rfl) h) (Or.inl ⟨by rfl, ?r610⟩) hHeld ?_
  case r610 =>
    intro wS hSw
    obtain ⟨k0, k1, k2, k3⟩ := hSw
    go_simp
    try with_reducible rfl
  try simp only [Act.put, List.getElem_toArray, List.getElem_cons_zero, List.getElem_cons_succ, List.setIfInBounds_toArray, List.set_cons_zero, List.set_cons_succ]
  refine wpAnyH_take (i := 11) (v := ?_) rfl (by kernel_rfl) (by kernel_rfl) (by kernel_rfl) (fun _ _ _ h => hP _ _ _ _ (by rfl) h) (Or.inl ⟨by rfl, ?r611⟩) hHeld ?_
  case r611 =>
    intro wS hSw
    obtain ⟨k0, k1, k2, k3⟩ := hSw
    go_simp
    try with_reducible rfl
  try simp only [Act.put, List.getElem_toArray, List.getElem_cons_zero, List.getElem_cons_succ, List.setIfInBounds_toArray, List.set_cons_zero, List.set_cons_succ]
  refine wpAnyH_take (i := 12) (v := ?_) rfl (by kernel_rfl) (by kernel_rfl) (by kernel_rfl) (fun _ _ _ h => hP _ _ _ _ (by rfl) h) (Or.inl ⟨by rfl, ?r612⟩) hHeld ?_
  case r612 =>
    intro wS hSw
    obtain ⟨k0, k1, k2, k3⟩ := hSw
    go_simp
    try with_reducible rfl
  try simp only [Act.put, List.getElem_toArray, List.getElem_cons_zero, List.getElem_cons_succ, List.setIfInBounds_toArray, List.set_cons_zero, List.set_cons_succ]
  refine wpAnyH_take (i := 13) (v := ?_) rfl (by kernel_rfl) (by kernel_rfl) (by kernel_rfl) (fun _ _ _ h => hP _ _ _ _ (by rfl) h) (Or.inl ⟨by rfl, ?r613⟩) hHeld ?_
  case r613 =>
    intro wS hSw
    obtain ⟨k0, k1, k2, k3⟩ := hSw
    go_simp
    try with_reducible rfl
  try simp only [Act.put, List.getElem_toArray, List.getElem_cons_zero, List.getElem_cons_succ, List.setIfInBounds_toArray, List.set_cons_zero, List.set_cons_succ]
  refine wpAnyH_take (i := 14) (v := ?_) rfl (by kernel_rfl) (by kernel_rfl) (by kernel_rfl) (fun _ _ _ h => hP _ _ _ _ (by rfl) h) (Or.inl ⟨by rfl, ?r614⟩) hHeld ?_
  case r614 =>
    intro wS hSw
    obtain ⟨k0, k1, k2, k3⟩ := hSw
    go_simp
    try with_reducible rfl
  try simp only [Act.put, List.getElem_toArray, List.getElem_cons_zero, List.getElem_cons_succ, List.setIfInBounds_toArray, List.set_cons_zero, List.set_cons_succ]
  refine' wpAnyH_take (i := 15) (v := _) rfl (by kernel_rfl) (by kernel_rfl) (by kernel_rfl) (fun _ _ _ h => hP _ _ _ _ (by rfl) h) (yieldsIf_load_mid (by rfl) _ _ rfl g1 (i * 11) rfl (vcells e xv) _ ?r615S ?r615u ?r615d ?r615i) hHeld ?r615x
  case r615S =>
    intro wS hSw
    obtain ⟨k0, k1, k2, k3⟩ := hSw
    exact k2
  case r615u => exact Tryd.underlying67
  case r615d => rfl
  case r615i => exact HI.out
  try simp only [Act.put, List.getElem_toArray, List.getElem_cons_zero, List.getElem_cons_succ, List.setIfInBounds_toArray, List.set_cons_zero, List.set_cons_succ]
  refine wpAnyH_take (i := 16) (v := ?_) rfl (by kernel_rfl) (by kernel_rfl) (by kernel_rfl) (fun _ _ _ h => hP _ _ _ _ (by rfl) h) (Or.inl ⟨by rfl, ?r616⟩) hHeld ?_
  case r616 =>
    intro wS hSw
    obtain ⟨k0, k1, k2, k3⟩ := hSw
    go_simp
    try with_reducible rfl
  try simp only [Act.put, List.getElem_toArray, List.getElem_cons_zero, List.getElem_cons_succ, List.setIfInBounds_toArray, List.set_cons_zero, List.set_cons_succ]
  refine wpAnyH_take (i := 17) (v := ?_) rfl (by kernel_rfl) (by kernel_rfl) (by kernel_rfl) (fun _ _ _ h => hP _ _ _ _ (by rfl) h) (Or.inl ⟨by rfl, ?r617⟩) hHeld ?_
  case r617 =>
    intro wS hSw
    obtain ⟨k0, k1, k2, k3⟩ := hSw
    go_simp
    try with_reducible rfl
  try simp only [Act.put, List.getElem_toArray, List.getElem_cons_zero, List.getElem_cons_succ, List.setIfInBounds_toArray, List.set_cons_zero, List.set_cons_succ]
  refine wpAnyH_take (i := 18) (v := ?_) rfl (by kernel_rfl) (by kernel_rfl) (by kernel_rfl) (fun _ _ _ h => hP _ _ _ _ (by rfl) h) (Or.inl ⟨by rfl, ?r618⟩) hHeld ?_
  case r618 =>
    intro wS hSw
    obtain ⟨k0, k1, k2, k3⟩ := hSw
    go_simp
    try with_reducible rfl
  try simp only [Act.put, List.getElem_toArray, List.getElem_cons_zero, List.getElem_cons_succ, List.setIfInBounds_toArray, List.set_cons_zero, List.set_cons_succ]
  refine' wpAnyH_take (i := 19) (v := _) rfl (by kernel_rfl) (by kernel_rfl) (by kernel_rfl) (fun _ _ _ h => hP _ _ _ _ (by rfl) h) (yieldsIf_load_mid (by rfl) _ _ rfl g2 (i * 11) rfl (vcells e yv) _ ?r619S ?r619u ?r619d ?r619i) hHeld ?r619x
  case r619S =>
    intro wS hSw
    obtain ⟨k0, k1, k2, k3⟩ := hSw
    exact k3
  case r619u => exact Tryd.underlying67
  case r619d => rfl
  case r619i => exact HI.out
  try simp only [Act.put, List.getElem_toArray, List.getElem_cons_zero, List.getElem_cons_succ, List.setIfInBounds_toArray, List.set_cons_zero, List.set_cons_succ]
  refine wpAnyH_ready (rs := [20]) (by kernel_rfl) (by simp) ?_
  refine AllReadyH.cons rfl (fun K hK => ?_) AllReadyH.nil
  go_simp
  refine SM.out.mono ?_
  rintro ez wz ⟨rfl, hbz⟩
  have HBZ : Hid (Below wr.heap.size wr wz) := Lib.hid ((Below.refl wr.heap.size wr).drew.trans hbz)
  clear hbz
  go_wp2_with fail
  refine hK.out _ _ (KS.out _ HBZ.out) (fun hHeld2 => ?_)
  clear hK K hHeld
  have hHeld := hHeld2
  clear hHeld2
  try simp only [Act.put, List.getElem_toArray, List.getElem_cons_zero, List.getElem_cons_succ, List.setIfInBounds_toArray, List.set_cons_zero, List.set_cons_succ]
  refine wpAnyH_take (i := 21) (v := ?_) rfl (by kernel_rfl) (by kernel_rfl) (by kernel_rfl) (fun _ _ _ h => hP _ _ _ _ (by rfl) h) (Or.inl ⟨by rfl, ?r621⟩) hHeld ?_
  case r621 =>
    intro wS hSw
    obtain ⟨k0, k1, k2, k3⟩ := hSw
    go_simp
    try with_reducible rfl
  try simp only [Act.put, List.getElem_toArray, List.getElem_cons_zero, List.getElem_cons_succ, List.setIfInBounds_toArray, List.set_cons_zero, List.set_cons_succ]
  refine wpAnyH_take (i := 22) (v := ?_) rfl (by kernel_rfl) (by kernel_rfl) (by kernel_rfl) (fun _ _ _ h => hP _ _ _ _ (by rfl) h) (Or.inl ⟨by rfl, ?r622⟩) hHeld ?_
  case r622 =>
    intro wS hSw
    obtain ⟨k0, k1, k2, k3⟩ := hSw
    go_simp
    try with_reducible rfl
  try simp only [Act.put, List.getElem_toArray, List.getElem_cons_zero, List.getElem_cons_succ, List.setIfInBounds_toArray, List.set_cons_zero, List.set_cons_succ]
  refine wpAnyH_done (by kernel_rfl) ?_ _
  clear hHeld
  try simp only [Act.put, List.getElem_toArray, List.getElem_cons_zero, List.getElem_cons_succ, List.setIfInBounds_toArray, List.set_cons_zero, List.set_cons_succ]
  go_wp2
  exact HKH.out _ _ _ _ _ _ _ _ _ _ _ _ _ _ _ _ _ _ _ _ _ _ _ _ _ HBZ.out
end Go.Proofs.YtkdkifciajfpnaaDoor.Sr
