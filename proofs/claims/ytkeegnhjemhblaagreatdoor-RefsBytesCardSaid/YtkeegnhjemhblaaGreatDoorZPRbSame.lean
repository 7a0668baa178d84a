import Derived.Test.YtkeegnhjemhblaaGreatDoorZPRbAsk
import Derived.Test.YtkeegnhjemhblaaGreatDoorZPRbSort
import Derived.Test.YtkeegnhjemhblaaGreatDoorZPRbCrc
import Derived.Test.YtkeegnhjemhblaaGreatDoorZPDeProg
import Derived.Test.YtkeegnhjemhblaaGreatDoorZPDrRef
import Derived.Test.YtkeegnhjemhblaaGreatDoorZPRfDec1
import Derived.Test.YtkeegnhjemhblaaGreatDoorRows
import Derived.Test.YtkeegnhjemhblaaGreatDoorZPStRef
import Derived.Lib.LaidU8
import Derived.MakeChecks
set_option linter.unusedSimpArgs false
set_option linter.unusedVariables false
/-
  The contract of munimentlaw20's same, where both books hold the same. Printed by gensame20.py.
-/
set_option linter.unusedSimpArgs false
namespace Go.Proofs.YtkeegnhjemhblaaGreatDoor.Rb
open Go.RowKit Go.Maps Go.WideMaps Go.Proofs.YtkeegnhjemhblaaGreatDoor.Rf

set_option maxHeartbeats 40000000 in
set_option maxRecDepth 100000 in
theorem same_any {X : Spect} {B1 B2 : Nat} {w : World} {g b r : Nat} {v : Value} {Z1 Z2 : BM} {K : BK} (h1 : BookAt X B1 w g b Z1) (h2 : RBk B2 w r v Z2) (e1 : plainB Z1 = K) (e2 : plainB Z2 = K) (ok : OkB K) (O : List UInt8) (hO : O.length ≤ maxLen) :
    Calls Tryz.prog 9 #[ptr g, ptr r, .string ⟨O.toArray⟩] w fun e w' => e = .returned (.bool true) ∧ Below w.heap.size w w' := by
  have HA := Lib.hid h1; have HR := Lib.hid h2; have HOK := Lib.hid ok; have HOL := Lib.hid hO
  have hsr : SrtM K := by rw [← e2]; exact (srt_map _).2 h2.srt
  obtain ⟨N, hN⟩ : ∃ N, N = names K := ⟨_, rfl⟩
  have HN := Lib.hid hN
  have HNZ : Hid (Z2.map (fun p => Value.string ⟨p.1.toArray⟩) = N.map encStr) := Lib.hid (by
    rw [hN, names_srt hsr, ← e2, plainB, mapM', List.map_map, List.map_map]; rfl)
  have HZL : Hid (Z2.length = N.length) := Lib.hid (by have := congrArg List.length HNZ.out; rwa [List.length_map, List.length_map] at this)
  have HNL : Hid (N.length ≤ 64) := Lib.hid (by rw [hN, names_length]; exact ok.size)
  have C1 := Lib.hid (branches_any B1 w g b Z1 h1 (by rw [e1]; exact ok))
  rw [e1, ← hN] at C1
  clear h1 h2 ok hN hO
  unfold ptr at *
  go_enter Tryz.func9, Tryz.ntmps9
  go_wp2_with fail
  refine C1.out.mono ?_
  rintro e w1 ⟨vl, rfl, hol, hb1⟩
  obtain ⟨al, cl, rfl⟩ := rowS_slice hol
  have HOL1 := Lib.hid hol; have HB1 := Lib.hid hb1
  have C2 := Lib.hid (rbranches_any B2 w1 r v Z2 (by have := HZL.out; have := HNL.out; omega) (HR.out.below hb1))
  unfold ptr at *
  rw [HNZ.out, HZL.out] at C2
  clear hol hb1 C1
  go_wp2_with fail
  refine C2.out.mono ?_
  rintro e w2 ⟨vm, rfl, hom, hb2⟩
  obtain ⟨am, cm, rfl⟩ := rowS_slice hom
  have HOM := Lib.hid hom
  have HB2 : Hid (Below w.heap.size w w2) := Lib.hid (HB1.out.trans (hb2.mono HB1.out.size))
  have HOL2 := Lib.hid (rowS_kept HOL1.out (fun b _ hl => hb2.block b hl))
  have C3 := Lib.hid (encode_any B1 w2 g b Z1 (HA.out.below HB2.out) (by rw [e1]; exact HOK.out))
  unfold ptr at *
  rw [e1] at C3
  clear hom hb2 C2
  go_wp2_with fail
  refine C3.out.mono ?_
  rintro e w3 ⟨rfl, hb3⟩
  have HB3 : Hid (Below w.heap.size w w3) := Lib.hid (HB2.out.trans (hb3.mono HB2.out.size))
  have HB23 := Lib.hid hb3
  have C4 := Lib.hid (roots_any B1 w3 g b Z1 (HA.out.below HB3.out) (by rw [e1]; exact HOK.out))
  unfold ptr at *
  clear hb3 C3
  go_wp2_with fail
  refine C4.out.mono ?_
  rintro e w4 ⟨vx, RX, rfl, hox, hb4, hpx, hrx⟩
  have HOX := Lib.hid hox
  have HB4 : Hid (Below w.heap.size w w4) := Lib.hid (HB3.out.trans (hb4.mono HB3.out.size))
  have HB24 : Hid (Below w2.heap.size w2 w4) := Lib.hid (HB23.out.trans (hb4.mono HB23.out.size))
  have HPX := Lib.hid hpx; have HRX := Lib.hid hrx
  have C5 := Lib.hid (rroots_any B2 w4 r v Z2 (by rw [e2]; exact HOK.out) (HR.out.below HB4.out))
  unfold ptr at *
  clear hox hb4 hpx hrx C4
  go_wp2_with fail
  refine C5.out.mono ?_
  rintro e w5 ⟨vy, RY, rfl, hoy, hb5, hpy, hry⟩
  have hxy : RY = RX := ris_eq (hpy.trans (by rw [e2, ← e1]; exact HPX.out.symm)) hry HRX.out
  subst hxy
  have HD32 : Hid (Is32 (ddN RY RY.length)) := Lib.hid (((allC_32 HOK.out).perm (by rw [← e2]; exact hpy)).sub (fun x hx => ddN_mem hx))
  have HDL : Hid ((ddN RY RY.length).length ≤ 262144) := Lib.hid (by
    have a1 := ddN_len RY RY.length
    have a2 := hpy.length_eq
    have a3 := allC_len HOK.out.len
    have a4 := HOK.out.size
    rw [e2] at a2; omega)
  obtain ⟨DD, hDD⟩ : ∃ DD, DD = ddN RY RY.length := ⟨_, rfl⟩
  rw [← hDD] at HD32 HDL hoy HOX
  have HOY := Lib.hid hoy
  have HB5 : Hid (Below w.heap.size w w5) := Lib.hid (HB4.out.trans (hb5.mono HB4.out.size))
  have HB25 : Hid (Below w2.heap.size w2 w5) := Lib.hid (HB24.out.trans (hb5.mono HB24.out.size))
  have HOX5 := Lib.hid (rowS_kept HOX.out (fun b _ hl => hb5.block b hl))
  obtain ⟨ax, cx, rfl⟩ := rowS_slice HOX5.out
  obtain ⟨ay, cy, rfl⟩ := rowS_slice hoy
  have C6 := Lib.hid (rencode_any B2 w5 r v Z2 (by rw [e2]; exact HOK.out) (HR.out.below HB5.out))
  unfold ptr at *
  rw [e2] at C6
  have HFIX := Lib.hid hDD
  clear hoy hb5 hpy hry C5 hDD
  obtain ⟨ENC, hENC⟩ : ∃ ENC, ENC = encodeB K := ⟨_, rfl⟩
  rw [← hENC] at C6 ⊢
  clear hENC
  go_wp2_with fail
  refine C6.out.mono ?_
  rintro e w6 ⟨rfl, hb6⟩
  have HB6 : Hid (Below w.heap.size w w6) := Lib.hid (HB5.out.trans (hb6.mono HB5.out.size))
  have HB26 : Hid (Below w2.heap.size w2 w6) := Lib.hid (HB25.out.trans (hb6.mono HB25.out.size))
  have HOX6 := Lib.hid (rowS_kept HOX5.out (fun b _ hl => hb6.block b hl))
  have HOY6 := Lib.hid (rowS_kept HOY.out (fun b _ hl => hb6.block b hl))
  have HOL6 := Lib.hid (rowS_kept HOL2.out (fun b _ hl => HB26.out.block b hl))
  have HOM6 := Lib.hid (rowS_kept HOM.out (fun b _ hl => HB26.out.block b hl))
  have hdl : DD.length ≤ 262144 := HDL.out
  clear hb6 C6
  go_wp2_with fail
  go_loopw [13] (fun u13 wr => ∃ j : Nat, j ≤ DD.length ∧ u13 = .int .i64 (j : Int) ∧ Hid (Below w6.heap.size w6 wr)) (fun u13 _ => DD.length - (RowKit.intOf u13).toNat)
  case atStart => exact ⟨0, Nat.zero_le _, rfl, Lib.hid (Below.refl _ _)⟩
  case round =>
    obtain ⟨j, hj, rfl, HB⟩ := hrel
    obtain ⟨wo, hwo⟩ : ∃ wo, wo = wr := ⟨_, rfl⟩
    subst hwo
    by_cases hjl : (j : Int) < (DD.length : Int)
    · have hj2 : j < DD.length := by omega
      have hj0 : (0 : Int) ≤ (j : Int) := by omega
      have hne : DD ≠ [] := by rintro rfl; simp at hj2
      obtain ⟨gx, cx', hvx, hhx, _⟩ := hold_own HOX6.out hne
      injection hvx with a1 _ a3
      subst a1 a3
      obtain ⟨gy, cy', hvy, hhy, _⟩ := hold_own HOY6.out hne
      injection hvy with a1 _ a3
      subst a1 a3
      obtain ⟨x, hx⟩ : ∃ x, DD[j]? = some x := ⟨_, List.getElem?_eq_getElem hj2⟩
      have HX32 : Hid (x.length = 32) := Lib.hid (HD32.out x (List.mem_of_getElem? hx))
      have KR : Hid (∀ w' : World, Below wo.heap.size wo w' → w'.rangeAt gx (j * 32) (Lib.byteCells x) ∧ w'.rangeAt gy (j * 32) (Lib.byteCells x)) := Lib.hid (fun w' hb => by
        have hb3 := HB.out.trans (hb.mono HB.out.size)
        refine ⟨?_, ?_⟩
        · have := (hhx.below hb3).range HD32.out hx
          rwa [Nat.zero_add] at this
        · have := (hhy.below hb3).range HD32.out hx
          rwa [Nat.zero_add] at this)
      have hE : ∀ w : World, (Op.equalIn 10000 IdT (.agg (Lib.byteCells x).toArray) (.agg (Lib.byteCells x).toArray)).run Tryz.prog w = .ok true w := fun w => by
        have := eq_ids w HX32.out HX32.out
        rwa [beq_self_eq_true] at this
      clear hhx hhy hx hne
      go_upto_region 11 with (fail)
      refine wp_region_held_drew (S := (fun w' : World => w'.rangeAt gx (j * 32) (Lib.byteCells x) ∧ w'.rangeAt gy (j * 32) (Lib.byteCells x))) (by kernel_rfl) (KR.out _ (Below.refl _ _).drew) (fun hHeld => ?_)
      refine wpAnyH_take (i := 0) (v := ?_) rfl (by kernel_rfl) (by kernel_rfl) (by kernel_rfl) (fun _ _ _ h => h) (Or.inl ⟨by rfl, ?q0⟩) hHeld ?_
      case q0 =>
        intro wS hSw
        obtain ⟨z0, z1⟩ := hSw
        go_simp
        try with_reducible rfl
      try simp only [Act.put, List.getElem_toArray, List.getElem_cons_zero, List.getElem_cons_succ, List.setIfInBounds_toArray, List.set_cons_zero, List.set_cons_succ]
      refine wpAnyH_take (i := 1) (v := ?_) rfl (by kernel_rfl) (by kernel_rfl) (by kernel_rfl) (fun _ _ _ h => h) (Or.inl ⟨by rfl, ?q1⟩) hHeld ?_
      case q1 =>
        intro wS hSw
        obtain ⟨z0, z1⟩ := hSw
        go_simp
        try with_reducible rfl
      try simp only [Act.put, List.getElem_toArray, List.getElem_cons_zero, List.getElem_cons_succ, List.setIfInBounds_toArray, List.set_cons_zero, List.set_cons_succ]
      refine wpAnyH_take (i := 2) (v := ?_) rfl (by kernel_rfl) (by kernel_rfl) (by kernel_rfl) (fun _ _ _ h => h) (Or.inl ⟨by rfl, ?q2⟩) hHeld ?_
      case q2 =>
        intro wS hSw
        obtain ⟨z0, z1⟩ := hSw
        go_simp
        try with_reducible rfl
      try simp only [Act.put, List.getElem_toArray, List.getElem_cons_zero, List.getElem_cons_succ, List.setIfInBounds_toArray, List.set_cons_zero, List.set_cons_succ]
      refine' wpAnyH_take (i := 3) (v := _) rfl (by kernel_rfl) (by kernel_rfl) (by kernel_rfl) (fun _ _ _ h => h) (yieldsIf_load_mid (by rfl) _ _ rfl gx (j * 32) rfl (Lib.byteCells x) _ ?q3S ?q3u ?q3d ?q3i) hHeld ?q3x
      case q3S =>
        intro wS hSw
        exact hSw.1
      case q3u => exact Tryz.underlying81
      case q3d => rfl
      case q3i => exact (infoIdX HX32.out)
      try simp only [Act.put, List.getElem_toArray, List.getElem_cons_zero, List.getElem_cons_succ, List.setIfInBounds_toArray, List.set_cons_zero, List.set_cons_succ]
      refine wpAnyH_take (i := 4) (v := ?_) rfl (by kernel_rfl) (by kernel_rfl) (by kernel_rfl) (fun _ _ _ h => h) (Or.inl ⟨by rfl, ?q4⟩) hHeld ?_
      case q4 =>
        intro wS hSw
        obtain ⟨z0, z1⟩ := hSw
        go_simp
        try with_reducible rfl
      try simp only [Act.put, List.getElem_toArray, List.getElem_cons_zero, List.getElem_cons_succ, List.setIfInBounds_toArray, List.set_cons_zero, List.set_cons_succ]
      refine wpAnyH_take (i := 5) (v := ?_) rfl (by kernel_rfl) (by kernel_rfl) (by kernel_rfl) (fun _ _ _ h => h) (Or.inl ⟨by rfl, ?q5⟩) hHeld ?_
      case q5 =>
        intro wS hSw
        obtain ⟨z0, z1⟩ := hSw
        go_simp
        try with_reducible rfl
      try simp only [Act.put, List.getElem_toArray, List.getElem_cons_zero, List.getElem_cons_succ, List.setIfInBounds_toArray, List.set_cons_zero, List.set_cons_succ]
      refine wpAnyH_take (i := 6) (v := ?_) rfl (by kernel_rfl) (by kernel_rfl) (by kernel_rfl) (fun _ _ _ h => h) (Or.inl ⟨by rfl, ?q6⟩) hHeld ?_
      case q6 =>
        intro wS hSw
        obtain ⟨z0, z1⟩ := hSw
        go_simp
        try with_reducible rfl
      try simp only [Act.put, List.getElem_toArray, List.getElem_cons_zero, List.getElem_cons_succ, List.setIfInBounds_toArray, List.set_cons_zero, List.set_cons_succ]
      refine' wpAnyH_take (i := 7) (v := _) rfl (by kernel_rfl) (by kernel_rfl) (by kernel_rfl) (fun _ _ _ h => h) (yieldsIf_load_mid (by rfl) _ _ rfl gy (j * 32) rfl (Lib.byteCells x) _ ?q7S ?q7u ?q7d ?q7i) hHeld ?q7x
      case q7S =>
        intro wS hSw
        exact hSw.2
      case q7u => exact Tryz.underlying81
      case q7d => rfl
      case q7i => exact (infoIdX HX32.out)
      try simp only [Act.put, List.getElem_toArray, List.getElem_cons_zero, List.getElem_cons_succ, List.setIfInBounds_toArray, List.set_cons_zero, List.set_cons_succ]
      refine wpAnyH_take (i := 8) (v := ?_) rfl (by kernel_rfl) (by kernel_rfl) (by kernel_rfl) (fun _ _ _ h => h) (Or.inl ⟨by rfl, ?q8⟩) hHeld ?_
      case q8 =>
        intro wS hSw
        obtain ⟨z0, z1⟩ := hSw
        go_simp
        try with_reducible rfl
      try simp only [Act.put, List.getElem_toArray, List.getElem_cons_zero, List.getElem_cons_succ, List.setIfInBounds_toArray, List.set_cons_zero, List.set_cons_succ]
      refine wpAnyH_done (by kernel_rfl) ?_ _
      clear hHeld
      try simp only [Act.put, List.getElem_toArray, List.getElem_cons_zero, List.getElem_cons_succ, List.setIfInBounds_toArray, List.set_cons_zero, List.set_cons_succ]
      go_wp2
      go_roundw
      case rel => exact ⟨j + 1, by omega, by go_num, Lib.hid HB.out.drew⟩
      case measure => simp [RowKit.intOf]; omega
    · obtain rfl : j = DD.length := by omega
      have HB7 : Hid (Below w.heap.size w wo) := Lib.hid (HB6.out.trans (HB.out.mono HB6.out.size))
      have HOL7 := Lib.hid (rowS_kept HOL6.out (fun b _ hl => HB.out.block b hl))
      have HOM7 := Lib.hid (rowS_kept HOM6.out (fun b _ hl => HB.out.block b hl))
      have HLM : Hid (∀ x ∈ ob (.slice al N.length cl), x < w1.heap.size ∧ w.heap.size ≤ x) := Lib.hid (fun x hx => ⟨rowS_lt HOL1.out x hx, rowS_ge HOL1.out x hx⟩)
      have hnl : N.length ≤ 64 := HNL.out
      go_wp2_with fail
      go_loopw [14, 15, 16, 17, 18, 19, 20, 21, 22, 23, 24, 25, 26] (fun u14 _ _ _ _ _ _ _ _ _ _ _ _ wr => ∃ (i : Nat) (xl : List Value), i ≤ N.length + 1 ∧ u14 = .int .i64 (i : Int) ∧ Hid (Turn (ob (.slice al N.length cl)) wo wr) ∧ Hid (wr.ownsRow w.heap.size 9 1 (.slice al N.length cl) N.length xl ∧ ∀ j, i ≤ j → j < N.length → xl[j]? = (N.map encStr)[j]?)) (fun u14 _ _ _ _ _ _ _ _ _ _ _ _ _ => N.length + 1 - (RowKit.intOf u14).toNat)
      case atStart => exact ⟨0, N.map encStr, by omega, rfl, Lib.hid (Turn.refl _ _), Lib.hid ⟨HOL7.out, fun _ _ _ => rfl⟩⟩
      case round =>
        obtain ⟨i, xl, hi, rfl, HT, HXL⟩ := hrel
        obtain ⟨wb, hwb⟩ : ∃ wb, wb = wr := ⟨_, rfl⟩
        subst hwb
        have HBW : Hid (Below w.heap.size w wb) := Lib.hid (HB7.out.trans (HT.out.below (fun x hx => (HLM.out x hx).2) HB7.out.size))
        by_cases hil : (i : Int) ≤ (N.length : Int)
        · by_cases hin : (i : Int) < (N.length : Int)
          · have hi2 : i < N.length := by omega
            have hi0 : (0 : Int) ≤ (i : Int) := by omega
            obtain ⟨gl, cl', hvl, _, hgl, hcl⟩ := rowS_form HXL.out.1 (by omega)
            injection hvl with a1 _ a3
            subst a1 a3
            obtain ⟨gm, cm', hvm, hgm, hgm2, hcm⟩ := rowS_form HOM7.out (by omega)
            injection hvm with a1 _ a3
            subst a1 a3
            obtain ⟨k, hk⟩ : ∃ k, N[i]? = some k := ⟨_, List.getElem?_eq_getElem hi2⟩
            have hgml : gm ≠ gl := by
              have := (HLM.out gl (by simp [ob, Value.ownBlock])).1
              omega
            have z0 : wb.cell? ⟨gm, i, none⟩ = some (.string ⟨k.toArray⟩) := (World.cell?_of_block (a := ⟨gm, i, none⟩) (HT.out.block gm hgm (by simp [ob, Value.ownBlock]; exact hgml))).trans (hcm i _ (by rw [List.getElem?_map, hk]; rfl))
            have z1 : wb.cell? ⟨gl, i, none⟩ = some (.string ⟨k.toArray⟩) := hcl i _ (by rw [HXL.out.2 i (Nat.le_refl _) hi2, List.getElem?_map, hk]; rfl)
            obtain ⟨s1, z2, _, _⟩ := row_cell HXL.out.1 (k := i) (by omega) (.string ⟨#[126]⟩)
            obtain ⟨wa, hwa⟩ : ∃ wa, wa = wb.setCell ⟨gl, i, none⟩ (.string ⟨#[126]⟩) := ⟨_, rfl⟩
            have hglb : w.heap.size ≤ gl := hgl
            have HTA : Hid (Turn (ob (.slice (some ⟨gl, 0, none⟩) N.length cl)) wo wa) := Lib.hid (by rw [hwa]; exact HT.out.setCell (p := ⟨gl, i, none⟩) (.inl (by simp [ob, Value.ownBlock])) _)
            have HBA : Hid (Below w.heap.size w wa) := Lib.hid (by rw [hwa]; exact HBW.out.setCell (p := ⟨gl, i, none⟩) hglb _)
            have HXA : Hid (wa.ownsRow w.heap.size 9 1 (.slice (some ⟨gl, 0, none⟩) N.length cl) N.length (xl.set i (.string ⟨#[126]⟩)) ∧ ∀ j, i + 1 ≤ j → j < N.length → (xl.set i (.string ⟨#[126]⟩))[j]? = (N.map encStr)[j]?) := Lib.hid ⟨by rw [hwa]; exact s1, fun j hj hjn => by rw [List.getElem?_set_ne (by omega)]; exact HXL.out.2 j (by omega) hjn⟩
            have BA : Hid (BookAt X B1 wa g b Z1 ∧ RBk B2 wa r v Z2) := Lib.hid ⟨HA.out.below HBA.out, HR.out.below HBA.out⟩
            have HKL : Hid (k.length ≤ maxLen) := Lib.hid (by
              have hkm : k ∈ names K := by rw [← HN.out]; exact List.mem_of_getElem? hk
              obtain ⟨l, hl⟩ := names_get hkm
              have := HOK.out.keys (k, l) (getM_mem hl)
              dsimp only at this; unfold maxLen; omega)
            have HWA := Lib.hid hwa
            clear s1 hcm hcl hk hwa
            go_wp2_with (first
              | fail)
            try rw [← HWA.out]
            have C1 := Lib.hid (ask_log (BA.out.1) e1 HOK.out k HKL.out)
            obtain ⟨LL, hLL⟩ : ∃ LL, LL = rowOf K k := ⟨_, rfl⟩
            have HL32 : Hid (∀ e ∈ LL, e.c.length = 32) := Lib.hid (by rw [hLL]; exact row_32 HOK.out k)
            have hl4 : LL.length ≤ 4096 := by rw [hLL]; exact row_len HOK.out k
            rw [← hLL] at C1
            have HLL := Lib.hid hLL
            clear hLL
            go_wp2_with fail
            refine C1.out.mono ?_
            rintro e w1 ⟨va, rfl, hoa, hb1⟩
            obtain ⟨aa, ca, rfl⟩ := rowS_slice hoa
            have HOA := Lib.hid hoa; have HB1 := Lib.hid hb1
            have C2 := Lib.hid (ask_rlog (BA.out.2.below hb1) e2 HOK.out k)
            rw [← HLL.out] at C2
            clear hoa hb1 C1
            go_wp2_with fail
            refine C2.out.mono ?_
            rintro e w2 ⟨vc, rfl, hoc, hb2⟩
            obtain ⟨ac, cc, rfl⟩ := rowS_slice (hoc _ _ _ BA.out.2)
            have HOC0 : Hid (wa.ownsRow B2 EnT 33 (.slice ac LL.length cc) LL.length (cellsL LL)) := Lib.hid (hoc _ _ _ BA.out.2)
            have HB2 : Hid (Below wa.heap.size wa w2) := Lib.hid (HB1.out.trans (hb2.mono HB1.out.size))
            have HOC2 := Lib.hid (rowS_kept HOC0.out (fun b _ hl => HB2.out.block b hl))
            have HOA2 := Lib.hid (rowS_kept HOA.out (fun b _ hl => hb2.block b hl))
            have C3 := Lib.hid (ask_tip (BA.out.1.below HB2.out) e1 HOK.out k HKL.out)
            clear hoc hb2 C2
            go_wp2_with fail
            refine C3.out.mono ?_
            rintro e w3 ⟨rfl, hb3⟩
            have HB3 : Hid (Below wa.heap.size wa w3) := Lib.hid (HB2.out.trans (hb3.mono HB2.out.size))
            have HB23 := Lib.hid hb3
            obtain ⟨tp, htp⟩ : ∃ tp, tp = tipOf K k := ⟨_, rfl⟩
            have HT32 : Hid (tp.c.length = 32) := Lib.hid (by rw [htp]; exact tip_32 HOK.out _)
            have HCS : Hid (tp.cells.length = 33) := Lib.hid (cells_size HT32.out)
            have HI2 : Hid ((Tryz.prog.info? 84).map (·.size) = some tp.cells.toArray.size) := Lib.hid (by rw [List.size_toArray, HCS.out]; kernel_rfl)
            have HI3 : Hid ((Tryz.prog.info? EnT).map (·.size) = some tp.cells.toArray.size) := Lib.hid (by rw [List.size_toArray, HCS.out]; kernel_rfl)
            have HS2 : Hid (zer33.size = tp.cells.toArray.size) := Lib.hid (by show 33 = _; rw [List.size_toArray]; exact HCS.out.symm)
            have HONE : Hid (tp.cells.toArray.all (·.oneCell') = true) := Lib.hid (Array.all_eq_true_iff_forall_mem.2 (fun u hu => cellsL_one [tp] u (by simpa [cellsL] using hu)))
            have HTP := Lib.hid htp
            rw [← htp]
            clear hb3 C3 htp
            go_wp2_with (first
              | (refine wpList_store_row rfl _ _ _ rfl w3.heap.size tp.cells.toArray rfl rfl 84 zer33 (MapKept.heap_alloc w3 (.cells zer33 84)).1 HI2.out HS2.out HONE.out ?_
                 obtain ⟨hq4, hb4⟩ := store_new w3 tp.cells.toArray
                 change wpList _ _ _ _ _ ((w3.alloc (.cells zer33 84)).setRow w3.heap.size tp.cells.toArray)
                 generalize (w3.alloc (.cells zer33 84)).setRow w3.heap.size tp.cells.toArray = w4 at hq4 hb4 ⊢
                 have HQ4 := Lib.hid hq4; have HB34 := Lib.hid hb4
                 clear hq4 hb4)
              | fail)
            have HB4 : Hid (Below wa.heap.size wa w4) := Lib.hid (HB3.out.trans (HB34.out.mono HB3.out.size))
            have C4 := Lib.hid (ask_rtip (BA.out.2.below HB4.out) e2 HOK.out k)
            rw [← HTP.out] at C4
            refine C4.out.mono ?_
            rintro e w5 ⟨rfl, hb5⟩
            have HB5 : Hid (Below wa.heap.size wa w5) := Lib.hid (HB4.out.trans (hb5.mono HB4.out.size))
            have HQ5 : Hid (w5.heap[w3.heap.size]? = some (.cells tp.cells.toArray 84)) := Lib.hid ((hb5.block _ (lt_of_heap HQ4.out)).trans HQ4.out)
            have HB25 : Hid (Below w2.heap.size w2 w5) := Lib.hid ((HB23.out.trans (HB34.out.mono HB23.out.size)).trans (hb5.mono (Nat.le_trans HB23.out.size HB34.out.size)))
            clear hb5 C4
            obtain ⟨tt, htt⟩ : ∃ tt, tt = tp.t := ⟨_, rfl⟩
            have HTT := Lib.hid htt
            clear htt
            go_wp2_with (first
              | (refine wpList_store_row rfl _ _ _ rfl w5.heap.size tp.cells.toArray rfl rfl EnT zer33 (MapKept.heap_alloc w5 (.cells zer33 EnT)).1 HI3.out HS2.out HONE.out ?_
                 obtain ⟨hq6, hb6⟩ := store_newR w5 tp.cells.toArray
                 change wpList _ _ _ _ _ ((w5.alloc (.cells zer33 EnT)).setRow w5.heap.size tp.cells.toArray)
                 generalize (w5.alloc (.cells zer33 EnT)).setRow w5.heap.size tp.cells.toArray = w6 at hq6 hb6 ⊢
                 have HQ6 := Lib.hid hq6; have HB56 := Lib.hid hb6
                 clear hq6 hb6)
              | fail)
            have HB6 : Hid (Below wa.heap.size wa w6) := Lib.hid (HB5.out.trans (HB56.out.mono HB5.out.size))
            have HB26 : Hid (Below w2.heap.size w2 w6) := Lib.hid (HB25.out.trans (HB56.out.mono HB25.out.size))
            have HOA6 := Lib.hid (rowS_kept HOA2.out (fun b _ hl => HB26.out.block b hl))
            have HOC6 := Lib.hid (rowS_kept HOC2.out (fun b _ hl => HB26.out.block b hl))
            have C5 := Lib.hid (samelog_any w6 _ _ LL HOA6.out HOC6.out HL32.out hl4)
            refine C5.out.mono ?_
            rintro e w8 ⟨rfl, hb8⟩
            have HB8 : Hid (Below wa.heap.size wa w8) := Lib.hid (HB6.out.trans (hb8.mono HB6.out.size))
            have HB28 : Hid (Below w2.heap.size w2 w8) := Lib.hid (HB26.out.trans (hb8.mono HB26.out.size))
            have HQ20 : Hid (w8.heap[w3.heap.size]? = some (.cells tp.cells.toArray 84)) := Lib.hid ((hb8.block _ (Nat.lt_of_lt_of_le (lt_of_heap HQ5.out) HB56.out.size)).trans ((HB56.out.block _ (lt_of_heap HQ5.out)).trans HQ5.out))
            have HQ22 : Hid (w8.heap[w5.heap.size]? = some (.cells tp.cells.toArray EnT)) := Lib.hid ((hb8.block _ (lt_of_heap HQ6.out)).trans HQ6.out)
            have HTIP : Hid (tp.cells[32]? = some (.int .i64 tt)) := Lib.hid (by
              rw [En.cells, List.getElem?_append_right (by rw [Lib.byteCells_length, HT32.out]; omega), Lib.byteCells_length, HT32.out, HTT.out]; rfl)
            have k20 : w8.cell? ⟨w3.heap.size, 32, none⟩ = some (.int .i64 tt) := by rw [cell_of_heap HQ20.out, List.getElem?_toArray]; exact HTIP.out
            have k22 : w8.cell? ⟨w5.heap.size, 32, none⟩ = some (.int .i64 tt) := by rw [cell_of_heap HQ22.out, List.getElem?_toArray]; exact HTIP.out
            have HRG20 : Hid (w8.rangeAt w3.heap.size 0 (Lib.byteCells tp.c)) := Lib.hid (fun t v hv => by
              rw [Nat.zero_add, cell_of_heap HQ20.out, List.getElem?_toArray, En.cells, List.getElem?_append_left (List.getElem?_eq_some_iff.1 hv).1]; exact hv)
            have HRG22 : Hid (w8.rangeAt w5.heap.size 0 (Lib.byteCells tp.c)) := Lib.hid (fun t v hv => by
              rw [Nat.zero_add, cell_of_heap HQ22.out, List.getElem?_toArray, En.cells, List.getElem?_append_left (List.getElem?_eq_some_iff.1 hv).1]; exact hv)
            have hE : ∀ w : World, (Op.equalIn 10000 IdT (.agg (Lib.byteCells tp.c).toArray) (.agg (Lib.byteCells tp.c).toArray)).run Tryz.prog w = .ok true w := fun w => by
              have := eq_ids w HT32.out HT32.out
              rwa [beq_self_eq_true] at this
            have HOA8 := Lib.hid (rowS_kept HOA6.out (fun b _ hl => hb8.block b hl))
            clear hb8 C5
            go_wp2_with (first
              | (refine wpList_want_load (by rfl) _ _ rfl w3.heap.size 0 rfl (Lib.byteCells tp.c) _ HRG20.out Tryz.underlying81 rfl (infoIdX HT32.out) ?_)
              | (refine wpList_want_load (by rfl) _ _ rfl w5.heap.size 0 rfl (Lib.byteCells tp.c) _ HRG22.out Tryz.underlying81 rfl (infoIdX HT32.out) ?_)
              | fail)
            clear hE k20 k22
            go_loopw [24] (fun u24 wr => ∃ (j : Nat) (xs : List Value), j ≤ LL.length ∧ u24 = .int .i64 (j : Int) ∧ Hid (wr.ownsRow wa.heap.size 84 33 (.slice aa LL.length ca) LL.length xs) ∧ Hid (Below wa.heap.size wa wr)) (fun u24 _ => LL.length - (RowKit.intOf u24).toNat)
            case atStart => exact ⟨0, _, Nat.zero_le _, rfl, HOA8, HB8⟩
            case round =>
              obtain ⟨j, xs, hj, rfl, HOJ, HBJ⟩ := hrel
              by_cases hjn : (j : Int) < (LL.length : Int)
              · have hj0 : (0 : Int) ≤ (j : Int) := by omega
                obtain ⟨ga, ca', hva, _, hga, _⟩ := rowS_form HOJ.out (by omega)
                injection hva with a1 _ a3
                subst a1 a3
                obtain ⟨s1, s2, xo, s3⟩ := row_cell HOJ.out (k := j * 33 + 32) (by omega) (.int .i64 (-1))
                have HS1 := Lib.hid s1
                have HSB : Hid (Below wa.heap.size wa (wr.setCell ⟨ga, j * 33 + 32, none⟩ (.int .i64 (-1)))) := Lib.hid (HBJ.out.setCell (p := ⟨ga, j * 33 + 32, none⟩) hga _)
                clear s1
                go_wp2
                go_roundw
                case rel => exact ⟨j + 1, _, by omega, by go_num, HS1, HSB⟩
                case measure => simp [RowKit.intOf]; omega
              · obtain rfl : j = LL.length := by omega
                have C6 := Lib.hid (ask_log (BA.out.1.below HBJ.out) e1 HOK.out k HKL.out)
                rw [← HLL.out] at C6
                go_wp2_with fail
                refine C6.out.mono ?_
                rintro e w9 ⟨vz, rfl, hoz, hb9⟩
                obtain ⟨az, cz, rfl⟩ := rowS_slice hoz
                have HOZ := Lib.hid hoz
                have HB9 : Hid (Below wa.heap.size wa w9) := Lib.hid (HBJ.out.trans (hb9.mono HBJ.out.size))
                have HOC9 := Lib.hid (rowS_kept HOC0.out (fun b _ hl => HB9.out.block b hl))
                have C7 := Lib.hid (samelog_any w9 _ _ LL HOZ.out HOC9.out HL32.out hl4)
                clear hb9 hoz C6
                go_wp2_with fail
                refine C7.out.mono ?_
                rintro e w10 ⟨rfl, hb10⟩
                have HB10 : Hid (Below wa.heap.size wa w10) := Lib.hid (HB9.out.trans (hb10.mono HB9.out.size))
                clear hb10 C7
                go_wp2
                go_roundw
                case rel => exact ⟨i + 1, xl.set i (.string ⟨#[126]⟩), by omega, by go_num, Lib.hid (HTA.out.trans (Turn.of_below HB10.out : Turn [] wa w10) (fun y hy => nomatch hy)), Lib.hid ⟨rowS_kept HXA.out.1 (fun b _ hl => HB10.out.block b hl), fun j hj hjn => HXA.out.2 j (by omega) hjn⟩⟩
                case measure => simp [RowKit.intOf]; omega
          · have HTA := HT
            have HXA := HXL
            have BA : Hid (BookAt X B1 wb g b Z1 ∧ RBk B2 wb r v Z2) := Lib.hid ⟨HA.out.below HBW.out, HR.out.below HBW.out⟩
            have HKL : Hid (O.length ≤ maxLen) := HOL
            have C1 := Lib.hid (ask_log (BA.out.1) e1 HOK.out O HKL.out)
            obtain ⟨LL, hLL⟩ : ∃ LL, LL = rowOf K O := ⟨_, rfl⟩
            have HL32 : Hid (∀ e ∈ LL, e.c.length = 32) := Lib.hid (by rw [hLL]; exact row_32 HOK.out O)
            have hl4 : LL.length ≤ 4096 := by rw [hLL]; exact row_len HOK.out O
            rw [← hLL] at C1
            have HLL := Lib.hid hLL
            clear hLL
            go_wp2_with fail
            refine C1.out.mono ?_
            rintro e w1 ⟨va, rfl, hoa, hb1⟩
            obtain ⟨aa, ca, rfl⟩ := rowS_slice hoa
            have HOA := Lib.hid hoa; have HB1 := Lib.hid hb1
            have C2 := Lib.hid (ask_rlog (BA.out.2.below hb1) e2 HOK.out O)
            rw [← HLL.out] at C2
            clear hoa hb1 C1
            go_wp2_with fail
            refine C2.out.mono ?_
            rintro e w2 ⟨vc, rfl, hoc, hb2⟩
            obtain ⟨ac, cc, rfl⟩ := rowS_slice (hoc _ _ _ BA.out.2)
            have HOC0 : Hid (wb.ownsRow B2 EnT 33 (.slice ac LL.length cc) LL.length (cellsL LL)) := Lib.hid (hoc _ _ _ BA.out.2)
            have HB2 : Hid (Below wb.heap.size wb w2) := Lib.hid (HB1.out.trans (hb2.mono HB1.out.size))
            have HOC2 := Lib.hid (rowS_kept HOC0.out (fun b _ hl => HB2.out.block b hl))
            have HOA2 := Lib.hid (rowS_kept HOA.out (fun b _ hl => hb2.block b hl))
            have C3 := Lib.hid (ask_tip (BA.out.1.below HB2.out) e1 HOK.out O HKL.out)
            clear hoc hb2 C2
            go_wp2_with fail
            refine C3.out.mono ?_
            rintro e w3 ⟨rfl, hb3⟩
            have HB3 : Hid (Below wb.heap.size wb w3) := Lib.hid (HB2.out.trans (hb3.mono HB2.out.size))
            have HB23 := Lib.hid hb3
            obtain ⟨tp, htp⟩ : ∃ tp, tp = tipOf K O := ⟨_, rfl⟩
            have HT32 : Hid (tp.c.length = 32) := Lib.hid (by rw [htp]; exact tip_32 HOK.out _)
            have HCS : Hid (tp.cells.length = 33) := Lib.hid (cells_size HT32.out)
            have HI2 : Hid ((Tryz.prog.info? 84).map (·.size) = some tp.cells.toArray.size) := Lib.hid (by rw [List.size_toArray, HCS.out]; kernel_rfl)
            have HI3 : Hid ((Tryz.prog.info? EnT).map (·.size) = some tp.cells.toArray.size) := Lib.hid (by rw [List.size_toArray, HCS.out]; kernel_rfl)
            have HS2 : Hid (zer33.size = tp.cells.toArray.size) := Lib.hid (by show 33 = _; rw [List.size_toArray]; exact HCS.out.symm)
            have HONE : Hid (tp.cells.toArray.all (·.oneCell') = true) := Lib.hid (Array.all_eq_true_iff_forall_mem.2 (fun u hu => cellsL_one [tp] u (by simpa [cellsL] using hu)))
            have HTP := Lib.hid htp
            rw [← htp]
            clear hb3 C3 htp
            go_wp2_with (first
              | (refine wpList_store_row rfl _ _ _ rfl w3.heap.size tp.cells.toArray rfl rfl 84 zer33 (MapKept.heap_alloc w3 (.cells zer33 84)).1 HI2.out HS2.out HONE.out ?_
                 obtain ⟨hq4, hb4⟩ := store_new w3 tp.cells.toArray
                 change wpList _ _ _ _ _ ((w3.alloc (.cells zer33 84)).setRow w3.heap.size tp.cells.toArray)
                 generalize (w3.alloc (.cells zer33 84)).setRow w3.heap.size tp.cells.toArray = w4 at hq4 hb4 ⊢
                 have HQ4 := Lib.hid hq4; have HB34 := Lib.hid hb4
                 clear hq4 hb4)
              | fail)
            have HB4 : Hid (Below wb.heap.size wb w4) := Lib.hid (HB3.out.trans (HB34.out.mono HB3.out.size))
            have C4 := Lib.hid (ask_rtip (BA.out.2.below HB4.out) e2 HOK.out O)
            rw [← HTP.out] at C4
            refine C4.out.mono ?_
            rintro e w5 ⟨rfl, hb5⟩
            have HB5 : Hid (Below wb.heap.size wb w5) := Lib.hid (HB4.out.trans (hb5.mono HB4.out.size))
            have HQ5 : Hid (w5.heap[w3.heap.size]? = some (.cells tp.cells.toArray 84)) := Lib.hid ((hb5.block _ (lt_of_heap HQ4.out)).trans HQ4.out)
            have HB25 : Hid (Below w2.heap.size w2 w5) := Lib.hid ((HB23.out.trans (HB34.out.mono HB23.out.size)).trans (hb5.mono (Nat.le_trans HB23.out.size HB34.out.size)))
            clear hb5 C4
            obtain ⟨tt, htt⟩ : ∃ tt, tt = tp.t := ⟨_, rfl⟩
            have HTT := Lib.hid htt
            clear htt
            go_wp2_with (first
              | (refine wpList_store_row rfl _ _ _ rfl w5.heap.size tp.cells.toArray rfl rfl EnT zer33 (MapKept.heap_alloc w5 (.cells zer33 EnT)).1 HI3.out HS2.out HONE.out ?_
                 obtain ⟨hq6, hb6⟩ := store_newR w5 tp.cells.toArray
                 change wpList _ _ _ _ _ ((w5.alloc (.cells zer33 EnT)).setRow w5.heap.size tp.cells.toArray)
                 generalize (w5.alloc (.cells zer33 EnT)).setRow w5.heap.size tp.cells.toArray = w6 at hq6 hb6 ⊢
                 have HQ6 := Lib.hid hq6; have HB56 := Lib.hid hb6
                 clear hq6 hb6)
              | fail)
            have HB6 : Hid (Below wb.heap.size wb w6) := Lib.hid (HB5.out.trans (HB56.out.mono HB5.out.size))
            have HB26 : Hid (Below w2.heap.size w2 w6) := Lib.hid (HB25.out.trans (HB56.out.mono HB25.out.size))
            have HOA6 := Lib.hid (rowS_kept HOA2.out (fun b _ hl => HB26.out.block b hl))
            have HOC6 := Lib.hid (rowS_kept HOC2.out (fun b _ hl => HB26.out.block b hl))
            have C5 := Lib.hid (samelog_any w6 _ _ LL HOA6.out HOC6.out HL32.out hl4)
            refine C5.out.mono ?_
            rintro e w8 ⟨rfl, hb8⟩
            have HB8 : Hid (Below wb.heap.size wb w8) := Lib.hid (HB6.out.trans (hb8.mono HB6.out.size))
            have HB28 : Hid (Below w2.heap.size w2 w8) := Lib.hid (HB26.out.trans (hb8.mono HB26.out.size))
            have HQ20 : Hid (w8.heap[w3.heap.size]? = some (.cells tp.cells.toArray 84)) := Lib.hid ((hb8.block _ (Nat.lt_of_lt_of_le (lt_of_heap HQ5.out) HB56.out.size)).trans ((HB56.out.block _ (lt_of_heap HQ5.out)).trans HQ5.out))
            have HQ22 : Hid (w8.heap[w5.heap.size]? = some (.cells tp.cells.toArray EnT)) := Lib.hid ((hb8.block _ (lt_of_heap HQ6.out)).trans HQ6.out)
            have HTIP : Hid (tp.cells[32]? = some (.int .i64 tt)) := Lib.hid (by
              rw [En.cells, List.getElem?_append_right (by rw [Lib.byteCells_length, HT32.out]; omega), Lib.byteCells_length, HT32.out, HTT.out]; rfl)
            have k20 : w8.cell? ⟨w3.heap.size, 32, none⟩ = some (.int .i64 tt) := by rw [cell_of_heap HQ20.out, List.getElem?_toArray]; exact HTIP.out
            have k22 : w8.cell? ⟨w5.heap.size, 32, none⟩ = some (.int .i64 tt) := by rw [cell_of_heap HQ22.out, List.getElem?_toArray]; exact HTIP.out
            have HRG20 : Hid (w8.rangeAt w3.heap.size 0 (Lib.byteCells tp.c)) := Lib.hid (fun t v hv => by
              rw [Nat.zero_add, cell_of_heap HQ20.out, List.getElem?_toArray, En.cells, List.getElem?_append_left (List.getElem?_eq_some_iff.1 hv).1]; exact hv)
            have HRG22 : Hid (w8.rangeAt w5.heap.size 0 (Lib.byteCells tp.c)) := Lib.hid (fun t v hv => by
              rw [Nat.zero_add, cell_of_heap HQ22.out, List.getElem?_toArray, En.cells, List.getElem?_append_left (List.getElem?_eq_some_iff.1 hv).1]; exact hv)
            have hE : ∀ w : World, (Op.equalIn 10000 IdT (.agg (Lib.byteCells tp.c).toArray) (.agg (Lib.byteCells tp.c).toArray)).run Tryz.prog w = .ok true w := fun w => by
              have := eq_ids w HT32.out HT32.out
              rwa [beq_self_eq_true] at this
            have HOA8 := Lib.hid (rowS_kept HOA6.out (fun b _ hl => hb8.block b hl))
            clear hb8 C5
            go_wp2_with (first
              | (refine wpList_want_load (by rfl) _ _ rfl w3.heap.size 0 rfl (Lib.byteCells tp.c) _ HRG20.out Tryz.underlying81 rfl (infoIdX HT32.out) ?_)
              | (refine wpList_want_load (by rfl) _ _ rfl w5.heap.size 0 rfl (Lib.byteCells tp.c) _ HRG22.out Tryz.underlying81 rfl (infoIdX HT32.out) ?_)
              | fail)
            clear hE k20 k22
            go_loopw [24] (fun u24 wr => ∃ (j : Nat) (xs : List Value), j ≤ LL.length ∧ u24 = .int .i64 (j : Int) ∧ Hid (wr.ownsRow wb.heap.size 84 33 (.slice aa LL.length ca) LL.length xs) ∧ Hid (Below wb.heap.size wb wr)) (fun u24 _ => LL.length - (RowKit.intOf u24).toNat)
            case atStart => exact ⟨0, _, Nat.zero_le _, rfl, HOA8, HB8⟩
            case round =>
              obtain ⟨j, xs, hj, rfl, HOJ, HBJ⟩ := hrel
              by_cases hjn : (j : Int) < (LL.length : Int)
              · have hj0 : (0 : Int) ≤ (j : Int) := by omega
                obtain ⟨ga, ca', hva, _, hga, _⟩ := rowS_form HOJ.out (by omega)
                injection hva with a1 _ a3
                subst a1 a3
                obtain ⟨s1, s2, xo, s3⟩ := row_cell HOJ.out (k := j * 33 + 32) (by omega) (.int .i64 (-1))
                have HS1 := Lib.hid s1
                have HSB : Hid (Below wb.heap.size wb (wr.setCell ⟨ga, j * 33 + 32, none⟩ (.int .i64 (-1)))) := Lib.hid (HBJ.out.setCell (p := ⟨ga, j * 33 + 32, none⟩) hga _)
                clear s1
                go_wp2
                go_roundw
                case rel => exact ⟨j + 1, _, by omega, by go_num, HS1, HSB⟩
                case measure => simp [RowKit.intOf]; omega
              · obtain rfl : j = LL.length := by omega
                have C6 := Lib.hid (ask_log (BA.out.1.below HBJ.out) e1 HOK.out O HKL.out)
                rw [← HLL.out] at C6
                go_wp2_with fail
                refine C6.out.mono ?_
                rintro e w9 ⟨vz, rfl, hoz, hb9⟩
                obtain ⟨az, cz, rfl⟩ := rowS_slice hoz
                have HOZ := Lib.hid hoz
                have HB9 : Hid (Below wb.heap.size wb w9) := Lib.hid (HBJ.out.trans (hb9.mono HBJ.out.size))
                have HOC9 := Lib.hid (rowS_kept HOC0.out (fun b _ hl => HB9.out.block b hl))
                have C7 := Lib.hid (samelog_any w9 _ _ LL HOZ.out HOC9.out HL32.out hl4)
                clear hb9 hoz C6
                go_wp2_with fail
                refine C7.out.mono ?_
                rintro e w10 ⟨rfl, hb10⟩
                have HB10 : Hid (Below wb.heap.size wb w10) := Lib.hid (HB9.out.trans (hb10.mono HB9.out.size))
                clear hb10 C7
                go_wp2
                go_roundw
                case rel => exact ⟨i + 1, xl, by omega, by go_num, Lib.hid (HTA.out.trans (Turn.of_below HB10.out : Turn [] wb w10) (fun y hy => nomatch hy)), Lib.hid ⟨rowS_kept HXA.out.1 (fun b _ hl => HB10.out.block b hl), fun j hj hjn => HXA.out.2 j (by omega) hjn⟩⟩
                case measure => simp [RowKit.intOf]; omega
        · obtain rfl : i = N.length + 1 := by omega
          go_wp2
          go_ret
          exact ⟨rfl, HBW.out⟩
end Go.Proofs.YtkeegnhjemhblaaGreatDoor.Rb
/-
  RefsBytes' law: any bytes are read as one book by both, or refused by both.
-/
set_option linter.unusedSimpArgs false
namespace Go.Proofs.YtkeegnhjemhblaaGreatDoor.Rb
open Go.RowKit Go.Maps Go.WideMaps Go.Proofs.YtkeegnhjemhblaaGreatDoor.Rf

set_option maxHeartbeats 40000000 in
set_option maxRecDepth 100000 in
theorem bytes_law (w : World) (hT : Nm.Tabs w) (S : List UInt8) (hS : S.length ≤ 140737488355328) :
    Calls Tryz.prog 3 #[.string ⟨S.toArray⟩] w fun e w' => e = .returned (.bool true) ∧ Below w.heap.size w w' := by
  have P := pdecode_any w S hS
  have R : ∀ W, Below w.heap.size w W → Calls Tryz.prog 8 #[.string ⟨S.toArray⟩] W (RDecPost W (decR S)) := fun W hb => rdecode_any W (hT.below hb) S hS
  rw [← dec_same] at R
  cases hd : decP S with
  | none =>
    rw [hd] at P R
    have C1 := Lib.hid P; have C2 := Lib.hid R
    clear P R hd hT hS
    go_enter Tryz.func3, Tryz.ntmps3
    go_wp2_with fail
    refine C1.out.mono ?_
    rintro e w1 ⟨hb1, rfl⟩
    have D2 := Lib.hid (C2.out w1 hb1); have HB1 := Lib.hid hb1
    clear hb1 C1 C2
    go_wp2_with fail
    refine D2.out.mono ?_
    rintro e w2 ⟨hb2, rfl⟩
    have HB2 : Hid (Below w.heap.size w w2) := Lib.hid (HB1.out.trans (hb2.mono HB1.out.size))
    have AW := Lib.hid (awake_any w2)
    clear hb2 D2 HB1
    go_wp2_with fail
    refine AW.out.mono ?_
    rintro e w8 ⟨rfl, hb8⟩
    have HB8 : Hid (Below w.heap.size w w8) := Lib.hid (HB2.out.trans (hb8.mono HB2.out.size))
    clear hb8 AW
    go_wp2
    go_ret
    exact ⟨rfl, HB8.out⟩
  | some K =>
    rw [hd] at P R
    have C1 := Lib.hid P; have C2 := Lib.hid R
    clear P R hd hT hS
    unfold ptr at *
    go_enter Tryz.func3, Tryz.ntmps3
    go_wp2_with fail
    refine C1.out.mono ?_
    rintro e w1 ⟨hb1, g, b, Z, rfl, hat, e1, ok⟩
    have D2 := Lib.hid (C2.out w1 hb1); have HB1 := Lib.hid hb1; have HA := Lib.hid hat; have HE := Lib.hid e1; have HO := Lib.hid ok
    clear hb1 hat e1 ok C1 C2
    unfold ptr at *
    go_wp2_with fail
    refine D2.out.mono ?_
    rintro e w2 ⟨hb2, r, v, Z2, rfl, hr, e2, ok2⟩
    have HB2 : Hid (Below w.heap.size w w2) := Lib.hid (HB1.out.trans (hb2.mono HB1.out.size))
    have CS := Lib.hid (same_any (HA.out.below hb2) hr HE.out e2 HO.out [109, 97, 105, 110] (by decide))
    clear hb2 D2 HB1 hr e2 ok2 HA HE HO
    unfold ptr at *
    go_wp2_with fail
    refine CS.out.mono ?_
    rintro e w6 ⟨rfl, hb6⟩
    have HB6 : Hid (Below w.heap.size w w6) := Lib.hid (HB2.out.trans (hb6.mono HB2.out.size))
    have AW := Lib.hid (awake_any w6)
    clear hb6 CS HB2
    go_wp2_with fail
    refine AW.out.mono ?_
    rintro e w8 ⟨rfl, hb8⟩
    have HB8 : Hid (Below w.heap.size w w8) := Lib.hid (HB6.out.trans (hb8.mono HB6.out.size))
    clear hb8 AW
    go_wp2
    go_ret
    exact ⟨rfl, HB8.out⟩
end Go.Proofs.YtkeegnhjemhblaaGreatDoor.Rb
/-
  What a row that lists the tables of unicode/utf8 gives the contracts that read them.
-/
namespace Go.Proofs.YtkeegnhjemhblaaGreatDoor.Nm
open Go.Lib

theorem gFirst : Tryz.prog.globalNamed "unicode/utf8.first" = some 4 := by kernel_rfl
theorem gAccept : Tryz.prog.globalNamed "unicode/utf8.acceptRanges" = some 5 := by kernel_rfl
theorem tFirst : (Tryz.prog.globals[4]?).map (·.type) = some 288 := by kernel_rfl
theorem tAccept : (Tryz.prog.globals[5]?).map (·.type) = some 291 := by kernel_rfl
theorem cU8 : Tryz.prog.cellsOf 5 = 1 := by kernel_rfl
theorem cFirst : Tryz.prog.cellsOf 288 = 256 := by kernel_rfl
theorem cRange : Tryz.prog.cellsOf 290 = 2 := by kernel_rfl
theorem firstIs : Rows.laid_unicode_utf8_first = firstData := by kernel_rfl
theorem acceptIs : (Rows.laid_unicode_utf8_acceptRanges : DataW Unit) = acceptData := by kernel_rfl

/-- The two tables, out of what the row lists. -/
theorem tabs_of_reads {w : World} (h3 : VarReads Tryz.prog w "unicode/utf8.first" firstData) (h4 : VarReads Tryz.prog w "unicode/utf8.acceptRanges" acceptData) : Tabs w := by
  refine ⟨fun c hc => ?_, fun i hi => ?_⟩
  · obtain ⟨g, t, cs, fuel, p, hg, hty, hvar, hd⟩ := h3
    obtain rfl := Option.some.inj (gFirst.symm.trans hg)
    obtain rfl := Option.some.inj (tFirst.symm.trans hty)
    have hcs := cells_of_tab Tryz.underlying288 Tryz.underlying5 cU8 cFirst hd
    have := World.var?_cell hg hvar c
    rw [this, ← Array.getElem?_toList, hcs]
    simp [firstTab, hc]
  · obtain ⟨g, t, cs, fuel, p, hg, hty, hvar, hd⟩ := h4
    obtain rfl := Option.some.inj (gAccept.symm.trans hg)
    obtain rfl := Option.some.inj (tAccept.symm.trans hty)
    obtain ⟨fuel', d, q, hdi, he⟩ := array_elem Tryz.underlying291 hd i hi
    simp only [List.getElem?_map, List.getElem?_range hi, Option.map_some, Option.some.injEq] at hdi
    subst hdi
    rw [cRange] at he
    have hcs := ints_of_struct Tryz.underlying290 (fun j f hj => by
      match j, hj with
      | 0, hj => simp at hj; subst hj; exact ⟨Tryz.underlying5, rfl, cU8⟩
      | 1, hj => simp at hj; subst hj; exact ⟨Tryz.underlying5, rfl, cU8⟩
      | j + 2, hj => simp at hj) (by rw [cRange]; rfl) he
    have e0 := congrArg (·[0]?) hcs
    have e1 := congrArg (·[1]?) hcs
    simp only [List.getElem?_take, List.getElem?_drop] at e0 e1
    constructor
    · rw [World.var?_cell hg hvar (2 * i), ← Array.getElem?_toList]
      simpa [Nat.mul_comm] using e0
    · rw [World.var?_cell hg hvar (2 * i + 1), ← Array.getElem?_toList]
      simpa [Nat.mul_comm] using e1

theorem tabs_of_laid {W : World} {l : List (String × DataW Unit)} (h : laidMetH Tryz.prog l W) (hp : (l.all fun x => x.2.handleName?.isNone) = true)
    (h1 : ("unicode/utf8.first", Rows.laid_unicode_utf8_first) ∈ l) (h2 : ("unicode/utf8.acceptRanges", Rows.laid_unicode_utf8_acceptRanges) ∈ l) : Tabs W := by
  rw [Go.MakeChecks.laidMetH_plain _ _ _ hp] at h
  exact tabs_of_reads (firstIs ▸ laidMet.reads h h1) (acceptIs ▸ laidMet.reads h h2)
end Go.Proofs.YtkeegnhjemhblaaGreatDoor.Nm
