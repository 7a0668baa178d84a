import Derived.Test.YtpbhkaokgpacoaaGreatDoorZStRowM
import Derived.Test.YtpbhkaokgpacoaaGreatDoorZStRDecBack
set_option linter.unusedSimpArgs false
set_option linter.unusedVariables false
/-
  The contract of the reference's Encode.
-/
namespace Go.Proofs.YtpbhkaokgpacoaaGreatDoor.St
open Go.RowKit Go.Maps Go.WideMaps Go.Proofs.YtpbhkaokgpacoaaGreatDoor.Rf Go.Proofs.YtpbhkaokgpacoaaGreatDoor.Rd

theorem bytesWorld_below (w : World) (e : TypeId) (s : ByteArray) : Below w.heap.size w (Lib.bytesWorld w e s) :=
  ⟨rfl, rfl, rfl, by rw [Lib.bytesWorld_size]; omega, fun k hk => Lib.bytesWorld_at_old w e s k hk⟩
def REncPost (w : World) (L : List SE) (e : Ending) (w' : World) : Prop := e = .returned (.string ⟨(encX L).toArray⟩) ∧ Below w.heap.size w w'

set_option linter.unusedSimpArgs false in
set_option maxHeartbeats 16000000 in
set_option maxRecDepth 100000 in
theorem ref_encode (B : Nat) (w : World) (r : Nat) (v0 : Value) (L : List SE) (h : RefAt B w r v0 L) (hm : ∀ e ∈ L, mayN e = 0) :
    Calls Tryz.prog 31 #[ptr r] w (REncPost w L) := by
  obtain ⟨va, vc, rfl⟩ := rowS_slice h.row
  have c0 : w.cell? ⟨r, 0, none⟩ = some (.slice va L.length vc) := cell_of_heap h.book
  have hll := h.len
  have P0 := Lib.hid (ref_put w mst L.length (by omega) (by decide))
  have H := Lib.hid h; have HM := Lib.hid hm
  obtain ⟨M, hM⟩ : ∃ M, M = mst ++ sh L.length := ⟨_, rfl⟩
  have hMl : M.length ≤ 14 := by rw [hM, List.length_append]; have := sh_length L.length; show 4 + _ ≤ _; omega
  rw [← hM] at P0
  have HFL : Hid (∀ k, ((L.take k).flatMap encS).length ≤ 400000000) := Lib.hid (fun k => by
    have := flat_len (L := L.take k) (fun e he => h.fits e (List.mem_of_mem_take he)) (fun e he => hm e (List.mem_of_mem_take he))
    rw [List.length_take] at this; omega)
  have P0 : Hid (Calls Tryz.prog 63 #[.string ⟨#[109, 115, 116, 49]⟩, .int .u64 (L.length : Int)] w fun e w' => e = .returned (.string ⟨M.toArray⟩) ∧ Below w.heap.size w w') := P0
  have HMM := Lib.hid hM
  clear h hm hM
  unfold ptr at *
  go_enter Tryz.func31, Tryz.ntmps31
  go_wp2_with fail
  refine P0.out.mono ?_
  rintro ex w1 ⟨rfl, hb1⟩
  obtain ⟨W2, hW2⟩ : ∃ W2, W2 = Lib.bytesWorld w1 5 ⟨M.toArray⟩ := ⟨_, rfl⟩
  have hcv : (convert 9 87 (.string ⟨M.toArray⟩)).run Tryz.prog w1 = .ok (.slice (some ⟨w1.heap.size, 0, none⟩) M.length (grownCap w1 M.length 0 5)) W2 := by
    rw [hW2]; exact Lib.run_convert_string_bytes (P := Tryz.prog) w1 9 87 5 ⟨M.toArray⟩ Tryz.underlying9 Tryz.underlying87 Tryz.underlying5
  have HRM : Hid (RowM W2 w.heap.size (.slice (some ⟨w1.heap.size, 0, none⟩) M.length (grownCap w1 M.length 0 5)) M) := Lib.hid (by rw [hW2]; exact rowM_conv w1 w.heap.size hb1.size M (by unfold maxLen; omega))
  have HB2 : Hid (Below w.heap.size w W2) := Lib.hid (by rw [hW2]; exact hb1.trans ((bytesWorld_below w1 _ ⟨M.toArray⟩).mono hb1.size))
  clear hW2 hb1 P0 c0
  go_wp2
  clear hcv
  obtain ⟨ib, hib, hbzz⟩ := Option.map_eq_some_iff.1 infoByte
  obtain ⟨hbz, hb1, hb2⟩ : ib.zero = some (.int .u8 0) ∧ ib.size = 1 ∧ ib.bytes = 1 := by injection hbzz with a b; injection b with b c; exact ⟨a, b, c⟩
  clear hbzz
  go_loopw [3, 4] (fun v3 v4 wr => ∃ k : Nat, k ≤ L.length ∧ v4 = .int .i64 k ∧ Hid (RowM wr w.heap.size v3 (M ++ (L.take k).flatMap encS)) ∧ Hid (Below w.heap.size w wr)) (fun _ v4 _ => L.length - (RowKit.intOf v4).toNat)
  case atStart => exact ⟨0, by omega, rfl, Lib.hid (by simpa using HRM.out), HB2⟩
  case round =>
    obtain ⟨k, hk, rfl, HR, HBR⟩ := hrel
    obtain ⟨wo, hwo⟩ : ∃ wo, wo = wr := ⟨_, rfl⟩
    subst hwo
    have HX := Lib.hid (H.out.below HBR.out)
    have cr : wo.cell? ⟨r, 0, none⟩ = some (.slice va L.length vc) := cell_of_heap HX.out.book
    by_cases hkl : (k : Int) < (L.length : Int)
    · have hk2 : k < L.length := by omega
      obtain ⟨e, he⟩ : ∃ e, L[k]? = some e := ⟨_, List.getElem?_eq_getElem hk2⟩
      have hem := List.mem_of_getElem? he
      obtain ⟨ge, cap, hv, hgl, _, _, _⟩ := rowS_form HX.out.row (by omega)
      injection hv with e1 e2 e3
      subst e1 e3
      have HENT : Hid (wo.rangeAt ge (k * 38) e.cells) := Lib.hid (HX.out.ent he)
      obtain ⟨nb, kb, sz, tk, hcs, hens, hsz, htk, hpl⟩ := enc_parts (H.out.fits e hem) (HM.out e hem)
      have HTE : Hid (M ++ (L.take (k + 1)).flatMap encS = M ++ (L.take k).flatMap encS ++ encS e) := Lib.hid (by rw [take_enc he]; simp [List.append_assoc])
      have HENS := Lib.hid hens
      have hino := (H.out.fits e hem).ino
      have HIDL := Lib.hid (H.out.fits e hem).id
      have EOK := Lib.hid (H.out.fits e hem).enR
      have KF : Hid (∀ w' : World, w'.heap[wo.heap.size]? = some (.cells e.cells.toArray 49) → w'.cell? ⟨wo.heap.size, 0, none⟩ = some (.string ⟨e.path.toArray⟩) ∧ w'.cell? ⟨wo.heap.size, 1, none⟩ = some (.int .u8 (nb.toNat : Int)) ∧ w'.cell? ⟨wo.heap.size, 2, none⟩ = some (.int .i64 (sz : Int)) ∧ w'.cell? ⟨wo.heap.size, 3, none⟩ = some (.int .u64 (e.ino : Int)) ∧ w'.cell? ⟨wo.heap.size, 4, none⟩ = some (.int .i64 (tk : Int)) ∧ w'.cell? ⟨wo.heap.size, 5, none⟩ = some (.int .u8 (kb.toNat : Int)) ∧ w'.rangeAt wo.heap.size 6 (Lib.byteCells e.id)) := Lib.hid (fun w' hw => parts_at hcs hw)
      have hpt : (putText e.path).length ≤ 4363 := by rw [putText, List.length_append]; have := sh_length e.path.length; omega
      have PT : Hid (∀ w, Calls Tryz.prog 64 #[.string ⟨#[]⟩, .string ⟨e.path.toArray⟩] w fun ex w' => ex = .returned (.string ⟨(putText e.path).toArray⟩) ∧ Below w.heap.size w w') := Lib.hid (fun w => ref_putText w [] e.path (by decide) (by omega))
      clear hens he hem hcs
      go_upto_region 6 with (first
        | (refine wpList_load_mid rfl _ _ rfl ge (k * 38) rfl e.cells _ HENT.out Tryz.underlying49 rfl EOK.out.infoL ?_)
        | (refine wpList_store_new (by first | rfl | rw [one_size]) rfl _ _ _ rfl e.cells.toArray rfl rfl EOK.out.info EOK.out.z EOK.out.one ?_
           intro w6 hq6 hb6 hs6
           have HQ6 := Lib.hid hq6; have HB6 := Lib.hid hb6; have HS6 := Lib.hid hs6
           clear hq6 hb6 hs6))
      try dsimp only [Act.put]
      have hnl1 : (putText e.path).length + 1 ≤ 9223372036854775775 := by omega
      go_cut [6] (fun v6 wx => v6 = .string ⟨(putText e.path ++ [nb]).toArray⟩ ∧ Below w6.heap.size w6 wx)
      case first =>
        refine wp_region_held_drew (S := (fun w' : World => w'.heap[wo.heap.size]? = some (.cells e.cells.toArray 49))) (by kernel_rfl) HQ6.out (fun hHeld => ?_)
        refine wpAnyH_take (i := 0) (v := ?_) rfl (by kernel_rfl) (by kernel_rfl) (by kernel_rfl) (fun _ _ _ h => h) (Or.inl ⟨by rfl, ?ra0⟩) hHeld ?_
        case ra0 =>
          intro wS hSw
          obtain ⟨k0, k1, k2, k3, k4, k5, k6⟩ := KF.out wS hSw
          clear hSw
          go_simp
          try with_reducible rfl
        try simp only [Act.put, List.getElem_toArray, List.getElem_cons_zero, List.getElem_cons_succ, List.setIfInBounds_toArray, List.set_cons_zero, List.set_cons_succ]
        refine wpAnyH_take (i := 1) (v := ?_) rfl (by kernel_rfl) (by kernel_rfl) (by kernel_rfl) (fun _ _ _ h => h) (Or.inl ⟨by rfl, ?ra1⟩) hHeld ?_
        case ra1 =>
          intro wS hSw
          obtain ⟨k0, k1, k2, k3, k4, k5, k6⟩ := KF.out wS hSw
          clear hSw
          go_simp
          try with_reducible rfl
        try simp only [Act.put, List.getElem_toArray, List.getElem_cons_zero, List.getElem_cons_succ, List.setIfInBounds_toArray, List.set_cons_zero, List.set_cons_succ]
        refine wpAnyH_take (i := 3) (v := ?_) rfl (by kernel_rfl) (by kernel_rfl) (by kernel_rfl) (fun _ _ _ h => h) (Or.inl ⟨by rfl, ?ra2⟩) hHeld ?_
        case ra2 =>
          intro wS hSw
          obtain ⟨k0, k1, k2, k3, k4, k5, k6⟩ := KF.out wS hSw
          clear hSw
          go_simp
          try with_reducible rfl
        try simp only [Act.put, List.getElem_toArray, List.getElem_cons_zero, List.getElem_cons_succ, List.setIfInBounds_toArray, List.set_cons_zero, List.set_cons_succ]
        refine wpAnyH_take (i := 4) (v := ?_) rfl (by kernel_rfl) (by kernel_rfl) (by kernel_rfl) (fun _ _ _ h => h) (Or.inl ⟨by rfl, ?ra3⟩) hHeld ?_
        case ra3 =>
          intro wS hSw
          obtain ⟨k0, k1, k2, k3, k4, k5, k6⟩ := KF.out wS hSw
          clear hSw
          go_simp
          try with_reducible rfl
        try simp only [Act.put, List.getElem_toArray, List.getElem_cons_zero, List.getElem_cons_succ, List.setIfInBounds_toArray, List.set_cons_zero, List.set_cons_succ]
        refine wpAnyH_take (i := 5) (v := ?_) rfl (by kernel_rfl) (by kernel_rfl) (by kernel_rfl) (fun _ _ _ h => h) (Or.inl ⟨by rfl, ?ra4⟩) hHeld ?_
        case ra4 =>
          intro wS hSw
          obtain ⟨k0, k1, k2, k3, k4, k5, k6⟩ := KF.out wS hSw
          clear hSw
          go_simp
          try with_reducible rfl
        try simp only [Act.put, List.getElem_toArray, List.getElem_cons_zero, List.getElem_cons_succ, List.setIfInBounds_toArray, List.set_cons_zero, List.set_cons_succ]
        refine wpAnyH_ready (rs := [2, 6]) (by kernel_rfl) (by simp) ?_
        refine AllReadyH.cons rfl (fun K hK => ?_) (AllReadyH.cons rfl (fun K hK => ?_) AllReadyH.nil)
        · skip
          go_simp
          refine (PT.out _).mono ?_
          rintro ex wa ⟨rfl, hbwa⟩
          have HBa := Lib.hid (((Below.refl w6.heap.size w6).drew).trans (hbwa.mono ((Below.refl w6.heap.size w6).drew).size))
          have HQa := Lib.hid ((hbwa.block _ (lt_of_heap HQ6.out)).trans HQ6.out)
          clear hbwa
          go_wp2_with fail
          refine hK.out _ _ HQa.out (fun hHeld2 => ?_)
          clear hK K hHeld
          have hHeld := hHeld2
          clear hHeld2
          try simp only [Act.put, List.getElem_toArray, List.getElem_cons_zero, List.getElem_cons_succ, List.setIfInBounds_toArray, List.set_cons_zero, List.set_cons_succ]
          refine wpAnyH_ready (rs := [6]) (by kernel_rfl) (by simp) ?_
          refine AllReadyH.cons rfl (fun K hK => ?_) AllReadyH.nil
          have HBe := Lib.hid (HBa.out.alloc HBa.out.size (.cells #[.int .u8 (nb.toNat : Int)] 5))
          have HQe := Lib.hid (at_alloc HQa.out (.cells #[.int .u8 (nb.toNat : Int)] 5))
          go_simp
          refine hK.out _ _ HQe.out (fun hHeld2 => ?_)
          clear hK K hHeld
          have hHeld := hHeld2
          clear hHeld2
          try simp only [Act.put, List.getElem_toArray, List.getElem_cons_zero, List.getElem_cons_succ, List.setIfInBounds_toArray, List.set_cons_zero, List.set_cons_succ]
          refine wpAnyH_ready (rs := [7]) (by kernel_rfl) (by simp) ?_
          refine AllReadyH.cons rfl (fun K hK => ?_) AllReadyH.nil
          have hcv := conv_at (MapKept.heap_alloc wa (.cells #[.int .u8 (nb.toNat : Int)] 5)).1
          go_simp
          clear hcv
          refine hK.out _ _ HQe.out (fun hHeld2 => ?_)
          clear hK K hHeld
          have hHeld := hHeld2
          clear hHeld2
          try simp only [Act.put, List.getElem_toArray, List.getElem_cons_zero, List.getElem_cons_succ, List.setIfInBounds_toArray, List.set_cons_zero, List.set_cons_succ]
          refine wpAnyH_take (i := 8) (v := .string ⟨(putText e.path ++ [nb]).toArray⟩) rfl (by kernel_rfl) (by kernel_rfl) (by kernel_rfl) (fun _ _ _ h => h) (Or.inl ⟨by rfl, ?ra8⟩) hHeld ?_
          case ra8 =>
            intro wS hSw
            clear hSw hHeld
            go_simp
            rw [if_neg (by omega), cat_list]
          try simp only [Act.put, List.getElem_toArray, List.getElem_cons_zero, List.getElem_cons_succ, List.setIfInBounds_toArray, List.set_cons_zero, List.set_cons_succ]
          refine wpAnyH_ready (rs := [9]) (by kernel_rfl) (by simp) ?_
          refine AllReadyH.cons rfl (fun K hK => ?_) AllReadyH.nil
          go_simp
          refine hK.out _ _ HQe.out (fun hHeld2 => ?_)
          clear hK K hHeld
          have hHeld := hHeld2
          clear hHeld2
          try simp only [Act.put, List.getElem_toArray, List.getElem_cons_zero, List.getElem_cons_succ, List.setIfInBounds_toArray, List.set_cons_zero, List.set_cons_succ]
          refine wpAnyH_done (by kernel_rfl) ?_ _
          clear hHeld
          try simp only [Act.put, List.getElem_toArray, List.getElem_cons_zero, List.getElem_cons_succ, List.setIfInBounds_toArray, List.set_cons_zero, List.set_cons_succ]
          go_wp2_with fail
          go_meet
          exact ⟨rfl, HBe.out⟩
        · skip
          have HB0 : Hid (Below w6.heap.size w6 (w6.alloc (.cells #[.int .u8 (nb.toNat : Int)] 5)).drew) := Lib.hid ((Below.refl _ _).alloc (Nat.le_refl _) (.cells #[.int .u8 (nb.toNat : Int)] 5)).drew
          have HQ0 : Hid ((w6.alloc (.cells #[.int .u8 (nb.toNat : Int)] 5)).drew.heap[wo.heap.size]? = some (.cells e.cells.toArray 49)) := Lib.hid (at_alloc (w := w6) HQ6.out (.cells #[.int .u8 (nb.toNat : Int)] 5))
          have HN0 : Hid ((w6.alloc (.cells #[.int .u8 (nb.toNat : Int)] 5)).drew.heap[w6.heap.size]? = some (.cells #[.int .u8 (nb.toNat : Int)] 5)) := Lib.hid (MapKept.heap_alloc w6 (.cells #[.int .u8 (nb.toNat : Int)] 5)).1
          go_simp
          refine hK.out _ _ HQ0.out (fun hHeld2 => ?_)
          clear hK K hHeld
          have hHeld := hHeld2
          clear hHeld2
          try simp only [Act.put, List.getElem_toArray, List.getElem_cons_zero, List.getElem_cons_succ, List.setIfInBounds_toArray, List.set_cons_zero, List.set_cons_succ]
          refine wpAnyH_ready (rs := [2, 7]) (by kernel_rfl) (by simp) ?_
          refine AllReadyH.cons rfl (fun K hK => ?_) (AllReadyH.cons rfl (fun K hK => ?_) AllReadyH.nil)
          · skip
            go_simp
            refine (PT.out _).mono ?_
            rintro ex wa ⟨rfl, hbwa⟩
            have HBe := Lib.hid (HB0.out.trans (hbwa.mono HB0.out.size))
            have HQe := Lib.hid ((hbwa.block _ (lt_of_heap HQ0.out)).trans HQ0.out)
            have hq := (hbwa.block _ (lt_of_heap HN0.out)).trans HN0.out
            have HN := Lib.hid hq
            clear hbwa hq
            go_wp2_with fail
            refine hK.out _ _ HQe.out (fun hHeld2 => ?_)
            clear hK K hHeld
            have hHeld := hHeld2
            clear hHeld2
            try simp only [Act.put, List.getElem_toArray, List.getElem_cons_zero, List.getElem_cons_succ, List.setIfInBounds_toArray, List.set_cons_zero, List.set_cons_succ]
            refine wpAnyH_ready (rs := [7]) (by kernel_rfl) (by simp) ?_
            refine AllReadyH.cons rfl (fun K hK => ?_) AllReadyH.nil
            have hcv := conv_at HN.out
            go_simp
            clear hcv
            refine hK.out _ _ HQe.out (fun hHeld2 => ?_)
            clear hK K hHeld
            have hHeld := hHeld2
            clear hHeld2
            try simp only [Act.put, List.getElem_toArray, List.getElem_cons_zero, List.getElem_cons_succ, List.setIfInBounds_toArray, List.set_cons_zero, List.set_cons_succ]
            refine wpAnyH_take (i := 8) (v := .string ⟨(putText e.path ++ [nb]).toArray⟩) rfl (by kernel_rfl) (by kernel_rfl) (by kernel_rfl) (fun _ _ _ h => h) (Or.inl ⟨by rfl, ?ra13⟩) hHeld ?_
            case ra13 =>
              intro wS hSw
              clear hSw hHeld
              go_simp
              rw [if_neg (by omega), cat_list]
            try simp only [Act.put, List.getElem_toArray, List.getElem_cons_zero, List.getElem_cons_succ, List.setIfInBounds_toArray, List.set_cons_zero, List.set_cons_succ]
            refine wpAnyH_ready (rs := [9]) (by kernel_rfl) (by simp) ?_
            refine AllReadyH.cons rfl (fun K hK => ?_) AllReadyH.nil
            go_simp
            refine hK.out _ _ HQe.out (fun hHeld2 => ?_)
            clear hK K hHeld
            have hHeld := hHeld2
            clear hHeld2
            try simp only [Act.put, List.getElem_toArray, List.getElem_cons_zero, List.getElem_cons_succ, List.setIfInBounds_toArray, List.set_cons_zero, List.set_cons_succ]
            refine wpAnyH_done (by kernel_rfl) ?_ _
            clear hHeld
            try simp only [Act.put, List.getElem_toArray, List.getElem_cons_zero, List.getElem_cons_succ, List.setIfInBounds_toArray, List.set_cons_zero, List.set_cons_succ]
            go_wp2_with fail
            go_meet
            exact ⟨rfl, HBe.out⟩
          · skip
            have hcv := conv_at HN0.out
            go_simp
            clear hcv
            refine hK.out _ _ HQ0.out (fun hHeld2 => ?_)
            clear hK K hHeld
            have hHeld := hHeld2
            clear hHeld2
            try simp only [Act.put, List.getElem_toArray, List.getElem_cons_zero, List.getElem_cons_succ, List.setIfInBounds_toArray, List.set_cons_zero, List.set_cons_succ]
            refine wpAnyH_ready (rs := [2]) (by kernel_rfl) (by simp) ?_
            refine AllReadyH.cons rfl (fun K hK => ?_) AllReadyH.nil
            go_simp
            refine (PT.out _).mono ?_
            rintro ex wa ⟨rfl, hbwa⟩
            have HBe := Lib.hid (HB0.out.trans (hbwa.mono HB0.out.size))
            have HQe := Lib.hid ((hbwa.block _ (lt_of_heap HQ0.out)).trans HQ0.out)
            clear hbwa
            go_wp2_with fail
            refine hK.out _ _ HQe.out (fun hHeld2 => ?_)
            clear hK K hHeld
            have hHeld := hHeld2
            clear hHeld2
            try simp only [Act.put, List.getElem_toArray, List.getElem_cons_zero, List.getElem_cons_succ, List.setIfInBounds_toArray, List.set_cons_zero, List.set_cons_succ]
            refine wpAnyH_take (i := 8) (v := .string ⟨(putText e.path ++ [nb]).toArray⟩) rfl (by kernel_rfl) (by kernel_rfl) (by kernel_rfl) (fun _ _ _ h => h) (Or.inl ⟨by rfl, ?ra17⟩) hHeld ?_
            case ra17 =>
              intro wS hSw
              clear hSw hHeld
              go_simp
              rw [if_neg (by omega), cat_list]
            try simp only [Act.put, List.getElem_toArray, List.getElem_cons_zero, List.getElem_cons_succ, List.setIfInBounds_toArray, List.set_cons_zero, List.set_cons_succ]
            refine wpAnyH_ready (rs := [9]) (by kernel_rfl) (by simp) ?_
            refine AllReadyH.cons rfl (fun K hK => ?_) AllReadyH.nil
            go_simp
            refine hK.out _ _ HQe.out (fun hHeld2 => ?_)
            clear hK K hHeld
            have hHeld := hHeld2
            clear hHeld2
            try simp only [Act.put, List.getElem_toArray, List.getElem_cons_zero, List.getElem_cons_succ, List.setIfInBounds_toArray, List.set_cons_zero, List.set_cons_succ]
            refine wpAnyH_done (by kernel_rfl) ?_ _
            clear hHeld
            try simp only [Act.put, List.getElem_toArray, List.getElem_cons_zero, List.getElem_cons_succ, List.setIfInBounds_toArray, List.set_cons_zero, List.set_cons_succ]
            go_wp2_with fail
            go_meet
            exact ⟨rfl, HBe.out⟩
      case rest =>
        obtain ⟨rfl, hb9⟩ := hcut
        have hq9 := (hb9.block _ (lt_of_heap HQ6.out)).trans HQ6.out
        have HQW := Lib.hid hq9; have HBW := Lib.hid (HB6.out.trans (hb9.mono HB6.out.size))
        obtain ⟨_, _, k2, _, _, _, _⟩ := KF.out wc hq9
        have hw1 : IntKind.u64.wrap (sz : Int) = (sz : Int) := by rw [IntKind.wrap_u64]; omega
        have hw2 : IntKind.u64.wrap (tk : Int) = (tk : Int) := by rw [IntKind.wrap_u64]; omega
        obtain ⟨T1, hT⟩ : ∃ T1, T1 = putText e.path ++ [nb] := ⟨_, rfl⟩
        have hT1 : T1.length ≤ 4364 := by rw [hT, List.length_append, List.length_cons, List.length_nil]; omega
        rw [← hT]
        have hs1 := sh_length sz; have hs2 := sh_length e.ino; have hs3 := sh_length tk
        have HT := Lib.hid hT
        obtain ⟨T2, hT2⟩ : ∃ T2, T2 = T1 ++ sh sz := ⟨_, rfl⟩
        obtain ⟨T6, hT6⟩ : ∃ T6, T6 = T2 ++ sh e.ino := ⟨_, rfl⟩
        obtain ⟨T3, hT3⟩ : ∃ T3, T3 = T6 ++ sh tk := ⟨_, rfl⟩
        have hl2 : T2.length ≤ 4374 := by rw [hT2, List.length_append]; omega
        have hl6 : T6.length ≤ 4384 := by rw [hT6, List.length_append]; omega
        have hT3l : T3.length ≤ 4400 := by rw [hT3, List.length_append]; omega
        have HT3 : Hid (T3 ++ [kb] ++ e.id = encS e) := Lib.hid (by rw [hT3, hT6, hT2, HENS.out, HT.out])
        have PU1 := Lib.hid (ref_put wc T1 sz (by omega) (by omega))
        have PU2 := Lib.hid (fun w => ref_put w T2 e.ino hino (by omega))
        have PU3 := Lib.hid (fun w => ref_put w T6 tk (by omega) (by omega))
        rw [← hT2] at PU1
        rw [← hT6] at PU2
        rw [← hT3] at PU3
        clear hT2 hT6 hT3
        clear hb9 hq9 hT hnl1 PT HB6 HQ6 HS6
        go_wp2_with fail
        refine PU1.out.mono ?_
        rintro ex wa ⟨rfl, hba⟩
        have hqa := (hba.block _ (lt_of_heap HQW.out)).trans HQW.out
        have HQA := Lib.hid hqa; have HBA := Lib.hid (HBW.out.trans (hba.mono HBW.out.size))
        obtain ⟨_, _, _, k3, _, _, _⟩ := KF.out wa hqa
        clear hba hqa k2 PU1
        go_wp2_with fail
        refine (PU2.out _).mono ?_
        rintro ex wb ⟨rfl, hbb⟩
        have hqb := (hbb.block _ (lt_of_heap HQA.out)).trans HQA.out
        have HQB := Lib.hid hqb; have HBB := Lib.hid (HBA.out.trans (hbb.mono HBA.out.size))
        obtain ⟨_, _, _, _, k4, _, _⟩ := KF.out wb hqb
        clear hbb hqb k3 PU2
        go_wp2_with fail
        refine (PU3.out _).mono ?_
        rintro ex w9 ⟨rfl, hb9⟩
        have HQ9 := Lib.hid ((hb9.block _ (lt_of_heap HQB.out)).trans HQB.out)
        have HB9 := Lib.hid (HBB.out.trans (hb9.mono HBB.out.size))
        clear hb9 k4 PU3
        obtain ⟨T4, hT4⟩ : ∃ T4, T4 = T3 ++ [kb] := ⟨_, rfl⟩
        obtain ⟨T5, hT5⟩ : ∃ T5, T5 = T4 ++ e.id := ⟨_, rfl⟩
        have HC4 : Hid ((⟨T3.toArray⟩ : ByteArray) ++ ⟨[kb].toArray⟩ = ⟨T4.toArray⟩) := Lib.hid (by rw [cat_list, ba_data, hT4])
        have HC5 : Hid ((⟨T4.toArray⟩ : ByteArray) ++ ⟨e.id.toArray⟩ = ⟨T5.toArray⟩) := Lib.hid (by rw [cat_list, ba_data, hT5])
        have hidl : e.id.length = 32 := HIDL.out
        have hl4 : T4.length = T3.length + 1 := by rw [hT4]; simp
        have hl5 : T5.length = T4.length + 32 := by rw [hT5, List.length_append, hidl]
        have HT5 : Hid (T5 = encS e) := Lib.hid (by rw [hT5, hT4]; exact HT3.out)
        have hn1 : T3.length + 1 ≤ 9223372036854775775 := by omega
        have hnx : T4.length + 32 ≤ 9223372036854775775 := by omega
        have HLB : Hid ((M ++ (L.take k).flatMap encS).length + T5.length ≤ 140737488355328) := Lib.hid (by have := HFL.out k; rw [List.length_append]; omega)
        have HRM9 := Lib.hid (HR.out.below HB9.out)
        have HBW9 := Lib.hid (HBR.out.trans (HB9.out.mono HBR.out.size))
        have ENO : Hid (∀ _ : Unit, (some wo.heap.size : Option Nat) ≠ u3.ownBlock) := Lib.hid (fun _ e1 => by have := (HR.out.lt wo.heap.size (by rw [ob, ← e1]; simp)).2; omega)
        have ENO : Hid (∀ (_ : True), some wo.heap.size ≠ u3.ownBlock) := Lib.hid (fun _ => ENO.out ())
        clear hT4 hT5 HT3
        go_wp2_with fail
        refine wp_region_held_drew (S := (fun w' : World => w'.heap[wo.heap.size]? = some (.cells e.cells.toArray 49))) (by kernel_rfl) HQ9.out (fun hHeld => ?_)
        refine wpAnyH_take (i := 0) (v := ?_) rfl (by kernel_rfl) (by kernel_rfl) (by kernel_rfl) (fun _ _ _ h => h) (Or.inl ⟨by rfl, ?rb0⟩) hHeld ?_
        case rb0 =>
          intro wS hSw
          obtain ⟨k0, k1, k2, k3, k4, k5, k6⟩ := KF.out wS hSw
          clear hSw
          go_simp
          try with_reducible rfl
        try simp only [Act.put, List.getElem_toArray, List.getElem_cons_zero, List.getElem_cons_succ, List.setIfInBounds_toArray, List.set_cons_zero, List.set_cons_succ]
        refine wpAnyH_take (i := 1) (v := ?_) rfl (by kernel_rfl) (by kernel_rfl) (by kernel_rfl) (fun _ _ _ h => h) (Or.inl ⟨by rfl, ?rb1⟩) hHeld ?_
        case rb1 =>
          intro wS hSw
          obtain ⟨k0, k1, k2, k3, k4, k5, k6⟩ := KF.out wS hSw
          clear hSw
          go_simp
          try with_reducible rfl
        try simp only [Act.put, List.getElem_toArray, List.getElem_cons_zero, List.getElem_cons_succ, List.setIfInBounds_toArray, List.set_cons_zero, List.set_cons_succ]
        refine wpAnyH_take (i := 2) (v := ?_) rfl (by kernel_rfl) (by kernel_rfl) (by kernel_rfl) (fun _ _ _ h => h) (Or.inl ⟨by rfl, ?rb2⟩) hHeld ?_
        case rb2 =>
          intro wS hSw
          obtain ⟨k0, k1, k2, k3, k4, k5, k6⟩ := KF.out wS hSw
          clear hSw
          go_simp
          try with_reducible rfl
        try simp only [Act.put, List.getElem_toArray, List.getElem_cons_zero, List.getElem_cons_succ, List.setIfInBounds_toArray, List.set_cons_zero, List.set_cons_succ]
        refine wpAnyH_take (i := 3) (v := ?_) rfl (by kernel_rfl) (by kernel_rfl) (by kernel_rfl) (fun _ _ _ h => h) (Or.inl ⟨by rfl, ?rb3⟩) hHeld ?_
        case rb3 =>
          intro wS hSw
          obtain ⟨k0, k1, k2, k3, k4, k5, k6⟩ := KF.out wS hSw
          clear hSw
          go_simp
          try with_reducible rfl
        try simp only [Act.put, List.getElem_toArray, List.getElem_cons_zero, List.getElem_cons_succ, List.setIfInBounds_toArray, List.set_cons_zero, List.set_cons_succ]
        refine wpAnyH_take (i := 7) (v := ?_) rfl (by kernel_rfl) (by kernel_rfl) (by kernel_rfl) (fun _ _ _ h => h) (Or.inl ⟨by rfl, ?rb4⟩) hHeld ?_
        case rb4 =>
          intro wS hSw
          obtain ⟨k0, k1, k2, k3, k4, k5, k6⟩ := KF.out wS hSw
          clear hSw
          go_simp
          try with_reducible rfl
        try simp only [Act.put, List.getElem_toArray, List.getElem_cons_zero, List.getElem_cons_succ, List.setIfInBounds_toArray, List.set_cons_zero, List.set_cons_succ]
        refine wpAnyH_take (i := 8) (v := (.slice (some ⟨wo.heap.size, 6, none⟩) 32 32)) rfl (by kernel_rfl) (by kernel_rfl) (by kernel_rfl) (fun _ _ _ h => h) (Or.inl ⟨by rfl, ?rb5⟩) hHeld ?_
        case rb5 =>
          intro wS hSw
          clear hSw hHeld
          have hsl := slice_id wS wo.heap.size
          go_simp
          try with_reducible rfl
        try simp only [Act.put, List.getElem_toArray, List.getElem_cons_zero, List.getElem_cons_succ, List.setIfInBounds_toArray, List.set_cons_zero, List.set_cons_succ]
        refine wpAnyH_take (i := 9) (v := .string ⟨e.id.toArray⟩) rfl (by kernel_rfl) (by kernel_rfl) (by kernel_rfl) (fun _ _ _ h => h) (Or.inl ⟨by rfl, ?rb6⟩) hHeld ?_
        case rb6 =>
          intro wS hSw
          obtain ⟨k0, k1, k2, k3, k4, k5, k6⟩ := KF.out wS hSw
          clear hSw
          have hcv := conv_id HIDL.out k6
          go_simp
          try with_reducible rfl
        try simp only [Act.put, List.getElem_toArray, List.getElem_cons_zero, List.getElem_cons_succ, List.setIfInBounds_toArray, List.set_cons_zero, List.set_cons_succ]
        refine wpAnyH_ready (rs := [4]) (by kernel_rfl) (by simp) ?_
        refine AllReadyH.cons rfl (fun K hK => ?_) AllReadyH.nil
        have HBe : Hid (Below w9.heap.size w9 (w9.alloc (.cells #[.int .u8 (kb.toNat : Int)] 5)).drew) := Lib.hid ((Below.refl _ _).alloc (Nat.le_refl _) (.cells #[.int .u8 (kb.toNat : Int)] 5)).drew
        have HQe : Hid ((w9.alloc (.cells #[.int .u8 (kb.toNat : Int)] 5)).drew.heap[wo.heap.size]? = some (.cells e.cells.toArray 49)) := Lib.hid (at_alloc (w := w9) HQ9.out (.cells #[.int .u8 (kb.toNat : Int)] 5))
        go_simp
        refine hK.out _ _ HQe.out (fun hHeld2 => ?_)
        clear hK K hHeld
        have hHeld := hHeld2
        clear hHeld2
        try simp only [Act.put, List.getElem_toArray, List.getElem_cons_zero, List.getElem_cons_succ, List.setIfInBounds_toArray, List.set_cons_zero, List.set_cons_succ]
        refine wpAnyH_ready (rs := [5]) (by kernel_rfl) (by simp) ?_
        refine AllReadyH.cons rfl (fun K hK => ?_) AllReadyH.nil
        have hn0 : (w9.alloc (.cells #[.int .u8 (kb.toNat : Int)] 5)).drew.heap[w9.heap.size]? = some (.cells #[.int .u8 (kb.toNat : Int)] 5) := (MapKept.heap_alloc w9 (.cells #[.int .u8 (kb.toNat : Int)] 5)).1
        have hcv := conv_at hn0
        clear hn0
        go_simp
        clear hcv
        refine hK.out _ _ HQe.out (fun hHeld2 => ?_)
        clear hK K hHeld
        have hHeld := hHeld2
        clear hHeld2
        try simp only [Act.put, List.getElem_toArray, List.getElem_cons_zero, List.getElem_cons_succ, List.setIfInBounds_toArray, List.set_cons_zero, List.set_cons_succ]
        refine wpAnyH_take (i := 6) (v := .string ⟨T4.toArray⟩) rfl (by kernel_rfl) (by kernel_rfl) (by kernel_rfl) (fun _ _ _ h => h) (Or.inl ⟨by rfl, ?rb9⟩) hHeld ?_
        case rb9 =>
          intro wS hSw
          clear hSw hHeld
          go_simp
          rw [if_neg (by omega), HC4.out]
        try simp only [Act.put, List.getElem_toArray, List.getElem_cons_zero, List.getElem_cons_succ, List.setIfInBounds_toArray, List.set_cons_zero, List.set_cons_succ]
        refine wpAnyH_take (i := 10) (v := .string ⟨T5.toArray⟩) rfl (by kernel_rfl) (by kernel_rfl) (by kernel_rfl) (fun _ _ _ h => h) (Or.inl ⟨by rfl, ?rb10⟩) hHeld ?_
        case rb10 =>
          intro wS hSw
          clear hSw hHeld
          go_simp
          rw [if_neg (by omega), HC5.out]
        try simp only [Act.put, List.getElem_toArray, List.getElem_cons_zero, List.getElem_cons_succ, List.setIfInBounds_toArray, List.set_cons_zero, List.set_cons_succ]
        refine wpAnyH_ready (rs := [11]) (by kernel_rfl) (by simp) ?_
        refine AllReadyH.cons rfl (fun K hK => ?_) AllReadyH.nil
        refine step_wp rfl ?_
        refine wp_append_M (B := w.heap.size) (.tmp 57) (.tmp 67) 87 9 rfl ib Tryz.underlying87 Tryz.underlying9 hib hbz hb1 hb2 u3 (M ++ (L.take k).flatMap encS) T5 ?sa (HRM9.out.below HBe.out) ?sb ?sc ?sd ?se
        case sa => rfl
        case sb => rfl
        case sc => exact HLB.out
        case sd => exact Nat.le_trans HBW9.out.size HBe.out.size
        intro vz wz hoz hgz hxz
        have HOZ := Lib.hid hoz; have HGZ := Lib.hid hgz; have HXZ := Lib.hid hxz
        have HQz := Lib.hid ((HGZ.out.block _ (lt_of_heap HQe.out) (ENO.out trivial)).trans HQe.out)
        clear hoz hgz hxz
        refine hK.out _ _ HQz.out (fun hHeld2 => ?_)
        clear hK K hHeld
        have hHeld := hHeld2
        clear hHeld2
        try simp only [Act.put, List.getElem_toArray, List.getElem_cons_zero, List.getElem_cons_succ, List.setIfInBounds_toArray, List.set_cons_zero, List.set_cons_succ]
        refine wpAnyH_ready (rs := [12]) (by kernel_rfl) (by simp) ?_
        refine AllReadyH.cons rfl (fun K hK => ?_) AllReadyH.nil
        go_simp
        refine hK.out _ _ HQz.out (fun hHeld2 => ?_)
        clear hK K hHeld
        have hHeld := hHeld2
        clear hHeld2
        try simp only [Act.put, List.getElem_toArray, List.getElem_cons_zero, List.getElem_cons_succ, List.setIfInBounds_toArray, List.set_cons_zero, List.set_cons_succ]
        refine wpAnyH_done (by kernel_rfl) ?_ _
        clear hHeld
        try simp only [Act.put, List.getElem_toArray, List.getElem_cons_zero, List.getElem_cons_succ, List.setIfInBounds_toArray, List.set_cons_zero, List.set_cons_succ]
        go_wp2
        go_roundw
        case rel =>
          have hbe : Below w.heap.size w (w9.alloc (.cells #[.int .u8 (kb.toNat : Int)] 5)).drew := HBW9.out.trans (HBe.out.mono HBW9.out.size)
          exact ⟨k + 1, by omega, by go_num, Lib.hid (by rw [HTE.out, ← HT5.out]; exact HOZ.out), Lib.hid (hbe.grown HGZ.out hbe.size (fun x hx => (HR.out.lt x (by simp [ob, hx])).1))⟩
        case measure => simp [RowKit.intOf]; omega
    · obtain rfl : k = L.length := by omega
      have HE : Hid (M ++ (L.take L.length).flatMap encS = encX L) := Lib.hid (by rw [List.take_length, HMM.out]; rfl)
      have hrm := HR.out
      rw [HE.out] at hrm
      have hcv := hrm.conv
      clear hrm
      go_wp2
      go_ret
      exact ⟨rfl, HBR.out⟩
end Go.Proofs.YtpbhkaokgpacoaaGreatDoor.St
