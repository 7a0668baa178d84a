import Derived.Test.YtkeegnhjemhblaaGreatDoorZPStRef
import Derived.Test.YtkeegnhjemhblaaGreatDoorZPRfAdd
import Derived.Test.YtkeegnhjemhblaaGreatDoorZPRfBack
import Derived.WalkLawsBesides
set_option linter.unusedSimpArgs false
set_option linter.unusedVariables false
/-
  The contract of the reference's Add. Printed by genrb3.py.
-/
namespace Go.Proofs.YtkeegnhjemhblaaGreatDoor.Rb
open Go.RowKit Go.Maps Go.WideMaps Go.Proofs.YtkeegnhjemhblaaGreatDoor.Rf
set_option linter.unusedSimpArgs false in
set_option maxHeartbeats 8000000 in
set_option maxRecDepth 100000 in
theorem radd_any (B : Nat) (w : World) (hT : Nm.Tabs w) (r : Nat) (v : Value) (Z : BM) (s : List UInt8) (x : En) (hx0 : x.c.length = 32) (ok : OkB (plainB Z)) (h : RBk B w r v Z) :
    Calls Tryz.prog 45 #[ptr r, .string ⟨s.toArray⟩, enV x] w (RBPost B w r v Z (addB (plainB Z) s x).1 (addB (plainB Z) s x).2) := by
  obtain ⟨i0, hi0, hz0, hz1, hz2⟩ := info_parts infoEn
  have hz3 := zeroEn_size
  have hn : Z.length ≤ 64 := by rw [← plain_length]; exact ok.size
  obtain ⟨W, hW⟩ : ∃ W, W = w.alloc (.cells x.cells.toArray EnT) := ⟨_, rfl⟩
  have hb0 : Below w.heap.size w W := by rw [hW]; exact (Below.refl _ _).alloc (Nat.le_refl _) _
  have hq0 : W.heap[w.heap.size]? = some (.cells x.cells.toArray EnT) := by rw [hW]; exact (MapKept.heap_alloc w _).1
  have KQ : Hid (∀ w' : World, Below W.heap.size W w' → w'.rangeAt w.heap.size 0 x.cells ∧ w'.cell? ⟨w.heap.size, 32, none⟩ = some (.int .i64 x.t)) := Lib.hid (fun w' hb => by
    have hq := (hb.block _ (lt_of_heap hq0)).trans hq0
    refine ⟨fun j u hu => by rw [cell_of_heap hq, List.getElem?_toArray, Nat.zero_add]; exact hu, ?_⟩
    rw [cell_of_heap hq, List.getElem?_toArray, En.cells, List.getElem?_append_right (by rw [Lib.byteCells_length]; omega), Lib.byteCells_length, hx0]; rfl)
  have AT : Hid (∀ w' : World, Below w.heap.size w w' → Calls Tryz.prog 43 #[ptr r, .string ⟨s.toArray⟩] w' fun e w2 => e = .returned (.int .i64 (atI Z s)) ∧ Below w'.heap.size w' w2) := Lib.hid (fun w' hb => rat_any B w' r v Z s (by omega) (h.below hb))
  have CK : Hid (∀ w' : World, Below w.heap.size w w' → Calls Tryz.prog 104 #[.string ⟨s.toArray⟩] w' fun e w2 => e = .returned (.int .i64 (Nm.chkN s)) ∧ Below w'.heap.size w' w2) := Lib.hid (fun w' hb => Nm.ref_check ⟨s.toArray⟩ w' (hT.below hb))
  have HC2 : Hid (x.cells.length = 33) := Lib.hid (by rw [cells_size hx0])
  have HIN : Hid ((Tryz.prog.info? 89).map (·.size) = some x.cells.toArray.size) := Lib.hid (by rw [List.size_toArray, HC2.out]; kernel_rfl)
  have HXO : Hid (∀ u ∈ x.cells, u.oneCell' = true) := Lib.hid (fun u hu => cellsL_one [x] u (by simpa [cellsL] using hu))
  have H := Lib.hid h
  have HO := Lib.hid ok
  have HB0 := Lib.hid hb0; have HW := Lib.hid hW
  obtain ⟨P, hP⟩ : ∃ P, P = addB (plainB Z) s x := ⟨_, rfl⟩
  rw [← hP]
  have HP := Lib.hid hP
  have C1 := CK.out W hb0
  obtain ⟨xc, hxc⟩ : ∃ xc, xc = x.cells := ⟨_, rfl⟩
  have HXC := Lib.hid hxc
  obtain ⟨tt, htt⟩ : ∃ tt, tt = x.t := ⟨_, rfl⟩
  have HTT := Lib.hid htt
  rw [← hxc] at HW HC2 HIN HXO
  rw [← hxc, ← htt] at KQ
  unfold ptr enV at *
  rw [← hxc]
  clear hb0 hq0 hW hT hP h ok hxc htt
  cases hc : Nm.chk s with
  | false =>
    have HR : Hid (P = (10, plainB Z)) := Lib.hid (by rw [HP.out, addB, hc]; rfl)
    rw [chk_no hc] at C1
    have C1 := Lib.hid C1
    clear hc
    go_enter Tryz.func45, Tryz.ntmps45
    go_wp2_with fail
    rw [← HW.out]
    refine C1.out.mono ?_
    rintro ex w2 ⟨rfl, hb2⟩
    go_wp2
    go_ret
    rw [HR.out]
    exact rbPost_same H.out (HB0.out.trans (hb2.mono HB0.out.size)) rfl
  | true =>
    rw [chk_yes hc] at C1
    have C1 := Lib.hid C1
    have HC := Lib.hid hc
    clear hc
    go_enter Tryz.func45, Tryz.ntmps45
    go_wp2_with fail
    rw [← HW.out]
    refine C1.out.mono ?_
    rintro ex w2 ⟨rfl, hb2⟩
    have HK2 := Lib.hid hb2
    have HB2 : Hid (Below w.heap.size w w2) := Lib.hid (HB0.out.trans (hb2.mono HB0.out.size))
    have k32 := (KQ.out w2 hb2).2
    clear hb2 C1
    by_cases ht0 : tt < 0
    · have HR : Hid (P = (1, plainB Z)) := Lib.hid (by rw [HP.out, addB, HC.out, ← HTT.out, if_neg (by simp), if_pos (.inl ht0)])
      go_wp2
      go_ret
      rw [HR.out]
      exact rbPost_same H.out HB2.out rfl
    by_cases ht1 : 1099511627776 < tt
    · have HR : Hid (P = (1, plainB Z)) := Lib.hid (by rw [HP.out, addB, HC.out, ← HTT.out, if_neg (by simp), if_pos (.inr ht1)])
      go_wp2
      go_ret
      rw [HR.out]
      exact rbPost_same H.out HB2.out rfl
    have HP2 : Hid (P = match getM (plainB Z) s with
        | none => if 64 ≤ (plainB Z).length then (3, plainB Z) else (0, putM (plainB Z) s [x])
        | some l => if x.t < (l.getLast?.getD x).t then (1, plainB Z) else if 4096 ≤ l.length then (3, plainB Z) else (0, putM (plainB Z) s (l ++ [x]))) := Lib.hid (by rw [HP.out, addB, HC.out, if_neg (by simp), if_neg (by rw [← HTT.out]; exact fun h => h.elim ht0 ht1)]; rfl)
    have A2 := AT.out w2 HB2.out
    cases ha : atN Z s with
    | none =>
      obtain ⟨_, e2⟩ := logV_none ha
      have HG : Hid (getM (plainB Z) s = none) := Lib.hid (by rw [plain_get, (at_none ha).1]; rfl)
      rw [e2] at A2
      have A2 := Lib.hid A2
      have HAT := Lib.hid ha
      obtain ⟨va, vc, hv⟩ := rowS_slice H.out.row
      subst hv
      have KV : Hid (∀ w' : World, Below w.heap.size w w' → w'.cell? ⟨r, 0, none⟩ = some (.slice va Z.length vc)) := Lib.hid (fun w' hb => cell_of_heap (H.out.below hb).book)
      clear e2 ha
      go_wp2_with fail
      refine A2.out.mono ?_
      rintro ex w3 ⟨rfl, hb3⟩
      have HK3 : Hid (Below W.heap.size W w3) := Lib.hid (HK2.out.trans (hb3.mono HK2.out.size))
      have HB3 : Hid (Below w.heap.size w w3) := Lib.hid (HB2.out.trans (hb3.mono HB2.out.size))
      have k3 := KV.out w3 HB3.out
      clear hb3 A2 k32
      by_cases hfull : 64 ≤ Z.length
      · have HR : Hid (P = (3, plainB Z)) := Lib.hid (by rw [HP2.out, HG.out, plain_length]; simp [hfull])
        have hf : (64 : Int) ≤ (Z.length : Int) := by omega
        clear hfull
        go_wp2
        go_ret
        rw [HR.out]
        exact rbPost_same H.out HB3.out rfl
      · have HR : Hid (P = (0, putM (plainB Z) s [x])) := Lib.hid (by rw [HP2.out, HG.out, plain_length]; simp [hfull])
        have hf : ¬ (64 : Int) ≤ (Z.length : Int) := by omega
        have HRG := Lib.hid (KQ.out w3 HK3.out).1
        clear hfull
        go_wp2_with (first
          | (refine wpList_load_mid rfl _ _ rfl w.heap.size 0 rfl xc _ HRG.out Tryz.underlying89 rfl HIN.out ?_)
          | (refine wpList_plain rfl fun _ hK => wp_oneN 33 (by decide) (by decide) 99 89 (.tmp 33) xc i0 _ rfl rfl Tryz.underlying99 hi0 hz0 hz1 HC2.out (hK _ _ ?_))
          | fail)
        have hb5 : Below w3.heap.size w3 (w3.alloc (.cells xc.toArray EnT)) := (Below.refl _ _).alloc (Nat.le_refl _) _
        have ho5 : (w3.alloc (.cells xc.toArray EnT)).ownsRow w3.heap.size EnT 33 (.slice (some ⟨w3.heap.size, 0, none⟩) 1 1) 1 (cellsL [x]) := by
          have hcx : cellsL [x] = xc := by rw [HXC.out]; simp [cellsL]
          rw [hcx]
          exact ⟨HC2.out, .inr ⟨w3.heap.size, 1, xc.toArray, rfl, Nat.le_refl _, (MapKept.heap_alloc w3 _).1, Nat.le_refl _, by unfold maxLen; omega, by rw [List.size_toArray]; exact HC2.out, by show xc.take 33 = xc; rw [List.take_of_length_le (by rw [HC2.out]; omega)]⟩⟩
        have HB5 : Hid (Below w.heap.size w (w3.alloc (.cells xc.toArray EnT))) := Lib.hid (HB3.out.trans (hb5.mono HB3.out.size))
        have PU := rput_any B (w3.alloc (.cells xc.toArray EnT)) r _ Z (s, (.slice (some ⟨w3.heap.size, 0, none⟩) 1 1, [x])) hn rfl H.out.ones (H.out.below HB5.out)
        unfold ptr at PU
        refine PU.mono ?_
        rintro ex w6 ⟨rfl, hp⟩
        have HPP := Lib.hid hp
        clear hp PU
        go_wp2
        go_ret
        rw [HR.out]
        exact rbPost_new H.out HB5.out (row_mono ho5 HB3.out.size) HAT.out rfl HPP.out
    | some i =>
      obtain ⟨m, hz, hg⟩ := at_some ha
      obtain ⟨x0, l⟩ := m
      obtain ⟨_, e2⟩ := logV_some ha hg
      rw [e2] at A2
      have A2 := Lib.hid A2
      have hil : i < Z.length := (List.getElem?_eq_some_iff.1 hz).1
      have HK : Hid (getM (plainB Z) s = some l) := Lib.hid (by rw [plain_get, hg]; rfl)
      have hll : l.length ≤ 4096 := HO.out.len (s, l) (getM_mem HK.out)
      have hlne : l ≠ [] := HO.out.ne (s, l) (getM_mem HK.out)
      have hent : ∀ e ∈ l, e.c.length = 32 ∧ 0 ≤ e.t ∧ e.t ≤ 1099511627776 := HO.out.ent (s, l) (getM_mem HK.out)
      have hlp : 0 < l.length := List.length_pos_iff.2 hlne
      obtain ⟨j, hj⟩ : ∃ j, j = l.length - 1 := ⟨_, rfl⟩
      have hjl : j < l.length := by omega
      obtain ⟨el, hel⟩ : ∃ el, l[j]? = some el := ⟨_, List.getElem?_eq_getElem hjl⟩
      have HLA : Hid (l.getLast?.getD x = el) := Lib.hid (by rw [List.getLast?_eq_getElem?, ← hj, hel]; rfl)
      have hrow := H.out.each (s, (x0, l)) (List.mem_of_getElem? hz)
      obtain ⟨ga, xc0, hxe, _, _, hcl⟩ := rowS_form hrow (by show l.length ≠ 0; omega)
      have hxe2 : x0 = .slice (some ⟨ga, 0, none⟩) l.length xc0 := hxe
      subst hxe2
      have HCL : Hid (w.cell? ⟨ga, j * 33 + 32, none⟩ = some (.int .i64 el.t)) := Lib.hid (hcl _ _ (cellsL_at (fun e he => (hent e he).1) hel (by rw [En.cells, List.getElem?_append_right (by rw [Lib.byteCells_length, (hent el (List.mem_of_getElem? hel)).1]; omega), Lib.byteCells_length, (hent el (List.mem_of_getElem? hel)).1]; rfl)))
      have HGA : Hid (ga < w.heap.size) := Lib.hid (rowS_lt hrow ga (by simp [ob, Value.ownBlock]))
      have HAT := Lib.hid ha; have HZ := Lib.hid hz
      have HLN : Hid (l.length ≤ 4096) := Lib.hid hll
      have HL1 : Hid ((cellsL l).length = l.length * 33) := Lib.hid (by rw [cellsL_length (fun e he => (hent e he).1)]; omega)
      have hge : ¬ (i : Int) < 0 := by omega
      have h0 : (0 : Int) ≤ (i : Int) := by omega
      have hi2 : (i : Int) < (Z.length : Int) := by omega
      have hsub : IntKind.i64.wrap ((l.length : Int) - 1) = (j : Int) := by rw [IntWalk.i64_in _ (by omega)]; omega
      have hj0 : (0 : Int) ≤ (j : Int) := by omega
      have hj1 : (j : Int) < (l.length : Int) := by omega
      obtain ⟨g, vc, hv, _, _⟩ := at_len H.out hz w (Below.refl _ _)
      subst hv
      have KA : Hid (∀ w' : World, Below w.heap.size w w' → w'.cell? ⟨r, 0, none⟩ = some (.slice (some ⟨g, 0, none⟩) Z.length vc) ∧ w'.cell? ⟨g, i * 2 + 1, none⟩ = some (.slice (some ⟨ga, 0, none⟩) l.length xc0) ∧ w'.cell? ⟨ga, j * 33 + 32, none⟩ = some (.int .i64 el.t)) := Lib.hid (fun w' hb => by
        obtain ⟨g', c', hv', k1, k2⟩ := at_len H.out HZ.out w' hb
        injection hv' with e1 _ e3
        injection e1 with e1
        injection e1 with e1
        subst e1 e3; exact ⟨k1, k2, (hb.cell (p := ⟨ga, j * 33 + 32, none⟩) HGA.out).trans HCL.out⟩)
      have HROW := Lib.hid hrow
      clear e2 hg hz ha hrow hcl hel hent hlne hlp hjl hll hxe hj
      go_wp2_with fail
      refine A2.out.mono ?_
      rintro ex wq ⟨rfl, hb1⟩
      have HKq : Hid (Below W.heap.size W wq) := Lib.hid (HK2.out.trans (hb1.mono HK2.out.size))
      have HBq : Hid (Below w.heap.size w wq) := Lib.hid (HB2.out.trans (hb1.mono HB2.out.size))
      obtain ⟨k0, k1, k2⟩ := KA.out wq HBq.out
      have k3 := (KQ.out wq HKq.out).2
      clear hb1 A2 k32
      by_cases hlt : tt < el.t
      · have HR2 : Hid (P = (1, plainB Z)) := Lib.hid (by rw [HP2.out, HK.out]; show (if x.t < _ then _ else _) = _; rw [HLA.out, ← HTT.out, if_pos hlt])
        go_wp2_with fail
        go_quiet (fail)
        go_wp2
        go_ret
        rw [HR2.out]
        exact rbPost_same H.out (HBq.out.trans ⟨rfl, rfl, rfl, Nat.le_refl _, fun _ _ => rfl⟩) rfl
      · by_cases hfull : 4096 ≤ l.length
        · have HR2 : Hid (P = (3, plainB Z)) := Lib.hid (by rw [HP2.out, HK.out]; show (if x.t < _ then _ else _) = _; rw [HLA.out, ← HTT.out, if_neg hlt, if_pos hfull])
          have hf : (4096 : Int) ≤ (l.length : Int) := by omega
          clear hfull
          go_wp2_with fail
          go_quiet (fail)
          go_wp2
          go_ret
          rw [HR2.out]
          exact rbPost_same H.out (HBq.out.trans ⟨rfl, rfl, rfl, Nat.le_refl _, fun _ _ => rfl⟩) rfl
        · have HR2 : Hid (P = (0, putM (plainB Z) s (l ++ [x]))) := Lib.hid (by rw [HP2.out, HK.out]; show (if x.t < _ then _ else _) = _; rw [HLA.out, ← HTT.out, if_neg hlt, if_neg hfull])
          have hf : ¬ (4096 : Int) ≤ (l.length : Int) := by omega
          clear hfull
          go_wp2_with fail
          go_quiet (fail)
          obtain ⟨w1, hwz⟩ : ∃ w1, w1 = wq.drewN nq := ⟨_, rfl⟩
          have HBZ : Hid (Below wq.heap.size wq w1) := Lib.hid (by rw [hwz]; exact (Below.refl _ _).trans ⟨rfl, rfl, rfl, Nat.le_refl _, fun _ _ => rfl⟩)
          rw [← hwz]
          clear hwz k0 k1 k2 k3 hsub hj0 hj1
          have HB1 : Hid (Below w.heap.size w w1) := Lib.hid (HBq.out.trans (HBZ.out.mono HBq.out.size))
          have HK1 : Hid (Below W.heap.size W w1) := Lib.hid (HKq.out.trans (HBZ.out.mono HKq.out.size))
          have H7 : Hid (HoldN w1 (.slice (some ⟨ga, 0, none⟩) l.length xc0) l.length (cellsL l)) := Lib.hid (hold_row (rowS_kept HROW.out (fun b _ hl => HB1.out.block b hl)))
          have HX7B : Hid (∀ a c, (.slice (some ⟨ga, 0, none⟩) l.length xc0 : Value) = .slice (some a) l.length c → a.block < w1.heap.size) := Lib.hid (fun a c e => by
            injection e with e1 _ _
            injection e1 with e1
            rw [← e1]; exact Nat.lt_of_lt_of_le HGA.out HB1.out.size)
          have KR : Hid (∀ w' : World, Below w1.heap.size w1 w' → w'.cell? ⟨r, 0, none⟩ = some (.slice (some ⟨g, 0, none⟩) Z.length vc) ∧ w'.rangeAt w.heap.size 0 xc) := Lib.hid (fun w' hb => ⟨(KA.out w' (HB1.out.trans (hb.mono HB1.out.size))).1, (KQ.out w' (HK1.out.trans (hb.mono HK1.out.size))).1⟩)
          have FIN : Hid (∀ (wb : World) (y : Value) (n : Nat), Below w1.heap.size w1 wb → wb.ownsRow w1.heap.size EnT 33 y (l.length + 1) (cellsL l ++ xc) → RBPost B w r (.slice (some ⟨g, 0, none⟩) Z.length vc) Z 0 (putM (plainB Z) s (l ++ [x])) (.returned (.int .i64 0)) (wb.setCell ⟨g, i * 2 + 1, none⟩ y) ∧ wb.frozen? ⟨g, i * 2 + 1, none⟩ = false ∧ ∃ z, wb.cell? ⟨g, i * 2 + 1, none⟩ = some z) := Lib.hid (fun wb y _ hb ho => by
            have e1 : (l ++ [x]).length = l.length + 1 := by simp
            have e2 : cellsL (l ++ [x]) = cellsL l ++ xc := by rw [HXC.out, cellsL, List.flatMap_append]; simp [cellsL]
            rw [← e1, ← e2] at ho
            exact rbPost_set H.out rfl HAT.out HZ.out (HB1.out.trans (hb.mono HB1.out.size)) (row_mono ho HB1.out.size) rfl)
          go_upto_region 16 with (fail)
          refine region_held (S := (fun w' : World => w'.cell? ⟨r, 0, none⟩ = some (.slice (some ⟨g, 0, none⟩) Z.length vc) ∧ w'.rangeAt w.heap.size 0 xc)) (k := 13) (by kernel_rfl) (KR.out _ (Below.refl _ _).drew) (fun hHeld => ?_)
          refine held_take (i := 0) (v := ?_) rfl (by kernel_rfl) (by kernel_rfl) (by kernel_rfl) (by kernel_rfl) (fun _ _ _ h => h) (Or.inl ⟨by rfl, ?d0⟩) hHeld ?_
          case d0 =>
            intro wS hSw
            have k0 := hSw.1
            clear hSw
            go_simp
            try with_reducible rfl
          try simp only [Act.put, List.getElem_toArray, List.getElem_cons_zero, List.getElem_cons_succ, List.setIfInBounds_toArray, List.set_cons_zero, List.set_cons_succ]
          refine held_take (i := 1) (v := ?_) rfl (by kernel_rfl) (by kernel_rfl) (by kernel_rfl) (by kernel_rfl) (fun _ _ _ h => h) (Or.inl ⟨by rfl, ?d1⟩) hHeld ?_
          case d1 =>
            intro wS hSw
            have k0 := hSw.1
            clear hSw
            go_simp
            try with_reducible rfl
          try simp only [Act.put, List.getElem_toArray, List.getElem_cons_zero, List.getElem_cons_succ, List.setIfInBounds_toArray, List.set_cons_zero, List.set_cons_succ]
          refine held_take (i := 2) (v := ?_) rfl (by kernel_rfl) (by kernel_rfl) (by kernel_rfl) (by kernel_rfl) (fun _ _ _ h => h) (Or.inl ⟨by rfl, ?d2⟩) hHeld ?_
          case d2 =>
            intro wS hSw
            have k0 := hSw.1
            clear hSw
            go_simp
            try with_reducible rfl
          try simp only [Act.put, List.getElem_toArray, List.getElem_cons_zero, List.getElem_cons_succ, List.setIfInBounds_toArray, List.set_cons_zero, List.set_cons_succ]
          refine held_take (i := 3) (v := ?_) rfl (by kernel_rfl) (by kernel_rfl) (by kernel_rfl) (by kernel_rfl) (fun _ _ _ h => h) (Or.inl ⟨by rfl, ?d3⟩) hHeld ?_
          case d3 =>
            intro wS hSw
            have k0 := hSw.1
            clear hSw
            go_simp
            try with_reducible rfl
          try simp only [Act.put, List.getElem_toArray, List.getElem_cons_zero, List.getElem_cons_succ, List.setIfInBounds_toArray, List.set_cons_zero, List.set_cons_succ]
          refine held_take (i := 4) (v := ?_) rfl (by kernel_rfl) (by kernel_rfl) (by kernel_rfl) (by kernel_rfl) (fun _ _ _ h => h) (Or.inl ⟨by rfl, ?d4⟩) hHeld ?_
          case d4 =>
            intro wS hSw
            have k0 := hSw.1
            clear hSw
            go_simp
            try with_reducible rfl
          try simp only [Act.put, List.getElem_toArray, List.getElem_cons_zero, List.getElem_cons_succ, List.setIfInBounds_toArray, List.set_cons_zero, List.set_cons_succ]
          refine held_take (i := 6) (v := ?_) rfl (by kernel_rfl) (by kernel_rfl) (by kernel_rfl) (by kernel_rfl) (fun _ _ _ h => h) (Or.inl ⟨by rfl, ?d5⟩) hHeld ?_
          case d5 =>
            intro wS hSw
            have k0 := hSw.1
            clear hSw
            go_simp
            try with_reducible rfl
          try simp only [Act.put, List.getElem_toArray, List.getElem_cons_zero, List.getElem_cons_succ, List.setIfInBounds_toArray, List.set_cons_zero, List.set_cons_succ]
          refine' held_take (i := 8) (v := _) rfl (by kernel_rfl) (by kernel_rfl) (by kernel_rfl) (by kernel_rfl) (fun _ _ _ h => h) (yieldsIf_load_mid (by rfl) _ _ rfl w.heap.size 0 rfl xc _ ?d6S ?d6u ?d6d ?d6i) hHeld ?d6x
          case d6S =>
            intro wS hSw
            exact hSw.2
          case d6u => exact Tryz.underlying89
          case d6d => rfl
          case d6i => exact HIN.out
          try simp only [Act.put, List.getElem_toArray, List.getElem_cons_zero, List.getElem_cons_succ, List.setIfInBounds_toArray, List.set_cons_zero, List.set_cons_succ]
          refine held_ready (rs := [5, 9]) (by kernel_rfl) (by simp) ?_
          refine AllHeld.cons rfl (fun K hK => ?_) (AllHeld.cons rfl (fun K hK => ?_) AllHeld.nil)
          · skip
            refine step_wp rfl ?_
            refine wp_noneN 33 99 89 i0 _ rfl Tryz.underlying99 hi0 hz0 hz1 ?_
            intro x1 wa ho1 hg1 hx1
            have hx1 : ∀ b, x1.ownBlock = some b → b = w1.heap.size := hx1
            have HBwa : Hid (Below w1.heap.size w1 wa) := Lib.hid ((Below.refl w1.heap.size w1).drew.grown hg1 (Below.refl w1.heap.size w1).drew.size (fun k hk => nomatch hk))
            have ka := KR.out wa HBwa.out
            have ho1 : wa.ownsRow w1.heap.size 89 33 x1 0 [] := row_mono ho1 (Below.refl w1.heap.size w1).drew.size
            refine hK.out _ _ (fun _ => ka) (fun hHeld => ?_)
            clear hK K
            have hHeld := hHeld (by decide)
            try simp only [Act.put, List.getElem_toArray, List.getElem_cons_zero, List.getElem_cons_succ, List.setIfInBounds_toArray, List.set_cons_zero, List.set_cons_succ]
            refine held_ready (rs := [7, 9]) (by kernel_rfl) (by simp) ?_
            refine AllHeld.cons rfl (fun K hK => ?_) (AllHeld.cons rfl (fun K hK => ?_) AllHeld.nil)
            · skip
              refine step_wp rfl ?_
              refine wp_append_holdN 33 (by decide) (.tmp 63) (.tmp 64) 99 rfl w1.heap.size 89 i0 _ 40 Tryz.underlying99 hi0 hz0 hz1 hz2 hz3 x1 0 [] ?ama ho1 (.slice (some ⟨ga, 0, none⟩) l.length xc0) l.length (cellsL l) ?bma (H7.out.kept (fun a c e _ => HBwa.out.block _ (HX7B.out a c e))) ?cma ?dma ?ema ?fma ?gma ?hma
              case ama => rfl
              case bma => rfl
              case cma => exact HL1.out
              case dma => exact cellsL_one l
              case ema => have := HLN.out; unfold maxLen; omega
              case fma => have := HLN.out; omega
              case gma => exact HBwa.out.size
              intro x8 wb ho8 hg8 hx8
              have HBwb : Hid (Below w1.heap.size w1 wb) := Lib.hid (HBwa.out.grown hg8 HBwa.out.size (fun k hk => rowS_ge ho1 k (by simp [ob, hk])))
              have ka := KR.out wb HBwb.out
              refine hK.out _ _ (fun _ => ka) (fun hHeld => ?_)
              clear hK K
              have hHeld := hHeld (by decide)
              try simp only [Act.put, List.getElem_toArray, List.getElem_cons_zero, List.getElem_cons_succ, List.setIfInBounds_toArray, List.set_cons_zero, List.set_cons_succ]
              refine held_ready (rs := [9]) (by kernel_rfl) (by simp) ?_
              refine AllHeld.cons rfl (fun K hK => ?_) AllHeld.nil
              refine step_wp rfl ?_
              refine wp_oneH 33 (by decide) (by decide) 99 89 (.tmp 66) xc i0 _ rfl rfl Tryz.underlying99 hi0 hz0 hz1 HC2.out ?_
              intro x10 we hh10 hg10 hx10 hs10
              have hx10 : ∀ ad c, x10 = .slice (some ad) 1 c → ad.block = wb.heap.size := hx10
              have hs10 : wb.heap.size < we.heap.size := hs10
              have HBwe : Hid (Below w1.heap.size w1 we) := Lib.hid (HBwb.out.grown hg10 HBwb.out.size (fun k hk => nomatch hk))
              have ka := KR.out we HBwe.out
              have ho8 : we.ownsRow w1.heap.size 89 33 x8 (0 + l.length) ([] ++ cellsL l) := rowS_kept ho8 (fun b _ hl => hg10.block b hl (fun h => nomatch h))
              refine hK.out _ _ (fun _ => ka) (fun hHeld => ?_)
              clear hK K
              have hHeld := hHeld (by decide)
              try simp only [Act.put, List.getElem_toArray, List.getElem_cons_zero, List.getElem_cons_succ, List.setIfInBounds_toArray, List.set_cons_zero, List.set_cons_succ]
              refine held_ready (rs := [10]) (by kernel_rfl) (by simp) ?_
              refine AllHeld.cons rfl (fun K hK => ?_) AllHeld.nil
              refine step_wp rfl ?_
              refine wp_append_holdN 33 (by decide) (.tmp 65) (.tmp 67) 99 rfl w1.heap.size 89 i0 _ 40 Tryz.underlying99 hi0 hz0 hz1 hz2 hz3 x8 (0 + l.length) ([] ++ cellsL l) ?aua ho8 x10 1 xc ?bua hh10 ?cua ?dua ?eua ?fua ?gua ?hua
              case aua => rfl
              case bua => rfl
              case cua => exact HC2.out
              case dua => exact HXO.out
              case eua => have := HLN.out; unfold maxLen; omega
              case fua => have := HLN.out; omega
              case gua => exact HBwe.out.size
              intro x11 wd ho11 hg11 hx11
              have HBD : Hid (Below w1.heap.size w1 wd) := Lib.hid (HBwe.out.grown hg11 HBwe.out.size (fun k hk => rowS_ge ho8 k (by simp [ob, hk])))
              rw [Nat.zero_add, List.nil_append] at ho11
              obtain ⟨a11, c11, rfl⟩ := rowS_slice ho11
              have ka := KR.out wd HBD.out
              obtain ⟨PS, kf, z0, kz⟩ := FIN.out wd _ 0 HBD.out ho11
              refine hK.out _ _ (fun _ => ka) (fun hHeld => ?_)
              clear hK K
              have hHeld := hHeld (by decide)
              try simp only [Act.put, List.getElem_toArray, List.getElem_cons_zero, List.getElem_cons_succ, List.setIfInBounds_toArray, List.set_cons_zero, List.set_cons_succ]
              refine held_ready (rs := [11]) (by kernel_rfl) (by simp) ?_
              refine AllHeld.cons rfl (fun K hK => ?_) AllHeld.nil
              have ka1 := ka.1
              go_simp
              refine hK.out _ _ (fun _ => ka) (fun hHeld => ?_)
              clear hK K
              have hHeld := hHeld (by decide)
              try simp only [Act.put, List.getElem_toArray, List.getElem_cons_zero, List.getElem_cons_succ, List.setIfInBounds_toArray, List.set_cons_zero, List.set_cons_succ]
              refine held_ready (rs := [12]) (by kernel_rfl) (by simp) ?_
              refine AllHeld.cons rfl (fun K hK => ?_) AllHeld.nil
              have ka1 := ka.1
              go_simp
              refine hK.out _ _ (fun _ => ka) (fun hHeld => ?_)
              clear hK K
              have hHeld := hHeld (by decide)
              try simp only [Act.put, List.getElem_toArray, List.getElem_cons_zero, List.getElem_cons_succ, List.setIfInBounds_toArray, List.set_cons_zero, List.set_cons_succ]
              refine held_ready (rs := [13]) (by kernel_rfl) (by simp) ?_
              refine AllHeld.cons rfl (fun K hK => ?_) AllHeld.nil
              have ka1 := ka.1
              go_simp
              refine hK.out _ _ (fun h => absurd rfl h) (fun _ => ?_)
              clear hK K
              try simp only [Act.put, List.getElem_toArray, List.getElem_cons_zero, List.getElem_cons_succ, List.setIfInBounds_toArray, List.set_cons_zero, List.set_cons_succ]
              refine held_done (by kernel_rfl) ?_ _
              clear hHeld
              try simp only [Act.put, List.getElem_toArray, List.getElem_cons_zero, List.getElem_cons_succ, List.setIfInBounds_toArray, List.set_cons_zero, List.set_cons_succ]
              go_wp2
              go_ret
              rw [HR2.out]
              exact PS
            · skip
              refine step_wp rfl ?_
              refine wp_oneH 33 (by decide) (by decide) 99 89 (.tmp 66) xc i0 _ rfl rfl Tryz.underlying99 hi0 hz0 hz1 HC2.out ?_
              intro x10 wb hh10 hg10 hx10 hs10
              have hx10 : ∀ ad c, x10 = .slice (some ad) 1 c → ad.block = wa.heap.size := hx10
              have hs10 : wa.heap.size < wb.heap.size := hs10
              have HBwb : Hid (Below w1.heap.size w1 wb) := Lib.hid (HBwa.out.grown hg10 HBwa.out.size (fun k hk => nomatch hk))
              have ka := KR.out wb HBwb.out
              have ho1a := ho1
              have ho1 : wb.ownsRow w1.heap.size 89 33 x1 0 [] := rowS_kept ho1 (fun b _ hl => hg10.block b hl (fun h => nomatch h))
              have hlt1 : ∀ k, x1.ownBlock = some k → k < wa.heap.size := fun k hk => rowS_lt ho1a k (by simp [ob, hk])
              refine hK.out _ _ (fun _ => ka) (fun hHeld => ?_)
              clear hK K
              have hHeld := hHeld (by decide)
              try simp only [Act.put, List.getElem_toArray, List.getElem_cons_zero, List.getElem_cons_succ, List.setIfInBounds_toArray, List.set_cons_zero, List.set_cons_succ]
              refine held_ready (rs := [7]) (by kernel_rfl) (by simp) ?_
              refine AllHeld.cons rfl (fun K hK => ?_) AllHeld.nil
              refine step_wp rfl ?_
              refine wp_append_holdN 33 (by decide) (.tmp 63) (.tmp 64) 99 rfl w1.heap.size 89 i0 _ 40 Tryz.underlying99 hi0 hz0 hz1 hz2 hz3 x1 0 [] ?amb ho1 (.slice (some ⟨ga, 0, none⟩) l.length xc0) l.length (cellsL l) ?bmb (H7.out.kept (fun a c e _ => HBwb.out.block _ (HX7B.out a c e))) ?cmb ?dmb ?emb ?fmb ?gmb ?hmb
              case amb => rfl
              case bmb => rfl
              case cmb => exact HL1.out
              case dmb => exact cellsL_one l
              case emb => have := HLN.out; unfold maxLen; omega
              case fmb => have := HLN.out; omega
              case gmb => exact HBwb.out.size
              intro x8 we ho8 hg8 hx8
              have HBwe : Hid (Below w1.heap.size w1 we) := Lib.hid (HBwb.out.grown hg8 HBwb.out.size (fun k hk => rowS_ge ho1 k (by simp [ob, hk])))
              have ka := KR.out we HBwe.out
              have hh10 : HoldN we x10 1 xc := hh10.kept (fun ad c ea _ => by have h10 := hx10 ad c ea; refine hg8.block _ (by omega) (fun h => ?_); have := hlt1 _ h.symm; omega)
              refine hK.out _ _ (fun _ => ka) (fun hHeld => ?_)
              clear hK K
              have hHeld := hHeld (by decide)
              try simp only [Act.put, List.getElem_toArray, List.getElem_cons_zero, List.getElem_cons_succ, List.setIfInBounds_toArray, List.set_cons_zero, List.set_cons_succ]
              refine held_ready (rs := [10]) (by kernel_rfl) (by simp) ?_
              refine AllHeld.cons rfl (fun K hK => ?_) AllHeld.nil
              refine step_wp rfl ?_
              refine wp_append_holdN 33 (by decide) (.tmp 65) (.tmp 67) 99 rfl w1.heap.size 89 i0 _ 40 Tryz.underlying99 hi0 hz0 hz1 hz2 hz3 x8 (0 + l.length) ([] ++ cellsL l) ?aub ho8 x10 1 xc ?bub hh10 ?cub ?dub ?eub ?fub ?gub ?hub
              case aub => rfl
              case bub => rfl
              case cub => exact HC2.out
              case dub => exact HXO.out
              case eub => have := HLN.out; unfold maxLen; omega
              case fub => have := HLN.out; omega
              case gub => exact HBwe.out.size
              intro x11 wd ho11 hg11 hx11
              have HBD : Hid (Below w1.heap.size w1 wd) := Lib.hid (HBwe.out.grown hg11 HBwe.out.size (fun k hk => rowS_ge ho8 k (by simp [ob, hk])))
              rw [Nat.zero_add, List.nil_append] at ho11
              obtain ⟨a11, c11, rfl⟩ := rowS_slice ho11
              have ka := KR.out wd HBD.out
              obtain ⟨PS, kf, z0, kz⟩ := FIN.out wd _ 0 HBD.out ho11
              refine hK.out _ _ (fun _ => ka) (fun hHeld => ?_)
              clear hK K
              have hHeld := hHeld (by decide)
              try simp only [Act.put, List.getElem_toArray, List.getElem_cons_zero, List.getElem_cons_succ, List.setIfInBounds_toArray, List.set_cons_zero, List.set_cons_succ]
              refine held_ready (rs := [11]) (by kernel_rfl) (by simp) ?_
              refine AllHeld.cons rfl (fun K hK => ?_) AllHeld.nil
              have ka1 := ka.1
              go_simp
              refine hK.out _ _ (fun _ => ka) (fun hHeld => ?_)
              clear hK K
              have hHeld := hHeld (by decide)
              try simp only [Act.put, List.getElem_toArray, List.getElem_cons_zero, List.getElem_cons_succ, List.setIfInBounds_toArray, List.set_cons_zero, List.set_cons_succ]
              refine held_ready (rs := [12]) (by kernel_rfl) (by simp) ?_
              refine AllHeld.cons rfl (fun K hK => ?_) AllHeld.nil
              have ka1 := ka.1
              go_simp
              refine hK.out _ _ (fun _ => ka) (fun hHeld => ?_)
              clear hK K
              have hHeld := hHeld (by decide)
              try simp only [Act.put, List.getElem_toArray, List.getElem_cons_zero, List.getElem_cons_succ, List.setIfInBounds_toArray, List.set_cons_zero, List.set_cons_succ]
              refine held_ready (rs := [13]) (by kernel_rfl) (by simp) ?_
              refine AllHeld.cons rfl (fun K hK => ?_) AllHeld.nil
              have ka1 := ka.1
              go_simp
              refine hK.out _ _ (fun h => absurd rfl h) (fun _ => ?_)
              clear hK K
              try simp only [Act.put, List.getElem_toArray, List.getElem_cons_zero, List.getElem_cons_succ, List.setIfInBounds_toArray, List.set_cons_zero, List.set_cons_succ]
              refine held_done (by kernel_rfl) ?_ _
              clear hHeld
              try simp only [Act.put, List.getElem_toArray, List.getElem_cons_zero, List.getElem_cons_succ, List.setIfInBounds_toArray, List.set_cons_zero, List.set_cons_succ]
              go_wp2
              go_ret
              rw [HR2.out]
              exact PS
          · skip
            refine step_wp rfl ?_
            refine wp_oneH 33 (by decide) (by decide) 99 89 (.tmp 66) xc i0 _ rfl rfl Tryz.underlying99 hi0 hz0 hz1 HC2.out ?_
            intro x10 wa hh10 hg10 hx10 hs10
            have hx10 : ∀ ad c, x10 = .slice (some ad) 1 c → ad.block = w1.heap.size := hx10
            have hs10 : w1.heap.size < wa.heap.size := hs10
            have HBwa : Hid (Below w1.heap.size w1 wa) := Lib.hid ((Below.refl w1.heap.size w1).drew.grown hg10 (Below.refl w1.heap.size w1).drew.size (fun k hk => nomatch hk))
            have ka := KR.out wa HBwa.out
            refine hK.out _ _ (fun _ => ka) (fun hHeld => ?_)
            clear hK K
            have hHeld := hHeld (by decide)
            try simp only [Act.put, List.getElem_toArray, List.getElem_cons_zero, List.getElem_cons_succ, List.setIfInBounds_toArray, List.set_cons_zero, List.set_cons_succ]
            refine held_ready (rs := [5]) (by kernel_rfl) (by simp) ?_
            refine AllHeld.cons rfl (fun K hK => ?_) AllHeld.nil
            refine step_wp rfl ?_
            refine wp_noneN 33 99 89 i0 _ rfl Tryz.underlying99 hi0 hz0 hz1 ?_
            intro x1 wb ho1 hg1 hx1
            have hx1 : ∀ b, x1.ownBlock = some b → b = wa.heap.size := hx1
            have HBwb : Hid (Below w1.heap.size w1 wb) := Lib.hid (HBwa.out.grown hg1 HBwa.out.size (fun k hk => nomatch hk))
            have ka := KR.out wb HBwb.out
            have ho1 : wb.ownsRow w1.heap.size 89 33 x1 0 [] := row_mono ho1 HBwa.out.size
            have hh10 : HoldN wb x10 1 xc := hh10.kept (fun ad c ea _ => by have h10 := hx10 ad c ea; exact hg1.block _ (by omega) (fun h => nomatch h))
            refine hK.out _ _ (fun _ => ka) (fun hHeld => ?_)
            clear hK K
            have hHeld := hHeld (by decide)
            try simp only [Act.put, List.getElem_toArray, List.getElem_cons_zero, List.getElem_cons_succ, List.setIfInBounds_toArray, List.set_cons_zero, List.set_cons_succ]
            refine held_ready (rs := [7]) (by kernel_rfl) (by simp) ?_
            refine AllHeld.cons rfl (fun K hK => ?_) AllHeld.nil
            refine step_wp rfl ?_
            refine wp_append_holdN 33 (by decide) (.tmp 63) (.tmp 64) 99 rfl w1.heap.size 89 i0 _ 40 Tryz.underlying99 hi0 hz0 hz1 hz2 hz3 x1 0 [] ?amc ho1 (.slice (some ⟨ga, 0, none⟩) l.length xc0) l.length (cellsL l) ?bmc (H7.out.kept (fun a c e _ => HBwb.out.block _ (HX7B.out a c e))) ?cmc ?dmc ?emc ?fmc ?gmc ?hmc
            case amc => rfl
            case bmc => rfl
            case cmc => exact HL1.out
            case dmc => exact cellsL_one l
            case emc => have := HLN.out; unfold maxLen; omega
            case fmc => have := HLN.out; omega
            case gmc => exact HBwb.out.size
            intro x8 we ho8 hg8 hx8
            have HBwe : Hid (Below w1.heap.size w1 we) := Lib.hid (HBwb.out.grown hg8 HBwb.out.size (fun k hk => rowS_ge ho1 k (by simp [ob, hk])))
            have ka := KR.out we HBwe.out
            have hh10 : HoldN we x10 1 xc := hh10.kept (fun ad c ea _ => by have h10 := hx10 ad c ea; have := hg1.size; refine hg8.block _ (by omega) (fun h => ?_); have := hx1 _ h.symm; omega)
            refine hK.out _ _ (fun _ => ka) (fun hHeld => ?_)
            clear hK K
            have hHeld := hHeld (by decide)
            try simp only [Act.put, List.getElem_toArray, List.getElem_cons_zero, List.getElem_cons_succ, List.setIfInBounds_toArray, List.set_cons_zero, List.set_cons_succ]
            refine held_ready (rs := [10]) (by kernel_rfl) (by simp) ?_
            refine AllHeld.cons rfl (fun K hK => ?_) AllHeld.nil
            refine step_wp rfl ?_
            refine wp_append_holdN 33 (by decide) (.tmp 65) (.tmp 67) 99 rfl w1.heap.size 89 i0 _ 40 Tryz.underlying99 hi0 hz0 hz1 hz2 hz3 x8 (0 + l.length) ([] ++ cellsL l) ?auc ho8 x10 1 xc ?buc hh10 ?cuc ?duc ?euc ?fuc ?guc ?huc
            case auc => rfl
            case buc => rfl
            case cuc => exact HC2.out
            case duc => exact HXO.out
            case euc => have := HLN.out; unfold maxLen; omega
            case fuc => have := HLN.out; omega
            case guc => exact HBwe.out.size
            intro x11 wd ho11 hg11 hx11
            have HBD : Hid (Below w1.heap.size w1 wd) := Lib.hid (HBwe.out.grown hg11 HBwe.out.size (fun k hk => rowS_ge ho8 k (by simp [ob, hk])))
            rw [Nat.zero_add, List.nil_append] at ho11
            obtain ⟨a11, c11, rfl⟩ := rowS_slice ho11
            have ka := KR.out wd HBD.out
            obtain ⟨PS, kf, z0, kz⟩ := FIN.out wd _ 0 HBD.out ho11
            refine hK.out _ _ (fun _ => ka) (fun hHeld => ?_)
            clear hK K
            have hHeld := hHeld (by decide)
            try simp only [Act.put, List.getElem_toArray, List.getElem_cons_zero, List.getElem_cons_succ, List.setIfInBounds_toArray, List.set_cons_zero, List.set_cons_succ]
            refine held_ready (rs := [11]) (by kernel_rfl) (by simp) ?_
            refine AllHeld.cons rfl (fun K hK => ?_) AllHeld.nil
            have ka1 := ka.1
            go_simp
            refine hK.out _ _ (fun _ => ka) (fun hHeld => ?_)
            clear hK K
            have hHeld := hHeld (by decide)
            try simp only [Act.put, List.getElem_toArray, List.getElem_cons_zero, List.getElem_cons_succ, List.setIfInBounds_toArray, List.set_cons_zero, List.set_cons_succ]
            refine held_ready (rs := [12]) (by kernel_rfl) (by simp) ?_
            refine AllHeld.cons rfl (fun K hK => ?_) AllHeld.nil
            have ka1 := ka.1
            go_simp
            refine hK.out _ _ (fun _ => ka) (fun hHeld => ?_)
            clear hK K
            have hHeld := hHeld (by decide)
            try simp only [Act.put, List.getElem_toArray, List.getElem_cons_zero, List.getElem_cons_succ, List.setIfInBounds_toArray, List.set_cons_zero, List.set_cons_succ]
            refine held_ready (rs := [13]) (by kernel_rfl) (by simp) ?_
            refine AllHeld.cons rfl (fun K hK => ?_) AllHeld.nil
            have ka1 := ka.1
            go_simp
            refine hK.out _ _ (fun h => absurd rfl h) (fun _ => ?_)
            clear hK K
            try simp only [Act.put, List.getElem_toArray, List.getElem_cons_zero, List.getElem_cons_succ, List.setIfInBounds_toArray, List.set_cons_zero, List.set_cons_succ]
            refine held_done (by kernel_rfl) ?_ _
            clear hHeld
            try simp only [Act.put, List.getElem_toArray, List.getElem_cons_zero, List.getElem_cons_succ, List.setIfInBounds_toArray, List.set_cons_zero, List.set_cons_succ]
            go_wp2
            go_ret
            rw [HR2.out]
            exact PS
end Go.Proofs.YtkeegnhjemhblaaGreatDoor.Rb
