import Derived.Test.YtkeegnhjemhblaaGreatDoorZPRbEnd
import Derived.Test.YtkeegnhjemhblaaGreatDoorZPRfBack
import Derived.WalkLawsBesides
import Derived.Test.YtkeegnhjemhblaaGreatDoorZPRbKit
import Derived.Test.YtkeegnhjemhblaaGreatDoorZPRbHeld
import Derived.ProofKit
import Derived.BigRegion
set_option linter.unusedSimpArgs false
set_option linter.unusedVariables false
/-
  The contract of the reference's Back. Printed by genrb2.py.
-/
namespace Go.Proofs.YtkeegnhjemhblaaGreatDoor.Rb
open Go.RowKit Go.Maps Go.WideMaps Go.Proofs.YtkeegnhjemhblaaGreatDoor.Rf
set_option linter.unusedSimpArgs false in
set_option maxHeartbeats 8000000 in
set_option maxRecDepth 100000 in
theorem rback_any (B : Nat) (w : World) (r : Nat) (v : Value) (Z : BM) (s : List UInt8) (n : Int) (ok : OkB (plainB Z)) (h : RBk B w r v Z) :
    Calls Tryz.prog 57 #[ptr r, .string ⟨s.toArray⟩, .int .i64 n] w (RBPost B w r v Z (backB (plainB Z) s n).1 (backB (plainB Z) s n).2) := by
  obtain ⟨i0, hi0, hz0, hz1, hz2⟩ := info_parts infoEn
  have hz3 := zeroEn_size
  have hn : Z.length ≤ 64 := by rw [← plain_length]; exact ok.size
  have AT := rat_any B w r v Z s (by omega) h
  have HO := Lib.hid ok
  have H := Lib.hid h
  obtain ⟨P, hP⟩ : ∃ P, P = backB (plainB Z) s n := ⟨_, rfl⟩
  rw [← hP]
  unfold ptr at *
  cases ha : atN Z s with
  | none =>
    obtain ⟨_, e2⟩ := logV_none ha
    have HR : Hid (P = (6, plainB Z)) := Lib.hid (by rw [hP, backB, plain_get, (at_none ha).1]; rfl)
    rw [e2] at AT
    have AT := Lib.hid AT
    clear e2 ha hP h ok
    go_enter Tryz.func57, Tryz.ntmps57
    go_wp2_with fail
    refine AT.out.mono ?_
    rintro ex w1 ⟨rfl, hb1⟩
    go_wp2
    go_ret
    rw [HR.out]
    exact rbPost_same H.out hb1 rfl
  | some i =>
    obtain ⟨m, hz, hg⟩ := at_some ha
    obtain ⟨x0, l⟩ := m
    obtain ⟨_, e2⟩ := logV_some ha hg
    rw [e2] at AT
    have AT := Lib.hid AT
    have hil : i < Z.length := (List.getElem?_eq_some_iff.1 hz).1
    have HK : Hid (getM (plainB Z) s = some l) := Lib.hid (by rw [plain_get, hg]; rfl)
    have hll : l.length ≤ 4096 := HO.out.len (s, l) (getM_mem HK.out)
    have hent : ∀ e ∈ l, e.c.length = 32 ∧ 0 ≤ e.t ∧ e.t ≤ 1099511627776 := HO.out.ent (s, l) (getM_mem HK.out)
    obtain ⟨xa, xc, hxe⟩ : ∃ a c, x0 = .slice a l.length c := rowS_slice (h.each (s, (x0, l)) (List.mem_of_getElem? hz))
    subst hxe
    have HR : Hid (P = if n < 0 ∨ (l.length : Int) ≤ n then (1, plainB Z) else (0, putM (plainB Z) s (l.take (l.length - n.toNat)))) := Lib.hid (by rw [hP, backB, HK.out])
    have HAT := Lib.hid ha; have HZ := Lib.hid hz
    have hge : ¬ (i : Int) < 0 := by omega
    have h0 : (0 : Int) ≤ (i : Int) := by omega
    have hi2 : (i : Int) < (Z.length : Int) := by omega
    obtain ⟨g, vc, hv, _, _⟩ := at_len h hz w (Below.refl _ _)
    subst hv
    have KA : Hid (∀ w' : World, Below w.heap.size w w' → w'.cell? ⟨r, 0, none⟩ = some (.slice (some ⟨g, 0, none⟩) Z.length vc) ∧ w'.cell? ⟨g, i * 2 + 1, none⟩ = some (.slice xa l.length xc)) := Lib.hid (fun w' hb => by
      obtain ⟨g', c', hv', k1, k2⟩ := at_len H.out HZ.out w' hb
      injection hv' with e1 _ e3
      injection e1 with e1
      injection e1 with e1
      subst e1 e3; exact ⟨k1, k2⟩)
    clear e2 hg hz hP ha h ok
    go_enter Tryz.func57, Tryz.ntmps57
    go_wp2_with fail
    refine AT.out.mono ?_
    rintro ex w1 ⟨rfl, hb1⟩
    obtain ⟨k0, k1⟩ := KA.out w1 hb1
    have HB1 := Lib.hid hb1
    clear AT
    by_cases hn0 : n < 0
    · have HR2 : Hid (P = (1, plainB Z)) := Lib.hid (by rw [HR.out, if_pos (.inl hn0)])
      clear hent hb1 HR
      go_wp2_with fail
      first | (go_quiet (fail); go_wp2) | go_wp2
      go_ret
      rw [HR2.out]
      exact rbPost_same H.out HB1.out rfl
    · by_cases hn1 : (l.length : Int) ≤ n
      · have HR2 : Hid (P = (1, plainB Z)) := Lib.hid (by rw [HR.out, if_pos (.inr hn1)])
        clear hent hb1 HR
        go_wp2_with fail
        first | (go_quiet (fail); go_wp2) | go_wp2
        go_ret
        rw [HR2.out]
        exact rbPost_same H.out HB1.out rfl
      · obtain ⟨d, hd⟩ : ∃ d, d = l.length - n.toNat := ⟨_, rfl⟩
        have HR2 : Hid (P = (0, putM (plainB Z) s (l.take d))) := Lib.hid (by rw [HR.out, if_neg (fun h => h.elim hn0 hn1), hd])
        have HD : Hid (d ≤ l.length ∧ l.length ≤ 4096) := Lib.hid ⟨by omega, hll⟩
        have hrow0 := rowS_kept (H.out.each (s, (.slice xa l.length xc, l)) (List.mem_of_getElem? HZ.out)) (fun b _ hl => hb1.block b hl)
        have HL1 : Hid ((cellsL (l.take d)).length = d * 33) := Lib.hid (by rw [cellsL_length (fun e he => (hent e (List.mem_of_mem_take he)).1), List.length_take, Nat.min_eq_left HD.out.1]; omega)
        obtain ⟨x11, hx11, h11, h11b⟩ := slice_frontN 33 undE sizeE hrow0 (by show l.length ≤ _; unfold maxLen; omega) (i := d) HD.out.1
        rw [show (cellsL (s, ((.slice xa l.length xc, l) : Value × List En)).2.2).take (d * 33) = cellsL (l.take d) from by rw [cellsL_take (fun e he => (hent e he).1), Nat.mul_comm]] at h11
        have HSUB : Hid (IntKind.i64.wrap ((l.length : Int) - n) = (d : Int)) := Lib.hid (by rw [IntWalk.i64_in _ (by omega)]; omega)
        have HX11 := Lib.hid hx11; have H11 := Lib.hid h11
        have HX11B : Hid (∀ a c, x11 = .slice (some a) d c → a.block < w1.heap.size) := Lib.hid (fun a c e => rowS_lt hrow0 _ (h11b a c e))
        have KR : Hid (∀ w' : World, Below w1.heap.size w1 w' → w'.cell? ⟨r, 0, none⟩ = some (.slice (some ⟨g, 0, none⟩) Z.length vc)) := Lib.hid (fun w' hb => (KA.out w' (HB1.out.trans (hb.mono HB1.out.size))).1)
        have FIN : Hid (∀ (wb : World) (x : Value), Below w1.heap.size w1 wb → wb.ownsRow w1.heap.size EnT 33 x (l.take d).length (cellsL (l.take d)) → RBPost B w r (.slice (some ⟨g, 0, none⟩) Z.length vc) Z 0 (putM (plainB Z) s (l.take d)) (.returned (.int .i64 0)) (wb.setCell ⟨g, i * 2 + 1, none⟩ x) ∧ wb.frozen? ⟨g, i * 2 + 1, none⟩ = false ∧ ∃ z, wb.cell? ⟨g, i * 2 + 1, none⟩ = some z) := Lib.hid (fun wb x hb ho => rbPost_set H.out rfl HAT.out HZ.out (HB1.out.trans (hb.mono HB1.out.size)) (row_mono ho HB1.out.size) rfl)
        clear hent hb1 HR hrow0 hx11 h11 h11b hd
        go_upto_region 7 with (first | go_quiet (fail) | fail)
        refine region_held (S := (fun w' : World => w'.cell? ⟨r, 0, none⟩ = some (.slice (some ⟨g, 0, none⟩) Z.length vc))) (k := 15) (by kernel_rfl) (KR.out _ (Below.refl _ _).drew) (fun hHeld => ?_)
        refine held_take (i := 0) (v := ?_) rfl (by kernel_rfl) (by kernel_rfl) (by kernel_rfl) (by kernel_rfl) (fun _ _ _ h => h) (Or.inl ⟨by rfl, ?d0⟩) hHeld ?_
        case d0 =>
          intro wS hSw
          have k0 := hSw
          have hsub := HSUB.out
          go_simp
          try with_reducible rfl
        try simp only [Act.put, List.getElem_toArray, List.getElem_cons_zero, List.getElem_cons_succ, List.setIfInBounds_toArray, List.set_cons_zero, List.set_cons_succ]
        refine held_take (i := 1) (v := ?_) rfl (by kernel_rfl) (by kernel_rfl) (by kernel_rfl) (by kernel_rfl) (fun _ _ _ h => h) (Or.inl ⟨by rfl, ?d1⟩) hHeld ?_
        case d1 =>
          intro wS hSw
          have k0 := hSw
          have hsub := HSUB.out
          go_simp
          try with_reducible rfl
        try simp only [Act.put, List.getElem_toArray, List.getElem_cons_zero, List.getElem_cons_succ, List.setIfInBounds_toArray, List.set_cons_zero, List.set_cons_succ]
        refine held_take (i := 2) (v := ?_) rfl (by kernel_rfl) (by kernel_rfl) (by kernel_rfl) (by kernel_rfl) (fun _ _ _ h => h) (Or.inl ⟨by rfl, ?d2⟩) hHeld ?_
        case d2 =>
          intro wS hSw
          have k0 := hSw
          have hsub := HSUB.out
          go_simp
          try with_reducible rfl
        try simp only [Act.put, List.getElem_toArray, List.getElem_cons_zero, List.getElem_cons_succ, List.setIfInBounds_toArray, List.set_cons_zero, List.set_cons_succ]
        refine held_take (i := 3) (v := ?_) rfl (by kernel_rfl) (by kernel_rfl) (by kernel_rfl) (by kernel_rfl) (fun _ _ _ h => h) (Or.inl ⟨by rfl, ?d3⟩) hHeld ?_
        case d3 =>
          intro wS hSw
          have k0 := hSw
          have hsub := HSUB.out
          go_simp
          try with_reducible rfl
        try simp only [Act.put, List.getElem_toArray, List.getElem_cons_zero, List.getElem_cons_succ, List.setIfInBounds_toArray, List.set_cons_zero, List.set_cons_succ]
        refine held_take (i := 4) (v := ?_) rfl (by kernel_rfl) (by kernel_rfl) (by kernel_rfl) (by kernel_rfl) (fun _ _ _ h => h) (Or.inl ⟨by rfl, ?d4⟩) hHeld ?_
        case d4 =>
          intro wS hSw
          have k0 := hSw
          have hsub := HSUB.out
          go_simp
          try with_reducible rfl
        try simp only [Act.put, List.getElem_toArray, List.getElem_cons_zero, List.getElem_cons_succ, List.setIfInBounds_toArray, List.set_cons_zero, List.set_cons_succ]
        refine held_take (i := 6) (v := ?_) rfl (by kernel_rfl) (by kernel_rfl) (by kernel_rfl) (by kernel_rfl) (fun _ _ _ h => h) (Or.inl ⟨by rfl, ?d5⟩) hHeld ?_
        case d5 =>
          intro wS hSw
          have k0 := hSw
          have hsub := HSUB.out
          go_simp
          try with_reducible rfl
        try simp only [Act.put, List.getElem_toArray, List.getElem_cons_zero, List.getElem_cons_succ, List.setIfInBounds_toArray, List.set_cons_zero, List.set_cons_succ]
        refine held_take (i := 7) (v := ?_) rfl (by kernel_rfl) (by kernel_rfl) (by kernel_rfl) (by kernel_rfl) (fun _ _ _ h => h) (Or.inl ⟨by rfl, ?d6⟩) hHeld ?_
        case d6 =>
          intro wS hSw
          have k0 := hSw
          have hsub := HSUB.out
          go_simp
          try with_reducible rfl
        try simp only [Act.put, List.getElem_toArray, List.getElem_cons_zero, List.getElem_cons_succ, List.setIfInBounds_toArray, List.set_cons_zero, List.set_cons_succ]
        refine held_take (i := 8) (v := ?_) rfl (by kernel_rfl) (by kernel_rfl) (by kernel_rfl) (by kernel_rfl) (fun _ _ _ h => h) (Or.inl ⟨by rfl, ?d7⟩) hHeld ?_
        case d7 =>
          intro wS hSw
          have k0 := hSw
          have hsub := HSUB.out
          go_simp
          try with_reducible rfl
        try simp only [Act.put, List.getElem_toArray, List.getElem_cons_zero, List.getElem_cons_succ, List.setIfInBounds_toArray, List.set_cons_zero, List.set_cons_succ]
        refine held_take (i := 9) (v := ?_) rfl (by kernel_rfl) (by kernel_rfl) (by kernel_rfl) (by kernel_rfl) (fun _ _ _ h => h) (Or.inl ⟨by rfl, ?d8⟩) hHeld ?_
        case d8 =>
          intro wS hSw
          have k0 := hSw
          have hsub := HSUB.out
          go_simp
          try with_reducible rfl
        try simp only [Act.put, List.getElem_toArray, List.getElem_cons_zero, List.getElem_cons_succ, List.setIfInBounds_toArray, List.set_cons_zero, List.set_cons_succ]
        refine held_take (i := 10) (v := ?_) rfl (by kernel_rfl) (by kernel_rfl) (by kernel_rfl) (by kernel_rfl) (fun _ _ _ h => h) (Or.inl ⟨by rfl, ?d9⟩) hHeld ?_
        case d9 =>
          intro wS hSw
          have k0 := hSw
          have hsub := HSUB.out
          go_simp
          try with_reducible rfl
        try simp only [Act.put, List.getElem_toArray, List.getElem_cons_zero, List.getElem_cons_succ, List.setIfInBounds_toArray, List.set_cons_zero, List.set_cons_succ]
        refine held_take (i := 11) (v := x11) rfl (by kernel_rfl) (by kernel_rfl) (by kernel_rfl) (by kernel_rfl) (fun _ _ _ h => h) (Or.inl ⟨by rfl, ?d10⟩) hHeld ?_
        case d10 =>
          intro wS hSw
          refine exec_sliceN 99 (.tmp 36) none (some (.tmp 40)) (.slice xa l.length xc) x11 none (some (.int .i64 (d : Int))) undE ?_ ?_ ?_ ?_ (HX11.out wS)
          all_goals first | rfl | kernel_rfl
        try simp only [Act.put, List.getElem_toArray, List.getElem_cons_zero, List.getElem_cons_succ, List.setIfInBounds_toArray, List.set_cons_zero, List.set_cons_succ]
        refine held_ready (rs := [5]) (by kernel_rfl) (by simp) ?_
        refine AllHeld.cons rfl (fun K hK => ?_) AllHeld.nil
        refine step_wp rfl ?_
        refine wp_noneN 33 99 89 i0 _ rfl Tryz.underlying99 hi0 hz0 hz1 ?_
        intro x1 wa ho1 hg1 hx1
        have hx1 : ∀ b, x1.ownBlock = some b → b = w1.heap.size := hx1
        have HBwa : Hid (Below w1.heap.size w1 wa) := Lib.hid ((Below.refl w1.heap.size w1).drew.grown hg1 (Below.refl w1.heap.size w1).drew.size (fun k hk => nomatch hk))
        have ka := KR.out wa HBwa.out
        have ho1 : wa.ownsRow w1.heap.size 89 33 x1 0 [] := row_mono ho1 (Below.refl w1.heap.size w1).drew.size
        refine hK.out _ _ (fun _ => ka) (fun hHeld => ?_)
        clear hK K
        have hHeld := hHeld (by decide)
        try simp only [Act.put, List.getElem_toArray, List.getElem_cons_zero, List.getElem_cons_succ, List.setIfInBounds_toArray, List.set_cons_zero, List.set_cons_succ]
        refine held_ready (rs := [12]) (by kernel_rfl) (by simp) ?_
        refine AllHeld.cons rfl (fun K hK => ?_) AllHeld.nil
        refine step_wp rfl ?_
        refine wp_append_holdN 33 (by decide) (.tmp 35) (.tmp 41) 99 rfl w1.heap.size 89 i0 _ 40 Tryz.underlying99 hi0 hz0 hz1 hz2 hz3 x1 0 [] ?ap ho1 x11 d (cellsL (l.take d)) ?bp (H11.out.kept (fun a c e _ => HBwa.out.block _ (HX11B.out a c e))) ?cp ?dp ?ep ?fp ?gp ?hp
        case ap => rfl
        case bp => rfl
        case cp => exact HL1.out
        case dp => exact cellsL_one _
        case ep => have := HD.out; unfold maxLen; omega
        case fp => have := HD.out; omega
        case gp => exact HBwa.out.size
        intro x8 wb ho8 hg8 hx8
        have HBB : Hid (Below w1.heap.size w1 wb) := Lib.hid (HBwa.out.grown hg8 HBwa.out.size (fun k hk => rowS_ge ho1 k (by simp [ob, hk])))
        rw [Nat.zero_add, List.nil_append] at ho8
        obtain ⟨a8, c8, rfl⟩ := rowS_slice ho8
        have HO8 : Hid (wb.ownsRow w1.heap.size EnT 33 (.slice a8 d c8) (l.take d).length (cellsL (l.take d))) := Lib.hid (by rw [List.length_take, Nat.min_eq_left HD.out.1]; exact ho8)
        have ka := KR.out wb HBB.out
        obtain ⟨PS, kf, z0, kz⟩ := FIN.out wb _ HBB.out HO8.out
        refine hK.out _ _ (fun _ => ka) (fun hHeld => ?_)
        clear hK K
        have hHeld := hHeld (by decide)
        try simp only [Act.put, List.getElem_toArray, List.getElem_cons_zero, List.getElem_cons_succ, List.setIfInBounds_toArray, List.set_cons_zero, List.set_cons_succ]
        refine held_ready (rs := [13]) (by kernel_rfl) (by simp) ?_
        refine AllHeld.cons rfl (fun K hK => ?_) AllHeld.nil
        go_simp
        refine hK.out _ _ (fun _ => ka) (fun hHeld => ?_)
        clear hK K
        have hHeld := hHeld (by decide)
        try simp only [Act.put, List.getElem_toArray, List.getElem_cons_zero, List.getElem_cons_succ, List.setIfInBounds_toArray, List.set_cons_zero, List.set_cons_succ]
        refine held_ready (rs := [14]) (by kernel_rfl) (by simp) ?_
        refine AllHeld.cons rfl (fun K hK => ?_) AllHeld.nil
        go_simp
        refine hK.out _ _ (fun _ => ka) (fun hHeld => ?_)
        clear hK K
        have hHeld := hHeld (by decide)
        try simp only [Act.put, List.getElem_toArray, List.getElem_cons_zero, List.getElem_cons_succ, List.setIfInBounds_toArray, List.set_cons_zero, List.set_cons_succ]
        refine held_ready (rs := [15]) (by kernel_rfl) (by simp) ?_
        refine AllHeld.cons rfl (fun K hK => ?_) AllHeld.nil
        go_simp
        refine hK.out _ _ (fun h => absurd rfl h) (fun _ => ?_)
        clear hK K
        try simp only [Act.put, List.getElem_toArray, List.getElem_cons_zero, List.getElem_cons_succ, List.setIfInBounds_toArray, List.set_cons_zero, List.set_cons_succ]
        refine held_done (by kernel_rfl) ?_ _
        clear hHeld
        try simp only [Act.put, List.getElem_toArray, List.getElem_cons_zero, List.getElem_cons_succ, List.setIfInBounds_toArray, List.set_cons_zero, List.set_cons_succ]

        go_wp2
        go_ret
        rw [HR2.out]
        exact PS
end Go.Proofs.YtkeegnhjemhblaaGreatDoor.Rb
/-
  The contract of the reference's Drop. Printed by genrb2.py.
-/
namespace Go.Proofs.YtkeegnhjemhblaaGreatDoor.Rb
open Go.RowKit Go.Maps Go.WideMaps Go.Proofs.YtkeegnhjemhblaaGreatDoor.Rf
set_option linter.unusedSimpArgs false in
set_option maxHeartbeats 8000000 in
set_option maxRecDepth 100000 in
theorem rdrop_any (B : Nat) (w : World) (r : Nat) (v : Value) (Z : BM) (s : List UInt8) (hn : Z.length ≤ 64) (h : RBk B w r v Z) :
    Calls Tryz.prog 61 #[ptr r, .string ⟨s.toArray⟩] w (RBPost B w r v Z (dropB (plainB Z) s).1 (dropB (plainB Z) s).2) := by
  obtain ⟨i0, hi0, hz0, hz1, hz2⟩ := info_parts infoBr
  have hz3 : (Value.agg #[.string ⟨#[]⟩, .slice none 0 0]).cells.size = 2 := by kernel_rfl
  have AT := rat_any B w r v Z s (by omega) h
  obtain ⟨va, vc, rfl⟩ := rowS_slice h.row
  have H := Lib.hid h
  obtain ⟨P, hP⟩ : ∃ P, P = dropB (plainB Z) s := ⟨_, rfl⟩
  rw [← hP]
  unfold ptr at *
  cases ha : atN Z s with
  | none =>
    obtain ⟨_, e2⟩ := logV_none ha
    have HR : Hid (P = (6, plainB Z)) := Lib.hid (by rw [hP, dropB, plain_get, (at_none ha).1]; rfl)
    rw [e2] at AT
    have AT := Lib.hid AT
    clear e2 ha hP h
    go_enter Tryz.func61, Tryz.ntmps61
    go_wp2_with fail
    refine AT.out.mono ?_
    rintro ex w1 ⟨rfl, hb1⟩
    go_wp2
    go_ret
    rw [HR.out]
    exact rbPost_same H.out hb1 rfl
  | some i =>
    obtain ⟨n, hz, hg⟩ := at_some ha
    obtain ⟨_, e2⟩ := logV_some ha hg
    rw [e2] at AT
    have AT := Lib.hid AT
    have hil : i < Z.length := (List.getElem?_eq_some_iff.1 hz).1
    have HR : Hid (P = (0, delM (plainB Z) s)) := Lib.hid (by rw [hP, dropB, plain_get, hg]; rfl)
    have HAT := Lib.hid ha
    have hge : ¬ (i : Int) < 0 := by omega
    clear e2 hg hz hP ha h
    go_enter Tryz.func61, Tryz.ntmps61
    go_wp2_with fail
    refine AT.out.mono ?_
    rintro ex w1 ⟨rfl, hb1⟩
    have h1 := H.out.below hb1
    have hrow := h1.row
    have HB1 := Lib.hid hb1
    have KR : Hid (∀ w' : World, Below w1.heap.size w1 w' → w'.cell? ⟨r, 0, none⟩ = some (.slice va Z.length vc)) := Lib.hid (fun w' hb => cell_of_heap (h1.below hb).book)
    have KF : Hid (∀ w' : World, Below w1.heap.size w1 w' → w'.frozen? ⟨r, 0, none⟩ = false) := Lib.hid (fun w' hb => frozen_of_heap (h1.below hb).book)
    have HON := Lib.hid h1.ones
    have HM1 : Hid (∀ q ∈ Z.take i, q ∈ Z) := Lib.hid (fun q hq => List.mem_of_mem_take hq)
    have HM2 : Hid (∀ q ∈ Z.drop (i + 1), q ∈ Z) := Lib.hid (fun q hq => List.mem_of_mem_drop hq)
    have HL1 : Hid ((bcells (Z.take i)).length = i * 2) := Lib.hid (by rw [bcells_length, List.length_take, Nat.min_eq_left (by omega)])
    have HL2 : Hid ((bcells (Z.drop (i + 1))).length = (Z.length - (i + 1)) * 2) := Lib.hid (by rw [bcells_length, List.length_drop])
    obtain ⟨x7, hx7, h7, h7b⟩ := slice_frontN 2 undB sizeB hrow (by unfold maxLen; omega) (i := i) (by omega)
    obtain ⟨x15, hx15, h15, h15b⟩ := slice_backN 2 undB sizeB hrow (by unfold maxLen; omega) (i := i + 1) (by omega)
    rw [bcells_take] at h7
    rw [bcells_drop] at h15
    have hwr : IntKind.i64.wrap ((i : Int) + 1) = ((i + 1 : Nat) : Int) := by rw [IntWalk.i64_in _ (by omega)]; omega
    rw [← hwr] at hx15
    have HX7 := Lib.hid hx7; have H7 := Lib.hid h7; have HX15 := Lib.hid hx15; have H15 := Lib.hid h15
    have HX7B : Hid (∀ a c, x7 = .slice (some a) i c → a.block < w1.heap.size) := Lib.hid (fun a c e => rowS_lt hrow _ (h7b a c e))
    have HX15B : Hid (∀ a c, x15 = .slice (some a) (Z.length - (i + 1)) c → a.block < w1.heap.size) := Lib.hid (fun a c e => rowS_lt hrow _ (h15b a c e))
    clear hrow hx7 h7 hx15 h15 h7b h15b hb1 AT h1 hwr
    go_upto_region 4 with (fail)
    refine region_held (S := (fun w' : World => w'.cell? ⟨r, 0, none⟩ = some (.slice va Z.length vc))) (k := 19) (by kernel_rfl) (KR.out _ (Below.refl _ _).drew) (fun hHeld => ?_)
    refine held_take (i := 0) (v := ?_) rfl (by kernel_rfl) (by kernel_rfl) (by kernel_rfl) (by kernel_rfl) (fun _ _ _ h => h) (Or.inl ⟨by rfl, ?d0⟩) hHeld ?_
    case d0 =>
      intro wS hSw
      have k0 := hSw
      go_simp
      try with_reducible rfl
    try simp only [Act.put, List.getElem_toArray, List.getElem_cons_zero, List.getElem_cons_succ, List.setIfInBounds_toArray, List.set_cons_zero, List.set_cons_succ]
    refine held_take (i := 2) (v := ?_) rfl (by kernel_rfl) (by kernel_rfl) (by kernel_rfl) (by kernel_rfl) (fun _ _ _ h => h) (Or.inl ⟨by rfl, ?d1⟩) hHeld ?_
    case d1 =>
      intro wS hSw
      have k0 := hSw
      go_simp
      try with_reducible rfl
    try simp only [Act.put, List.getElem_toArray, List.getElem_cons_zero, List.getElem_cons_succ, List.setIfInBounds_toArray, List.set_cons_zero, List.set_cons_succ]
    refine held_take (i := 3) (v := ?_) rfl (by kernel_rfl) (by kernel_rfl) (by kernel_rfl) (by kernel_rfl) (fun _ _ _ h => h) (Or.inl ⟨by rfl, ?d2⟩) hHeld ?_
    case d2 =>
      intro wS hSw
      have k0 := hSw
      go_simp
      try with_reducible rfl
    try simp only [Act.put, List.getElem_toArray, List.getElem_cons_zero, List.getElem_cons_succ, List.setIfInBounds_toArray, List.set_cons_zero, List.set_cons_succ]
    refine held_take (i := 4) (v := ?_) rfl (by kernel_rfl) (by kernel_rfl) (by kernel_rfl) (by kernel_rfl) (fun _ _ _ h => h) (Or.inl ⟨by rfl, ?d3⟩) hHeld ?_
    case d3 =>
      intro wS hSw
      have k0 := hSw
      go_simp
      try with_reducible rfl
    try simp only [Act.put, List.getElem_toArray, List.getElem_cons_zero, List.getElem_cons_succ, List.setIfInBounds_toArray, List.set_cons_zero, List.set_cons_succ]
    refine held_take (i := 5) (v := ?_) rfl (by kernel_rfl) (by kernel_rfl) (by kernel_rfl) (by kernel_rfl) (fun _ _ _ h => h) (Or.inl ⟨by rfl, ?d4⟩) hHeld ?_
    case d4 =>
      intro wS hSw
      have k0 := hSw
      go_simp
      try with_reducible rfl
    try simp only [Act.put, List.getElem_toArray, List.getElem_cons_zero, List.getElem_cons_succ, List.setIfInBounds_toArray, List.set_cons_zero, List.set_cons_succ]
    refine held_take (i := 6) (v := ?_) rfl (by kernel_rfl) (by kernel_rfl) (by kernel_rfl) (by kernel_rfl) (fun _ _ _ h => h) (Or.inl ⟨by rfl, ?d5⟩) hHeld ?_
    case d5 =>
      intro wS hSw
      have k0 := hSw
      go_simp
      try with_reducible rfl
    try simp only [Act.put, List.getElem_toArray, List.getElem_cons_zero, List.getElem_cons_succ, List.setIfInBounds_toArray, List.set_cons_zero, List.set_cons_succ]
    refine held_take (i := 7) (v := x7) rfl (by kernel_rfl) (by kernel_rfl) (by kernel_rfl) (by kernel_rfl) (fun _ _ _ h => h) (Or.inl ⟨by rfl, ?d6⟩) hHeld ?_
    case d6 =>
      intro wS hSw
      refine exec_sliceN 34 (.tmp 16) none (some (.tmp 17)) (.slice va Z.length vc) x7 none (some (.int .i64 (i : Int))) undB ?_ ?_ ?_ ?_ (HX7.out wS)
      all_goals first | rfl | kernel_rfl
    try simp only [Act.put, List.getElem_toArray, List.getElem_cons_zero, List.getElem_cons_succ, List.setIfInBounds_toArray, List.set_cons_zero, List.set_cons_succ]
    refine held_take (i := 9) (v := ?_) rfl (by kernel_rfl) (by kernel_rfl) (by kernel_rfl) (by kernel_rfl) (fun _ _ _ h => h) (Or.inl ⟨by rfl, ?d7⟩) hHeld ?_
    case d7 =>
      intro wS hSw
      have k0 := hSw
      go_simp
      try with_reducible rfl
    try simp only [Act.put, List.getElem_toArray, List.getElem_cons_zero, List.getElem_cons_succ, List.setIfInBounds_toArray, List.set_cons_zero, List.set_cons_succ]
    refine held_take (i := 10) (v := ?_) rfl (by kernel_rfl) (by kernel_rfl) (by kernel_rfl) (by kernel_rfl) (fun _ _ _ h => h) (Or.inl ⟨by rfl, ?d8⟩) hHeld ?_
    case d8 =>
      intro wS hSw
      have k0 := hSw
      go_simp
      try with_reducible rfl
    try simp only [Act.put, List.getElem_toArray, List.getElem_cons_zero, List.getElem_cons_succ, List.setIfInBounds_toArray, List.set_cons_zero, List.set_cons_succ]
    refine held_take (i := 11) (v := ?_) rfl (by kernel_rfl) (by kernel_rfl) (by kernel_rfl) (by kernel_rfl) (fun _ _ _ h => h) (Or.inl ⟨by rfl, ?d9⟩) hHeld ?_
    case d9 =>
      intro wS hSw
      have k0 := hSw
      go_simp
      try with_reducible rfl
    try simp only [Act.put, List.getElem_toArray, List.getElem_cons_zero, List.getElem_cons_succ, List.setIfInBounds_toArray, List.set_cons_zero, List.set_cons_succ]
    refine held_take (i := 12) (v := ?_) rfl (by kernel_rfl) (by kernel_rfl) (by kernel_rfl) (by kernel_rfl) (fun _ _ _ h => h) (Or.inl ⟨by rfl, ?d10⟩) hHeld ?_
    case d10 =>
      intro wS hSw
      have k0 := hSw
      go_simp
      try with_reducible rfl
    try simp only [Act.put, List.getElem_toArray, List.getElem_cons_zero, List.getElem_cons_succ, List.setIfInBounds_toArray, List.set_cons_zero, List.set_cons_succ]
    refine held_take (i := 13) (v := ?_) rfl (by kernel_rfl) (by kernel_rfl) (by kernel_rfl) (by kernel_rfl) (fun _ _ _ h => h) (Or.inl ⟨by rfl, ?d11⟩) hHeld ?_
    case d11 =>
      intro wS hSw
      have k0 := hSw
      go_simp
      try with_reducible rfl
    try simp only [Act.put, List.getElem_toArray, List.getElem_cons_zero, List.getElem_cons_succ, List.setIfInBounds_toArray, List.set_cons_zero, List.set_cons_succ]
    refine held_take (i := 14) (v := ?_) rfl (by kernel_rfl) (by kernel_rfl) (by kernel_rfl) (by kernel_rfl) (fun _ _ _ h => h) (Or.inl ⟨by rfl, ?d12⟩) hHeld ?_
    case d12 =>
      intro wS hSw
      have k0 := hSw
      go_simp
      try with_reducible rfl
    try simp only [Act.put, List.getElem_toArray, List.getElem_cons_zero, List.getElem_cons_succ, List.setIfInBounds_toArray, List.set_cons_zero, List.set_cons_succ]
    refine held_take (i := 15) (v := x15) rfl (by kernel_rfl) (by kernel_rfl) (by kernel_rfl) (by kernel_rfl) (fun _ _ _ h => h) (Or.inl ⟨by rfl, ?d13⟩) hHeld ?_
    case d13 =>
      intro wS hSw
      refine exec_sliceN 34 (.tmp 23) (some (.tmp 25)) none (.slice va Z.length vc) x15 (some (.int .i64 (IntKind.i64.wrap ((i : Int) + 1)))) none undB ?_ ?_ ?_ ?_ (HX15.out wS)
      all_goals first | rfl | kernel_rfl
    try simp only [Act.put, List.getElem_toArray, List.getElem_cons_zero, List.getElem_cons_succ, List.setIfInBounds_toArray, List.set_cons_zero, List.set_cons_succ]
    refine held_ready (rs := [1]) (by kernel_rfl) (by simp) ?_
    refine AllHeld.cons rfl (fun K hK => ?_) AllHeld.nil
    refine step_wp rfl ?_
    refine wp_noneN 2 34 113 i0 _ rfl Tryz.underlying34 hi0 hz0 hz1 ?_
    intro x1 wa ho1 hg1 hx1
    have hx1 : ∀ b, x1.ownBlock = some b → b = w1.heap.size := hx1
    have HBwa : Hid (Below w1.heap.size w1 wa) := Lib.hid ((Below.refl w1.heap.size w1).drew.grown hg1 (Below.refl w1.heap.size w1).drew.size (fun k hk => nomatch hk))
    have ka := KR.out wa HBwa.out
    have ho1 : wa.ownsRow w1.heap.size 113 2 x1 0 [] := row_mono ho1 (Below.refl w1.heap.size w1).drew.size
    refine hK.out _ _ (fun _ => ka) (fun hHeld => ?_)
    clear hK K
    have hHeld := hHeld (by decide)
    try simp only [Act.put, List.getElem_toArray, List.getElem_cons_zero, List.getElem_cons_succ, List.setIfInBounds_toArray, List.set_cons_zero, List.set_cons_succ]
    refine held_ready (rs := [8]) (by kernel_rfl) (by simp) ?_
    refine AllHeld.cons rfl (fun K hK => ?_) AllHeld.nil
    refine step_wp rfl ?_
    refine wp_append_holdN 2 (by decide) (.tmp 12) (.tmp 18) 34 rfl w1.heap.size 113 i0 _ 40 Tryz.underlying34 hi0 hz0 hz1 hz2 hz3 x1 0 [] ?ap ho1 x7 i (bcells (Z.take i)) ?bp (H7.out.kept (fun a c e _ => HBwa.out.block _ (HX7B.out a c e))) ?cp ?dp ?ep ?fp ?gp ?hp
    case ap => rfl
    case bp => rfl
    case cp => exact HL1.out
    case dp => exact br_one HON.out HM1.out
    case ep => unfold maxLen; omega
    case fp => omega
    case gp => exact HBwa.out.size
    intro x8 wb ho8 hg8 hx8
    have HBB : Hid (Below w1.heap.size w1 wb) := Lib.hid (HBwa.out.grown hg8 HBwa.out.size (fun k hk => rowS_ge ho1 k (by simp [ob, hk])))
    have ka := KR.out wb HBB.out
    refine hK.out _ _ (fun _ => ka) (fun hHeld => ?_)
    clear hK K
    have hHeld := hHeld (by decide)
    try simp only [Act.put, List.getElem_toArray, List.getElem_cons_zero, List.getElem_cons_succ, List.setIfInBounds_toArray, List.set_cons_zero, List.set_cons_succ]
    refine held_ready (rs := [16]) (by kernel_rfl) (by simp) ?_
    refine AllHeld.cons rfl (fun K hK => ?_) AllHeld.nil
    refine step_wp rfl ?_
    refine wp_append_holdN 2 (by decide) (.tmp 19) (.tmp 26) 34 rfl w1.heap.size 113 i0 _ 40 Tryz.underlying34 hi0 hz0 hz1 hz2 hz3 x8 (0 + i) ([] ++ bcells (Z.take i)) ?aq ho8 x15 (Z.length - (i + 1)) (bcells (Z.drop (i + 1))) ?bq (H15.out.kept (fun a c e _ => HBB.out.block _ (HX15B.out a c e))) ?cq ?dq ?eq ?fq ?gq ?hq
    case aq => rfl
    case bq => rfl
    case cq => exact HL2.out
    case dq => exact br_one HON.out HM2.out
    case eq => unfold maxLen; omega
    case fq => omega
    case gq => exact HBB.out.size
    intro x16 wc ho16 hg16 hx16
    have HBC : Hid (Below w1.heap.size w1 wc) := Lib.hid (HBB.out.grown hg16 HBB.out.size (fun k hk => rowS_ge ho8 k (by simp [ob, hk])))
    rw [Nat.zero_add, List.nil_append, ← bcells_append] at ho16
    obtain ⟨a16, c16, rfl⟩ := rowS_slice ho16
    have ka := KR.out wc HBC.out
    have kf : wc.frozen? ⟨r, 0, none⟩ = false := KF.out wc HBC.out
    refine hK.out _ _ (fun _ => ka) (fun hHeld => ?_)
    clear hK K
    have hHeld := hHeld (by decide)
    try simp only [Act.put, List.getElem_toArray, List.getElem_cons_zero, List.getElem_cons_succ, List.setIfInBounds_toArray, List.set_cons_zero, List.set_cons_succ]
    refine held_ready (rs := [17]) (by kernel_rfl) (by simp) ?_
    refine AllHeld.cons rfl (fun K hK => ?_) AllHeld.nil
    go_simp
    refine hK.out _ _ (fun _ => ka) (fun hHeld => ?_)
    clear hK K
    have hHeld := hHeld (by decide)
    try simp only [Act.put, List.getElem_toArray, List.getElem_cons_zero, List.getElem_cons_succ, List.setIfInBounds_toArray, List.set_cons_zero, List.set_cons_succ]
    refine held_ready (rs := [18]) (by kernel_rfl) (by simp) ?_
    refine AllHeld.cons rfl (fun K hK => ?_) AllHeld.nil
    go_simp
    refine hK.out _ _ (fun _ => ka) (fun hHeld => ?_)
    clear hK K
    have hHeld := hHeld (by decide)
    try simp only [Act.put, List.getElem_toArray, List.getElem_cons_zero, List.getElem_cons_succ, List.setIfInBounds_toArray, List.set_cons_zero, List.set_cons_succ]
    refine held_ready (rs := [19]) (by kernel_rfl) (by simp) ?_
    refine AllHeld.cons rfl (fun K hK => ?_) AllHeld.nil
    go_simp
    refine hK.out _ _ (fun h => absurd rfl h) (fun _ => ?_)
    clear hK K
    try simp only [Act.put, List.getElem_toArray, List.getElem_cons_zero, List.getElem_cons_succ, List.setIfInBounds_toArray, List.set_cons_zero, List.set_cons_succ]
    refine held_done (by kernel_rfl) ?_ _
    clear hHeld
    try simp only [Act.put, List.getElem_toArray, List.getElem_cons_zero, List.getElem_cons_succ, List.setIfInBounds_toArray, List.set_cons_zero, List.set_cons_succ]
    go_wp2
    go_ret
    rw [HR.out]
    exact rbPost_del H.out (HB1.out.trans (HBC.out.mono HB1.out.size)) HAT.out rfl (row_mono ho16 HB1.out.size)
end Go.Proofs.YtkeegnhjemhblaaGreatDoor.Rb
/-
  The contract of the reference's Less (names of 32 bytes).
-/
namespace Go.Proofs.YtkeegnhjemhblaaGreatDoor.Rb
open Go.RowKit Go.Maps Go.WideMaps Go.Proofs.YtkeegnhjemhblaaGreatDoor.Rf

theorem lt_at : ∀ (a b : List UInt8) (i : Nat) (x y : UInt8), a.take i = b.take i → a[i]? = some x → b[i]? = some y → x ≠ y → lt a b = decide (x < y)
  | [], _, _, _, _, _, h, _, _ => by simp at h
  | _ :: _, [], _, _, _, _, _, h, _ => by simp at h
  | u :: r, v :: s, 0, x, y, _, ha, hb, hn => by
    simp at ha hb
    subst ha hb
    show (decide (u < v) || (u == v && lt r s)) = _
    have : (u == v) = false := by simpa using hn
    rw [this]; simp
  | u :: r, v :: s, i + 1, x, y, ht, ha, hb, hn => by
    simp at ht ha hb
    obtain ⟨rfl, ht⟩ := ht
    show (decide (u < u) || (u == u && lt r s)) = _
    rw [lt_at r s i x y ht ha hb hn]
    simp
theorem u8_ne {x y : UInt8} (h : x ≠ y) : ¬ ((x.toNat : Int) = (y.toNat : Int)) := fun e => h (UInt8.toNat_inj.1 (by omega))
theorem u8_lt (x y : UInt8) : decide (x.toNat < y.toNat) = decide (x < y) := by
  simp [UInt8.lt_iff_toNat_lt]
set_option linter.unusedSimpArgs false in
set_option maxHeartbeats 4000000 in
set_option maxRecDepth 100000 in
theorem rless_any (w : World) (a b : List UInt8) (ha : a.length = 32) (hb : b.length = 32) :
    Calls Tryz.prog 154 #[.agg (Lib.byteCells a).toArray, .agg (Lib.byteCells b).toArray] w fun e w' => e = .returned (.bool (lt a b)) ∧ Below w.heap.size w w' := by
  obtain ⟨W, hW⟩ : ∃ W, W = (w.alloc (.cells (Lib.byteCells a).toArray 81)).alloc (.cells (Lib.byteCells b).toArray 81) := ⟨_, rfl⟩
  have hb1 : Below w.heap.size w (w.alloc (.cells (Lib.byteCells a).toArray 81)) := (Below.refl _ _).alloc (Nat.le_refl _) _
  have hs1 : (w.alloc (.cells (Lib.byteCells a).toArray 81)).heap.size = w.heap.size + 1 := Array.size_push _
  have HB0 : Hid (Below w.heap.size w W) := Lib.hid (by rw [hW]; exact hb1.alloc hb1.size _)
  have hqa : W.heap[w.heap.size]? = some (.cells (Lib.byteCells a).toArray 81) := by
    rw [hW]
    exact (((Below.refl (w.alloc (.cells (Lib.byteCells a).toArray 81)).heap.size _).alloc (Nat.le_refl _) _).block _ (by omega)).trans (MapKept.heap_alloc w _).1
  have hqb : W.heap[w.heap.size + 1]? = some (.cells (Lib.byteCells b).toArray 81) := by
    rw [hW, ← hs1]; exact (MapKept.heap_alloc _ _).1
  have KA : Hid (∀ w' : World, Below W.heap.size W w' → ∀ (i : Nat) x y, a[i]? = some x → b[i]? = some y → w'.cell? ⟨w.heap.size, i, none⟩ = some (.int .u8 (x.toNat : Int)) ∧ w'.cell? ⟨w.heap.size + 1, i, none⟩ = some (.int .u8 (y.toNat : Int))) := Lib.hid (fun w' hb i x y hx hy => by
    refine ⟨?_, ?_⟩
    · rw [cell_of_heap ((hb.block _ (lt_of_heap hqa)).trans hqa), List.getElem?_toArray, Lib.byteCells, List.getElem?_map, hx]; rfl
    · rw [cell_of_heap ((hb.block _ (lt_of_heap hqb)).trans hqb), List.getElem?_toArray, Lib.byteCells, List.getElem?_map, hy]; rfl)
  have HW := Lib.hid hW; have HA := Lib.hid ha; have HBL := Lib.hid hb
  clear hb1 hqa hqb hW ha hb
  go_enter Tryz.func154, Tryz.ntmps154
  go_wp2
  rw [← HW.out]
  try rw [hs1]
  clear hs1
  go_loopw [5] (fun v5 ws => ∃ i : Nat, i ≤ 32 ∧ v5 = .int .i64 (i : Int) ∧ Hid (Below W.heap.size W ws) ∧ Hid (a.take i = b.take i)) (fun v5 _ => 32 - (RowKit.intOf v5).toNat)
  case atStart => exact ⟨0, Nat.zero_le _, rfl, Lib.hid (Below.refl _ _), Lib.hid (by simp)⟩
  case round =>
    obtain ⟨i, hi, rfl, HB, HT⟩ := hrel
    by_cases hin : (i : Int) < 32
    · obtain ⟨x, hx⟩ : ∃ x, a[i]? = some x := ⟨_, List.getElem?_eq_getElem (by rw [HA.out]; omega)⟩
      obtain ⟨y, hy⟩ : ∃ y, b[i]? = some y := ⟨_, List.getElem?_eq_getElem (by rw [HBL.out]; omega)⟩
      obtain ⟨z0, z1⟩ := KA.out wr HB.out i x y hx hy
      have h0 : (0 : Int) ≤ (i : Int) := by omega
      by_cases hxy : x = y
      · subst hxy
        have HX := Lib.hid hx; have HY := Lib.hid hy
        clear hx hy
        go_wp2_with (first | go_region | fail)
        go_roundw
        case rel => exact ⟨i + 1, by omega, by go_num, Lib.hid (HB.out.drew), Lib.hid (by rw [List.take_add_one, List.take_add_one, HX.out, HY.out, HT.out])⟩
        case measure => simp [RowKit.intOf]; omega
      · have HLT : Hid (lt a b = decide (x.toNat < y.toNat)) := Lib.hid (by rw [u8_lt]; exact lt_at a b i x y HT.out hx hy hxy)
        have hne := u8_ne hxy
        clear hx hy hxy
        go_wp2_with (first | go_region | fail)
        go_ret
        rw [HLT.out]
        exact ⟨rfl, HB0.out.trans ((HB.out.drew).drew.mono HB0.out.size)⟩
    · obtain rfl : i = 32 := by omega
      have HLT : Hid (lt a b = false) := Lib.hid (by
        have h1 := HT.out
        rw [List.take_of_length_le (by rw [HA.out]; exact Nat.le_refl _), List.take_of_length_le (by rw [HBL.out]; exact Nat.le_refl _)] at h1
        rw [h1, lt_irr])
      go_wp2
      go_ret
      rw [HLT.out]
      exact ⟨rfl, HB0.out.trans (HB.out.mono HB0.out.size)⟩
end Go.Proofs.YtkeegnhjemhblaaGreatDoor.Rb
