import Derived.Test.YtnkapojbijbbaaaGreatDoorZPZz
import Derived.Test.YtnkapojbijbbaaaGreatDoorZPStEncode
import Derived.Test.YtnkapojbijbbaaaGreatDoorZPStSet
set_option linter.unusedSimpArgs false
set_option linter.unusedVariables false
set_option maxHeartbeats 8000000
set_option maxRecDepth 100000
namespace Go.Proofs.YtnkapojbijbbaaaGreatDoor.St
open Go.RowKit Go.Maps Go.WideMaps Rf Rd
theorem ref_set (B : Nat) (w : World) (hT : Nm.Tabs w) (r : Nat) (v : Value) (L : List SE) (e : SE) (he : e.Fits) (h : RefAt B w r v L) :
 Calls Tryz.prog 14 #[ptr r, enV e] w (RxPost B w r v (setX e L).1 (setX e L).2) := by
 obtain ⟨W, hW⟩ : ∃ W, W = w.alloc (.cells e.cells.toArray 55) := ⟨_, rfl⟩
 have hb0 : Below w.heap.size w W := by rw [hW]; exact (Below.refl _ _).alloc (Nat.le_refl _) _
 have hq0 : W.heap[w.heap.size]? = some (.cells e.cells.toArray 55) := by rw [hW]; exact (MapKept.heap_alloc w _).1
 have h0 := h.below hb0
 have MY := Lib.hid (ref_may W (hT.below hb0) e he)
 have EOK := Lib.hid he.enR
 have HE38 : Hid (e.cells.length = 1 * 38) := Lib.hid (by rw [cells_size he.id])
 have hr0 : Hid ((w.alloc (.cells e.cells.toArray 55)).rangeAt w.heap.size 0 e.cells) := Lib.hid (by rw [← hW]; exact range_block hq0)
 have HB0 := Lib.hid hb0; have HQ0 := Lib.hid hq0; have H := Lib.hid h0; have HE := Lib.hid he; have H0 := Lib.hid h
 have hll : L.length ≤ 65536 := h.len
 have ATX : Hid (∀ W' : World, Below w.heap.size w W' → Calls Tryz.prog 39 #[ptr r, .string ⟨e.path.toArray⟩] W' fun x w' => x = .returned (.tuple #[.int .i64 (atL e.path L : Int), .bool (thereL e.path L)]) ∧ Below W'.heap.size W' w') := Lib.hid (fun W' hb => at_any B W' r v L e.path (by have := he.path; unfold maxLen; omega) (h.below hb))
 clear hb0 hq0 h0 h he
 obtain ⟨R, hR⟩ : ∃ R, R = setX e L := ⟨_, rfl⟩
 have HR : Hid (R = if mayN e ≠ 0 then (mayN e, L) else if (getL e.path L).isSome = false ∧ 65536 ≤ L.length then (3, L) else (0, insL e L)) := Lib.hid hR
 rw [← hR]
 clear hR
 unfold ptr at *
 generalize mayN e = my at *
 go_enter Tryz.func14, Tryz.ntmps14
 go_wp2_with (first
  | (refine wpList_load_mid rfl _ _ rfl w.heap.size 0 rfl e.cells _ hr0.out Tryz.underlying55 rfl EOK.out.infoL ?_)
  | fail)
 change Calls _ _ _ (w.alloc (.cells e.cells.toArray 55)) _
 rw [← hW]
 refine MY.out.mono ?_
 rintro x w0 ⟨rfl, hb1⟩
 have HBZ := Lib.hid (HB0.out.trans (hb1.mono HB0.out.size))
 have hq1 := (hb1.block _ (lt_of_heap HQ0.out)).trans HQ0.out
 have HQ1 := Lib.hid hq1
 have c1 : w0.cell? ⟨w.heap.size, 0, none⟩ = some (.string ⟨e.path.toArray⟩) := by rw [cell_of_heap hq1]; rfl
 clear MY hb1 hr0 hW hq1
 by_cases hm0 : my = 0
 · subst hm0
   have HR2 : Hid (R = if (getL e.path L).isSome = false ∧ 65536 ≤ L.length then (3, L) else (0, insL e L)) := Lib.hid (by rw [HR.out, if_neg (by simp)])
   clear HR
   have AT := Lib.hid (ATX.out w0 HBZ.out)
   go_wp2_with fail
   refine AT.out.mono ?_
   rintro x w1 ⟨rfl, hb1⟩
   have HB1 := Lib.hid (HBZ.out.trans (hb1.mono HBZ.out.size))
   have h1 := H0.out.below HB1.out
   have hqq := (hb1.block _ (lt_of_heap HQ1.out)).trans HQ1.out
   have KR : Hid (∀ w' : World, Below w1.heap.size w1 w' → w'.cell? ⟨r, 0, none⟩ = some v ∧ w'.rangeAt w.heap.size 0 e.cells) := Lib.hid (fun w' hb => ⟨by rw [cell_of_heap (h1.below hb).book]; rfl, range_block ((hb.block _ (lt_of_heap hqq)).trans hqq)⟩)
   have KF : Hid (∀ w' : World, Below w1.heap.size w1 w' → w'.frozen? ⟨r, 0, none⟩ = false) := Lib.hid (fun w' hb => frozen_of_heap (h1.below hb).book)
   have HSR : Hid (Srt (insL e L)) := Lib.hid (insL_srt e H0.out.srt)
   have HFT : Hid (∀ x ∈ insL e L, x.Fits) := Lib.hid (fun x hx => by rcases mem_insL hx with rfl | hx; exact HE.out; exact H0.out.fits x hx)
   have hle := atL_le e.path L
   cases hg : getL e.path L with
   | some en =>
     have hat := getL_at e.path L
     rw [hg] at hat
     obtain ⟨x, hx, hx2⟩ := Option.bind_eq_some_iff.1 hat.symm
     have hxp : x.path = e.path := by
      split at hx2
      · assumption
      · cases hx2
     have hil : atL e.path L < L.length := (List.getElem?_eq_some_iff.1 hx).1
     have HIN : Hid (insL e L = L.set (atL e.path L) e) := Lib.hid (insL_there hx hxp)
     have hth : thereL e.path L = true := by rw [thereL, hg]; rfl
     have HRS : Hid (R = (0, insL e L)) := Lib.hid (by rw [HR2.out, hg, if_neg (by simp)])
     rw [hth]
     obtain ⟨ge, cap, hv, hgl, hgB, _, _⟩ := rowS_form h1.row (by omega)
     subst hv
     have RS := Lib.hid (row_set (row_mono h1.row (Nat.le_refl _)) rfl (fitsId h1.fits) hil HE.out.id)
     have H1 := Lib.hid h1
     have HGL := Lib.hid hgl
     have HNE : Hid (ge ≠ r) := Lib.hid (h1.off ge (by simp [ob, Value.ownBlock]))
     have HTH : Hid (w1.drew.there ge (atL e.path L * 38) 38) := Lib.hid (RS.out.2)
     have hil2 : (atL e.path L : Int) < (L.length : Int) := by omega
     generalize atL e.path L = ia at *
     clear hg hat hx hx2 hxp hth h1 hqq hb1 AT ATX hgl HR2
     go_wp2
     refine region_held (S := (fun w' : World => w'.cell? ⟨r, 0, none⟩ = some (.slice (some ⟨ge, 0, none⟩) L.length cap) ∧ w'.rangeAt w.heap.size 0 e.cells)) (k := 7) (by kernel_rfl) (KR.out _ (Below.refl _ _).drew) (fun hHeld => ?_)
     refine held_take (i := 0) (v := ?_) rfl (by kernel_rfl) (by kernel_rfl) (by kernel_rfl) (by kernel_rfl) (fun _ _ _ h => h) (Or.inl ⟨by rfl, ?g0⟩) hHeld ?_
     case g0 => intro wS hSw; have k0 := hSw.1; clear hSw; go_simp; try with_reducible rfl
     try simp only [Act.put, zA, zB, zC, zD, zE, zF]
     refine held_take (i := 1) (v := ?_) rfl (by kernel_rfl) (by kernel_rfl) (by kernel_rfl) (by kernel_rfl) (fun _ _ _ h => h) (Or.inl ⟨by rfl, ?g1⟩) hHeld ?_
     case g1 => intro wS hSw; have k0 := hSw.1; clear hSw; go_simp; try with_reducible rfl
     try simp only [Act.put, zA, zB, zC, zD, zE, zF]
     refine held_take (i := 2) (v := ?_) rfl (by kernel_rfl) (by kernel_rfl) (by kernel_rfl) (by kernel_rfl) (fun _ _ _ h => h) (Or.inl ⟨by rfl, ?g2⟩) hHeld ?_
     case g2 => intro wS hSw; have k0 := hSw.1; clear hSw; go_simp; try with_reducible rfl
     try simp only [Act.put, zA, zB, zC, zD, zE, zF]
     refine held_take (i := 3) (v := ?_) rfl (by kernel_rfl) (by kernel_rfl) (by kernel_rfl) (by kernel_rfl) (fun _ _ _ h => h) (Or.inl ⟨by rfl, ?g3⟩) hHeld ?_
     case g3 => intro wS hSw; have k0 := hSw.1; clear hSw; go_simp; try with_reducible rfl
     try simp only [Act.put, zA, zB, zC, zD, zE, zF]
     refine held_take (i := 4) (v := ?_) rfl (by kernel_rfl) (by kernel_rfl) (by kernel_rfl) (by kernel_rfl) (fun _ _ _ h => h) (Or.inl ⟨by rfl, ?g4⟩) hHeld ?_
     case g4 => intro wS hSw; have k0 := hSw.1; clear hSw; go_simp; try with_reducible rfl
     try simp only [Act.put, zA, zB, zC, zD, zE, zF]
     refine' held_take (i := 5) (v := _) rfl (by kernel_rfl) (by kernel_rfl) (by kernel_rfl) (by kernel_rfl) (fun _ _ _ h => h) (yieldsIf_load_mid (by rfl) _ _ rfl w.heap.size 0 rfl e.cells _ ?g5S ?g5u ?g5d ?g5i) hHeld ?g5x
     case g5S => intro wS hSw; exact hSw.2
     case g5u => exact Tryz.underlying55
     case g5d => rfl
     case g5i => exact EOK.out.infoL
     try simp only [Act.put, zA, zB, zC, zD, zE, zF]
     refine held_take (i := 6) (v := ?_) rfl (by kernel_rfl) (by kernel_rfl) (by kernel_rfl) (by kernel_rfl) (fun _ _ _ h => h) (Or.inl ⟨by rfl, ?g6⟩) hHeld ?_
     case g6 => intro wS hSw; have k0 := hSw.1; clear hSw; go_simp; try with_reducible rfl
     try simp only [Act.put, zA, zB, zC, zD, zE, zF]
     refine held_ready (rs := [7]) (by kernel_rfl) (by simp) ?_
     refine AllHeld.cons rfl (fun K hK => ?_) AllHeld.nil
     refine step_wp rfl ?_
     refine wp_store_mid 55 _ _ rfl ge (ia * 38) e.cells.toArray ?sa ?sb ?sc EOK.out.info EOK.out.one ?sd
     case sa => rfl
     case sb => rfl
     case sc => rw [← EOK.out.z]; exact HTH.out
     refine hK.out _ _ (fun h => absurd rfl h) (fun _ => ?_)
     clear hK K
     try simp only [Act.put, zA, zB, zC, zD, zE, zF]
     refine held_done (by kernel_rfl) ?_ _
     clear hHeld
     try simp only [Act.put, zA, zB, zC, zD, zE, zF]
     go_wp2
     go_ret
     rw [HRS.out]
     have ht := turn_setCells w1.drew ge (ia * 38) e.cells
     have hrow : (w1.drew.setCells ge (ia * 38) e.cells).ownsRow B 55 38 (.slice (some ⟨ge, 0, none⟩) L.length cap) L.length (cellsS (L.set ia e)) := (row_set (rowS_kept (w' := w1.drew) H1.out.row (fun _ _ _ => rfl)) rfl (fitsId H1.out.fits) (by omega) HE.out.id).1
     refine ⟨_, rfl, ⟨?_, ?_, H1.out.off, H1.out.base, HSR.out, HFT.out, by rw [HIN.out, List.length_set]; exact hll⟩, ?_, fun y hy => .inl hy⟩
     · exact (ht.block r H1.out.lt (by have := HNE.out; simp; omega)).trans H1.out.book
     · rw [HIN.out, List.length_set]; exact hrow
     · exact ((Turn.of_below HB1.out.drew : Turn (r :: ob _) w w1.drew)).trans ht (fun y hy => by simp at hy; subst hy; exact .inl (by simp [ob, Value.ownBlock]))
   | none =>
     have hth : thereL e.path L = false := by rw [thereL, hg]; rfl
     rw [hth]
     have HIN : Hid (insL e L = L.take (atL e.path L) ++ e :: L.drop (atL e.path L)) := Lib.hid (insL_new hg)
     obtain ⟨va, vc, rfl⟩ := rowS_slice h1.row
     have kr1 := (KR.out w1 (Below.refl _ _)).1
     have HVV : Hid (∃ vv : Value, vv = .slice va L.length vc) := Lib.hid ⟨_, rfl⟩
     by_cases hfull : 65536 ≤ L.length
     · have HRS : Hid (R = (3, L)) := Lib.hid (by rw [HR2.out, hg, if_pos ⟨rfl, hfull⟩])
       have hfi : (65536 : Int) ≤ (L.length : Int) := by omega
       clear hg hth h1 hqq hb1 AT ATX HR2 hfull
       go_wp2
       go_ret
       rw [HRS.out]
       exact rxPost_same H0.out rfl HB1.out
     · have HRS : Hid (R = (0, insL e L)) := Lib.hid (by rw [HR2.out, hg, if_neg (fun h => hfull h.2)])
       have HFI : Hid (decide ((65536 : Int) ≤ (L.length : Int)) = false) := Lib.hid (by rw [decide_eq_false_iff_not]; omega)
       have HLN : Hid ((insL e L).length ≤ 65536) := Lib.hid (by have := insL_length_le e L; omega)
       obtain ⟨x7, hx7, hh7, hxb7⟩ := slice_front h1 hle
       obtain ⟨x17, hx17, hh17, hxb17⟩ := slice_back h1 hle
       have HX7 := Lib.hid hx7; have H7 := Lib.hid hh7; have HX17 := Lib.hid hx17; have H17 := Lib.hid hh17
       have HX7B := Lib.hid (fun a c e => rowS_lt h1.row _ (hxb7 a c e))
       have HX17B := Lib.hid (fun a c e => rowS_lt h1.row _ (hxb17 a c e))
       have HL1 := Lib.hid (show (cellsS (L.take (atL e.path L))).length = atL e.path L * 38 by rw [cellsS_length (fun e he => (h1.fits e (List.mem_of_mem_take he)).id), List.length_take, Nat.min_eq_left hle, Nat.mul_comm])
       have HL2 := Lib.hid (show (cellsS (L.drop (atL e.path L))).length = (L.length - atL e.path L) * 38 by rw [cellsS_length (fun e he => (h1.fits e (List.mem_of_mem_drop he)).id), List.length_drop, Nat.mul_comm])
       have HLE : Hid ((insL e L).length = atL e.path L + 1 + (L.length - atL e.path L)) := Lib.hid (by rw [HIN.out, List.length_append, List.length_take, List.length_cons, List.length_drop]; omega)
       have HCE : Hid (cellsS (insL e L) = [] ++ cellsS (L.take (atL e.path L)) ++ e.cells ++ cellsS (L.drop (atL e.path L))) := Lib.hid (by rw [HIN.out, cellsS_append, cellsS_cons, List.nil_append, List.append_assoc])
       obtain ⟨i0, hi0, hz0, hz1, hz2⟩ := info_parts infoZR
       have hz3 : (enV zeroS).cells.size = 38 := by kernel_rfl
       generalize atL e.path L = ia at *
       clear hg hth h1 hqq hb1 AT ATX HR2 hfull hx7 hh7 hxb7 hx17 hh17 hxb17 HIN
       have hfi := HFI.out
       go_wp2
       refine region_held (S := (fun w' : World => w'.cell? ⟨r, 0, none⟩ = some (.slice va L.length vc) ∧ w'.rangeAt w.heap.size 0 e.cells)) (k := 21) (by kernel_rfl) (KR.out _ (Below.refl _ _).drew) (fun hHeld => ?_)
       refine held_take (i := 0) (v := ?_) rfl (by kernel_rfl) (by kernel_rfl) (by kernel_rfl) (by kernel_rfl) (fun _ _ _ h => h) (Or.inl ⟨by rfl, ?d0⟩) hHeld ?_
       case d0 => intro wS hSw; have k0 := hSw.1; clear hSw; go_simp; try with_reducible rfl
       try simp only [Act.put, zA, zB, zC, zD, zE, zF]
       refine held_take (i := 2) (v := ?_) rfl (by kernel_rfl) (by kernel_rfl) (by kernel_rfl) (by kernel_rfl) (fun _ _ _ h => h) (Or.inl ⟨by rfl, ?d1⟩) hHeld ?_
       case d1 => intro wS hSw; have k0 := hSw.1; clear hSw; go_simp; try with_reducible rfl
       try simp only [Act.put, zA, zB, zC, zD, zE, zF]
       refine held_take (i := 3) (v := ?_) rfl (by kernel_rfl) (by kernel_rfl) (by kernel_rfl) (by kernel_rfl) (fun _ _ _ h => h) (Or.inl ⟨by rfl, ?d2⟩) hHeld ?_
       case d2 => intro wS hSw; have k0 := hSw.1; clear hSw; go_simp; try with_reducible rfl
       try simp only [Act.put, zA, zB, zC, zD, zE, zF]
       refine held_take (i := 4) (v := ?_) rfl (by kernel_rfl) (by kernel_rfl) (by kernel_rfl) (by kernel_rfl) (fun _ _ _ h => h) (Or.inl ⟨by rfl, ?d3⟩) hHeld ?_
       case d3 => intro wS hSw; have k0 := hSw.1; clear hSw; go_simp; try with_reducible rfl
       try simp only [Act.put, zA, zB, zC, zD, zE, zF]
       refine held_take (i := 5) (v := ?_) rfl (by kernel_rfl) (by kernel_rfl) (by kernel_rfl) (by kernel_rfl) (fun _ _ _ h => h) (Or.inl ⟨by rfl, ?d4⟩) hHeld ?_
       case d4 => intro wS hSw; have k0 := hSw.1; clear hSw; go_simp; try with_reducible rfl
       try simp only [Act.put, zA, zB, zC, zD, zE, zF]
       refine held_take (i := 6) (v := ?_) rfl (by kernel_rfl) (by kernel_rfl) (by kernel_rfl) (by kernel_rfl) (fun _ _ _ h => h) (Or.inl ⟨by rfl, ?d5⟩) hHeld ?_
       case d5 => intro wS hSw; have k0 := hSw.1; clear hSw; go_simp; try with_reducible rfl
       try simp only [Act.put, zA, zB, zC, zD, zE, zF]
       refine held_take (i := 7) (v := x7) rfl (by kernel_rfl) (by kernel_rfl) (by kernel_rfl) (by kernel_rfl) (fun _ _ _ h => h) (Or.inl ⟨by rfl, ?d6⟩) hHeld ?_
       case d6 =>
        intro wS hSw
        refine exec_slice (.tmp 39) none (some (.tmp 40)) (.slice va L.length vc) x7 none (some (.int .i64 (ia : Int))) ?_ ?_ ?_ ?_ (HX7.out wS)
        all_goals first | rfl | kernel_rfl
       try simp only [Act.put, zA, zB, zC, zD, zE, zF]
       refine' held_take (i := 9) (v := _) rfl (by kernel_rfl) (by kernel_rfl) (by kernel_rfl) (by kernel_rfl) (fun _ _ _ h => h) (yieldsIf_load_mid (by rfl) _ _ rfl w.heap.size 0 rfl e.cells _ ?d7S ?d7u ?d7d ?d7i) hHeld ?d7x
       case d7S => intro wS hSw; exact hSw.2
       case d7u => exact Tryz.underlying55
       case d7d => rfl
       case d7i => exact EOK.out.infoL
       try simp only [Act.put, zA, zB, zC, zD, zE, zF]
       refine held_take (i := 12) (v := ?_) rfl (by kernel_rfl) (by kernel_rfl) (by kernel_rfl) (by kernel_rfl) (fun _ _ _ h => h) (Or.inl ⟨by rfl, ?d8⟩) hHeld ?_
       case d8 => intro wS hSw; have k0 := hSw.1; clear hSw; go_simp; try with_reducible rfl
       try simp only [Act.put, zA, zB, zC, zD, zE, zF]
       refine held_take (i := 13) (v := ?_) rfl (by kernel_rfl) (by kernel_rfl) (by kernel_rfl) (by kernel_rfl) (fun _ _ _ h => h) (Or.inl ⟨by rfl, ?d9⟩) hHeld ?_
       case d9 => intro wS hSw; have k0 := hSw.1; clear hSw; go_simp; try with_reducible rfl
       try simp only [Act.put, zA, zB, zC, zD, zE, zF]
       refine held_take (i := 14) (v := ?_) rfl (by kernel_rfl) (by kernel_rfl) (by kernel_rfl) (by kernel_rfl) (fun _ _ _ h => h) (Or.inl ⟨by rfl, ?d10⟩) hHeld ?_
       case d10 => intro wS hSw; have k0 := hSw.1; clear hSw; go_simp; try with_reducible rfl
       try simp only [Act.put, zA, zB, zC, zD, zE, zF]
       refine held_take (i := 15) (v := ?_) rfl (by kernel_rfl) (by kernel_rfl) (by kernel_rfl) (by kernel_rfl) (fun _ _ _ h => h) (Or.inl ⟨by rfl, ?d11⟩) hHeld ?_
       case d11 => intro wS hSw; have k0 := hSw.1; clear hSw; go_simp; try with_reducible rfl
       try simp only [Act.put, zA, zB, zC, zD, zE, zF]
       refine held_take (i := 16) (v := ?_) rfl (by kernel_rfl) (by kernel_rfl) (by kernel_rfl) (by kernel_rfl) (fun _ _ _ h => h) (Or.inl ⟨by rfl, ?d12⟩) hHeld ?_
       case d12 => intro wS hSw; have k0 := hSw.1; clear hSw; go_simp; try with_reducible rfl
       try simp only [Act.put, zA, zB, zC, zD, zE, zF]
       refine held_take (i := 17) (v := x17) rfl (by kernel_rfl) (by kernel_rfl) (by kernel_rfl) (by kernel_rfl) (fun _ _ _ h => h) (Or.inl ⟨by rfl, ?d13⟩) hHeld ?_
       case d13 =>
        intro wS hSw
        refine exec_slice (.tmp 49) (some (.tmp 50)) none (.slice va L.length vc) x17 (some (.int .i64 (ia : Int))) none ?_ ?_ ?_ ?_ (HX17.out wS)
        all_goals first | rfl | kernel_rfl
       try simp only [Act.put, zA, zB, zC, zD, zE, zF]
       refine held_ready (rs := [1, 10]) (by kernel_rfl) (by simp) ?_
       refine AllHeld.cons rfl (fun K hK => ?_) (AllHeld.cons rfl (fun K hK => ?_) AllHeld.nil)
       · skip
         refine step_wp rfl ?_
         refine wp_none 30 55 i0 _ rfl Tryz.underlying30 hi0 hz0 hz1 ?_
         intro x1 wa ho1 hg1 hx1
         have hx1 : ∀ b, x1.ownBlock = some b → b = w1.heap.size := hx1
         have HBwa : Hid (Below w1.heap.size w1 wa) := Lib.hid ((Below.refl w1.heap.size w1).drew.grown hg1 (Below.refl w1.heap.size w1).drew.size (fun k hk => nomatch hk))
         have ka := KR.out wa HBwa.out
         have ho1 : wa.ownsRow w1.heap.size 55 38 x1 0 [] := row_mono ho1 (Below.refl w1.heap.size w1).drew.size
         refine hK.out _ _ (fun _ => ka) (fun hHeld => ?_)
         clear hK K
         have hHeld := hHeld (by decide)
         try simp only [Act.put, zA, zB, zC, zD, zE, zF]
         refine held_ready (rs := [8, 10]) (by kernel_rfl) (by simp) ?_
         refine AllHeld.cons rfl (fun K hK => ?_) (AllHeld.cons rfl (fun K hK => ?_) AllHeld.nil)
         · skip
           refine step_wp rfl ?_
           refine wp_append_holds (.tmp 35) (.tmp 41) 30 rfl w1.heap.size 55 i0 _ 88 Tryz.underlying30 hi0 hz0 hz1 hz2 hz3 x1 0 [] ?ama ho1 x7 ia (cellsS (L.take ia)) ?bma (H7.out.below HBwa.out HX7B.out) ?cma ?dma ?ema ?fma ?gma ?hma
           case ama => rfl
           case bma => rfl
           case cma => exact HL1.out
           case dma => exact cellsS_one
           case ema => unfold maxLen; omega
           case fma => omega
           case gma => exact HBwa.out.size
           intro x8 wb ho8 hg8 hx8
           have HBwb : Hid (Below w1.heap.size w1 wb) := Lib.hid (HBwa.out.grown hg8 HBwa.out.size (fun k hk => rowS_ge ho1 k (by simp [ob, hk])))
           have ka := KR.out wb HBwb.out
           refine hK.out _ _ (fun _ => ka) (fun hHeld => ?_)
           clear hK K
           have hHeld := hHeld (by decide)
           try simp only [Act.put, zA, zB, zC, zD, zE, zF]
           refine held_ready (rs := [10]) (by kernel_rfl) (by simp) ?_
           refine AllHeld.cons rfl (fun K hK => ?_) AllHeld.nil
           refine step_wp rfl ?_
           refine wp_one 30 55 (.tmp 43) e.cells i0 _ rfl rfl Tryz.underlying30 hi0 hz0 hz1 HE38.out ?_
           intro x10 we hh10 hg10 hx10 hs10
           have hx10 : ∀ ad c, x10 = .slice (some ad) 1 c → ad.block = wb.heap.size := hx10
           have hs10 : wb.heap.size < we.heap.size := hs10
           have HBwe : Hid (Below w1.heap.size w1 we) := Lib.hid (HBwb.out.grown hg10 HBwb.out.size (fun k hk => nomatch hk))
           have ka := KR.out we HBwe.out
           have ho8 : we.ownsRow w1.heap.size 55 38 x8 (0 + ia) ([] ++ cellsS (L.take ia)) := rowS_kept ho8 (fun b _ hl => hg10.block b hl (fun h => nomatch h))
           refine hK.out _ _ (fun _ => ka) (fun hHeld => ?_)
           clear hK K
           have hHeld := hHeld (by decide)
           try simp only [Act.put, zA, zB, zC, zD, zE, zF]
           refine held_ready (rs := [11]) (by kernel_rfl) (by simp) ?_
           refine AllHeld.cons rfl (fun K hK => ?_) AllHeld.nil
           refine step_wp rfl ?_
           refine wp_append_holds (.tmp 42) (.tmp 44) 30 rfl w1.heap.size 55 i0 _ 88 Tryz.underlying30 hi0 hz0 hz1 hz2 hz3 x8 (0 + ia) ([] ++ cellsS (L.take ia)) ?aua ho8 x10 1 e.cells ?bua hh10 ?cua ?dua ?eua ?fua ?gua ?hua
           case aua => rfl
           case bua => rfl
           case cua => exact HE38.out
           case dua => exact cells_one e
           case eua => unfold maxLen; omega
           case fua => omega
           case gua => exact HBwe.out.size
           intro x11 wd ho11 hg11 hx11
           have HBD : Hid (Below w1.heap.size w1 wd) := Lib.hid (HBwe.out.grown hg11 HBwe.out.size (fun k hk => rowS_ge ho8 k (by simp [ob, hk])))
           have ka := KR.out wd HBD.out
           refine hK.out _ _ (fun _ => ka) (fun hHeld => ?_)
           clear hK K
           have hHeld := hHeld (by decide)
           try simp only [Act.put, zA, zB, zC, zD, zE, zF]
           refine held_ready (rs := [18]) (by kernel_rfl) (by simp) ?_
           refine AllHeld.cons rfl (fun K hK => ?_) AllHeld.nil
           refine step_wp rfl ?_
           refine wp_append_holds (.tmp 45) (.tmp 51) 30 rfl w1.heap.size 55 i0 _ 88 Tryz.underlying30 hi0 hz0 hz1 hz2 hz3 x11 (0 + ia + 1) ([] ++ cellsS (L.take ia) ++ e.cells) ?ava ho11 x17 (L.length - ia) (cellsS (L.drop ia)) ?bva (H17.out.below HBD.out HX17B.out) ?cva ?dva ?eva ?fva ?gva ?hva
           case ava => rfl
           case bva => rfl
           case cva => exact HL2.out
           case dva => exact cellsS_one
           case eva => unfold maxLen; omega
           case fva => omega
           case gva => exact HBD.out.size
           intro x18 wc ho18 hg18 hx18
           have HBC : Hid (Below w1.heap.size w1 wc) := Lib.hid (HBD.out.grown hg18 HBD.out.size (fun k hk => rowS_ge ho11 k (by simp [ob, hk])))
           obtain ⟨a18, c18, rfl⟩ := rowS_slice ho18
           have ka := KR.out wc HBC.out
           have kf : wc.frozen? ⟨r, 0, none⟩ = false := KF.out wc HBC.out
           refine hK.out _ _ (fun _ => ka) (fun hHeld => ?_)
           clear hK K
           have hHeld := hHeld (by decide)
           try simp only [Act.put, zA, zB, zC, zD, zE, zF]
           refine held_ready (rs := [19]) (by kernel_rfl) (by simp) ?_
           refine AllHeld.cons rfl (fun K hK => ?_) AllHeld.nil
           have ka1 := ka.1
           go_simp
           refine hK.out _ _ (fun _ => ka) (fun hHeld => ?_)
           clear hK K
           have hHeld := hHeld (by decide)
           try simp only [Act.put, zA, zB, zC, zD, zE, zF]
           refine held_ready (rs := [20]) (by kernel_rfl) (by simp) ?_
           refine AllHeld.cons rfl (fun K hK => ?_) AllHeld.nil
           have ka1 := ka.1
           go_simp
           refine hK.out _ _ (fun _ => ka) (fun hHeld => ?_)
           clear hK K
           have hHeld := hHeld (by decide)
           try simp only [Act.put, zA, zB, zC, zD, zE, zF]
           refine held_ready (rs := [21]) (by kernel_rfl) (by simp) ?_
           refine AllHeld.cons rfl (fun K hK => ?_) AllHeld.nil
           have ka1 := ka.1
           go_simp
           refine hK.out _ _ (fun h => absurd rfl h) (fun _ => ?_)
           clear hK K
           try simp only [Act.put, zA, zB, zC, zD, zE, zF]
           refine held_done (by kernel_rfl) ?_ _
           clear hHeld
           try simp only [Act.put, zA, zB, zC, zD, zE, zF]
           go_wp2
           go_ret
           rw [HRS.out]
           rw [Nat.zero_add] at ho18
           refine rxPost_new H0.out (HB1.out.trans (HBC.out.mono HB1.out.size)) rfl HB1.out.size ?_ HSR.out HFT.out HLN.out
           rw [HLE.out, HCE.out]
           exact ho18
         · skip
           refine step_wp rfl ?_
           refine wp_one 30 55 (.tmp 43) e.cells i0 _ rfl rfl Tryz.underlying30 hi0 hz0 hz1 HE38.out ?_
           intro x10 wb hh10 hg10 hx10 hs10
           have hx10 : ∀ ad c, x10 = .slice (some ad) 1 c → ad.block = wa.heap.size := hx10
           have hs10 : wa.heap.size < wb.heap.size := hs10
           have HBwb : Hid (Below w1.heap.size w1 wb) := Lib.hid (HBwa.out.grown hg10 HBwa.out.size (fun k hk => nomatch hk))
           have ka := KR.out wb HBwb.out
           have ho1a := ho1
           have ho1 : wb.ownsRow w1.heap.size 55 38 x1 0 [] := rowS_kept ho1 (fun b _ hl => hg10.block b hl (fun h => nomatch h))
           have hlt1 : ∀ k, x1.ownBlock = some k → k < wa.heap.size := fun k hk => by have := hx1 k hk; have := hg1.size; have hs1 := rowS_lt ho1a k (by simp [ob, hk]); exact hs1
           refine hK.out _ _ (fun _ => ka) (fun hHeld => ?_)
           clear hK K
           have hHeld := hHeld (by decide)
           try simp only [Act.put, zA, zB, zC, zD, zE, zF]
           refine held_ready (rs := [8]) (by kernel_rfl) (by simp) ?_
           refine AllHeld.cons rfl (fun K hK => ?_) AllHeld.nil
           refine step_wp rfl ?_
           refine wp_append_holds (.tmp 35) (.tmp 41) 30 rfl w1.heap.size 55 i0 _ 88 Tryz.underlying30 hi0 hz0 hz1 hz2 hz3 x1 0 [] ?amb ho1 x7 ia (cellsS (L.take ia)) ?bmb (H7.out.below HBwb.out HX7B.out) ?cmb ?dmb ?emb ?fmb ?gmb ?hmb
           case amb => rfl
           case bmb => rfl
           case cmb => exact HL1.out
           case dmb => exact cellsS_one
           case emb => unfold maxLen; omega
           case fmb => omega
           case gmb => exact HBwb.out.size
           intro x8 we ho8 hg8 hx8
           have HBwe : Hid (Below w1.heap.size w1 we) := Lib.hid (HBwb.out.grown hg8 HBwb.out.size (fun k hk => rowS_ge ho1 k (by simp [ob, hk])))
           have ka := KR.out we HBwe.out
           have hh10 : Holds we x10 1 e.cells := hh10.grown hg8 (fun ad c ea => by have h10 := hx10 ad c ea; refine ⟨by omega, fun h => ?_⟩; have := hlt1 _ h.symm; omega)
           refine hK.out _ _ (fun _ => ka) (fun hHeld => ?_)
           clear hK K
           have hHeld := hHeld (by decide)
           try simp only [Act.put, zA, zB, zC, zD, zE, zF]
           refine held_ready (rs := [11]) (by kernel_rfl) (by simp) ?_
           refine AllHeld.cons rfl (fun K hK => ?_) AllHeld.nil
           refine step_wp rfl ?_
           refine wp_append_holds (.tmp 42) (.tmp 44) 30 rfl w1.heap.size 55 i0 _ 88 Tryz.underlying30 hi0 hz0 hz1 hz2 hz3 x8 (0 + ia) ([] ++ cellsS (L.take ia)) ?aub ho8 x10 1 e.cells ?bub hh10 ?cub ?dub ?eub ?fub ?gub ?hub
           case aub => rfl
           case bub => rfl
           case cub => exact HE38.out
           case dub => exact cells_one e
           case eub => unfold maxLen; omega
           case fub => omega
           case gub => exact HBwe.out.size
           intro x11 wd ho11 hg11 hx11
           have HBD : Hid (Below w1.heap.size w1 wd) := Lib.hid (HBwe.out.grown hg11 HBwe.out.size (fun k hk => rowS_ge ho8 k (by simp [ob, hk])))
           have ka := KR.out wd HBD.out
           refine hK.out _ _ (fun _ => ka) (fun hHeld => ?_)
           clear hK K
           have hHeld := hHeld (by decide)
           try simp only [Act.put, zA, zB, zC, zD, zE, zF]
           refine held_ready (rs := [18]) (by kernel_rfl) (by simp) ?_
           refine AllHeld.cons rfl (fun K hK => ?_) AllHeld.nil
           refine step_wp rfl ?_
           refine wp_append_holds (.tmp 45) (.tmp 51) 30 rfl w1.heap.size 55 i0 _ 88 Tryz.underlying30 hi0 hz0 hz1 hz2 hz3 x11 (0 + ia + 1) ([] ++ cellsS (L.take ia) ++ e.cells) ?avb ho11 x17 (L.length - ia) (cellsS (L.drop ia)) ?bvb (H17.out.below HBD.out HX17B.out) ?cvb ?dvb ?evb ?fvb ?gvb ?hvb
           case avb => rfl
           case bvb => rfl
           case cvb => exact HL2.out
           case dvb => exact cellsS_one
           case evb => unfold maxLen; omega
           case fvb => omega
           case gvb => exact HBD.out.size
           intro x18 wc ho18 hg18 hx18
           have HBC : Hid (Below w1.heap.size w1 wc) := Lib.hid (HBD.out.grown hg18 HBD.out.size (fun k hk => rowS_ge ho11 k (by simp [ob, hk])))
           obtain ⟨a18, c18, rfl⟩ := rowS_slice ho18
           have ka := KR.out wc HBC.out
           have kf : wc.frozen? ⟨r, 0, none⟩ = false := KF.out wc HBC.out
           refine hK.out _ _ (fun _ => ka) (fun hHeld => ?_)
           clear hK K
           have hHeld := hHeld (by decide)
           try simp only [Act.put, zA, zB, zC, zD, zE, zF]
           refine held_ready (rs := [19]) (by kernel_rfl) (by simp) ?_
           refine AllHeld.cons rfl (fun K hK => ?_) AllHeld.nil
           have ka1 := ka.1
           go_simp
           refine hK.out _ _ (fun _ => ka) (fun hHeld => ?_)
           clear hK K
           have hHeld := hHeld (by decide)
           try simp only [Act.put, zA, zB, zC, zD, zE, zF]
           refine held_ready (rs := [20]) (by kernel_rfl) (by simp) ?_
           refine AllHeld.cons rfl (fun K hK => ?_) AllHeld.nil
           have ka1 := ka.1
           go_simp
           refine hK.out _ _ (fun _ => ka) (fun hHeld => ?_)
           clear hK K
           have hHeld := hHeld (by decide)
           try simp only [Act.put, zA, zB, zC, zD, zE, zF]
           refine held_ready (rs := [21]) (by kernel_rfl) (by simp) ?_
           refine AllHeld.cons rfl (fun K hK => ?_) AllHeld.nil
           have ka1 := ka.1
           go_simp
           refine hK.out _ _ (fun h => absurd rfl h) (fun _ => ?_)
           clear hK K
           try simp only [Act.put, zA, zB, zC, zD, zE, zF]
           refine held_done (by kernel_rfl) ?_ _
           clear hHeld
           try simp only [Act.put, zA, zB, zC, zD, zE, zF]
           go_wp2
           go_ret
           rw [HRS.out]
           rw [Nat.zero_add] at ho18
           refine rxPost_new H0.out (HB1.out.trans (HBC.out.mono HB1.out.size)) rfl HB1.out.size ?_ HSR.out HFT.out HLN.out
           rw [HLE.out, HCE.out]
           exact ho18
       · skip
         refine step_wp rfl ?_
         refine wp_one 30 55 (.tmp 43) e.cells i0 _ rfl rfl Tryz.underlying30 hi0 hz0 hz1 HE38.out ?_
         intro x10 wa hh10 hg10 hx10 hs10
         have hx10 : ∀ ad c, x10 = .slice (some ad) 1 c → ad.block = w1.heap.size := hx10
         have hs10 : w1.heap.size < wa.heap.size := hs10
         have HBwa : Hid (Below w1.heap.size w1 wa) := Lib.hid ((Below.refl w1.heap.size w1).drew.grown hg10 (Below.refl w1.heap.size w1).drew.size (fun k hk => nomatch hk))
         have ka := KR.out wa HBwa.out
         refine hK.out _ _ (fun _ => ka) (fun hHeld => ?_)
         clear hK K
         have hHeld := hHeld (by decide)
         try simp only [Act.put, zA, zB, zC, zD, zE, zF]
         refine held_ready (rs := [1]) (by kernel_rfl) (by simp) ?_
         refine AllHeld.cons rfl (fun K hK => ?_) AllHeld.nil
         refine step_wp rfl ?_
         refine wp_none 30 55 i0 _ rfl Tryz.underlying30 hi0 hz0 hz1 ?_
         intro x1 wb ho1 hg1 hx1
         have hx1 : ∀ b, x1.ownBlock = some b → b = wa.heap.size := hx1
         have HBwb : Hid (Below w1.heap.size w1 wb) := Lib.hid (HBwa.out.grown hg1 HBwa.out.size (fun k hk => nomatch hk))
         have ka := KR.out wb HBwb.out
         have ho1 : wb.ownsRow w1.heap.size 55 38 x1 0 [] := row_mono ho1 HBwa.out.size
         have hh10 : Holds wb x10 1 e.cells := hh10.grown hg1 (fun ad c ea => by have h10 := hx10 ad c ea; exact ⟨by omega, fun h => nomatch h⟩)
         refine hK.out _ _ (fun _ => ka) (fun hHeld => ?_)
         clear hK K
         have hHeld := hHeld (by decide)
         try simp only [Act.put, zA, zB, zC, zD, zE, zF]
         refine held_ready (rs := [8]) (by kernel_rfl) (by simp) ?_
         refine AllHeld.cons rfl (fun K hK => ?_) AllHeld.nil
         refine step_wp rfl ?_
         refine wp_append_holds (.tmp 35) (.tmp 41) 30 rfl w1.heap.size 55 i0 _ 88 Tryz.underlying30 hi0 hz0 hz1 hz2 hz3 x1 0 [] ?amc ho1 x7 ia (cellsS (L.take ia)) ?bmc (H7.out.below HBwb.out HX7B.out) ?cmc ?dmc ?emc ?fmc ?gmc ?hmc
         case amc => rfl
         case bmc => rfl
         case cmc => exact HL1.out
         case dmc => exact cellsS_one
         case emc => unfold maxLen; omega
         case fmc => omega
         case gmc => exact HBwb.out.size
         intro x8 we ho8 hg8 hx8
         have HBwe : Hid (Below w1.heap.size w1 we) := Lib.hid (HBwb.out.grown hg8 HBwb.out.size (fun k hk => rowS_ge ho1 k (by simp [ob, hk])))
         have ka := KR.out we HBwe.out
         have hh10 : Holds we x10 1 e.cells := hh10.grown hg8 (fun ad c ea => by have h10 := hx10 ad c ea; have := hg1.size; refine ⟨by omega, fun h => ?_⟩; have := hx1 _ h.symm; omega)
         refine hK.out _ _ (fun _ => ka) (fun hHeld => ?_)
         clear hK K
         have hHeld := hHeld (by decide)
         try simp only [Act.put, zA, zB, zC, zD, zE, zF]
         refine held_ready (rs := [11]) (by kernel_rfl) (by simp) ?_
         refine AllHeld.cons rfl (fun K hK => ?_) AllHeld.nil
         refine step_wp rfl ?_
         refine wp_append_holds (.tmp 42) (.tmp 44) 30 rfl w1.heap.size 55 i0 _ 88 Tryz.underlying30 hi0 hz0 hz1 hz2 hz3 x8 (0 + ia) ([] ++ cellsS (L.take ia)) ?auc ho8 x10 1 e.cells ?buc hh10 ?cuc ?duc ?euc ?fuc ?guc ?huc
         case auc => rfl
         case buc => rfl
         case cuc => exact HE38.out
         case duc => exact cells_one e
         case euc => unfold maxLen; omega
         case fuc => omega
         case guc => exact HBwe.out.size
         intro x11 wd ho11 hg11 hx11
         have HBD : Hid (Below w1.heap.size w1 wd) := Lib.hid (HBwe.out.grown hg11 HBwe.out.size (fun k hk => rowS_ge ho8 k (by simp [ob, hk])))
         have ka := KR.out wd HBD.out
         refine hK.out _ _ (fun _ => ka) (fun hHeld => ?_)
         clear hK K
         have hHeld := hHeld (by decide)
         try simp only [Act.put, zA, zB, zC, zD, zE, zF]
         refine held_ready (rs := [18]) (by kernel_rfl) (by simp) ?_
         refine AllHeld.cons rfl (fun K hK => ?_) AllHeld.nil
         refine step_wp rfl ?_
         refine wp_append_holds (.tmp 45) (.tmp 51) 30 rfl w1.heap.size 55 i0 _ 88 Tryz.underlying30 hi0 hz0 hz1 hz2 hz3 x11 (0 + ia + 1) ([] ++ cellsS (L.take ia) ++ e.cells) ?avc ho11 x17 (L.length - ia) (cellsS (L.drop ia)) ?bvc (H17.out.below HBD.out HX17B.out) ?cvc ?dvc ?evc ?fvc ?gvc ?hvc
         case avc => rfl
         case bvc => rfl
         case cvc => exact HL2.out
         case dvc => exact cellsS_one
         case evc => unfold maxLen; omega
         case fvc => omega
         case gvc => exact HBD.out.size
         intro x18 wc ho18 hg18 hx18
         have HBC : Hid (Below w1.heap.size w1 wc) := Lib.hid (HBD.out.grown hg18 HBD.out.size (fun k hk => rowS_ge ho11 k (by simp [ob, hk])))
         obtain ⟨a18, c18, rfl⟩ := rowS_slice ho18
         have ka := KR.out wc HBC.out
         have kf : wc.frozen? ⟨r, 0, none⟩ = false := KF.out wc HBC.out
         refine hK.out _ _ (fun _ => ka) (fun hHeld => ?_)
         clear hK K
         have hHeld := hHeld (by decide)
         try simp only [Act.put, zA, zB, zC, zD, zE, zF]
         refine held_ready (rs := [19]) (by kernel_rfl) (by simp) ?_
         refine AllHeld.cons rfl (fun K hK => ?_) AllHeld.nil
         have ka1 := ka.1
         go_simp
         refine hK.out _ _ (fun _ => ka) (fun hHeld => ?_)
         clear hK K
         have hHeld := hHeld (by decide)
         try simp only [Act.put, zA, zB, zC, zD, zE, zF]
         refine held_ready (rs := [20]) (by kernel_rfl) (by simp) ?_
         refine AllHeld.cons rfl (fun K hK => ?_) AllHeld.nil
         have ka1 := ka.1
         go_simp
         refine hK.out _ _ (fun _ => ka) (fun hHeld => ?_)
         clear hK K
         have hHeld := hHeld (by decide)
         try simp only [Act.put, zA, zB, zC, zD, zE, zF]
         refine held_ready (rs := [21]) (by kernel_rfl) (by simp) ?_
         refine AllHeld.cons rfl (fun K hK => ?_) AllHeld.nil
         have ka1 := ka.1
         go_simp
         refine hK.out _ _ (fun h => absurd rfl h) (fun _ => ?_)
         clear hK K
         try simp only [Act.put, zA, zB, zC, zD, zE, zF]
         refine held_done (by kernel_rfl) ?_ _
         clear hHeld
         try simp only [Act.put, zA, zB, zC, zD, zE, zF]
         go_wp2
         go_ret
         rw [HRS.out]
         rw [Nat.zero_add] at ho18
         refine rxPost_new H0.out (HB1.out.trans (HBC.out.mono HB1.out.size)) rfl HB1.out.size ?_ HSR.out HFT.out HLN.out
         rw [HLE.out, HCE.out]
         exact ho18
 · have HRS : Hid (R = (my, L)) := Lib.hid (by rw [HR.out, if_pos hm0])
   have hm1 : (my == 0) = false := by rw [beq_eq_false_iff_ne]; exact hm0
   clear HR ATX
   go_wp2
   go_ret
   rw [HRS.out]
   exact rxPost_same H0.out rfl HBZ.out
end Go.Proofs.YtnkapojbijbbaaaGreatDoor.St
