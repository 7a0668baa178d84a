import Derived.Test.YtnkapojbijbbaaaGreatDoorZPZz
import Derived.Test.YtnkapojbijbbaaaGreatDoorZPRowKit
import Derived.Test.YtnkapojbijbbaaaGreatDoorZPStMay
set_option linter.unusedSimpArgs false
set_option linter.unusedVariables false
set_option maxHeartbeats 4000000
set_option maxRecDepth 100000
namespace Go.Proofs.YtnkapojbijbbaaaGreatDoor.St
open Go.RowKit Go.Maps Go.WideMaps Rf Rd
def setX (e : SE) (L : List SE) : Int × List SE :=
 if mayN e ≠ 0 then (mayN e, L) else if (getL e.path L).isSome = false ∧ 65536 ≤ L.length then (3, L) else (0, insL e L)
theorem set_any (B : Nat) (w : World) (g b : Nat) (L : List SE) (e : SE) (he : e.Fits) (h : IndexAt B w g b L) :
 Calls Tryz.prog 12 #[ptr g, enV e] w fun x w' => x = .returned (.int .i64 (setX e L).1) ∧ IndexAt B w' g b (setX e L).2 ∧ Turn [b] w w' := by
 obtain ⟨W, hW⟩ : ∃ W, W = w.alloc (.cells e.cells.toArray 52) := ⟨_, rfl⟩
 have hb0 : Below w.heap.size w W := by rw [hW]; exact (Below.refl _ _).alloc (Nat.le_refl _) _
 have hq0 : W.heap[w.heap.size]? = some (.cells e.cells.toArray 52) := by rw [hW]; exact (MapKept.heap_alloc w _).1
 have h0 := h.below hb0
 have MY := Lib.hid (may_any W e he)
 have EOK := Lib.hid he.en
 have hr0 : Hid ((w.alloc (.cells e.cells.toArray 52)).rangeAt w.heap.size 0 e.cells) := Lib.hid (by rw [← hW]; exact range_block hq0)
 have HB0 := Lib.hid hb0; have HQ0 := Lib.hid hq0; have H0 := Lib.hid h0; have HE := Lib.hid he
 have VOK := Lib.hid (h.fitsGet e.path).en
 have HWB : Hid (w.heap.size ≠ b) := Lib.hid (by have := h.lt_b; omega)
 clear hb0 hq0 h0 h he
 obtain ⟨R, hR⟩ : ∃ R, R = setX e L := ⟨_, rfl⟩
 have HR : Hid (R = if mayN e ≠ 0 then (mayN e, L) else if (getL e.path L).isSome = false ∧ 65536 ≤ L.length then (3, L) else (0, insL e L)) := Lib.hid hR
 rw [← hR]
 clear hR
 unfold ptr
 have HSM : Hid ((getL e.path L).isSome = true → (insL e L).length = L.length) := Lib.hid insL_same
 have HMN : Hid (mayN e = 0 → e.path.length ≤ 4096 ∨ True) := Lib.hid (fun _ => .inr trivial)
 generalize mayN e = my at *
 go_enter Tryz.func12, Tryz.ntmps12
 go_wp2_with (first
  | (refine wpList_load_mid rfl _ _ rfl w.heap.size 0 rfl e.cells _ hr0.out Tryz.underlying52 rfl EOK.out.infoL ?_)
  | fail)
 change Calls _ _ _ (w.alloc (.cells e.cells.toArray 52)) _
 rw [← hW]
 refine MY.out.mono ?_
 rintro x w1 ⟨rfl, hb1⟩
 have h1 := H0.out.below hb1
 have HWW : Hid (∀ w' : World, Below w1.heap.size w1 w' → w.heap.size < w'.heap.size) := Lib.hid (fun w' hb => by have := hb.size; have := hb1.size; have := lt_of_heap HQ0.out; omega)
 have HB1 := Lib.hid (HB0.out.trans (hb1.mono HB0.out.size))
 have hq1 := (hb1.block _ (lt_of_heap HQ0.out)).trans HQ0.out
 have H1 := Lib.hid h1
 have FC : Hid (∀ w' : World, Below w1.heap.size w1 w' → w'.cell? ⟨g, 0, none⟩ = some (.map (some b)) ∧ w'.cell? ⟨w.heap.size, 0, none⟩ = some (.string ⟨e.path.toArray⟩) ∧ w'.rangeAt w.heap.size 0 e.cells) := Lib.hid (fun w' hb => by
  have hq := (hb.block _ (lt_of_heap hq1)).trans hq1
  exact ⟨cell_of_heap (h1.below hb).book, by rw [cell_of_heap hq]; rfl, range_block hq⟩)
 have HLK : Hid (∀ w' : World, Below w1.heap.size w1 w' → (Instr.lookup 90 (.map (some b)) (.string ⟨e.path.toArray⟩) true).run Tryz.prog w' = .ok (.tuple #[enV ((getL e.path L).getD zeroS), .bool (getL e.path L).isSome]) w') := Lib.hid (fun w' hb => by
  have := (h1.below hb).look ⟨e.path.toArray⟩ (by show e.path.length ≤ _; have := HE.out.path; unfold maxLen; omega)
  rwa [ba_data] at this)
 clear MY hb1 h1 hq1 hr0 hW
 have hT : ∀ {w' : World}, Below w.heap.size w w' → Turn [b] w w' := fun hb => Turn.of_below hb
 by_cases hm0 : my = 0
 · subst hm0
   have HR2 : Hid (R = if (getL e.path L).isSome = false ∧ 65536 ≤ L.length then (3, L) else (0, insL e L)) := Lib.hid (by rw [HR.out, if_neg (by simp)])
   obtain ⟨V, hV⟩ : ∃ V, V = (getL e.path L).getD zeroS := ⟨_, rfl⟩
   rw [← hV] at HLK VOK
   clear hV HR
   generalize hth : (getL e.path L).isSome = TH at *
   clear hth
   cases TH with
   | true =>
     have hR : Hid (R = (0, insL e L)) := Lib.hid (by rw [HR2.out, if_neg (by simp)])
     go_wp2
     refine wp_region_held_drew (S := (fun w' : World => Below w1.heap.size w1 w')) (by kernel_rfl) (Below.refl _ _).drew (fun hHeld => ?_)
     refine tk 0 rfl (v := ?_) (fun _ _ _ h => h) ?ra0 hHeld ?_
     case ra0 => intro wS hSw; obtain ⟨k0, k1, k2⟩ := FC.out wS hSw; clear hSw; go_simp; try with_reducible rfl
     try simp only [Act.put, zD, zE, zF]
     refine tk 1 rfl (v := ?_) (fun _ _ _ h => h) ?ra1 hHeld ?_
     case ra1 => intro wS hSw; obtain ⟨k0, k1, k2⟩ := FC.out wS hSw; clear hSw; go_simp; try with_reducible rfl
     try simp only [Act.put, zD, zE, zF]
     refine tk 2 rfl (v := ?_) (fun _ _ _ h => h) ?ra2 hHeld ?_
     case ra2 => intro wS hSw; obtain ⟨k0, k1, k2⟩ := FC.out wS hSw; clear hSw; go_simp; try with_reducible rfl
     try simp only [Act.put, zD, zE, zF]
     refine tk 3 rfl (v := ?_) (fun _ _ _ h => h) ?ra3 hHeld ?_
     case ra3 => intro wS hSw; obtain ⟨k0, k1, k2⟩ := FC.out wS hSw; clear hSw; go_simp; try with_reducible rfl
     try simp only [Act.put, zD, zE, zF]
     refine tk 4 rfl (v := ?_) (fun _ _ _ h => h) ?ra4 hHeld ?_
     case ra4 => intro wS hSw; obtain ⟨k0, k1, k2⟩ := FC.out wS hSw; clear hSw; go_simp; try with_reducible rfl
     try simp only [Act.put, zD, zE, zF]
     refine tk 5 rfl (v := ?_) (fun _ _ _ h => h) ?ra5 hHeld ?_
     case ra5 => intro wS hSw; obtain ⟨k0, k1, k2⟩ := FC.out wS hSw; clear hSw; go_simp; try with_reducible rfl
     try simp only [Act.put, zD, zE, zF]
     refine tk 6 rfl (v := .tuple #[enV V, .bool true]) (fun _ _ _ h => h) ?ra6 hHeld ?_
     case ra6 => intro wS hSw; have hl := HLK.out wS hSw; exact run_look rfl rfl rfl hl
     try simp only [Act.put, zD, zE, zF]
     refine tk 7 rfl (v := ?_) (fun _ _ _ h => h) ?ra7 hHeld ?_
     case ra7 => intro wS hSw; obtain ⟨k0, k1, k2⟩ := FC.out wS hSw; clear hSw; go_simp; try with_reducible rfl
     try simp only [Act.put, zD, zE, zF]
     refine tk 8 rfl (v := ?_) (fun _ _ _ h => h) ?ra8 hHeld ?_
     case ra8 => intro wS hSw; obtain ⟨k0, k1, k2⟩ := FC.out wS hSw; clear hSw; go_simp; try with_reducible rfl
     try simp only [Act.put, zD, zE, zF]
     refine tk 9 rfl (v := ?_) (fun _ _ _ h => h) ?ra9 hHeld ?_
     case ra9 => intro wS hSw; obtain ⟨k0, k1, k2⟩ := FC.out wS hSw; clear hSw; go_simp; try with_reducible rfl
     try simp only [Act.put, zD, zE, zF]
     refine wpAnyH_ready (rs := [10]) (by kernel_rfl) (by simp) ?_
     refine AllReadyH.cons rfl (fun K hK => ?_) AllReadyH.nil
     go_simp
     refine hK.out _ _ ((Below.refl _ _).drew.alloc (Nat.le_refl _) _) (fun hHeld2 => ?_)
     clear hK K hHeld
     try simp only [Act.put, zD, zE, zF]
     refine wpAnyH_ready (rs := [11]) (by kernel_rfl) (by simp) ?_
     refine AllReadyH.cons rfl (fun K hK => ?_) AllReadyH.nil
     refine step_wp rfl ?_
     refine wp_store_new (w := w1.drew) (p := w1.heap.size) rfl _ _ _ rfl V.cells.toArray ?sxra ?syra VOK.out.info ?szra VOK.out.one ?skra
     case sxra => rfl
     case syra => rfl
     case szra => exact VOK.out.z
     intro w2 hq2 hb2 hs2
     clear hq2 hs2
     refine hK.out _ _ (((Below.refl _ _).drew).trans hb2) (fun hHeld3 => ?_)
     clear hK K hHeld2
     try simp only [Act.put, zD, zE, zF]
     refine wpAnyH_ready (rs := [12]) (by kernel_rfl) (by simp) ?_
     refine AllReadyH.cons rfl (fun K hK => ?_) AllReadyH.nil
     go_simp
     refine hK.out _ _ (((Below.refl _ _).drew).trans hb2) (fun hHeld4 => ?_)
     clear hK K hHeld3
     try simp only [Act.put, zD, zE, zF]
     refine wpAnyH_done (by kernel_rfl) ?_ _
     clear hHeld4
     have HB2 := Lib.hid ((Below.refl w1.heap.size w1).drew.trans hb2)
     clear hb2
     have h3 := H1.out.below HB2.out
     have c3 : w2.cell? ⟨g, 0, none⟩ = some (.map (some b)) := (FC.out _ HB2.out).1
     have hlen := h3.map.len Tryz.underlying90
     simp only [toD_size, toZ_length] at hlen
     have H3 := Lib.hid h3
     have FC3 : Hid (∀ w' : World, Below w2.heap.size w2 w' → w'.cell? ⟨g, 0, none⟩ = some (.map (some b)) ∧ w'.cell? ⟨w.heap.size, 0, none⟩ = some (.string ⟨e.path.toArray⟩) ∧ w'.rangeAt w.heap.size 0 e.cells) := Lib.hid (fun w' hb => FC.out w' (HB2.out.trans (hb.mono HB2.out.size)))
     clear h3
     clear hlen c3
     go_wp2
     obtain ⟨w4, hrun4, h4, ht4⟩ := (H3.out.below (Below.refl _ _).drew).store HE.out (by rw [HSM.out (by trivial)]; exact H1.out.len)
     have hS9 : w4.cell? ⟨g, 0, none⟩ = some (.map (some b)) ∧ w4.cell? ⟨w.heap.size, 0, none⟩ = some (.string ⟨e.path.toArray⟩) ∧ w4.rangeAt w.heap.size 0 e.cells := by
      obtain ⟨k0, k1, k2⟩ := FC3.out _ (Below.refl _ _).drew
      have hg : g < w2.drew.heap.size := (H3.out.below (Below.refl _ _).drew).lt_g
      have hgb := H3.out.gb
      have hwb := HWB.out
      have hww : w.heap.size < w2.drew.heap.size := HWW.out _ HB2.out.drew
      exact ⟨cell_turn ht4 hg (by simpa using hgb) k0, cell_turn ht4 hww (by simpa using hwb) k1, range_turn ht4 hww (by simpa using hwb) k2⟩
     refine wp_region_held_drew (S := (fun w' : World => w'.cell? ⟨g, 0, none⟩ = some (.map (some b)) ∧ w'.cell? ⟨w.heap.size, 0, none⟩ = some (.string ⟨e.path.toArray⟩) ∧ w'.rangeAt w.heap.size 0 e.cells)) (by kernel_rfl) (FC3.out _ (Below.refl _ _).drew) (fun hHeld => ?_)
     refine tk 0 rfl (v := ?_) (fun _ _ _ h => h) ?rb0 hHeld ?_
     case rb0 => intro wS hSw; obtain ⟨k0, k1, k2⟩ := hSw; go_simp; try with_reducible rfl
     try simp only [Act.put, zD, zE, zF]
     refine tk 1 rfl (v := ?_) (fun _ _ _ h => h) ?rb1 hHeld ?_
     case rb1 => intro wS hSw; obtain ⟨k0, k1, k2⟩ := hSw; go_simp; try with_reducible rfl
     try simp only [Act.put, zD, zE, zF]
     refine tk 2 rfl (v := ?_) (fun _ _ _ h => h) ?rb2 hHeld ?_
     case rb2 => intro wS hSw; obtain ⟨k0, k1, k2⟩ := hSw; go_simp; try with_reducible rfl
     try simp only [Act.put, zD, zE, zF]
     refine tk 3 rfl (v := ?_) (fun _ _ _ h => h) ?rb3 hHeld ?_
     case rb3 => intro wS hSw; obtain ⟨k0, k1, k2⟩ := hSw; go_simp; try with_reducible rfl
     try simp only [Act.put, zD, zE, zF]
     refine tk 4 rfl (v := ?_) (fun _ _ _ h => h) ?rb4 hHeld ?_
     case rb4 => intro wS hSw; obtain ⟨k0, k1, k2⟩ := hSw; go_simp; try with_reducible rfl
     try simp only [Act.put, zD, zE, zF]
     refine tk 5 rfl (v := ?_) (fun _ _ _ h => h) ?rb5 hHeld ?_
     case rb5 => intro wS hSw; obtain ⟨k0, k1, k2⟩ := hSw; go_simp; try with_reducible rfl
     try simp only [Act.put, zD, zE, zF]
     refine' wpAnyH_take (i := 6) (v := _) rfl (by kernel_rfl) (by kernel_rfl) (by kernel_rfl) (fun _ _ _ h => h) (yieldsIf_load_mid (by rfl) _ _ rfl w.heap.size 0 rfl e.cells _ ?rbS6 ?rbu6 ?rbd6 ?rbi6) hHeld ?rbx6
     case rbS6 => intro wS hSw; exact hSw.2.2
     case rbu6 => exact Tryz.underlying52
     case rbd6 => rfl
     case rbi6 => exact EOK.out.infoL
     try simp only [Act.put, zD, zE, zF]
     refine wpAnyH_ready (rs := [7]) (by kernel_rfl) (by simp) ?_
     refine AllReadyH.cons rfl (fun K hK => ?_) AllReadyH.nil
     go_simp
     refine hK.out _ _ hS9 (fun hHeld2 => ?_)
     clear hK K hHeld
     try simp only [Act.put, zD, zE, zF]
     refine wpAnyH_done (by kernel_rfl) ?_ _
     clear hHeld2
     go_wp2
     go_ret
     rw [hR.out]
     exact ⟨rfl, h4, (hT ((HB1.out.trans (HB2.out.mono HB1.out.size)).drew)).trans ht4 (fun y hy => .inl hy)⟩
   | false =>
     by_cases hfull : 65536 ≤ L.length
     · have hR : Hid (R = (3, L)) := Lib.hid (by rw [HR2.out, if_pos ⟨rfl, hfull⟩])
       have hfi : (65536 : Int) ≤ (L.length : Int) := by omega
       go_wp2
       refine wp_region_held_drew (S := (fun w' : World => Below w1.heap.size w1 w')) (by kernel_rfl) (Below.refl _ _).drew (fun hHeld => ?_)
       refine tk 0 rfl (v := ?_) (fun _ _ _ h => h) ?rc0 hHeld ?_
       case rc0 => intro wS hSw; obtain ⟨k0, k1, k2⟩ := FC.out wS hSw; clear hSw; go_simp; try with_reducible rfl
       try simp only [Act.put, zD, zE, zF]
       refine tk 1 rfl (v := ?_) (fun _ _ _ h => h) ?rc1 hHeld ?_
       case rc1 => intro wS hSw; obtain ⟨k0, k1, k2⟩ := FC.out wS hSw; clear hSw; go_simp; try with_reducible rfl
       try simp only [Act.put, zD, zE, zF]
       refine tk 2 rfl (v := ?_) (fun _ _ _ h => h) ?rc2 hHeld ?_
       case rc2 => intro wS hSw; obtain ⟨k0, k1, k2⟩ := FC.out wS hSw; clear hSw; go_simp; try with_reducible rfl
       try simp only [Act.put, zD, zE, zF]
       refine tk 3 rfl (v := ?_) (fun _ _ _ h => h) ?rc3 hHeld ?_
       case rc3 => intro wS hSw; obtain ⟨k0, k1, k2⟩ := FC.out wS hSw; clear hSw; go_simp; try with_reducible rfl
       try simp only [Act.put, zD, zE, zF]
       refine tk 4 rfl (v := ?_) (fun _ _ _ h => h) ?rc4 hHeld ?_
       case rc4 => intro wS hSw; obtain ⟨k0, k1, k2⟩ := FC.out wS hSw; clear hSw; go_simp; try with_reducible rfl
       try simp only [Act.put, zD, zE, zF]
       refine tk 5 rfl (v := ?_) (fun _ _ _ h => h) ?rc5 hHeld ?_
       case rc5 => intro wS hSw; obtain ⟨k0, k1, k2⟩ := FC.out wS hSw; clear hSw; go_simp; try with_reducible rfl
       try simp only [Act.put, zD, zE, zF]
       refine tk 6 rfl (v := .tuple #[enV V, .bool false]) (fun _ _ _ h => h) ?rc6 hHeld ?_
       case rc6 => intro wS hSw; have hl := HLK.out wS hSw; exact run_look rfl rfl rfl hl
       try simp only [Act.put, zD, zE, zF]
       refine tk 7 rfl (v := ?_) (fun _ _ _ h => h) ?rc7 hHeld ?_
       case rc7 => intro wS hSw; obtain ⟨k0, k1, k2⟩ := FC.out wS hSw; clear hSw; go_simp; try with_reducible rfl
       try simp only [Act.put, zD, zE, zF]
       refine tk 8 rfl (v := ?_) (fun _ _ _ h => h) ?rc8 hHeld ?_
       case rc8 => intro wS hSw; obtain ⟨k0, k1, k2⟩ := FC.out wS hSw; clear hSw; go_simp; try with_reducible rfl
       try simp only [Act.put, zD, zE, zF]
       refine tk 9 rfl (v := ?_) (fun _ _ _ h => h) ?rc9 hHeld ?_
       case rc9 => intro wS hSw; obtain ⟨k0, k1, k2⟩ := FC.out wS hSw; clear hSw; go_simp; try with_reducible rfl
       try simp only [Act.put, zD, zE, zF]
       refine wpAnyH_ready (rs := [10]) (by kernel_rfl) (by simp) ?_
       refine AllReadyH.cons rfl (fun K hK => ?_) AllReadyH.nil
       go_simp
       refine hK.out _ _ ((Below.refl _ _).drew.alloc (Nat.le_refl _) _) (fun hHeld2 => ?_)
       clear hK K hHeld
       try simp only [Act.put, zD, zE, zF]
       refine wpAnyH_ready (rs := [11]) (by kernel_rfl) (by simp) ?_
       refine AllReadyH.cons rfl (fun K hK => ?_) AllReadyH.nil
       refine step_wp rfl ?_
       refine wp_store_new (w := w1.drew) (p := w1.heap.size) rfl _ _ _ rfl V.cells.toArray ?sxrc ?syrc VOK.out.info ?szrc VOK.out.one ?skrc
       case sxrc => rfl
       case syrc => rfl
       case szrc => exact VOK.out.z
       intro w2 hq2 hb2 hs2
       clear hq2 hs2
       refine hK.out _ _ (((Below.refl _ _).drew).trans hb2) (fun hHeld3 => ?_)
       clear hK K hHeld2
       try simp only [Act.put, zD, zE, zF]
       refine wpAnyH_ready (rs := [12]) (by kernel_rfl) (by simp) ?_
       refine AllReadyH.cons rfl (fun K hK => ?_) AllReadyH.nil
       go_simp
       refine hK.out _ _ (((Below.refl _ _).drew).trans hb2) (fun hHeld4 => ?_)
       clear hK K hHeld3
       try simp only [Act.put, zD, zE, zF]
       refine wpAnyH_done (by kernel_rfl) ?_ _
       clear hHeld4
       have HB2 := Lib.hid ((Below.refl w1.heap.size w1).drew.trans hb2)
       clear hb2
       have h3 := H1.out.below HB2.out
       have c3 : w2.cell? ⟨g, 0, none⟩ = some (.map (some b)) := (FC.out _ HB2.out).1
       have hlen := h3.map.len Tryz.underlying90
       simp only [toD_size, toZ_length] at hlen
       have H3 := Lib.hid h3
       have FC3 : Hid (∀ w' : World, Below w2.heap.size w2 w' → w'.cell? ⟨g, 0, none⟩ = some (.map (some b)) ∧ w'.cell? ⟨w.heap.size, 0, none⟩ = some (.string ⟨e.path.toArray⟩) ∧ w'.rangeAt w.heap.size 0 e.cells) := Lib.hid (fun w' hb => FC.out w' (HB2.out.trans (hb.mono HB2.out.size)))
       clear h3
       go_wp2
       go_ret
       rw [hR.out]
       exact ⟨rfl, H3.out, hT (HB1.out.trans (HB2.out.mono HB1.out.size))⟩
     · have hR : Hid (R = (0, insL e L)) := Lib.hid (by rw [HR2.out, if_neg (fun h => hfull h.2)])
       have HFI : Hid (decide ((65536 : Int) ≤ (L.length : Int)) = false) := Lib.hid (by rw [decide_eq_false_iff_not]; omega)
       have HFL : Hid ((insL e L).length ≤ 65536) := Lib.hid (by have := insL_length_le e L; omega)
       clear hfull
       go_wp2
       refine wp_region_held_drew (S := (fun w' : World => Below w1.heap.size w1 w')) (by kernel_rfl) (Below.refl _ _).drew (fun hHeld => ?_)
       refine tk 0 rfl (v := ?_) (fun _ _ _ h => h) ?rd0 hHeld ?_
       case rd0 => intro wS hSw; obtain ⟨k0, k1, k2⟩ := FC.out wS hSw; clear hSw; go_simp; try with_reducible rfl
       try simp only [Act.put, zD, zE, zF]
       refine tk 1 rfl (v := ?_) (fun _ _ _ h => h) ?rd1 hHeld ?_
       case rd1 => intro wS hSw; obtain ⟨k0, k1, k2⟩ := FC.out wS hSw; clear hSw; go_simp; try with_reducible rfl
       try simp only [Act.put, zD, zE, zF]
       refine tk 2 rfl (v := ?_) (fun _ _ _ h => h) ?rd2 hHeld ?_
       case rd2 => intro wS hSw; obtain ⟨k0, k1, k2⟩ := FC.out wS hSw; clear hSw; go_simp; try with_reducible rfl
       try simp only [Act.put, zD, zE, zF]
       refine tk 3 rfl (v := ?_) (fun _ _ _ h => h) ?rd3 hHeld ?_
       case rd3 => intro wS hSw; obtain ⟨k0, k1, k2⟩ := FC.out wS hSw; clear hSw; go_simp; try with_reducible rfl
       try simp only [Act.put, zD, zE, zF]
       refine tk 4 rfl (v := ?_) (fun _ _ _ h => h) ?rd4 hHeld ?_
       case rd4 => intro wS hSw; obtain ⟨k0, k1, k2⟩ := FC.out wS hSw; clear hSw; go_simp; try with_reducible rfl
       try simp only [Act.put, zD, zE, zF]
       refine tk 5 rfl (v := ?_) (fun _ _ _ h => h) ?rd5 hHeld ?_
       case rd5 => intro wS hSw; obtain ⟨k0, k1, k2⟩ := FC.out wS hSw; clear hSw; go_simp; try with_reducible rfl
       try simp only [Act.put, zD, zE, zF]
       refine tk 6 rfl (v := .tuple #[enV V, .bool false]) (fun _ _ _ h => h) ?rd6 hHeld ?_
       case rd6 => intro wS hSw; have hl := HLK.out wS hSw; exact run_look rfl rfl rfl hl
       try simp only [Act.put, zD, zE, zF]
       refine tk 7 rfl (v := ?_) (fun _ _ _ h => h) ?rd7 hHeld ?_
       case rd7 => intro wS hSw; obtain ⟨k0, k1, k2⟩ := FC.out wS hSw; clear hSw; go_simp; try with_reducible rfl
       try simp only [Act.put, zD, zE, zF]
       refine tk 8 rfl (v := ?_) (fun _ _ _ h => h) ?rd8 hHeld ?_
       case rd8 => intro wS hSw; obtain ⟨k0, k1, k2⟩ := FC.out wS hSw; clear hSw; go_simp; try with_reducible rfl
       try simp only [Act.put, zD, zE, zF]
       refine tk 9 rfl (v := ?_) (fun _ _ _ h => h) ?rd9 hHeld ?_
       case rd9 => intro wS hSw; obtain ⟨k0, k1, k2⟩ := FC.out wS hSw; clear hSw; go_simp; try with_reducible rfl
       try simp only [Act.put, zD, zE, zF]
       refine wpAnyH_ready (rs := [10]) (by kernel_rfl) (by simp) ?_
       refine AllReadyH.cons rfl (fun K hK => ?_) AllReadyH.nil
       go_simp
       refine hK.out _ _ ((Below.refl _ _).drew.alloc (Nat.le_refl _) _) (fun hHeld2 => ?_)
       clear hK K hHeld
       try simp only [Act.put, zD, zE, zF]
       refine wpAnyH_ready (rs := [11]) (by kernel_rfl) (by simp) ?_
       refine AllReadyH.cons rfl (fun K hK => ?_) AllReadyH.nil
       refine step_wp rfl ?_
       refine wp_store_new (w := w1.drew) (p := w1.heap.size) rfl _ _ _ rfl V.cells.toArray ?sxrd ?syrd VOK.out.info ?szrd VOK.out.one ?skrd
       case sxrd => rfl
       case syrd => rfl
       case szrd => exact VOK.out.z
       intro w2 hq2 hb2 hs2
       clear hq2 hs2
       refine hK.out _ _ (((Below.refl _ _).drew).trans hb2) (fun hHeld3 => ?_)
       clear hK K hHeld2
       try simp only [Act.put, zD, zE, zF]
       refine wpAnyH_ready (rs := [12]) (by kernel_rfl) (by simp) ?_
       refine AllReadyH.cons rfl (fun K hK => ?_) AllReadyH.nil
       go_simp
       refine hK.out _ _ (((Below.refl _ _).drew).trans hb2) (fun hHeld4 => ?_)
       clear hK K hHeld3
       try simp only [Act.put, zD, zE, zF]
       refine wpAnyH_done (by kernel_rfl) ?_ _
       clear hHeld4
       have HB2 := Lib.hid ((Below.refl w1.heap.size w1).drew.trans hb2)
       clear hb2
       have h3 := H1.out.below HB2.out
       have c3 : w2.cell? ⟨g, 0, none⟩ = some (.map (some b)) := (FC.out _ HB2.out).1
       have hlen := h3.map.len Tryz.underlying90
       simp only [toD_size, toZ_length] at hlen
       have H3 := Lib.hid h3
       have FC3 : Hid (∀ w' : World, Below w2.heap.size w2 w' → w'.cell? ⟨g, 0, none⟩ = some (.map (some b)) ∧ w'.cell? ⟨w.heap.size, 0, none⟩ = some (.string ⟨e.path.toArray⟩) ∧ w'.rangeAt w.heap.size 0 e.cells) := Lib.hid (fun w' hb => FC.out w' (HB2.out.trans (hb.mono HB2.out.size)))
       clear h3
       have hfi := HFI.out
       generalize (L.length : Int) = ln at hlen hfi
       go_wp2
       clear hlen c3 hfi
       obtain ⟨w4, hrun4, h4, ht4⟩ := (H3.out.below (Below.refl _ _).drew).store HE.out HFL.out
       have hS9 : w4.cell? ⟨g, 0, none⟩ = some (.map (some b)) ∧ w4.cell? ⟨w.heap.size, 0, none⟩ = some (.string ⟨e.path.toArray⟩) ∧ w4.rangeAt w.heap.size 0 e.cells := by
        obtain ⟨k0, k1, k2⟩ := FC3.out _ (Below.refl _ _).drew
        have hg : g < w2.drew.heap.size := (H3.out.below (Below.refl _ _).drew).lt_g
        have hgb := H3.out.gb
        have hwb := HWB.out
        have hww : w.heap.size < w2.drew.heap.size := HWW.out _ HB2.out.drew
        exact ⟨cell_turn ht4 hg (by simpa using hgb) k0, cell_turn ht4 hww (by simpa using hwb) k1, range_turn ht4 hww (by simpa using hwb) k2⟩
       refine wp_region_held_drew (S := (fun w' : World => w'.cell? ⟨g, 0, none⟩ = some (.map (some b)) ∧ w'.cell? ⟨w.heap.size, 0, none⟩ = some (.string ⟨e.path.toArray⟩) ∧ w'.rangeAt w.heap.size 0 e.cells)) (by kernel_rfl) (FC3.out _ (Below.refl _ _).drew) (fun hHeld => ?_)
       refine tk 0 rfl (v := ?_) (fun _ _ _ h => h) ?re0 hHeld ?_
       case re0 => intro wS hSw; obtain ⟨k0, k1, k2⟩ := hSw; go_simp; try with_reducible rfl
       try simp only [Act.put, zD, zE, zF]
       refine tk 1 rfl (v := ?_) (fun _ _ _ h => h) ?re1 hHeld ?_
       case re1 => intro wS hSw; obtain ⟨k0, k1, k2⟩ := hSw; go_simp; try with_reducible rfl
       try simp only [Act.put, zD, zE, zF]
       refine tk 2 rfl (v := ?_) (fun _ _ _ h => h) ?re2 hHeld ?_
       case re2 => intro wS hSw; obtain ⟨k0, k1, k2⟩ := hSw; go_simp; try with_reducible rfl
       try simp only [Act.put, zD, zE, zF]
       refine tk 3 rfl (v := ?_) (fun _ _ _ h => h) ?re3 hHeld ?_
       case re3 => intro wS hSw; obtain ⟨k0, k1, k2⟩ := hSw; go_simp; try with_reducible rfl
       try simp only [Act.put, zD, zE, zF]
       refine tk 4 rfl (v := ?_) (fun _ _ _ h => h) ?re4 hHeld ?_
       case re4 => intro wS hSw; obtain ⟨k0, k1, k2⟩ := hSw; go_simp; try with_reducible rfl
       try simp only [Act.put, zD, zE, zF]
       refine tk 5 rfl (v := ?_) (fun _ _ _ h => h) ?re5 hHeld ?_
       case re5 => intro wS hSw; obtain ⟨k0, k1, k2⟩ := hSw; go_simp; try with_reducible rfl
       try simp only [Act.put, zD, zE, zF]
       refine' wpAnyH_take (i := 6) (v := _) rfl (by kernel_rfl) (by kernel_rfl) (by kernel_rfl) (fun _ _ _ h => h) (yieldsIf_load_mid (by rfl) _ _ rfl w.heap.size 0 rfl e.cells _ ?reS6 ?reu6 ?red6 ?rei6) hHeld ?rex6
       case reS6 => intro wS hSw; exact hSw.2.2
       case reu6 => exact Tryz.underlying52
       case red6 => rfl
       case rei6 => exact EOK.out.infoL
       try simp only [Act.put, zD, zE, zF]
       refine wpAnyH_ready (rs := [7]) (by kernel_rfl) (by simp) ?_
       refine AllReadyH.cons rfl (fun K hK => ?_) AllReadyH.nil
       go_simp
       refine hK.out _ _ hS9 (fun hHeld2 => ?_)
       clear hK K hHeld
       try simp only [Act.put, zD, zE, zF]
       refine wpAnyH_done (by kernel_rfl) ?_ _
       clear hHeld2
       go_wp2
       go_ret
       rw [hR.out]
       exact ⟨rfl, h4, (hT ((HB1.out.trans (HB2.out.mono HB1.out.size)).drew)).trans ht4 (fun y hy => .inl hy)⟩
 · have hR : Hid (R = (my, L)) := Lib.hid (by rw [HR.out, if_pos hm0])
   have hm1 : (my == 0) = false := by rw [beq_eq_false_iff_ne]; exact hm0
   clear HR
   go_wp2
   go_ret
   rw [hR.out]
   exact ⟨rfl, H1.out, hT HB1.out⟩
end Go.Proofs.YtnkapojbijbbaaaGreatDoor.St
