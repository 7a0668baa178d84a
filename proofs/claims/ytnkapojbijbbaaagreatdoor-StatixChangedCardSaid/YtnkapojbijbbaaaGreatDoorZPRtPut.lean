import Derived.Test.YtnkapojbijbbaaaGreatDoorZPZz
import Derived.Test.YtnkapojbijbbaaaGreatDoorZPRtFind
set_option linter.unusedSimpArgs false
set_option linter.unusedVariables false
set_option maxHeartbeats 8000000
set_option maxRecDepth 100000
namespace Go.Proofs.YtnkapojbijbbaaaGreatDoor.Sr
open Go.RowKit Go.Maps Go.WideMaps Rf Go.Proofs.YtnkapojbijbbaaaGreatDoor.Nm St
def zeroRn : Value := .agg (.slice none 0 0 :: (zeroA.cells (.slice none 0 0) ++ [.string ⟨#[]⟩, .int .u64 0, .int .i64 0])).toArray
theorem infoRn : (Tryz.prog.info? RnT).map (fun i => (i.zero, i.size, i.bytes)) = some (some zeroRn, 11, 120) := by kernel_rfl
theorem infoRn1 (n : RN) : (Tryz.prog.info? RnT).map (·.size) = some n.cells.toArray.size := by show _ = some 11; kernel_rfl
theorem RTree.ones {B : Nat} {w : World} {r : Nat} {v : Value} {R : List RN} {F : Tr} (h : RTree B w r v R F) {n : RN} (hn : n ∈ R) : ∀ u ∈ n.cells, u.oneCell' = true :=
 rn_ones (strs_one (h.node n hn).1.strs) (xs_one (h.node n hn).2)
theorem rtree_relist {B : Nat} {w : World} {r : Nat} {v vo : Value} {R : List RN} {F : Tr} (hq : w.heap[r]? = some (.cells #[v, .int .i64 (F.clock : Int), .int .u64 (F.most : Int), .int .i64 (F.reads : Int)] RtT)) (ho : w.ownsRow B RnT 11 vo R.length (rcells R)) (hr : r ∉ ob vo) (hB : B ≤ r)
 (hn : ∀ m ∈ R, PathAt B w m.nv m.nm ∧ XsAt w m.xv m.at_.xs) (ha : ∀ b ∈ robL R, B ≤ b ∧ b ≠ r ∧ b ∉ ob vo) : RTree B (w.setCell ⟨r, 0, none⟩ vo) r vo R { F with L := R.map RN.te } := by
 have hk : ∀ b, b ≠ r → (w.setCell ⟨r, 0, none⟩ vo).heap[b]? = w.heap[b]? := fun b hb => Below.heap_setCell _ _ _ _ hb
 refine ⟨by rw [setCell_heap _ _ _ _ _ _ hq]; rfl, rowS_kept ho (fun b hb _ => hk b (fun h => hr (h ▸ hb))), fun x hx h => hr (h ▸ hx), hB, fun m hm => ⟨?_, ?_⟩, ha, rfl⟩
 · exact (hn m hm).1.kept (fun b hb => hk b (ha b (robL_mem hm (List.mem_append_left _ hb))).2.1)
 · exact (hn m hm).2.kept (by rw [World.size_setCell]; exact Nat.le_refl _) (fun b hb => hk b (ha b (robL_mem hm (List.mem_append_right _ hb))).2.1)
theorem robL_ins {n : RN} {R : List RN} {b : Nat} (h : b ∈ robL (insR n R)) : b ∈ robN n ∨ b ∈ robL R := by
 obtain ⟨m, hm, hb⟩ := List.mem_flatMap.1 h
 rcases insR_mem.1 hm with rfl | hm
 · exact .inl hb
 · exact .inr (robL_mem hm hb)
def PutPost (B : Nat) (w : World) (r : Nat) (R : List RN) (F : Tr) (n : RN) (e : Ending) (w' : World) : Prop :=
 e = .returned (.tuple #[]) ∧ ∃ v', RTree B w' r v' (insR n R) { F with L := insT n.te F.L } ∧ Turn [r] w w' ∧ ∀ b ∈ ob v', w.heap.size ≤ b
theorem put_end {B : Nat} {w W w1 : World} {r : Nat} {v vo : Value} {R : List RN} {F : Tr} {n : RN} (h : RTree B w r v R F) (hp : PathAt B w n.nv n.nm) (hx : XsAt w n.xv n.at_.xs) (hnb : ∀ b ∈ robN n, B ≤ b ∧ b ≠ r) (hBw : B ≤ w.heap.size) (h0 : Below w.heap.size w W) (hb : Below W.heap.size W w1) (ho : w1.ownsRow W.heap.size RnT 11 vo (insR n R).length (rcells (insR n R))) :
 PutPost B w r R F n (.returned (.tuple #[])) (w1.setCell ⟨r, 0, none⟩ vo) := by
 have hb1 : Below w.heap.size w w1 := h0.trans (hb.mono h0.size)
 have hge : ∀ b ∈ ob vo, w.heap.size ≤ b := fun b hb => Nat.le_trans h0.size (rowS_ge ho b hb)
 have h1 := h.below hb1
 have hr := lt_of_heap h.book
 have hall : ∀ m ∈ insR n R, PathAt B w1 m.nv m.nm ∧ XsAt w1 m.xv m.at_.xs := fun m hm => by
  rcases insR_mem.1 hm with rfl | hm
  · exact ⟨hp.below hb1, hx.kept hb1.size (fun b hb => hb1.block b (hx.lt b hb))⟩
  · exact h1.node m hm
 have hap : ∀ b ∈ robL (insR n R), B ≤ b ∧ b ≠ r ∧ b ∉ ob vo := fun b hb => by
  rcases robL_ins hb with hb | hb
  · refine ⟨(hnb b hb).1, (hnb b hb).2, fun hv => ?_⟩
    have := hge b hv
    rcases List.mem_append.1 hb with hb | hb
    · have := rowS_lt hp.row b hb; omega
    · have := hx.lt b hb; omega
  · refine ⟨(h.apart b hb).1, (h.apart b hb).2.1, fun hv => ?_⟩
    have := hge b hv
    have := h.lt b (by rw [rblk, List.mem_cons, List.mem_append]; exact .inr (.inr hb))
    omega
 refine ⟨rfl, vo, ?_, (Turn.of_below hb1).trans ((Turn.refl [r] w1).setCell (p := ⟨r, 0, none⟩) (.inl (by simp)) vo) (fun y hy => .inl hy), hge⟩
 have := rtree_relist (F := F) h1.book (row_mono ho (Nat.le_trans hBw h0.size)) (fun hv => by have := hge r hv; omega) h.base hall hap
 rw [insR_te, ← h.is] at this
 exact this
theorem put_any (B : Nat) (w : World) (r : Nat) (v : Value) (R : List RN) (F : Tr) (n : RN) (hp : PathAt B w n.nv n.nm) (hx : XsAt w n.xv n.at_.xs) (hnb : ∀ b ∈ robN n, B ≤ b ∧ b ≠ r) (hBw : B ≤ w.heap.size) (hlen : R.length ≤ 1000000) (h : RTree B w r v R F) :
 Calls Tryz.prog 72 #[ptr r, rnV n] w (PutPost B w r R F n) := by
 obtain ⟨i0, hi0, hz0, hz1, hz2⟩ := info_parts infoRn
 have hz3 : zeroRn.cells.size = 11 := by kernel_rfl
 obtain ⟨W, hW⟩ : ∃ W, W = w.alloc (.cells n.cells.toArray RnT) := ⟨_, rfl⟩
 have hb0 : Below w.heap.size w W := by rw [hW]; exact (Below.refl _ _).alloc (Nat.le_refl _) _
 have hq0 : W.heap[w.heap.size]? = some (.cells n.cells.toArray RnT) := by rw [hW]; exact (MapKept.heap_alloc w _).1
 have FIN := Lib.hid (fun (w1 : World) (vo : Value) (hb : Below W.heap.size W w1) ho => put_end (vo := vo) h hp hx hnb hBw hb0 hb ho)
 have H0 := Lib.hid (h.below hb0)
 have HST := Lib.hid (hp.below hb0).strs
 have nones := Lib.hid (rn_ones (strs_one hp.strs) (xs_one hx))
 have HQ : Hid (∀ w', Below W.heap.size W w' → w'.heap[w.heap.size]? = some (.cells n.cells.toArray RnT)) := Lib.hid (fun w' hb => (hb.block _ (lt_of_heap hq0)).trans hq0)
 obtain ⟨na, nc, hnv⟩ := rowS_slice hp.row
 have HNV := Lib.hid hnv
 obtain ⟨va, vc, rfl⟩ := rowS_slice h.row
 have HB0 := Lib.hid hb0; have HW := Lib.hid hW; have HLEN := Lib.hid hlen
 have HNL : Hid (∀ k, (putL n (R.take k)).length ≤ R.length + 1) := Lib.hid (fun k => by
  rw [putL]; split
  · rw [insR_len, List.length_take]; omega
  · rw [List.length_take]; omega)
 clear hb0 hq0 hW h hp hx hnb hBw hnv
 unfold ptr rnV
 go_enter Tryz.func72, Tryz.ntmps72
 go_wp2
 rw [← HW.out]
 go_loopw [4, 5, 6] (fun v4 v5 v6 wr => ∃ i : Nat, i ≤ R.length ∧ v6 = .int .i64 (i : Int) ∧ v5 = .bool (putD n (R.take i)) ∧ Hid (wr.ownsRow W.heap.size RnT 11 v4 (putL n (R.take i)).length (rcells (putL n (R.take i)))) ∧ Hid (Below W.heap.size W wr)) (fun _ _ v6 _ => R.length - (RowKit.intOf v6).toNat)
 case atStart => exact ⟨0, Nat.zero_le _, rfl, rfl, Lib.hid (rowS_nil _ _ _ _), Lib.hid (Below.refl _ _)⟩
 case round =>
  obtain ⟨i, hi, rfl, rfl, HO, HB⟩ := hrel
  have HX := Lib.hid (H0.out.below HB.out)
  have HBS : Hid (W.heap.size ≤ wr.heap.size) := Lib.hid HB.out.size
  have c0 : wr.cell? ⟨r, 0, none⟩ = some (.slice va R.length vc) := cell_of_heap HX.out.book
  have hnl := HNL.out i
  by_cases hil : (i : Int) < (R.length : Int)
  · have hi1 : i < R.length := by omega
    obtain ⟨y, hy⟩ : ∃ y, R[i]? = some y := ⟨_, List.getElem?_eq_getElem hi1⟩
    obtain ⟨gv, cap, hv, hgv⟩ := HX.out.form (by omega)
    injection hv with e1 e2 e3
    subst e1 e3
    have HYST := Lib.hid (HX.out.node y (List.mem_of_getElem? hy)).1.strs
    obtain ⟨ya, yc, hyv⟩ := rowS_slice (HX.out.node y (List.mem_of_getElem? hy)).1.row
    have HYV := Lib.hid hyv
    have yones := Lib.hid (HX.out.ones (List.mem_of_getElem? hy))
    have HENT := Lib.hid (HX.out.ent hy)
    have HTK : Hid (R.take (i + 1) = R.take i ++ [y]) := Lib.hid (by rw [List.take_add_one, hy]; rfl)
    have KS : Hid (∀ w', Below wr.heap.size wr w' → w'.cell? ⟨w.heap.size, 0, none⟩ = some (.slice na n.nm.length nc) ∧ w'.cell? ⟨r, 0, none⟩ = some (.slice (some ⟨gv, 0, none⟩) R.length vc) ∧ w'.cell? ⟨gv, i * 11, none⟩ = some (.slice ya y.nm.length yc)) := Lib.hid (fun w' hw => by
     have hX2 := HX.out.below hw
     refine ⟨?_, cell_of_heap hX2.book, ?_⟩
     · rw [← HNV.out]; exact cell_of_heap (HQ.out w' (HB.out.trans (hw.mono HB.out.size)))
     · rw [← HYV.out]; exact hX2.ent hy 0 _ rfl)
    have HYI := Lib.hid hy
    clear hyv e2 hy
    cases hd : putD n (R.take i) with
    | true =>
      have HL1 : Hid (putL n (R.take (i + 1)) = putL n (R.take i) ++ [y]) := Lib.hid (by rw [HTK.out]; exact putL_done hd)
      have HD1 : Hid (putD n (R.take (i + 1)) = true) := Lib.hid (by rw [HTK.out, putD_snoc, hd]; rfl)
      clear hd
      generalize putL n (R.take i) = L0 at *
      go_wp2
      go_quiet (fail)
      obtain ⟨wz, hwz⟩ : ∃ wz, wz = wr.drewN nq := ⟨_, rfl⟩
      have HBZ : Hid (Below wr.heap.size wr wz) := Lib.hid (by rw [hwz]; exact St.below_drewN _ _)
      rw [← hwz]
      clear hwz
      have czd : wz.cell? ⟨r, 0, none⟩ = some (.slice (some ⟨gv, 0, none⟩) R.length vc) := (KS.out _ HBZ.out).2.1
      have HENTd := Lib.hid ((HX.out.below HBZ.out).ent HYI.out)
      have HBS : Hid (W.heap.size ≤ wz.heap.size) := Lib.hid (Nat.le_trans HB.out.size (HBZ.out).size)
      go_wp2_with (first
       | (refine wpList_load_mid rfl _ _ rfl gv (i * 11) rfl y.cells _ HENTd.out Tryz.underlying86 rfl (infoRn1 y) ?_)
       | (refine wpList_oneH 11 (by decide) (by decide) rfl 87 RnT (.tmp 42) y.cells i0 _ rfl rfl Tryz.underlying87 hi0 hz0 hz1 rfl ?_
          intro yd wd hhd hgd hyd hsd
          have HHd := Lib.hid hhd; have HGd := Lib.hid hgd; have HYd := Lib.hid hyd; have HSd := Lib.hid hsd
          clear hhd hgd hyd hsd)
       | (refine wpList_appendN 11 (by decide) rfl _ _ 87 rfl W.heap.size RnT i0 _ 120 Tryz.underlying87 hi0 hz0 hz1 hz2 hz3 u4 L0.length (rcells L0) rfl (rowS_kept (rowS_kept HO.out (fun x _ hl => HBZ.out.block x hl)) (fun x _ hl => HGd.out.block x hl (fun h => nomatch h))) _ 1 y.cells rfl HHd.out rfl yones.out (by have := HLEN.out; unfold maxLen; omega) (by have := HLEN.out; omega) (by have := HBS.out; have := HSd.out; omega) ?_
          intro vd xd hod hgd hvd
          have HOd := Lib.hid hod; have HKd := Lib.hid hgd; have HVd := Lib.hid hvd
          clear hod hgd hvd))
      go_roundw
      case rel =>
       refine ⟨i + 1, by omega, by go_num, by rw [HD1.out], Lib.hid ?_, Lib.hid ?_⟩
       · rw [HL1.out, ← rcells_one, List.length_append]; exact HOd.out
       · exact ((HB.out.trans (HBZ.out.mono HB.out.size)).grown HGd.out (Nat.le_trans HB.out.size HBZ.out.size) (fun k hk => nomatch hk)).grown HKd.out (Nat.le_trans (Nat.le_trans HB.out.size HBZ.out.size) HGd.out.size) (fun x hx => rowS_ge HO.out x (by simp [ob, hx]))
      case measure => simp [RowKit.intOf]; omega
    | false =>
      have CA := Lib.hid (ahead_any wr.drew n.nv y.nv n.nm y.nm ((HST.out.below HB.out).below (Below.refl _ _).drew) (HYST.out.below (Below.refl _ _).drew))
      rw [HNV.out, HYV.out] at CA
      cases ha : ahd n.nm y.nm with
      | false =>
        have HL1 : Hid (putL n (R.take (i + 1)) = putL n (R.take i) ++ [y]) := Lib.hid (by rw [HTK.out]; exact putL_on hd ha)
        have HD1 : Hid (putD n (R.take (i + 1)) = false) := Lib.hid (by rw [HTK.out, putD_snoc, hd, ha]; rfl)
        rw [ha] at CA
        clear hd ha
        generalize putL n (R.take i) = L0 at *
        go_upto_region 6 with (fail)
        refine wp_region_held_drew (S := (fun w' : World => w'.cell? ⟨w.heap.size, 0, none⟩ = some (.slice na n.nm.length nc) ∧ w'.cell? ⟨r, 0, none⟩ = some (.slice (some ⟨gv, 0, none⟩) R.length vc) ∧ w'.cell? ⟨gv, i * 11, none⟩ = some (.slice ya y.nm.length yc))) (by kernel_rfl) (KS.out _ (Below.refl _ _).drew) (fun hHeld => ?_)
        refine tk 0 rfl (v := ?_) (fun _ _ _ h => h) ?pa0 hHeld ?_
        case pa0 => intro wS hSw; obtain ⟨k0, k1, k2⟩ := hSw; go_simp; try with_reducible rfl
        try simp only [Act.put, zA, zB, zC, zD, zE, zF]
        refine tk 1 rfl (v := ?_) (fun _ _ _ h => h) ?pa1 hHeld ?_
        case pa1 => intro wS hSw; obtain ⟨k0, k1, k2⟩ := hSw; go_simp; try with_reducible rfl
        try simp only [Act.put, zA, zB, zC, zD, zE, zF]
        refine tk 2 rfl (v := ?_) (fun _ _ _ h => h) ?pa2 hHeld ?_
        case pa2 => intro wS hSw; obtain ⟨k0, k1, k2⟩ := hSw; go_simp; try with_reducible rfl
        try simp only [Act.put, zA, zB, zC, zD, zE, zF]
        refine tk 3 rfl (v := ?_) (fun _ _ _ h => h) ?pa3 hHeld ?_
        case pa3 => intro wS hSw; obtain ⟨k0, k1, k2⟩ := hSw; go_simp; try with_reducible rfl
        try simp only [Act.put, zA, zB, zC, zD, zE, zF]
        refine tk 4 rfl (v := ?_) (fun _ _ _ h => h) ?pa4 hHeld ?_
        case pa4 => intro wS hSw; obtain ⟨k0, k1, k2⟩ := hSw; go_simp; try with_reducible rfl
        try simp only [Act.put, zA, zB, zC, zD, zE, zF]
        refine tk 5 rfl (v := ?_) (fun _ _ _ h => h) ?pa5 hHeld ?_
        case pa5 => intro wS hSw; obtain ⟨k0, k1, k2⟩ := hSw; go_simp; try with_reducible rfl
        try simp only [Act.put, zA, zB, zC, zD, zE, zF]
        refine tk 6 rfl (v := ?_) (fun _ _ _ h => h) ?pa6 hHeld ?_
        case pa6 => intro wS hSw; obtain ⟨k0, k1, k2⟩ := hSw; go_simp; try with_reducible rfl
        try simp only [Act.put, zA, zB, zC, zD, zE, zF]
        refine tk 7 rfl (v := ?_) (fun _ _ _ h => h) ?pa7 hHeld ?_
        case pa7 => intro wS hSw; obtain ⟨k0, k1, k2⟩ := hSw; go_simp; try with_reducible rfl
        try simp only [Act.put, zA, zB, zC, zD, zE, zF]
        refine tk 8 rfl (v := ?_) (fun _ _ _ h => h) ?pa8 hHeld ?_
        case pa8 => intro wS hSw; obtain ⟨k0, k1, k2⟩ := hSw; go_simp; try with_reducible rfl
        try simp only [Act.put, zA, zB, zC, zD, zE, zF]
        refine tk 9 rfl (v := ?_) (fun _ _ _ h => h) ?pa9 hHeld ?_
        case pa9 => intro wS hSw; obtain ⟨k0, k1, k2⟩ := hSw; go_simp; try with_reducible rfl
        try simp only [Act.put, zA, zB, zC, zD, zE, zF]
        refine tk 10 rfl (v := ?_) (fun _ _ _ h => h) ?pa10 hHeld ?_
        case pa10 => intro wS hSw; obtain ⟨k0, k1, k2⟩ := hSw; go_simp; try with_reducible rfl
        try simp only [Act.put, zA, zB, zC, zD, zE, zF]
        refine tk 11 rfl (v := ?_) (fun _ _ _ h => h) ?pa11 hHeld ?_
        case pa11 => intro wS hSw; obtain ⟨k0, k1, k2⟩ := hSw; go_simp; try with_reducible rfl
        try simp only [Act.put, zA, zB, zC, zD, zE, zF]
        refine tk 12 rfl (v := ?_) (fun _ _ _ h => h) ?pa12 hHeld ?_
        case pa12 => intro wS hSw; obtain ⟨k0, k1, k2⟩ := hSw; go_simp; try with_reducible rfl
        try simp only [Act.put, zA, zB, zC, zD, zE, zF]
        refine wpAnyH_ready (rs := [13]) (by kernel_rfl) (by simp) ?_
        refine AllReadyH.cons rfl (fun K hK => ?_) AllReadyH.nil
        go_simp
        refine CA.out.mono ?_
        rintro ez wz ⟨rfl, hbz⟩
        have HBZ : Hid (Below wr.heap.size wr wz) := Lib.hid ((Below.refl wr.heap.size wr).drew.trans hbz)
        clear hbz
        go_wp2_with fail
        refine hK.out _ _ (KS.out _ HBZ.out) (fun hHeld2 => ?_)
        clear hK K hHeld
        have hHeld := hHeld2
        clear hHeld2
        try simp only [Act.put, zA, zB, zC, zD, zE, zF]
        refine tk 14 rfl (v := ?_) (fun _ _ _ h => h) ?pa14 hHeld ?_
        case pa14 => intro wS hSw; obtain ⟨k0, k1, k2⟩ := hSw; go_simp; try with_reducible rfl
        try simp only [Act.put, zA, zB, zC, zD, zE, zF]
        refine wpAnyH_done (by kernel_rfl) ?_ _
        clear hHeld
        try simp only [Act.put, zA, zB, zC, zD, zE, zF]
        have czd : wz.cell? ⟨r, 0, none⟩ = some (.slice (some ⟨gv, 0, none⟩) R.length vc) := (KS.out _ HBZ.out).2.1
        have HENTd := Lib.hid ((HX.out.below HBZ.out).ent HYI.out)
        have HBS : Hid (W.heap.size ≤ wz.heap.size) := Lib.hid (Nat.le_trans HB.out.size (HBZ.out).size)
        go_wp2_with (first
         | (refine wpList_load_mid rfl _ _ rfl gv (i * 11) rfl y.cells _ HENTd.out Tryz.underlying86 rfl (infoRn1 y) ?_)
         | (refine wpList_oneH 11 (by decide) (by decide) rfl 87 RnT (.tmp 42) y.cells i0 _ rfl rfl Tryz.underlying87 hi0 hz0 hz1 rfl ?_
            intro yd wd hhd hgd hyd hsd
            have HHd := Lib.hid hhd; have HGd := Lib.hid hgd; have HYd := Lib.hid hyd; have HSd := Lib.hid hsd
            clear hhd hgd hyd hsd)
         | (refine wpList_appendN 11 (by decide) rfl _ _ 87 rfl W.heap.size RnT i0 _ 120 Tryz.underlying87 hi0 hz0 hz1 hz2 hz3 u4 L0.length (rcells L0) rfl (rowS_kept (rowS_kept HO.out (fun x _ hl => HBZ.out.block x hl)) (fun x _ hl => HGd.out.block x hl (fun h => nomatch h))) _ 1 y.cells rfl HHd.out rfl yones.out (by have := HLEN.out; unfold maxLen; omega) (by have := HLEN.out; omega) (by have := HBS.out; have := HSd.out; omega) ?_
            intro vd xd hod hgd hvd
            have HOd := Lib.hid hod; have HKd := Lib.hid hgd; have HVd := Lib.hid hvd
            clear hod hgd hvd))
        go_roundw
        case rel =>
         refine ⟨i + 1, by omega, by go_num, by rw [HD1.out], Lib.hid ?_, Lib.hid ?_⟩
         · rw [HL1.out, ← rcells_one, List.length_append]; exact HOd.out
         · exact ((HB.out.trans (HBZ.out.mono HB.out.size)).grown HGd.out (Nat.le_trans HB.out.size HBZ.out.size) (fun k hk => nomatch hk)).grown HKd.out (Nat.le_trans (Nat.le_trans HB.out.size HBZ.out.size) HGd.out.size) (fun x hx => rowS_ge HO.out x (by simp [ob, hx]))
        case measure => simp [RowKit.intOf]; omega
      | true =>
        have HL1 : Hid (putL n (R.take (i + 1)) = putL n (R.take i) ++ [n] ++ [y]) := Lib.hid (by rw [HTK.out]; exact putL_here hd ha)
        have HD1 : Hid (putD n (R.take (i + 1)) = true) := Lib.hid (by rw [HTK.out, putD_snoc, ha, Bool.or_true])
        rw [ha] at CA
        clear hd ha
        generalize putL n (R.take i) = L0 at *
        go_upto_region 6 with (fail)
        refine wp_region_held_drew (S := (fun w' : World => w'.cell? ⟨w.heap.size, 0, none⟩ = some (.slice na n.nm.length nc) ∧ w'.cell? ⟨r, 0, none⟩ = some (.slice (some ⟨gv, 0, none⟩) R.length vc) ∧ w'.cell? ⟨gv, i * 11, none⟩ = some (.slice ya y.nm.length yc))) (by kernel_rfl) (KS.out _ (Below.refl _ _).drew) (fun hHeld => ?_)
        refine tk 0 rfl (v := ?_) (fun _ _ _ h => h) ?pb0 hHeld ?_
        case pb0 => intro wS hSw; obtain ⟨k0, k1, k2⟩ := hSw; go_simp; try with_reducible rfl
        try simp only [Act.put, zA, zB, zC, zD, zE, zF]
        refine tk 1 rfl (v := ?_) (fun _ _ _ h => h) ?pb1 hHeld ?_
        case pb1 => intro wS hSw; obtain ⟨k0, k1, k2⟩ := hSw; go_simp; try with_reducible rfl
        try simp only [Act.put, zA, zB, zC, zD, zE, zF]
        refine tk 2 rfl (v := ?_) (fun _ _ _ h => h) ?pb2 hHeld ?_
        case pb2 => intro wS hSw; obtain ⟨k0, k1, k2⟩ := hSw; go_simp; try with_reducible rfl
        try simp only [Act.put, zA, zB, zC, zD, zE, zF]
        refine tk 3 rfl (v := ?_) (fun _ _ _ h => h) ?pb3 hHeld ?_
        case pb3 => intro wS hSw; obtain ⟨k0, k1, k2⟩ := hSw; go_simp; try with_reducible rfl
        try simp only [Act.put, zA, zB, zC, zD, zE, zF]
        refine tk 4 rfl (v := ?_) (fun _ _ _ h => h) ?pb4 hHeld ?_
        case pb4 => intro wS hSw; obtain ⟨k0, k1, k2⟩ := hSw; go_simp; try with_reducible rfl
        try simp only [Act.put, zA, zB, zC, zD, zE, zF]
        refine tk 5 rfl (v := ?_) (fun _ _ _ h => h) ?pb5 hHeld ?_
        case pb5 => intro wS hSw; obtain ⟨k0, k1, k2⟩ := hSw; go_simp; try with_reducible rfl
        try simp only [Act.put, zA, zB, zC, zD, zE, zF]
        refine tk 6 rfl (v := ?_) (fun _ _ _ h => h) ?pb6 hHeld ?_
        case pb6 => intro wS hSw; obtain ⟨k0, k1, k2⟩ := hSw; go_simp; try with_reducible rfl
        try simp only [Act.put, zA, zB, zC, zD, zE, zF]
        refine tk 7 rfl (v := ?_) (fun _ _ _ h => h) ?pb7 hHeld ?_
        case pb7 => intro wS hSw; obtain ⟨k0, k1, k2⟩ := hSw; go_simp; try with_reducible rfl
        try simp only [Act.put, zA, zB, zC, zD, zE, zF]
        refine tk 8 rfl (v := ?_) (fun _ _ _ h => h) ?pb8 hHeld ?_
        case pb8 => intro wS hSw; obtain ⟨k0, k1, k2⟩ := hSw; go_simp; try with_reducible rfl
        try simp only [Act.put, zA, zB, zC, zD, zE, zF]
        refine tk 9 rfl (v := ?_) (fun _ _ _ h => h) ?pb9 hHeld ?_
        case pb9 => intro wS hSw; obtain ⟨k0, k1, k2⟩ := hSw; go_simp; try with_reducible rfl
        try simp only [Act.put, zA, zB, zC, zD, zE, zF]
        refine tk 10 rfl (v := ?_) (fun _ _ _ h => h) ?pb10 hHeld ?_
        case pb10 => intro wS hSw; obtain ⟨k0, k1, k2⟩ := hSw; go_simp; try with_reducible rfl
        try simp only [Act.put, zA, zB, zC, zD, zE, zF]
        refine tk 11 rfl (v := ?_) (fun _ _ _ h => h) ?pb11 hHeld ?_
        case pb11 => intro wS hSw; obtain ⟨k0, k1, k2⟩ := hSw; go_simp; try with_reducible rfl
        try simp only [Act.put, zA, zB, zC, zD, zE, zF]
        refine tk 12 rfl (v := ?_) (fun _ _ _ h => h) ?pb12 hHeld ?_
        case pb12 => intro wS hSw; obtain ⟨k0, k1, k2⟩ := hSw; go_simp; try with_reducible rfl
        try simp only [Act.put, zA, zB, zC, zD, zE, zF]
        refine wpAnyH_ready (rs := [13]) (by kernel_rfl) (by simp) ?_
        refine AllReadyH.cons rfl (fun K hK => ?_) AllReadyH.nil
        go_simp
        refine CA.out.mono ?_
        rintro ez wz ⟨rfl, hbz⟩
        have HBZ : Hid (Below wr.heap.size wr wz) := Lib.hid ((Below.refl wr.heap.size wr).drew.trans hbz)
        clear hbz
        go_wp2_with fail
        refine hK.out _ _ (KS.out _ HBZ.out) (fun hHeld2 => ?_)
        clear hK K hHeld
        have hHeld := hHeld2
        clear hHeld2
        try simp only [Act.put, zA, zB, zC, zD, zE, zF]
        refine tk 14 rfl (v := ?_) (fun _ _ _ h => h) ?pb14 hHeld ?_
        case pb14 => intro wS hSw; obtain ⟨k0, k1, k2⟩ := hSw; go_simp; try with_reducible rfl
        try simp only [Act.put, zA, zB, zC, zD, zE, zF]
        refine wpAnyH_done (by kernel_rfl) ?_ _
        clear hHeld
        try simp only [Act.put, zA, zB, zC, zD, zE, zF]
        have HBS : Hid (W.heap.size ≤ wz.heap.size) := Lib.hid (Nat.le_trans HB.out.size HBZ.out.size)
        have HQB := Lib.hid (HQ.out wz (HB.out.trans (HBZ.out.mono HB.out.size)))
        go_upto_region 9 with (first
         | (refine Sh.wpList_load_at (T := RnT) (cs := n.cells.toArray) HQB.out rfl RnT (.tmp 3) rfl rfl _ Tryz.underlying86 rfl (infoRn1 n) ?_)
         | (refine wpList_oneH 11 (by decide) (by decide) rfl 87 RnT (.tmp 32) n.cells i0 _ rfl rfl Tryz.underlying87 hi0 hz0 hz1 rfl ?_
            intro yc wc hhc hgc hyc hsc
            have HHc := Lib.hid hhc; have HGc := Lib.hid hgc; have HYc := Lib.hid hyc; have HSc := Lib.hid hsc
            clear hhc hgc hyc hsc)
         | (refine wpList_appendN 11 (by decide) rfl _ _ 87 rfl W.heap.size RnT i0 _ 120 Tryz.underlying87 hi0 hz0 hz1 hz2 hz3 u4 L0.length (rcells L0) rfl (rowS_kept (rowS_kept HO.out (fun x _ hl => HBZ.out.block x hl)) (fun x _ hl => HGc.out.block x hl (fun h => nomatch h))) _ 1 n.cells rfl HHc.out rfl nones.out (by have := HLEN.out; unfold maxLen; omega) (by have := HLEN.out; omega) (by have := HBS.out; have := HSc.out; omega) ?_
            intro vc_ xc hoc hgc hvc
            have HOc := Lib.hid hoc; have HKc := Lib.hid hgc; have HVc := Lib.hid hvc
            clear hoc hgc hvc))
        have HOc2 : Hid (xc.ownsRow W.heap.size RnT 11 vc_ (L0 ++ [n]).length (rcells (L0 ++ [n]))) := Lib.hid (by rw [← rcells_one, List.length_append]; exact HOc.out)
        have HBC : Hid (Below W.heap.size W xc) := Lib.hid (((HB.out.trans (HBZ.out.mono HB.out.size)).grown HGc.out (Nat.le_trans HB.out.size HBZ.out.size) (fun k hk => nomatch hk)).grown HKc.out (Nat.le_trans (Nat.le_trans HB.out.size HBZ.out.size) HGc.out.size) (fun x hx => rowS_ge HO.out x (by simp [ob, hx])))
        have HXC := Lib.hid (H0.out.below HBC.out)
        have czd : xc.cell? ⟨r, 0, none⟩ = some (.slice (some ⟨gv, 0, none⟩) R.length vc) := cell_of_heap HXC.out.book
        have HENTd := Lib.hid (HXC.out.ent HYI.out)
        have HBS : Hid (W.heap.size ≤ xc.heap.size) := Lib.hid HBC.out.size
        have hnl2 : (L0 ++ [n]).length ≤ R.length + 1 := by have h1 := HNL.out (i + 1); rw [HL1.out, List.length_append] at h1; omega
        go_wp2_with (first
         | (refine wpList_load_mid rfl _ _ rfl gv (i * 11) rfl y.cells _ HENTd.out Tryz.underlying86 rfl (infoRn1 y) ?_)
         | (refine wpList_oneH 11 (by decide) (by decide) rfl 87 RnT (.tmp 42) y.cells i0 _ rfl rfl Tryz.underlying87 hi0 hz0 hz1 rfl ?_
            intro yd wd hhd hgd hyd hsd
            have HHd := Lib.hid hhd; have HGd := Lib.hid hgd; have HYd := Lib.hid hyd; have HSd := Lib.hid hsd
            clear hhd hgd hyd hsd)
         | (refine wpList_appendN 11 (by decide) rfl _ _ 87 rfl W.heap.size RnT i0 _ 120 Tryz.underlying87 hi0 hz0 hz1 hz2 hz3 vc_ (L0 ++ [n]).length (rcells (L0 ++ [n])) rfl (rowS_kept HOc2.out (fun x _ hl => HGd.out.block x hl (fun h => nomatch h))) _ 1 y.cells rfl HHd.out rfl yones.out (by have := HLEN.out; unfold maxLen; omega) (by have := HLEN.out; omega) (by have := HBS.out; have := HSd.out; omega) ?_
            intro vd xd hod hgd hvd
            have HOd := Lib.hid hod; have HKd := Lib.hid hgd; have HVd := Lib.hid hvd
            clear hod hgd hvd))
        go_roundw
        case rel =>
         refine ⟨i + 1, by omega, by go_num, by rw [HD1.out], Lib.hid ?_, Lib.hid ?_⟩
         · rw [HL1.out, ← rcells_one, List.length_append]; exact HOd.out
         · exact (HBC.out.grown HGd.out HBC.out.size (fun k hk => nomatch hk)).grown HKd.out (Nat.le_trans HBC.out.size HGd.out.size) (fun x hx => rowS_ge HOc2.out x (by simp [ob, hx]))
        case measure => simp [RowKit.intOf]; omega
  · obtain rfl : i = R.length := by omega
    have HO2 := HO
    rw [List.take_length] at HO2
    have f0 : wr.frozen? ⟨r, 0, none⟩ = false := frozen_of_heap HX.out.book
    have hone : u4.oneCell' = true := by obtain ⟨a, c, h⟩ := rowS_slice HO2.out; rw [h]; rfl
    cases hd : putD n R with
    | true =>
      have hd2 : putD n (R.take R.length) = true := by rw [List.take_length]; exact hd
      have HL1 : Hid (putL n R = insR n R) := Lib.hid (putL_end.1 hd)
      rw [HL1.out] at HO2
      clear hd
      obtain ⟨oa, oc, rfl⟩ := rowS_slice HO2.out
      rw [hd2]
      clear hd2
      go_wp2
      exact bodyPost_end (results_none rfl _ _ _) rfl (FIN.out wr _ HB.out HO2.out)
    | false =>
      have hd2 : putD n (R.take R.length) = false := by rw [List.take_length]; exact hd
      have HL1 : Hid (putL n R ++ [n] = insR n R) := Lib.hid (putL_end.2 hd)
      have HQB := Lib.hid (HQ.out wr HB.out)
      rw [List.take_length] at hnl
      clear hd HO
      rw [hd2]
      clear hd2
      generalize putL n R = L0 at *
      go_upto_region 12 with (first
       | (refine Sh.wpList_load_at (T := RnT) (cs := n.cells.toArray) HQB.out rfl RnT (.tmp 3) rfl rfl _ Tryz.underlying86 rfl (infoRn1 n) ?_)
       | (refine wpList_oneH 11 (by decide) (by decide) rfl 87 RnT (.tmp 48) n.cells i0 _ rfl rfl Tryz.underlying87 hi0 hz0 hz1 rfl ?_
          intro yc wc hhc hgc hyc hsc
          have HHc := Lib.hid hhc; have HGc := Lib.hid hgc; have HYc := Lib.hid hyc; have HSc := Lib.hid hsc
          clear hhc hgc hyc hsc)
       | (refine wpList_appendN 11 (by decide) rfl _ _ 87 rfl W.heap.size RnT i0 _ 120 Tryz.underlying87 hi0 hz0 hz1 hz2 hz3 u4 L0.length (rcells L0) rfl (rowS_kept HO2.out (fun x _ hl => HGc.out.block x hl (fun h => nomatch h))) _ 1 n.cells rfl HHc.out rfl nones.out (by have := HLEN.out; unfold maxLen; omega) (by have := HLEN.out; omega) (by have := HBS.out; have := HSc.out; omega) ?_
          intro vc_ xc hoc hgc hvc
          have HOc := Lib.hid hoc; have HKc := Lib.hid hgc; have HVc := Lib.hid hvc
          clear hoc hgc hvc))
      have HOc2 : Hid (xc.ownsRow W.heap.size RnT 11 vc_ (insR n R).length (rcells (insR n R))) := Lib.hid (by rw [← HL1.out, ← rcells_one, List.length_append]; exact HOc.out)
      have HBC : Hid (Below W.heap.size W xc) := Lib.hid ((HB.out.grown HGc.out HB.out.size (fun k hk => nomatch hk)).grown HKc.out (Nat.le_trans HB.out.size HGc.out.size) (fun x hx => rowS_ge HO2.out x (by simp [ob, hx])))
      have HXC := Lib.hid (H0.out.below HBC.out)
      have czd : xc.cell? ⟨r, 0, none⟩ = some (.slice va R.length vc) := cell_of_heap HXC.out.book
      have fzd : xc.frozen? ⟨r, 0, none⟩ = false := frozen_of_heap HXC.out.book
      obtain ⟨oa, oc, rfl⟩ := rowS_slice HOc2.out
      go_wp2
      exact bodyPost_end (results_none rfl _ _ _) rfl (FIN.out xc _ HBC.out HOc2.out)
end Go.Proofs.YtnkapojbijbbaaaGreatDoor.Sr
