/-
  The contract of the disk's Twin.
-/
import Derived.Test.YtcfdfpjemonhoaaDkTwinKit
import Derived.Deep.RegionHeld3
namespace Go.Proofs.Ytcfdfpjemonhoaa.Dk
open Go.RowKit Go.Maps Go.WideMaps

set_option maxHeartbeats 16000000 in
set_option maxRecDepth 100000 in
theorem twin_any (B : Nat) (w : World) (Y : Lay) (D : Dk) (h : DiskAt B w Y D) (ok : Ok D) :
    Calls Try.prog 37 #[ptr Y.g] w (TwinPost D w) := by
  have H := Lib.hid h
  have c0 : w.cell? ⟨Y.g, 0, none⟩ = some (.int .i64 D.quota) := h.cell 0
  have c1 : w.cell? ⟨Y.g, 1, none⟩ = some (.int .i64 D.used) := h.cell 1
  have c2 : w.cell? ⟨Y.g, 2, none⟩ = some Y.vf := h.cell 2
  have c3 : w.cell? ⟨Y.g, 3, none⟩ = some (.map (some Y.bn)) := h.cell 3
  have c4 : w.cell? ⟨Y.g, 4, none⟩ = some (.map (some Y.bs)) := h.cell 4
  have c5 : w.cell? ⟨Y.g, 5, none⟩ = some Y.vc := h.cell 5
  have c6 : w.cell? ⟨Y.g, 6, none⟩ = some (.int .i64 (D.calls : Int)) := h.cell 6
  have c7 : w.cell? ⟨Y.g, 7, none⟩ = some (.int .i64 (D.left : Int)) := h.cell 7
  have c8 : w.cell? ⟨Y.g, 8, none⟩ = some (.int .i64 D.next.1) := h.cell 8
  have c9 : w.cell? ⟨Y.g, 9, none⟩ = some Y.kn := h.cell 9
  have c10 : w.cell? ⟨Y.g, 10, none⟩ = some (.int .i64 D.crash.1) := h.cell 10
  have c11 : w.cell? ⟨Y.g, 11, none⟩ = some Y.kc := h.cell 11
  have c12 : w.cell? ⟨Y.g, 12, none⟩ = some (.bool D.down) := h.cell 12
  obtain ⟨fa, fc, hvf⟩ := row_slice h.files
  obtain ⟨ca, cc, hvc⟩ := row_slice h.chs
  obtain ⟨na, nc, hkn, _⟩ := h.kn
  obtain ⟨ka, kc, hkc, _⟩ := h.kc
  have hgl : Y.g < w.heap.size := lt_of_heap h.disk
  rw [hvf] at c2
  rw [hvc] at c5
  rw [hkn] at c9
  rw [hkc] at c11
  have HVF := Lib.hid hvf; have HVC := Lib.hid hvc; have HKN := Lib.hid hkn; have HKC := Lib.hid hkc
  clear h hvf hvc hkn hkc
  unfold ptr
  go_enter Try.func37, Try.ntmps37
  go_wp2
  have HNF := Lib.hid ok.nfiles; have HLN := Lib.hid ok.lens
  have T0 : Hid (TwinAt w Y D 0 (.slice none 0 0) [] (w.alloc (.cells #[.int .i64 D.quota, .int .i64 D.used, .slice none 0 0, .map (some Y.bn), .map (some Y.bs), .slice ca D.chs.length cc, .int .i64 (D.calls : Int), .int .i64 (D.left : Int), .int .i64 D.next.1, .slice na D.next.2.length nc, .int .i64 D.crash.1, .slice ka D.crash.2.length kc, .bool D.down] 63))) := Lib.hid (by
    refine ⟨?_, ⟨rfl, .inl ⟨rfl, rfl⟩⟩, rfl, fun i p f h1 _ => by simp at h1, by simp [ob, Value.ownBlock], fun b hb => by simp [ob, Value.ownBlock] at hb, fun b hb => by simp [ob, Value.ownBlock] at hb, (Below.refl _ _).alloc (Nat.le_refl _) _⟩
    rw [(MapKept.heap_alloc w _).1]
    simp [cellsOf, HVC.out, HKN.out, HKC.out])
  clear c0 c1 c2 c3 c4 c5 c6 c7 c8 c9 c10 c11 c12
  go_loopw [17] (fun s17 wr => ∃ (k : Nat) (vt : Value) (fsT : List (Nat × Value)), k ≤ D.files.length ∧ s17 = .int .i64 k ∧ Hid (TwinAt w Y D k vt fsT wr)) (fun s17 _ => D.files.length - (RowKit.intOf s17).toNat)
  case atStart => exact ⟨0, _, _, by omega, rfl, T0⟩
  case round =>
    obtain ⟨k, vt, fsT, hk, rfl, HT⟩ := hrel
    by_cases hlt : k < D.files.length
    · have hr := H.out.below HT.out.below
      obtain ⟨f, hf⟩ : ∃ f, D.files[k]? = some f := ⟨_, List.getElem?_eq_getElem hlt⟩
      obtain ⟨p, hp⟩ : ∃ p, Y.fs[k]? = some p := ⟨_, List.getElem?_eq_getElem (by rw [hr.lenF]; exact hlt)⟩
      obtain ⟨gf, cap, cur, hvf, hgf, hcur⟩ := file_cell hr hp
      rw [HVF.out] at hvf
      injection hvf with e1 _ e3
      subst e1
      subst e3
      obtain ⟨k1, k2⟩ := hr.each k p f hp hf
      obtain ⟨pa, pc, hpv⟩ := row_slice k2
      have hfl := (HLN.out f (List.mem_of_getElem? hf)).1
      have hcf : wr.cell? ⟨gf, k, none⟩ = some (.pointer (some ⟨p.1, 0, none⟩)) := (cell_of_heap hgf).trans hcur
      have b0 : wr.cell? ⟨p.1, 0, none⟩ = some p.2 := cell_of_heap k1
      have b1 : wr.cell? ⟨p.1, 1, none⟩ = some (.int .i64 (f.safe : Int)) := cell_of_heap k1
      rw [hpv] at b0 k2
      have t2 : wr.cell? ⟨w.heap.size, 2, none⟩ = some vt := cell_of_heap HT.out.disk
      obtain ⟨vta, vtc, hvt⟩ := row_slice HT.out.files
      have hki : (k : Int) < (D.files.length : Int) := by omega
      have CB : Hid (Calls Try.prog 49 #[.slice pa f.data.length pc] wr.drew (ClonePost wr.drew 5 (.slice pa f.data.length pc) f.data.length (Lib.byteCells f.data))) := Lib.hid (cloneBytes wr.drew B pa f.data.length pc _ k2.drew (Lib.byteCells_one f.data) (by omega))
      have HF := Lib.hid hf; have K1 := Lib.hid k1; have HTD := Lib.hid (HT.out.disk); have HTF := Lib.hid HT.out.files.drew
      have hgtl : w.heap.size < wr.heap.size := lt_of_heap HT.out.disk
      have hpl : p.1 < wr.heap.size := lt_of_heap k1
      have hvtn : vt.ownBlock ≠ some w.heap.size := fun e => by have := HT.out.ge w.heap.size (List.mem_append_left _ (by rw [ob, e]; simp)); omega
      have hnl := HNF.out
      obtain ⟨i0, hi, hz0, hz1, hz2⟩ := info_parts infoPFile
      subst hvt
      clear hr hgf hcur hf hp k1 k2 hpv
      go_wp2
      go_region_law (first
        | (refine step_append_lies _ rfl (.tmp 22) (.tmp 34) 60 rfl (w.heap.size + 1) 68 i0 (.pointer none) 1 8 Try.underlying60 hi hz0 hz1 hz2 rfl (by decide) (.slice vta k vtc) k _ (by simp [Act.eval]) HT9.out ⟨w6.heap.size + 1, 0, none⟩ 1 1 [ptr w6.heap.size] (by simp [Act.eval]) rfl HN9.out (by intro u hu; simp at hu; subst hu; rfl) (by decide) (by unfold maxLen; omega) (by omega) hs9 (w6.heap.size + 2) (by rw [one_size, one_size]) ?_
           intro g8 cap8 w8 hown8 hgrow8 hat8 hlt8
           have f8 := twin_frozen (j := 2) HD9.out hgrow8 hvtn
           have e8 : w8.cell? ⟨w.heap.size, 2, none⟩ = some (.slice vta k vtc) := twin_cell (j := 2) HD9.out hgrow8 hvtn)
        | (go_simp
           go_at_call 49
           refine CB.out.mono ?_
           rintro e w6 ⟨pv, rfl, ho6, _, hb6⟩
           obtain ⟨pva, pvc, rfl⟩ := row_slice ho6
           have hp6 : p.1 < w6.heap.size := Nat.lt_of_lt_of_le hpl hb6.size
           have hgt6 : w.heap.size < w6.heap.size := Nat.lt_of_lt_of_le hgtl hb6.size
           have k16 := (hb6.block _ hpl).trans K1.out
           have kt6 := (hb6.block _ hgtl).trans HTD.out
           have b16 : w6.cell? ⟨p.1, 1, none⟩ = some (.int .i64 (f.safe : Int)) := cell_of_heap k16
           have t26 : w6.cell? ⟨w.heap.size, 2, none⟩ = some (.slice vta k vtc) := cell_of_heap kt6
           have HT9 := Lib.hid (((row_below HTF.out hb6).alloc (.cells #[.slice pva f.data.length pvc, .int .i64 (f.safe : Int)] 71)).alloc (.cells #[ptr w6.heap.size] 68))
           have HN9 := Lib.hid (cell_second w6 (.cells #[.slice pva f.data.length pvc, .int .i64 (f.safe : Int)] 71) (ptr w6.heap.size) 68)
           have hs9 : w.heap.size + 1 ≤ ((w6.alloc (.cells #[.slice pva f.data.length pvc, .int .i64 (f.safe : Int)] 71)).alloc (.cells #[ptr w6.heap.size] 68)).heap.size := by rw [one_size, one_size]; omega
           have HD9 := Lib.hid (two_old kt6 (.cells #[.slice pva f.data.length pvc, .int .i64 (f.safe : Int)] 71) (.cells #[ptr w6.heap.size] 68))
           have HO6 := Lib.hid ho6
           have HB6 := Lib.hid hb6
           clear ho6 hb6 k16 kt6))
      all_goals go_wp2
      all_goals go_roundw
      all_goals first
        | (simp [RowKit.intOf]; omega)
        | exact ⟨k + 1, _, _, by omega, by go_num, Lib.hid (HT.out.drew.next HF.out HO6.out HB6.out hown8 hgrow8 (twin_at hat8))⟩
    · obtain rfl : k = D.files.length := by omega
      go_wp2
      have hq0 : TwinQ w wr.drew := ⟨HT.out.below.drew, _, HT.out.disk, rfl⟩
      have HW := Lib.hid H.out
      obtain ⟨e3, e4, e5⟩ : w.cell? ⟨Y.g, 3, none⟩ = some (.map (some Y.bn)) ∧ w.cell? ⟨Y.g, 4, none⟩ = some (.map (some Y.bs)) ∧ w.cell? ⟨Y.g, 5, none⟩ = some (.slice ca D.chs.length cc) := ⟨H.out.cell 3, H.out.cell 4, by rw [← HVC.out]; exact H.out.cell 5⟩
      have keepS : ∀ w', TwinQ w w' → (w'.cell? ⟨Y.g, 3, none⟩ = some (.map (some Y.bn)) ∧ w'.cell? ⟨Y.g, 4, none⟩ = some (.map (some Y.bs)) ∧ w'.cell? ⟨Y.g, 5, none⟩ = some (.slice ca D.chs.length cc) ∧ TwinQ w w') := fun w' hq => ⟨(hq.old (p := ⟨Y.g, 3, none⟩) hgl).trans e3, (hq.old (p := ⟨Y.g, 4, none⟩) hgl).trans e4, (hq.old (p := ⟨Y.g, 5, none⟩) hgl).trans e5, hq⟩
      have HCV := Lib.hid (cv_one H.out)
      have HCR := H.out.chs
      rw [HVC.out] at HCR
      have HCR' := Lib.hid HCR
      have HNC := Lib.hid ok.nchs
      clear HCR e3 e4 e5
      go_region_held3 (fun w' => w'.cell? ⟨Y.g, 3, none⟩ = some (.map (some Y.bn)) ∧ w'.cell? ⟨Y.g, 4, none⟩ = some (.map (some Y.bs)) ∧ w'.cell? ⟨Y.g, 5, none⟩ = some (.slice ca D.chs.length cc) ∧ TwinQ w w')
        (first
          | (refine keepS _ ?_; assumption)
          | (go_split_ands; refine keepS _ ?_; refine TwinQ.set ?_; assumption))
        (first
          | (go_at_call_of 38 (Value.map (some Y.bn)); refine (twin_map HW.out.now (?_ : TwinQ w _)).mono ?_; (go_split_ands; assumption); rintro e wA ⟨rfl, oA, hbA, hqA⟩; have fA3 := hqA.frozen 3; have fA4 := hqA.frozen 4; have fA5 := hqA.frozen 5; obtain ⟨xA3, eA3⟩ := hqA.cell 3 (by decide); obtain ⟨xA4, eA4⟩ := hqA.cell 4 (by decide); obtain ⟨xA5, eA5⟩ := hqA.cell 5 (by decide))
          | (go_at_call_of 38 (Value.map (some Y.bs)); refine (twin_map HW.out.safe (?_ : TwinQ w _)).mono ?_; (go_split_ands; assumption); rintro e wB ⟨rfl, oB, hbB, hqB⟩; have fB3 := hqB.frozen 3; have fB4 := hqB.frozen 4; have fB5 := hqB.frozen 5; obtain ⟨xB3, eB3⟩ := hqB.cell 3 (by decide); obtain ⟨xB4, eB4⟩ := hqB.cell 4 (by decide); obtain ⟨xB5, eB5⟩ := hqB.cell 5 (by decide))
          | (go_at_call 50; refine (twin_chs HCR'.out HCV.out HNC.out (?_ : TwinQ w _)).mono ?_; (go_split_ands; assumption); rintro e wC ⟨aC, cC, rfl, oC, hbC, hqC⟩; have fC3 := hqC.frozen 3; have fC4 := hqC.frozen 4; have fC5 := hqC.frozen 5; obtain ⟨xC3, eC3⟩ := hqC.cell 3 (by decide); obtain ⟨xC4, eC4⟩ := hqC.cell 4 (by decide); obtain ⟨xC5, eC5⟩ := hqC.cell 5 (by decide)))
      have sA := hbA.size
      have sB := hbB.size
      have sC := hbC.size
      have sA' : wr.heap.size ≤ wA.heap.size := sA
      have hbBC := hbB.trans (hbC.mono hbB.size)
      have hbABC := hbA.trans (hbBC.mono hbA.size)
      have hM : TwinMid Y D wr.drew wC wr.heap.size wA.heap.size (.slice aC D.chs.length cC) := TwinMid.make hbABC oA oB oC hbBC hbC (Below.refl _ _) (Nat.le_refl _) sA (Nat.le_trans sA sB) (.inl (Nat.le_refl _)) (.inl sB) (.inl (Nat.le_refl _))
      have gC : wC.heap[w.heap.size]? = some (.cells (cellsOf { Y with vf := vt } D) 63) := (hbABC.block _ (lt_of_heap HT.out.disk)).trans HT.out.disk
      obtain ⟨ws, hws⟩ : ∃ ws, ws = (((wC.setCell ⟨w.heap.size, 3, none⟩ (.map (some wr.heap.size))).setCell ⟨w.heap.size, 4, none⟩ (.map (some wA.heap.size))).setCell ⟨w.heap.size, 5, none⟩ (.slice aC D.chs.length cC)) := ⟨_, rfl⟩
      have gS : ws.heap[w.heap.size]? = some (.cells (cellsOf { Y with vf := vt, bn := wr.heap.size, bs := wA.heap.size, vc := .slice aC D.chs.length cC } D) 63) := by
        rw [hws, setCell_heap _ _ _ _ _ _ (setCell_heap _ _ _ _ _ _ (setCell_heap _ _ _ _ _ _ gC))]
        simp [cellsOf]
      have sameS : ∀ b, b < wC.heap.size → b ≠ w.heap.size → ws.heap[b]? = wC.heap[b]? := fun b _ hne => by
        rw [hws, Below.heap_setCell _ _ _ _ hne, Below.heap_setCell _ _ _ _ hne, Below.heap_setCell _ _ _ _ hne]
      have szS : ws.heap.size = wC.heap.size := by rw [hws]; simp [World.setCell]
      have hqS : TwinQ w ws := by rw [hws]; exact hqC.set.set.set
      rw [← hws]
      have HM := Lib.hid hM; have GS := Lib.hid gS; have SS := Lib.hid sameS; have SZ := Lib.hid szS; have HQ := Lib.hid hqS
      clear hM gC gS sameS szS hqS hws hbABC hbBC hbA hbB hbC oA oB oC hqA hqB hqC fA3 fA4 fA5 fB3 fB4 fB5 fC3 fC4 fC5 eA3 eA4 eA5 eB3 eB4 eB5 eC3 eC4 eC5 keepS sA sB sC sA' hq0
      go_wp2
      have hq1 : TwinQ w ws.drew := ⟨HQ.out.1.drew, HQ.out.2⟩
      obtain ⟨e9, e11⟩ : w.cell? ⟨Y.g, 9, none⟩ = some (.slice na D.next.2.length nc) ∧ w.cell? ⟨Y.g, 11, none⟩ = some (.slice ka D.crash.2.length kc) := ⟨by rw [← HKN.out]; exact H.out.cell 9, by rw [← HKC.out]; exact H.out.cell 11⟩
      have keepT : ∀ w', TwinQ w w' → (w'.cell? ⟨Y.g, 9, none⟩ = some (.slice na D.next.2.length nc) ∧ w'.cell? ⟨Y.g, 11, none⟩ = some (.slice ka D.crash.2.length kc) ∧ TwinQ w w') := fun w' hq => ⟨(hq.old (p := ⟨Y.g, 9, none⟩) hgl).trans e9, (hq.old (p := ⟨Y.g, 11, none⟩) hgl).trans e11, hq⟩
      have KN := H.out.kn
      have KC := H.out.kc
      rw [HKN.out] at KN
      rw [HKC.out] at KC
      have HKN2 := Lib.hid KN; have HKC2 := Lib.hid KC; have HLT := Lib.hid H.out.lt
      clear e9 e11 KN KC
      go_region_held3 (fun w' => w'.cell? ⟨Y.g, 9, none⟩ = some (.slice na D.next.2.length nc) ∧ w'.cell? ⟨Y.g, 11, none⟩ = some (.slice ka D.crash.2.length kc) ∧ TwinQ w w')
        (first
          | (refine keepT _ ?_; assumption)
          | (go_split_ands; refine keepT _ ?_; refine TwinQ.set ?_; assumption))
        (first
          | (go_at_call_of 39 (Value.slice na D.next.2.length nc); refine (twin_keep HKN2.out HLT.out (?_ : TwinQ w _)).mono ?_; (go_split_ands; assumption); rintro e wE ⟨aE, cE, rfl, kE, hbE, hqE⟩; have fE9 := hqE.frozen 9; have fE11 := hqE.frozen 11; obtain ⟨xE9, eE9⟩ := hqE.cell 9 (by decide); obtain ⟨xE11, eE11⟩ := hqE.cell 11 (by decide))
          | (go_at_call_of 39 (Value.slice ka D.crash.2.length kc); refine (twin_keep HKC2.out HLT.out (?_ : TwinQ w _)).mono ?_; (go_split_ands; assumption); rintro e wF ⟨aF, cF, rfl, kF, hbF, hqF⟩; have fF9 := hqF.frozen 9; have fF11 := hqF.frozen 11; obtain ⟨xF9, eF9⟩ := hqF.cell 9 (by decide); obtain ⟨xF11, eF11⟩ := hqF.cell 11 (by decide)))
      have sE := hbE.size
      have sF := hbF.size
      have sS := SZ.out
      have sE' : ws.heap.size ≤ wE.heap.size := sE
      have hbEF := hbE.trans (hbF.mono hbE.size)
      have gF : wF.heap[w.heap.size]? = some (.cells (cellsOf { Y with vf := vt, bn := wr.heap.size, bs := wA.heap.size, vc := .slice aC D.chs.length cC } D) 63) := (hbEF.block _ (lt_of_heap GS.out)).trans GS.out
      obtain ⟨wf, hwf⟩ : ∃ wf, wf = ((wF.setCell ⟨w.heap.size, 9, none⟩ (.slice aE D.next.2.length cE)).setCell ⟨w.heap.size, 11, none⟩ (.slice aF D.crash.2.length cF)) := ⟨_, rfl⟩
      have gW : wf.heap[w.heap.size]? = some (.cells (cellsOf { Y with vf := vt, bn := wr.heap.size, bs := wA.heap.size, vc := .slice aC D.chs.length cC, kn := .slice aE D.next.2.length cE, kc := .slice aF D.crash.2.length cF } D) 63) := by
        rw [hwf, setCell_heap _ _ _ _ _ _ (setCell_heap _ _ _ _ _ _ gF)]
        simp [cellsOf]
      have sameW : ∀ b, b ≠ w.heap.size → wf.heap[b]? = wF.heap[b]? := fun b hne => by
        rw [hwf, Below.heap_setCell _ _ _ _ hne, Below.heap_setCell _ _ _ _ hne]
      have szW : wf.heap.size = wF.heap.size := by rw [hwf]; simp [World.setCell]
      have hqW : TwinQ w wf := by rw [hwf]; exact hqF.set.set
      rw [← hwf]
      have hfin := twin_end H.out HT.out.drew HM.out (by omega) (fun b hb hne => ((sameW b hne).trans (hbEF.block b (by show b < ws.heap.size; omega))).trans (SS.out b hb hne)) gW
        (fun X hX hlt => (kE X (fun x hx => by have := hlt x hx; show x < ws.heap.size; omega)).kept (by omega) (fun b hb hnb => (sameW b (fun e => hnb (by rw [e]; exact hX))).trans (hbF.block b hb)) (fun _ _ x => x))
        (fun X hX hlt => (kF X (fun x hx => by have := hlt x hx; omega)).kept (by omega) (fun b hb hnb => sameW b (fun e => hnb (by rw [e]; exact hX))) (fun _ _ x => x)) hqW.1
      have HFIN := Lib.hid hfin
      clear hfin hwf gW sameW szW hqW gF hbEF hbE hbF kE kF hqE hqF keepT
      go_wp2
      go_ret
      exact HFIN.out
end Go.Proofs.Ytcfdfpjemonhoaa.Dk
