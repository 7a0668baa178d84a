import Derived.Test.YtkdkifciajfpnaaDoorZPSrTwin
import Derived.Test.YtkdkifciajfpnaaDoorZPSrChanged
set_option linter.unusedSimpArgs false
set_option linter.unusedVariables false
/-
  The contract of a tree's Twin.
-/
namespace Go.Proofs.YtkdkifciajfpnaaDoor.Sr
open Go.RowKit Go.Maps Go.WideMaps Go.Proofs.YtkdkifciajfpnaaDoor.Rf Go.Proofs.YtkdkifciajfpnaaDoor.Nm Go.Proofs.YtkdkifciajfpnaaDoor.St

theorem twin_any (B r : Nat) (T : Tr) (hF : Fine T) (M : Nat) (hM : ∀ e ∈ T.L, e.nm.length ≤ M) : ∀ (k : Nat) (e : TE), e ∈ T.L → M ≤ e.nm.length + k → TwinOk B r T e
  | 0, e, he, hk => twin_step B r T hF e he (fun x hx s hxn => by
      have := hM x hx
      rw [hxn, List.length_append, List.length_singleton] at this
      omega)
  | k + 1, e, he, hk => twin_step B r T hF e he (fun x hx s hxn => twin_any B r T hF M hM k x hx (by rw [hxn, List.length_append, List.length_singleton]; omega))
theorem TwF.kept {C0 : Nat} {w w' : World} {T : Tr} {n : PN} {p : Nat} {C : List TE} (h : TwF C0 w T n p C) (hs : w.heap.size ≤ w'.heap.size) (hb : ∀ b, C0 ≤ b → w'.heap[b]? = w.heap[b]?) : TwF C0 w' T n p C :=
  ⟨h.perm, h.root, h.lies.kept hs (fun b hx => hb b (h.lies.fresh b hx))⟩
set_option linter.unusedSimpArgs false in
set_option maxHeartbeats 8000000 in
set_option maxRecDepth 100000 in
theorem twintree_any (B : Nat) (w : World) (r : Nat) (T : Tr) (hF : Fine T) (h : TreeAt B w r T) :
    Calls Tryd.prog 7 #[ptr r] w fun z w' => ∃ r2 U, z = .returned (ptr r2) ∧ TreeAt w.heap.size w' r2 U ∧ U.bare = T.bare ∧ Below w.heap.size w w' := by
  obtain ⟨M, hM⟩ := max_len T.L
  obtain ⟨e, he0, hr⟩ := h.root
  obtain ⟨he, hn⟩ := getT_nm he0
  have TW := twin_any B r T hF M hM M e he (by omega)
  have HTW := Lib.hid TW; have H := Lib.hid h; have HN := Lib.hid hn
  unfold ptr at hr
  have HRW : Hid (w.rangeAt r 0 [.pointer (some ⟨e.p, 0, none⟩), .int .i64 (T.clock : Int), .int .u64 (T.most : Int), .int .i64 (T.reads : Int)]) := Lib.hid (range_block hr)
  have HI : Hid ((Tryd.prog.info? TrT).map (·.size) = some ([.pointer (some ⟨e.p, 0, none⟩), .int .i64 (T.clock : Int), .int .u64 (T.most : Int), .int .i64 (T.reads : Int)] : List Value).toArray.size) := Lib.hid (by show _ = some 4; kernel_rfl)
  have c0 : w.cell? ⟨r, 0, none⟩ = some (.pointer (some ⟨e.p, 0, none⟩)) := cell_of_heap hr
  have HR := Lib.hid hr
  clear h hF he0 he hn hM TW hr
  unfold ptr at *
  go_enter Tryd.func7, Tryd.ntmps7
  obtain ⟨w2, hw2⟩ : ∃ w2, w2 = w.alloc (.cells #[.pointer (some ⟨e.p, 0, none⟩), .int .i64 (T.clock : Int), .int .u64 (T.most : Int), .int .i64 (T.reads : Int)] TrT) := ⟨_, rfl⟩
  have hq2 : w2.heap[w.heap.size]? = some (.cells #[.pointer (some ⟨e.p, 0, none⟩), .int .i64 (T.clock : Int), .int .u64 (T.most : Int), .int .i64 (T.reads : Int)] TrT) := by rw [hw2]; exact (MapKept.heap_alloc w _).1
  have hb2 : Below w.heap.size w w2 := by rw [hw2]; exact (Below.refl _ _).alloc (Nat.le_refl _) _
  have HQ2 := Lib.hid hq2; have HB2 := Lib.hid hb2; have HW2 := Lib.hid hw2
  have c02 : (w.alloc (.cells #[.pointer (some ⟨e.p, 0, none⟩), .int .i64 (T.clock : Int), .int .u64 (T.most : Int), .int .i64 (T.reads : Int)] TrT)).cell? ⟨r, 0, none⟩ = some (.pointer (some ⟨e.p, 0, none⟩)) := by
    rw [← hw2]; exact cell_of_heap ((hb2.block r (lt_of_heap HR.out)).trans HR.out)
  have CL := HTW.out w2 (H.out.below hb2)
  rw [HN.out] at CL
  unfold ptr at CL
  have CL := Lib.hid CL
  clear hq2 hb2 hw2
  go_wp2_with (first
    | (refine wpList_load_mid rfl _ _ rfl r 0 rfl [.pointer (some ⟨e.p, 0, none⟩), .int .i64 (T.clock : Int), .int .u64 (T.most : Int), .int .i64 (T.reads : Int)] _ HRW.out Tryd.underlying59 rfl HI.out ?_)
    | fail)
  have hch : (w.alloc (.cells #[.pointer (some ⟨e.p, 0, none⟩), .int .i64 (T.clock : Int), .int .u64 (T.most : Int), .int .i64 (T.reads : Int)] TrT)) = w2 := HW2.out.symm
  rw [hch]
  clear hch c02 c0
  refine CL.out.mono ?_
  rintro ex w3 ⟨p, C, rfl, hC, hb3⟩
  have hl2 := lt_of_heap HQ2.out
  have hq3 : w3.heap[w.heap.size]? = some (.cells #[.pointer (some ⟨e.p, 0, none⟩), .int .i64 (T.clock : Int), .int .u64 (T.most : Int), .int .i64 (T.reads : Int)] TrT) := (hb3.block _ hl2).trans HQ2.out
  have HC := Lib.hid hC; have HB3 := Lib.hid hb3; have HQ3 := Lib.hid hq3; have HL2 := Lib.hid hl2
  have hcur : ∃ u, w3.cell? ⟨w.heap.size, 0, none⟩ = some u := ⟨.pointer (some ⟨e.p, 0, none⟩), cell_of_heap hq3⟩
  obtain ⟨u, cu⟩ := hcur
  have fu : w3.frozen? ⟨w.heap.size, 0, none⟩ = false := frozen_of_heap hq3
  clear hC hb3 hq3 hl2 CL
  go_wp2
  go_ret
  obtain ⟨W, hW⟩ : ∃ W, W = w3.setCell ⟨w.heap.size, 0, none⟩ (.pointer (some ⟨p, 0, none⟩)) := ⟨_, rfl⟩
  rw [← hW]
  have hq4 : W.heap[w.heap.size]? = some (.cells #[ptr p, .int .i64 (T.clock : Int), .int .u64 (T.most : Int), .int .i64 (T.reads : Int)] TrT) := by rw [hW, setCell_heap _ _ _ _ _ _ HQ3.out]; rfl
  have hb4 : Below w.heap.size w3 W := by rw [hW]; exact (Below.refl _ _).setCell (p := ⟨w.heap.size, 0, none⟩) (Nat.le_refl _) _
  have hb : Below w.heap.size w W := (HB2.out.trans (HB3.out.mono HB2.out.size)).trans hb4
  have hC4 : TwF w2.heap.size W T [] p C := HC.out.kept hb4.size (fun b hb => by rw [hW]; exact Below.heap_setCell _ _ _ _ (by have := HL2.out; show b ≠ w.heap.size; omega))
  obtain ⟨h1, h2, _⟩ := hC4.tree (B2 := w.heap.size) H.out hq4 (fun hc => by have := hC4.lies.fresh _ hc; have := HL2.out; omega) HB2.out.size (Nat.le_refl _)
  exact ⟨w.heap.size, _, rfl, h1, h2, hb⟩
end Go.Proofs.YtkdkifciajfpnaaDoor.Sr
/-
  The contracts of slices.Equal at extended attributes, of attrs.Same, of the statements' same and texts, where the two are equal.
-/
namespace Go.Proofs.YtkdkifciajfpnaaDoor.Sr
open Go.RowKit Go.Maps Go.WideMaps Go.Proofs.YtkdkifciajfpnaaDoor.Rf Go.Proofs.YtkdkifciajfpnaaDoor.Nm Go.Proofs.YtkdkifciajfpnaaDoor.St

set_option linter.unusedSimpArgs false in
set_option maxHeartbeats 8000000 in
set_option maxRecDepth 100000 in
theorem xeq_any (w : World) (xs : Xs) (v u : Value) (hv : XsAt w v xs) (hu : XsAt w u xs) :
    Calls Tryd.prog 51 #[v, u] w fun e w' => e = .returned (.bool true) ∧ Below w.heap.size w w' := by
  obtain ⟨va, vc, rfl, hxm, _, hxc⟩ := hv
  obtain ⟨ua, uc, rfl, _, _, hyc⟩ := hu
  have HXC := Lib.hid hxc; have HYC := Lib.hid hyc
  unfold maxLen at hxm
  clear hxc hyc
  go_enter Tryd.func51, Tryd.ntmps51
  go_wp2
  go_loopw [13] (fun v13 wr => ∃ i : Nat, i ≤ xs.length ∧ v13 = .int .i64 (i : Int) ∧ Hid (Below w.heap.size w wr)) (fun v13 _ => xs.length - (RowKit.intOf v13).toNat)
  case atStart => exact ⟨0, by omega, rfl, Lib.hid (Below.refl _ _)⟩
  case round =>
    obtain ⟨i, hi, rfl, HB⟩ := hrel
    by_cases hil : (i : Int) < (xs.length : Int)
    · have hi2 : i < xs.length := by omega
      obtain ⟨x, hx⟩ : ∃ x, xs[i]? = some x := ⟨_, List.getElem?_eq_getElem hi2⟩
      obtain ⟨b, o, rfl, hb, hcl⟩ := HXC.out (fun h => by rw [h] at hi2; cases hi2)
      obtain ⟨b2, o2, rfl, hb2, hcl2⟩ := HYC.out (fun h => by rw [h] at hi2; cases hi2)
      have KS : Hid (∀ w', Below w.heap.size w w' → w'.rangeAt b (o + i * 2) [.string ⟨x.1.toArray⟩, .string ⟨x.2.toArray⟩] ∧ w'.rangeAt b2 (o2 + i * 2) [.string ⟨x.1.toArray⟩, .string ⟨x.2.toArray⟩]) := Lib.hid (fun w' hw => by
        obtain ⟨c1, c2⟩ := hcl i x hx
        obtain ⟨d1, d2⟩ := hcl2 i x hx
        have e1 := (World.cell?_of_block (a := ⟨b, o + i * 2, none⟩) (hw.block b hb)).trans c1
        have e2 := (World.cell?_of_block (a := ⟨b, o + i * 2 + 1, none⟩) (hw.block b hb)).trans c2
        have f1 := (World.cell?_of_block (a := ⟨b2, o2 + i * 2, none⟩) (hw.block b2 hb2)).trans d1
        have f2 := (World.cell?_of_block (a := ⟨b2, o2 + i * 2 + 1, none⟩) (hw.block b2 hb2)).trans d2
        constructor <;> intro j z hz
        · match j, hz with
          | 0, hz => obtain rfl := Option.some.inj hz; exact e1
          | 1, hz => obtain rfl := Option.some.inj hz; exact e2
        · match j, hz with
          | 0, hz => obtain rfl := Option.some.inj hz; exact f1
          | 1, hz => obtain rfl := Option.some.inj hz; exact f2)
      have HI2 := Lib.hid (infoXa1 x)
      have hsth : Tryd.prog.stoodInHeld 78 = false := by kernel_rfl
      clear hcl hcl2 hx
      go_wp2
      refine wp_region_held_drew (S := (fun w' : World => w'.rangeAt b (o + i * 2) [.string ⟨x.1.toArray⟩, .string ⟨x.2.toArray⟩] ∧ w'.rangeAt b2 (o2 + i * 2) [.string ⟨x.1.toArray⟩, .string ⟨x.2.toArray⟩])) (by kernel_rfl) (KS.out _ HB.out.drew) (fun hHeld => ?_)
      refine wpAnyH_take (i := 0) (v := ?_) rfl (by kernel_rfl) (by kernel_rfl) (by kernel_rfl) (fun _ _ _ h => h) (Or.inl ⟨by rfl, ?ra0⟩) hHeld ?_
      case ra0 =>
        intro wS hSw
        obtain ⟨k0, k1⟩ := hSw
        go_simp
        try with_reducible rfl
      try simp only [Act.put, List.getElem_toArray, List.getElem_cons_zero, List.getElem_cons_succ, List.setIfInBounds_toArray, List.set_cons_zero, List.set_cons_succ]
      refine wpAnyH_take (i := 1) (v := ?_) rfl (by kernel_rfl) (by kernel_rfl) (by kernel_rfl) (fun _ _ _ h => h) (Or.inl ⟨by rfl, ?ra1⟩) hHeld ?_
      case ra1 =>
        intro wS hSw
        obtain ⟨k0, k1⟩ := hSw
        go_simp
        try with_reducible rfl
      try simp only [Act.put, List.getElem_toArray, List.getElem_cons_zero, List.getElem_cons_succ, List.setIfInBounds_toArray, List.set_cons_zero, List.set_cons_succ]
      refine wpAnyH_take (i := 2) (v := ?_) rfl (by kernel_rfl) (by kernel_rfl) (by kernel_rfl) (fun _ _ _ h => h) (Or.inl ⟨by rfl, ?ra2⟩) hHeld ?_
      case ra2 =>
        intro wS hSw
        obtain ⟨k0, k1⟩ := hSw
        go_simp
        try with_reducible rfl
      try simp only [Act.put, List.getElem_toArray, List.getElem_cons_zero, List.getElem_cons_succ, List.setIfInBounds_toArray, List.set_cons_zero, List.set_cons_succ]
      refine' wpAnyH_take (i := 3) (v := _) rfl (by kernel_rfl) (by kernel_rfl) (by kernel_rfl) (fun _ _ _ h => h) (yieldsIf_load_mid (by rfl) _ _ rfl b (o + i * 2) rfl [.string ⟨x.1.toArray⟩, .string ⟨x.2.toArray⟩] _ ?ra3S ?ra3u ?ra3d ?ra3i) hHeld ?ra3x
      case ra3S =>
        intro wS hSw
        obtain ⟨k0, k1⟩ := hSw
        exact k0
      case ra3u => exact Tryd.underlying78
      case ra3d => rfl
      case ra3i => exact HI2.out
      try simp only [Act.put, List.getElem_toArray, List.getElem_cons_zero, List.getElem_cons_succ, List.setIfInBounds_toArray, List.set_cons_zero, List.set_cons_succ]
      refine wpAnyH_take (i := 4) (v := ?_) rfl (by kernel_rfl) (by kernel_rfl) (by kernel_rfl) (fun _ _ _ h => h) (Or.inl ⟨by rfl, ?ra4⟩) hHeld ?_
      case ra4 =>
        intro wS hSw
        obtain ⟨k0, k1⟩ := hSw
        go_simp
        try with_reducible rfl
      try simp only [Act.put, List.getElem_toArray, List.getElem_cons_zero, List.getElem_cons_succ, List.setIfInBounds_toArray, List.set_cons_zero, List.set_cons_succ]
      refine wpAnyH_take (i := 5) (v := ?_) rfl (by kernel_rfl) (by kernel_rfl) (by kernel_rfl) (fun _ _ _ h => h) (Or.inl ⟨by rfl, ?ra5⟩) hHeld ?_
      case ra5 =>
        intro wS hSw
        obtain ⟨k0, k1⟩ := hSw
        go_simp
        try with_reducible rfl
      try simp only [Act.put, List.getElem_toArray, List.getElem_cons_zero, List.getElem_cons_succ, List.setIfInBounds_toArray, List.set_cons_zero, List.set_cons_succ]
      refine wpAnyH_take (i := 6) (v := ?_) rfl (by kernel_rfl) (by kernel_rfl) (by kernel_rfl) (fun _ _ _ h => h) (Or.inl ⟨by rfl, ?ra6⟩) hHeld ?_
      case ra6 =>
        intro wS hSw
        obtain ⟨k0, k1⟩ := hSw
        go_simp
        try with_reducible rfl
      try simp only [Act.put, List.getElem_toArray, List.getElem_cons_zero, List.getElem_cons_succ, List.setIfInBounds_toArray, List.set_cons_zero, List.set_cons_succ]
      refine' wpAnyH_take (i := 7) (v := _) rfl (by kernel_rfl) (by kernel_rfl) (by kernel_rfl) (fun _ _ _ h => h) (yieldsIf_load_mid (by rfl) _ _ rfl b2 (o2 + i * 2) rfl [.string ⟨x.1.toArray⟩, .string ⟨x.2.toArray⟩] _ ?ra7S ?ra7u ?ra7d ?ra7i) hHeld ?ra7x
      case ra7S =>
        intro wS hSw
        obtain ⟨k0, k1⟩ := hSw
        exact k1
      case ra7u => exact Tryd.underlying78
      case ra7d => rfl
      case ra7i => exact HI2.out
      try simp only [Act.put, List.getElem_toArray, List.getElem_cons_zero, List.getElem_cons_succ, List.setIfInBounds_toArray, List.set_cons_zero, List.set_cons_succ]
      refine wpAnyH_take (i := 8) (v := ?_) rfl (by kernel_rfl) (by kernel_rfl) (by kernel_rfl) (fun _ _ _ h => h) (Or.inl ⟨by rfl, ?ra8⟩) hHeld ?_
      case ra8 =>
        intro wS hSw
        obtain ⟨k0, k1⟩ := hSw
        go_simp
        try with_reducible rfl
      try simp only [Act.put, List.getElem_toArray, List.getElem_cons_zero, List.getElem_cons_succ, List.setIfInBounds_toArray, List.set_cons_zero, List.set_cons_succ]
      refine wpAnyH_done (by kernel_rfl) ?_ _
      clear hHeld
      try simp only [Act.put, List.getElem_toArray, List.getElem_cons_zero, List.getElem_cons_succ, List.setIfInBounds_toArray, List.set_cons_zero, List.set_cons_succ]
      go_wp2
      go_roundw
      case rel => exact ⟨i + 1, by omega, by go_num, Lib.hid HB.out.drew⟩
      case measure => simp [RowKit.intOf]; omega
    · obtain rfl : i = xs.length := by omega
      go_wp2
      go_ret
      exact ⟨rfl, HB.out⟩

end Go.Proofs.YtkdkifciajfpnaaDoor.Sr
