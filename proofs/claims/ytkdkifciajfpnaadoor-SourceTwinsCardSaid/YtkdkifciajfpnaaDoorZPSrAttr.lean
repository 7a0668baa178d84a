import Derived.Test.YtkdkifciajfpnaaDoorZPSrDrop
import Derived.Test.YtkdkifciajfpnaaDoorZPShTail
set_option linter.unusedSimpArgs false
set_option linter.unusedVariables false
/-
  The contracts of change and Attr.
-/
namespace Go.Proofs.YtkdkifciajfpnaaDoor.Sr
open Go.RowKit Go.Maps Go.WideMaps Go.Proofs.YtkdkifciajfpnaaDoor.Rf Go.Proofs.YtkdkifciajfpnaaDoor.Nm Go.Proofs.YtkdkifciajfpnaaDoor.St

/-- Attributes, with a node's own kind and target. -/
def asOf (A : XA) (n : TE) : XA := { A with node := n.at_.node, target := n.at_.target }
def chgE (A : XA) (n : TE) (T : Tr) : Int := if chkA (asOf A n) = false then 1 else if 1099511627776 ≤ T.clock then 3 else 0
/-- What change leaves. -/
def ChgP (B : Nat) (w : World) (r : Nat) (T : Tr) (A : XA) (n : TE) (e : Ending) (w' : World) : Prop :=
  e = .returned (.int .i64 (chgE A n T)) ∧ ∃ T', CallT B w r T w' T' ∧ (chgE A n T ≠ 0 → T' = T) ∧
    (chgE A n T = 0 → ∃ xv, T' = { T with clock := T.clock + 1, L := tickT [n.p] ((T.clock + 1 : Nat) : Int) (updT { n with at_ := asOf A n, xv := xv } T.L) })
set_option linter.unusedSimpArgs false in
set_option maxHeartbeats 8000000 in
set_option maxRecDepth 100000 in
theorem change_any (B : Nat) (w : World) (r : Nat) (T : Tr) (n : TE) (hn : n ∈ T.L) (A : XA) (v : Value) (hv : XsAt w v A.xs) (hnd : n.data.length ≤ 1048576) (hB : B ≤ w.heap.size) (h : TreeAt B w r T) :
    Calls Tryd.prog 34 #[ptr r, ptr n.p, .agg (A.cells v).toArray] w (ChgP B w r T A n) := by
  obtain ⟨W, hW⟩ : ∃ W, W = w.alloc (.cells (A.cells v).toArray AtT) := ⟨_, rfl⟩
  have hb0 : Below w.heap.size w W := by rw [hW]; exact (Below.refl _ _).alloc (Nat.le_refl _) _
  have hq0 : W.heap[w.heap.size]? = some (.cells (A.cells v).toArray AtT) := by rw [hW]; exact (MapKept.heap_alloc w _).1
  have hlw : n.p < w.heap.size := h.lt n.p (by have := ownL_mem hn; simp [this])
  have q2 := (h.below hb0).node n hn
  have c2 : W.drew.cell? ⟨n.p, 2, none⟩ = some (.int .u8 (n.at_.node : Int)) := cell_of_heap q2.cells
  have c7 : W.drew.cell? ⟨n.p, 7, none⟩ = some (.string ⟨n.at_.target.toArray⟩) := cell_of_heap q2.cells
  obtain ⟨WA, hWA⟩ : ∃ WA, WA = (w.alloc (.cells ((A.cells v).set 0 (.int .u8 (n.at_.node : Int))).toArray AtT)).drew := ⟨_, rfl⟩
  obtain ⟨WB, hWB⟩ : ∃ WB, WB = (w.alloc (.cells (((A.cells v).set 0 (.int .u8 (n.at_.node : Int))).set 5 (.string ⟨n.at_.target.toArray⟩)).toArray AtT)).drew := ⟨_, rfl⟩
  have hqB : WB.heap[w.heap.size]? = some (.cells ((asOf A n).cells v).toArray AtT) := by rw [hWB]; exact (MapKept.heap_alloc w _).1
  have hbA : Below w.heap.size w WA := by rw [hWA]; exact ((Below.refl _ _).alloc (Nat.le_refl _) _).drew
  have hbB : Below w.heap.size w WB := by rw [hWB]; exact ((Below.refl _ _).alloc (Nat.le_refl _) _).drew
  have cA2 : WA.cell? ⟨n.p, 2, none⟩ = some (.int .u8 (n.at_.node : Int)) := cell_of_heap ((h.below hbA).node n hn).cells
  have cA7 : WA.cell? ⟨n.p, 7, none⟩ = some (.string ⟨n.at_.target.toArray⟩) := cell_of_heap ((h.below hbA).node n hn).cells
  have HS0 : Hid ((w.alloc (.cells (A.cells v).toArray AtT)).drew.cell? ⟨n.p, 2, none⟩ = some (.int .u8 (n.at_.node : Int)) ∧ (w.alloc (.cells (A.cells v).toArray AtT)).drew.cell? ⟨n.p, 7, none⟩ = some (.string ⟨n.at_.target.toArray⟩)) := Lib.hid (by rw [← hW]; exact ⟨c2, c7⟩)
  have HSA : Hid ((w.alloc (.cells ((A.cells v).set 0 (.int .u8 (n.at_.node : Int))).toArray AtT)).drew.cell? ⟨n.p, 2, none⟩ = some (.int .u8 (n.at_.node : Int)) ∧ (w.alloc (.cells ((A.cells v).set 0 (.int .u8 (n.at_.node : Int))).toArray AtT)).drew.cell? ⟨n.p, 7, none⟩ = some (.string ⟨n.at_.target.toArray⟩)) := Lib.hid (by rw [← hWA]; exact ⟨cA2, cA7⟩)
  have HSB : Hid ((w.alloc (.cells (((A.cells v).set 0 (.int .u8 (n.at_.node : Int))).set 5 (.string ⟨n.at_.target.toArray⟩)).toArray AtT)).drew.cell? ⟨n.p, 2, none⟩ = some (.int .u8 (n.at_.node : Int)) ∧ (w.alloc (.cells (((A.cells v).set 0 (.int .u8 (n.at_.node : Int))).set 5 (.string ⟨n.at_.target.toArray⟩)).toArray AtT)).drew.cell? ⟨n.p, 7, none⟩ = some (.string ⟨n.at_.target.toArray⟩)) := Lib.hid (by
    rw [← hWB]
    exact ⟨cell_of_heap ((h.below hbB).node n hn).cells, cell_of_heap ((h.below hbB).node n hn).cells⟩)
  have kb0 : (w.alloc (.cells (A.cells v).toArray AtT)).drew.cell? ⟨w.heap.size, 0, none⟩ = some (.int .u8 (A.node : Int)) := by rw [← hW]; exact cell_of_heap hq0
  have fb0 : (w.alloc (.cells (A.cells v).toArray AtT)).drew.frozen? ⟨w.heap.size, 0, none⟩ = false := by rw [← hW]; exact frozen_of_heap hq0
  have hXB : XsAt WB v (asOf A n).xs := hv.kept hbB.size (fun b hb => hbB.block b (hv.lt b hb))
  have CH := chk_any WB (asOf A n) v hXB
  have H := Lib.hid h; have HBB := Lib.hid hbB; have HQB := Lib.hid hqB; have HWB := Lib.hid hWB; have HWA := Lib.hid hWA; have HXB := Lib.hid hXB; have HN := Lib.hid hn; have HND := Lib.hid hnd; have HBS := Lib.hid hB
  have HWW := Lib.hid hW
  have HLW : Hid (w.heap.size < WB.heap.size) := Lib.hid (lt_of_heap hqB)
  clear h hb0 hq0 q2 c2 c7 hqB hbA hbB cA2 cA7 hXB hn hnd hB hv hW HWA
  unfold ptr at *
  go_enter Tryd.func34, Tryd.ntmps34
  go_wp2_with fail
  refine wp_region_held_drew (S := (fun w' : World => w'.cell? ⟨n.p, 2, none⟩ = some (.int .u8 (n.at_.node : Int)) ∧ w'.cell? ⟨n.p, 7, none⟩ = some (.string ⟨n.at_.target.toArray⟩))) (by kernel_rfl) HS0.out (fun hHeld => ?_)
  refine wpAnyH_take (i := 0) (v := ?_) rfl (by kernel_rfl) (by kernel_rfl) (by kernel_rfl) (fun _ _ _ h => h) (Or.inl ⟨by rfl, ?aa0⟩) hHeld ?_
  case aa0 =>
    intro wS hSw
    obtain ⟨k0, k1⟩ := hSw
    go_simp
    try with_reducible rfl
  try simp only [Act.put, List.getElem_toArray, List.getElem_cons_zero, List.getElem_cons_succ, List.setIfInBounds_toArray, List.set_cons_zero, List.set_cons_succ]
  refine wpAnyH_take (i := 1) (v := ?_) rfl (by kernel_rfl) (by kernel_rfl) (by kernel_rfl) (fun _ _ _ h => h) (Or.inl ⟨by rfl, ?aa1⟩) hHeld ?_
  case aa1 =>
    intro wS hSw
    obtain ⟨k0, k1⟩ := hSw
    go_simp
    try with_reducible rfl
  try simp only [Act.put, List.getElem_toArray, List.getElem_cons_zero, List.getElem_cons_succ, List.setIfInBounds_toArray, List.set_cons_zero, List.set_cons_succ]
  refine wpAnyH_take (i := 2) (v := ?_) rfl (by kernel_rfl) (by kernel_rfl) (by kernel_rfl) (fun _ _ _ h => h) (Or.inl ⟨by rfl, ?aa2⟩) hHeld ?_
  case aa2 =>
    intro wS hSw
    obtain ⟨k0, k1⟩ := hSw
    go_simp
    try with_reducible rfl
  try simp only [Act.put, List.getElem_toArray, List.getElem_cons_zero, List.getElem_cons_succ, List.setIfInBounds_toArray, List.set_cons_zero, List.set_cons_succ]
  refine wpAnyH_take (i := 3) (v := ?_) rfl (by kernel_rfl) (by kernel_rfl) (by kernel_rfl) (fun _ _ _ h => h) (Or.inl ⟨by rfl, ?aa3⟩) hHeld ?_
  case aa3 =>
    intro wS hSw
    obtain ⟨k0, k1⟩ := hSw
    go_simp
    try with_reducible rfl
  try simp only [Act.put, List.getElem_toArray, List.getElem_cons_zero, List.getElem_cons_succ, List.setIfInBounds_toArray, List.set_cons_zero, List.set_cons_succ]
  refine wpAnyH_take (i := 4) (v := ?_) rfl (by kernel_rfl) (by kernel_rfl) (by kernel_rfl) (fun _ _ _ h => h) (Or.inl ⟨by rfl, ?aa4⟩) hHeld ?_
  case aa4 =>
    intro wS hSw
    obtain ⟨k0, k1⟩ := hSw
    go_simp
    try with_reducible rfl
  try simp only [Act.put, List.getElem_toArray, List.getElem_cons_zero, List.getElem_cons_succ, List.setIfInBounds_toArray, List.set_cons_zero, List.set_cons_succ]
  refine wpAnyH_take (i := 5) (v := ?_) rfl (by kernel_rfl) (by kernel_rfl) (by kernel_rfl) (fun _ _ _ h => h) (Or.inl ⟨by rfl, ?aa5⟩) hHeld ?_
  case aa5 =>
    intro wS hSw
    obtain ⟨k0, k1⟩ := hSw
    go_simp
    try with_reducible rfl
  try simp only [Act.put, List.getElem_toArray, List.getElem_cons_zero, List.getElem_cons_succ, List.setIfInBounds_toArray, List.set_cons_zero, List.set_cons_succ]
  refine wpAnyH_take (i := 6) (v := ?_) rfl (by kernel_rfl) (by kernel_rfl) (by kernel_rfl) (fun _ _ _ h => h) (Or.inl ⟨by rfl, ?aa6⟩) hHeld ?_
  case aa6 =>
    intro wS hSw
    obtain ⟨k0, k1⟩ := hSw
    go_simp
    try with_reducible rfl
  try simp only [Act.put, List.getElem_toArray, List.getElem_cons_zero, List.getElem_cons_succ, List.setIfInBounds_toArray, List.set_cons_zero, List.set_cons_succ]
  refine wpAnyH_take (i := 7) (v := ?_) rfl (by kernel_rfl) (by kernel_rfl) (by kernel_rfl) (fun _ _ _ h => h) (Or.inl ⟨by rfl, ?aa7⟩) hHeld ?_
  case aa7 =>
    intro wS hSw
    obtain ⟨k0, k1⟩ := hSw
    go_simp
    try with_reducible rfl
  try simp only [Act.put, List.getElem_toArray, List.getElem_cons_zero, List.getElem_cons_succ, List.setIfInBounds_toArray, List.set_cons_zero, List.set_cons_succ]
  refine wpAnyH_take (i := 8) (v := ?_) rfl (by kernel_rfl) (by kernel_rfl) (by kernel_rfl) (fun _ _ _ h => h) (Or.inl ⟨by rfl, ?aa8⟩) hHeld ?_
  case aa8 =>
    intro wS hSw
    obtain ⟨k0, k1⟩ := hSw
    go_simp
    try with_reducible rfl
  try simp only [Act.put, List.getElem_toArray, List.getElem_cons_zero, List.getElem_cons_succ, List.setIfInBounds_toArray, List.set_cons_zero, List.set_cons_succ]
  refine wpAnyH_take (i := 9) (v := ?_) rfl (by kernel_rfl) (by kernel_rfl) (by kernel_rfl) (fun _ _ _ h => h) (Or.inl ⟨by rfl, ?aa9⟩) hHeld ?_
  case aa9 =>
    intro wS hSw
    obtain ⟨k0, k1⟩ := hSw
    go_simp
    try with_reducible rfl
  try simp only [Act.put, List.getElem_toArray, List.getElem_cons_zero, List.getElem_cons_succ, List.setIfInBounds_toArray, List.set_cons_zero, List.set_cons_succ]
  refine wpAnyH_take (i := 10) (v := ?_) rfl (by kernel_rfl) (by kernel_rfl) (by kernel_rfl) (fun _ _ _ h => h) (Or.inl ⟨by rfl, ?aa10⟩) hHeld ?_
  case aa10 =>
    intro wS hSw
    obtain ⟨k0, k1⟩ := hSw
    go_simp
    try with_reducible rfl
  try simp only [Act.put, List.getElem_toArray, List.getElem_cons_zero, List.getElem_cons_succ, List.setIfInBounds_toArray, List.set_cons_zero, List.set_cons_succ]
  refine wpAnyH_ready (rs := [11]) (by kernel_rfl) (by simp) ?_
  refine AllReadyH.cons rfl (fun K hK => ?_) AllReadyH.nil
  go_simp
  refine hK.out _ _ HSA.out (fun hHeld2 => ?_)
  clear hK K hHeld
  have hHeld := hHeld2
  clear hHeld2
  try simp only [Act.put, List.getElem_toArray, List.getElem_cons_zero, List.getElem_cons_succ, List.setIfInBounds_toArray, List.set_cons_zero, List.set_cons_succ]
  refine wpAnyH_take (i := 12) (v := ?_) rfl (by kernel_rfl) (by kernel_rfl) (by kernel_rfl) (fun _ _ _ h => h) (Or.inl ⟨by rfl, ?aa12⟩) hHeld ?_
  case aa12 =>
    intro wS hSw
    obtain ⟨k0, k1⟩ := hSw
    go_simp
    try with_reducible rfl
  try simp only [Act.put, List.getElem_toArray, List.getElem_cons_zero, List.getElem_cons_succ, List.setIfInBounds_toArray, List.set_cons_zero, List.set_cons_succ]
  refine wpAnyH_ready (rs := [13]) (by kernel_rfl) (by simp) ?_
  refine AllReadyH.cons rfl (fun K hK => ?_) AllReadyH.nil
  go_simp
  refine hK.out _ _ HSB.out (fun hHeld2 => ?_)
  clear hK K hHeld
  have hHeld := hHeld2
  clear hHeld2
  try simp only [Act.put, List.getElem_toArray, List.getElem_cons_zero, List.getElem_cons_succ, List.setIfInBounds_toArray, List.set_cons_zero, List.set_cons_succ]
  refine wpAnyH_done (by kernel_rfl) ?_ _
  clear hHeld
  try simp only [Act.put, List.getElem_toArray, List.getElem_cons_zero, List.getElem_cons_succ, List.setIfInBounds_toArray, List.set_cons_zero, List.set_cons_succ]
  clear kb0 fb0
  rw [← HWB.out]
  clear hWA hWB
  by_cases hck : chkA (asOf A n) = true
  case neg =>
    have hc : chgE A n T = 1 := by rw [chgE, if_pos (by simpa using hck)]
    rw [chkAE, if_neg hck] at CH
    have CH := Lib.hid CH
    have HC := Lib.hid hc
    clear hck hc
    go_wp2_with (first
      | (refine Sh.wpList_load_at (T := AtT) (cs := ((asOf A n).cells v).toArray) HQB.out rfl AtT (.tmp 5) rfl rfl _ Tryd.underlying42 rfl (infoAt _ _) ?_)
      | fail)
    refine CH.out.mono ?_
    rintro ex w2 ⟨rfl, hb2⟩
    have HB2 := Lib.hid (HBB.out.trans (hb2.mono HBB.out.size))
    clear hb2 CH
    go_wp2
    go_ret
    exact ⟨by rw [HC.out]; rfl, T, .same H.out HB2.out, fun _ => rfl, fun h => by rw [HC.out] at h; cases h⟩
  have hl16 := (chkA_parts hck).2.2.1
  have HE := Lib.hid (show chgE A n T = if 1099511627776 ≤ T.clock then 3 else 0 by rw [chgE, if_neg (by rw [hck]; decide)])
  rw [chkAE, if_pos hck] at CH
  have CH := Lib.hid CH
  have HCK := Lib.hid hck
  clear hck
  by_cases hst : 1099511627776 ≤ T.clock
  · have HC := Lib.hid (show chgE A n T = 3 by rw [HE.out, if_pos hst])
    clear hl16
    go_wp2_with (first
      | (refine Sh.wpList_load_at (T := AtT) (cs := ((asOf A n).cells v).toArray) HQB.out rfl AtT (.tmp 5) rfl rfl _ Tryd.underlying42 rfl (infoAt _ _) ?_)
      | fail)
    refine CH.out.mono ?_
    rintro ex w2 ⟨rfl, hb2⟩
    have HB2 := Lib.hid (HBB.out.trans (hb2.mono HBB.out.size))
    clear hb2 CH
    have ST := still_any B w2 r T (H.out.below HB2.out)
    rw [decide_eq_true hst] at ST
    unfold ptr at ST
    have ST := Lib.hid ST
    clear hst
    go_wp2_with fail
    refine ST.out.mono ?_
    rintro ex w3 ⟨rfl, hw3⟩
    obtain rfl : w2 = w3 := hw3.symm
    go_wp2
    go_ret
    exact ⟨by rw [HC.out]; rfl, T, .same H.out HB2.out, fun _ => rfl, fun h => by rw [HC.out] at h; cases h⟩
  have HC := Lib.hid (show chgE A n T = 0 by rw [HE.out, if_neg hst])
  have HCL : Hid (T.clock < 1099511627776) := Lib.hid (by omega)
  go_wp2_with (first
    | (refine Sh.wpList_load_at (T := AtT) (cs := ((asOf A n).cells v).toArray) HQB.out rfl AtT (.tmp 5) rfl rfl _ Tryd.underlying42 rfl (infoAt _ _) ?_)
    | fail)
  refine CH.out.mono ?_
  rintro ex w2 ⟨rfl, hb2⟩
  have HB2 := Lib.hid (HBB.out.trans (hb2.mono HBB.out.size))
  have HQ2 := Lib.hid ((hb2.block _ HLW.out).trans HQB.out)
  have hX2 := HXB.out.kept hb2.size (fun b hb => hb2.block b (HXB.out.lt b hb))
  clear hb2 CH
  have ST := still_any B w2 r T (H.out.below HB2.out)
  rw [decide_eq_false hst] at ST
  unfold ptr at ST
  have ST := Lib.hid ST
  have OW := Lib.hid (own_any w2 (asOf A n) v hX2 (by show A.xs.length ≤ 1000; change A.xs.length ≤ 16 at hl16; omega))
  clear hst hX2 hl16
  go_wp2_with fail
  refine ST.out.mono ?_
  rintro ex w3 ⟨rfl, hw3⟩
  obtain rfl : w2 = w3 := hw3.symm
  go_wp2_with (first
    | (refine Sh.wpList_load_at (T := AtT) (cs := ((asOf A n).cells v).toArray) HQ2.out rfl AtT (.tmp 5) rfl rfl _ Tryd.underlying42 rfl (infoAt _ _) ?_)
    | fail)
  refine OW.out.mono ?_
  rintro ex w4 ⟨v4, rfl, hx4, hf4, hb4⟩
  have HB4 := Lib.hid (HB2.out.trans (hb4.mono HB2.out.size))
  have HX4 := Lib.hid hx4
  have HF4 : Hid (∀ b ∈ xob A.xs v4, w.heap.size ≤ b) := Lib.hid (fun b hb => Nat.le_trans HB2.out.size (hf4 b hb))
  have hov : v4.oneCell' = true := xs_one hx4
  have HON : Hid ((((asOf A n).cells v4).toArray).all (·.oneCell') = true) := Lib.hid (atOne _ hov)
  have H4 := Lib.hid (H.out.below HB4.out)
  have hq4 := (H4.out.node n HN.out).cells
  have HTH : Hid (w4.there n.p 2 7) := Lib.hid (fun i hi => ⟨by
      show (w4.cell? ⟨n.p, 2 + i, none⟩).isSome = true
      obtain ⟨u, hu⟩ : ∃ u, n.cells.toArray[2 + i]? = some u := ⟨_, Array.getElem?_eq_getElem (by show 2 + i < 11; omega)⟩
      rw [show w4.cell? ⟨n.p, 2 + i, none⟩ = some u from (cell_of_heap hq4).trans hu]; rfl, frozen_of_heap hq4⟩)
  have hnew : ∃ cur', (w4.setCells n.p 2 ((asOf A n).cells v4)).heap[n.p]? = some (.cells cur' NdT) ∧ cur'.size = n.cells.toArray.size ∧ cur'.toList = n.cells.toArray.toList.take 2 ++ (asOf A n).cells v4 ++ n.cells.toArray.toList.drop (2 + ((asOf A n).cells v4).length) := heap_setCells _ 2 w4 _ hq4 (by show 2 + 7 ≤ 11; omega)
  have HU : Hid ((w4.setCells n.p 2 ((asOf A n).cells v4)).heap[n.p]? = some (.cells (TE.cells { n with at_ := asOf A n, xv := v4 }).toArray NdT)) := Lib.hid (by
    obtain ⟨cur', h1, _, h3⟩ := hnew
    rw [h1]
    have : cur' = (TE.cells { n with at_ := asOf A n, xv := v4 }).toArray := by
      apply Array.ext'
      rw [h3]
      simp [TE.cells, XA.cells]
    rw [this])
  have HT4 : Hid (Turn [n.p] w4 (w4.setCells n.p 2 ((asOf A n).cells v4))) := Lib.hid (turn_setCells _ _ _ _)
  have HPO : Hid (n.p ∈ ownL T.L) := Lib.hid (ownL_mem HN.out)
  have HTR : Hid (TreeAt B (w4.setCells n.p 2 ((asOf A n).cells v4)) r { T with L := updT { n with at_ := asOf A n, xv := v4 } T.L }) := Lib.hid (by
    refine H4.out.put (e := n) HN.out rfl rfl rfl (H4.out.kind n HN.out) HU.out (HX4.out.kept HT4.out.size (fun b hb => HT4.out.block b (HX4.out.lt b hb) ?_)) (fun b hb => ⟨fun hbo => ?_, Nat.le_trans HBS.out (HF4.out b hb)⟩) (fun b hb hne => HT4.out.block b (H4.out.lt b hb) (by simpa using hne)) HT4.out.size
    · have := HF4.out b hb
      have := H.out.lt n.p (by simp [HPO.out])
      simp; omega
    · have h1 := HF4.out b hb
      have h2 := H.out.lt b (by
        rw [List.mem_cons] at hbo ⊢
        rcases hbo with hbo | hbo
        · exact .inl hbo
        · exact .inr (List.mem_append_left _ hbo))
      omega)
  obtain ⟨W5, hW5⟩ : ∃ W5, W5 = w4.setCells n.p 2 ((asOf A n).cells v4) := ⟨_, rfl⟩
  rw [← hW5] at HTR HT4
  have HW5 := Lib.hid hW5
  have HINJ : Hid (∀ x ∈ T.L, x.p = n.p → x = n) := Lib.hid (fun x hx hxp => H.out.p_inj hx HN.out hxp)
  have HPN : Hid (∃ e ∈ updT { n with at_ := asOf A n, xv := v4 } T.L, e.p = n.p) := Lib.hid ⟨_, List.mem_map.2 ⟨n, HN.out, rfl⟩, by rw [if_pos rfl]⟩
  clear hx4 hf4 hb4 hq4 hnew OW hW5 HU
  go_wp2_with (first
    | (refine wpList_store_mid rfl AtT (.tmp 30) (.tmp 28) rfl n.p 2 ((asOf A n).cells v4).toArray rfl rfl HTH.out (infoAt _ _) HON.out ?_
       rw [show w4.setCells n.p 2 ((asOf A n).cells v4).toArray.toList = W5 from HW5.out.symm])
    | fail)
  refine (touch_row B W5 r { T with L := updT { n with at_ := asOf A n, xv := v4 } T.L } [n.p] 1 rfl (by simp) (by intro q hq; rw [List.mem_singleton] at hq; subst hq; exact HPN.out) (by have := HCL.out; show T.clock < _; omega) HTR.out).mono ?_
  rintro ex w6 ⟨rfl, ht6, hu6⟩
  have HT6 := Lib.hid ht6; have HU6 := Lib.hid hu6
  clear ht6 hu6
  go_wp2
  go_ret
  have hown : ownL (updT { n with at_ := asOf A n, xv := v4 } T.L) = ownL T.L := ownL_map (updT_facts HINJ.out rfl rfl rfl)
  have t1 : Turn (r :: ownL T.L) w W5 := (Turn.of_below (X := r :: ownL T.L) HB4.out).trans HT4.out (fun y hy => .inl (by simp at hy; subst hy; have := HPO.out; simp [this]))
  refine ⟨by rw [HC.out]; rfl, _, ⟨HT6.out, t1.trans HU6.out (fun y hy => .inl (by
    have hy : y ∈ r :: ownL (updT { n with at_ := asOf A n, xv := v4 } T.L) := hy
    rw [hown] at hy; exact hy)), fun b hb => ?_, ?_⟩, fun h => absurd HC.out h, fun _ => ⟨v4, rfl⟩⟩
  · rw [List.mem_append] at hb ⊢
    rcases hb with hb | hb
    · have hb : b ∈ ownL (tickT [n.p] _ (updT { n with at_ := asOf A n, xv := v4 } T.L)) := hb
      rw [own_tickT, hown] at hb
      exact .inl (.inl hb)
    · obtain ⟨x', hx', hb⟩ := List.mem_flatMap.1 hb
      have : ∃ x ∈ updT { n with at_ := asOf A n, xv := v4 } T.L, b ∈ xob x.at_.xs x.xv := by
        obtain ⟨x, hx, rfl | rfl⟩ := tickT_mem hx'
        · exact ⟨_, hx, hb⟩
        · exact ⟨x, hx, hb⟩
      obtain ⟨x, hx, hb⟩ := this
      obtain ⟨y, hy, rfl⟩ := List.mem_map.1 hx
      split at hb
      · exact .inr (HF4.out b hb)
      · exact .inl (.inr (List.mem_flatMap.2 ⟨y, hy, hb⟩))
  · exact .upd n { n with at_ := asOf A n, xv := v4 } HN.out ⟨rfl, rfl, rfl, rfl, rfl, rfl⟩ HCL.out HND.out HCK.out

def attrE (p : List UInt8) (A : XA) (T : Tr) : Int :=
  if splitE p ≠ 0 then 10 else match getT (splitL p) T.L with
    | none => 6
    | some n => chgE A n T
def AttrP (B : Nat) (w : World) (r : Nat) (T : Tr) (p : List UInt8) (A : XA) (e : Ending) (w' : World) : Prop :=
  e = .returned (.int .i64 (attrE p A T)) ∧ ∃ T', CallT B w r T w' T' ∧ (attrE p A T ≠ 0 → T' = T) ∧
    (attrE p A T = 0 → ∃ n xv, getT (splitL p) T.L = some n ∧ T' = { T with clock := T.clock + 1, L := tickT [n.p] ((T.clock + 1 : Nat) : Int) (updT { n with at_ := asOf A n, xv := xv } T.L) })
set_option linter.unusedSimpArgs false in
set_option maxHeartbeats 8000000 in
set_option maxRecDepth 100000 in
theorem attr_any (B : Nat) (w : World) (r : Nat) (T : Tr) (p : List UInt8) (hp : p.length ≤ 4611686018427387904) (A : XA) (v : Value) (hv : XsAt w v A.xs) (hD : ∀ e ∈ T.L, e.data.length ≤ 1048576) (hB : B ≤ w.heap.size) (h : TreeAt B w r T) :
    Calls Tryd.prog 20 #[ptr r, .string ⟨p.toArray⟩, .agg (A.cells v).toArray] w (AttrP B w r T p A) := by
  obtain ⟨W, hW⟩ : ∃ W, W = w.alloc (.cells (A.cells v).toArray AtT) := ⟨_, rfl⟩
  have hb0 : Below w.heap.size w W := by rw [hW]; exact (Below.refl _ _).alloc (Nat.le_refl _) _
  have hq0 : W.heap[w.heap.size]? = some (.cells (A.cells v).toArray AtT) := by rw [hW]; exact (MapKept.heap_alloc w _).1
  have FI := Lib.hid (find_any B W r T p hp (h.below hb0))
  have H := Lib.hid h; have HB0 := Lib.hid hb0; have HQ0 := Lib.hid hq0; have HW := Lib.hid hW; have HV := Lib.hid hv; have HD := Lib.hid hD; have HBS := Lib.hid hB
  clear h hb0 hq0 hW hv hD hB
  unfold ptr at *
  go_enter Tryd.func20, Tryd.ntmps20
  go_wp2_with fail
  change Calls _ _ _ (w.alloc (.cells (A.cells v).toArray AtT)) _
  rw [← HW.out]
  refine FI.out.mono ?_
  rintro ex w1 ⟨vl, rfl, hp1, hb1⟩
  have HB := Lib.hid (HB0.out.trans (hb1.mono HB0.out.size))
  have HQ1 : Hid (w1.heap[w.heap.size]? = some (.cells (A.cells v).toArray AtT)) := Lib.hid ((hb1.block _ (lt_of_heap HQ0.out)).trans HQ0.out)
  obtain ⟨la, lc, rfl⟩ := rowS_slice hp1.row
  clear FI hp1 hb1
  rw [findE, findN]
  rcases splitE_cases p with h0 | ⟨h0, _⟩
  case inr =>
    have hc : attrE p A T = 10 := by rw [attrE, if_pos (by rw [h0]; decide)]
    have HC := Lib.hid hc
    rw [if_neg (by rw [h0]; decide), if_neg (by rw [h0]; decide)]
    unfold ptrO
    clear h0 hc
    go_wp2
    go_ret
    exact ⟨by rw [HC.out]; rfl, T, .same H.out HB.out, fun _ => rfl, fun h => by rw [HC.out] at h; cases h⟩
  rw [if_pos h0, if_pos h0]
  have HE1 : Hid (attrE p A T = match getT (splitL p) T.L with
    | none => 6
    | some n => chgE A n T) := Lib.hid (by rw [attrE, if_neg (by rw [h0]; decide)])
  clear h0
  cases hg : getT (splitL p) T.L with
  | none =>
    have HC := Lib.hid (show attrE p A T = 6 by rw [HE1.out, hg])
    unfold ptrO
    clear hg HE1
    go_wp2
    go_ret
    exact ⟨by rw [HC.out]; rfl, T, .same H.out HB.out, fun _ => rfl, fun h => by rw [HC.out] at h; cases h⟩
  | some n =>
    have HC := Lib.hid (show attrE p A T = chgE A n T by rw [HE1.out, hg])
    have HG := Lib.hid hg
    obtain ⟨hn, _⟩ := getT_nm hg
    have hX1 := HV.out.kept HB.out.size (fun b hb => HB.out.block b (HV.out.lt b hb))
    have CH := change_any B w1 r T n hn A v hX1 (HD.out n hn) (Nat.le_trans HBS.out HB.out.size) (H.out.below HB.out)
    unfold ptr at CH
    have CH := Lib.hid CH
    unfold ptrO
    clear hg HE1 hn hX1
    go_wp2_with (first
      | (refine Sh.wpList_load_at (T := AtT) (cs := (A.cells v).toArray) HQ1.out rfl AtT (.tmp 5) rfl rfl _ Tryd.underlying42 rfl (infoAt _ _) ?_)
      | fail)
    refine CH.out.mono ?_
    rintro ex w2 ⟨rfl, T', hct, hno, hyes⟩
    have HCT := Lib.hid hct; have HNO := Lib.hid hno; have HYES := Lib.hid hyes
    clear hct hno hyes CH
    go_wp2
    go_ret
    refine ⟨by rw [HC.out]; rfl, T', ⟨HCT.out.tree, (Turn.of_below HB.out).trans HCT.out.turn (fun y hy => .inl hy), fun b hb => ?_, HCT.out.ch⟩, fun h => HNO.out (by rw [← HC.out]; exact h), fun h => ?_⟩
    · rcases HCT.out.own b hb with h1 | h1
      · exact .inl h1
      · exact .inr (Nat.le_trans HB.out.size h1)
    · obtain ⟨xv, h1⟩ := HYES.out (by rw [← HC.out]; exact h)
      exact ⟨n, xv, HG.out, h1⟩
end Go.Proofs.YtkdkifciajfpnaaDoor.Sr
