import Derived.Test.YthcjjekkjbidlaaDoorZPStRow
set_option linter.unusedSimpArgs false
set_option linter.unusedVariables false
/-
  The contracts of the sums of bytes: the program's and the reference's.
-/
namespace Go.Proofs.YthcjjekkjbidlaaDoor.Sh
open Go.RowKit Go.Maps Go.Proofs.YthcjjekkjbidlaaDoor.Rf Go.Proofs.YthcjjekkjbidlaaDoor.Rd Go.Proofs.YthcjjekkjbidlaaDoor.St

abbrev sumV (s : List UInt8) : Value := .agg (Lib.byteCells (sum s)).toArray
theorem infoSum (s : List UInt8) : (Tryd.prog.info? IdT').map (·.size) = some (Lib.byteCells (sum s)).toArray.size := infoId (sum_length s)
set_option linter.unusedSimpArgs false in
set_option maxHeartbeats 2000000 in
set_option maxRecDepth 100000 in
theorem quick_any (w : World) (s : List UInt8) (hs : s.length ≤ 140737488351232) :
    Calls Tryd.prog 49 #[.string ⟨s.toArray⟩] w fun e w' => e = .returned (sumV s) ∧ Below w.heap.size w w' := by
  have HB0 := Lib.hid ((Below.refl w.heap.size w).alloc (Nat.le_refl _) (.cells zeroI IdT'))
  have HA0 : Hid ((w.alloc (.cells zeroI IdT')).heap[w.heap.size]? = some (.cells zeroI IdT')) := Lib.hid (at_new _ _)
  obtain ⟨a, ha⟩ : ∃ a, a = w.heap.size := ⟨_, rfl⟩
  obtain ⟨b, hb⟩ : ∃ b, b = w.heap.size + 1 := ⟨_, rfl⟩
  rw [← ha] at HA0
  have HZ32 : Hid (zeroI.size = (Lib.byteCells (sum s)).toArray.size) := Lib.hid (by
    have e : (Lib.byteCells (sum s)).toArray.size = 32 := by rw [List.size_toArray, Lib.byteCells_length, sum_length]
    exact e.symm)
  have HQ := Lib.hid (fun w => sum_any w s hs)
  obtain ⟨l, hl⟩ : ∃ l, l = sum s := ⟨_, rfl⟩
  have IS := Lib.hid (infoSum s)
  rw [← hl] at HQ HZ32 IS
  have ON := Lib.hid (oneId l)
  have HL := Lib.hid hl
  have HZ1 : Hid (w.heap.size + 1 = (w.alloc (.cells zeroI IdT')).heap.size) := Lib.hid (one_size w _).symm
  have HZ2 : Hid ((#[.int .u32 0, .int .u32 0, .int .u32 0, .int .u32 0, .int .u32 0, .int .u32 0, .int .u32 0, .int .u32 0] : Array Value).size = H0.cells.size) := Lib.hid rfl
  clear hl
  go_enter Tryd.func49, Tryd.ntmps49
  go_wp2_with (first
    | (refine wpList_store_new HZ1.out rfl T8 (.tmp 3) (.tmp 4) rfl H0.cells rfl rfl (info8 H0) HZ2.out (one8 H0) ?_
       intro w1 hq1 hb1 hs1
       have HH1 : Hid (w1.heap[b]? = some (.cells H0.cells T8)) := Lib.hid (by rw [hb]; exact hq1)
       have HA1 : Hid (w1.heap[a]? = some (.cells zeroI IdT')) := Lib.hid ((hb1.block a (by omega)).trans HA0.out)
       have HB1 : Hid (Below w.heap.size w w1) := Lib.hid (HB0.out.trans (hb1.mono (by omega)))
       rw [← hb, ← ha]
       clear hq1 hb1 hs1))
  have hba : a < b := by omega
  have HAW := Lib.hid ha
  clear HA0 HB0 hb ha HZ1 HZ2
  have hr1 : w1.drew.rangeAt b 0 H0.cells.toList := range_block (w := w1.drew) HH1.out
  refine wp_region_held_drew (S := (fun w' : World => w'.rangeAt b 0 H0.cells.toList)) (by kernel_rfl) hr1 (fun hHeld => ?_)
  clear hr1
  refine wpAnyH_take (i := 0) (v := ?_) rfl (by kernel_rfl) (by kernel_rfl) (by kernel_rfl) (fun _ _ _ h => h) (Or.inl ⟨by rfl, ?rf0⟩) hHeld ?_
  case rf0 =>
    intro wS hSw
    clear hSw
    go_simp
    try with_reducible rfl
  try simp only [Act.put, List.getElem_toArray, List.getElem_cons_zero, List.getElem_cons_succ, List.setIfInBounds_toArray, List.set_cons_zero, List.set_cons_succ]
  refine' wpAnyH_take (i := 1) (v := _) rfl (by kernel_rfl) (by kernel_rfl) (by kernel_rfl) (fun _ _ _ h => h) (yieldsIf_load_mid (by rfl) _ _ rfl b 0 rfl H0.cells.toList _ ?rf1S ?rf1u ?rf1d ?rf1i) hHeld ?rf1x
  case rf1S => exact fun _ h => h
  case rf1u => exact Tryd.underlying125
  case rf1d => rfl
  case rf1i => exact info8 H0
  try simp only [Act.put, List.getElem_toArray, List.getElem_cons_zero, List.getElem_cons_succ, List.setIfInBounds_toArray, List.set_cons_zero, List.set_cons_succ]
  refine wpAnyH_ready (rs := [2]) (by kernel_rfl) (by simp) ?_
  refine AllReadyH.cons rfl (fun K hK => ?_) AllReadyH.nil
  go_simp
  refine (ref_constants w1.drew).mono ?_
  rintro ex w2 ⟨rfl, hb2⟩
  have HH2 : Hid (w2.heap[b]? = some (.cells H0.cells T8)) := Lib.hid ((hb2.block b (lt_of_heap HH1.out)).trans HH1.out)
  have HA2 : Hid (w2.heap[a]? = some (.cells zeroI IdT')) := Lib.hid ((hb2.block a (lt_of_heap HA1.out)).trans HA1.out)
  have HB2 : Hid (Below w.heap.size w w2) := Lib.hid (HB1.out.drew.trans (hb2.mono HB1.out.size))
  clear hb2
  go_wp2_with fail
  refine hK.out _ _ (range_block HH2.out) (fun hHeld2 => ?_)
  clear hK K hHeld
  have hHeld := hHeld2
  clear hHeld2
  try simp only [Act.put, List.getElem_toArray, List.getElem_cons_zero, List.getElem_cons_succ, List.setIfInBounds_toArray, List.set_cons_zero, List.set_cons_succ]
  refine wpAnyH_ready (rs := [3]) (by kernel_rfl) (by simp) ?_
  refine AllReadyH.cons rfl (fun K hK => ?_) AllReadyH.nil
  go_simp
  refine (HQ.out w2).mono ?_
  rintro ex w3 ⟨rfl, hb3⟩
  have HH3 : Hid (w3.heap[b]? = some (.cells H0.cells T8)) := Lib.hid ((hb3.block b (lt_of_heap HH2.out)).trans HH2.out)
  have HA3 : Hid (w3.heap[a]? = some (.cells zeroI IdT')) := Lib.hid ((hb3.block a (lt_of_heap HA2.out)).trans HA2.out)
  have HB3 : Hid (Below w.heap.size w w3) := Lib.hid (HB2.out.trans (hb3.mono HB2.out.size))
  clear hb3
  go_wp2_with fail
  refine hK.out _ _ (range_block HH3.out) (fun hHeld2 => ?_)
  clear hK K hHeld
  have hHeld := hHeld2
  clear hHeld2
  try simp only [Act.put, List.getElem_toArray, List.getElem_cons_zero, List.getElem_cons_succ, List.setIfInBounds_toArray, List.set_cons_zero, List.set_cons_succ]
  refine wpAnyH_ready (rs := [4]) (by kernel_rfl) (by simp) ?_
  refine AllReadyH.cons rfl (fun K hK => ?_) AllReadyH.nil
  refine step_wp rfl ?_
  refine wp_store_row IdT' (.tmp 2) (.tmp 8) rfl a (Lib.byteCells l).toArray rfl rfl IdT' zeroI HA3.out IS.out HZ32.out ON.out ?_
  obtain ⟨w4, hw4⟩ : ∃ w4, w4 = w3.setRow a (Lib.byteCells l).toArray := ⟨_, rfl⟩
  have HQ4 : Hid (w4.heap[a]? = some (.cells (Lib.byteCells l).toArray IdT')) := Lib.hid (by rw [hw4]; exact setRow_heap _ _ _ _ _ _ HA3.out)
  have HH4 : Hid (w4.heap[b]? = some (.cells H0.cells T8)) := Lib.hid (by rw [hw4]; exact (setRow_other _ _ _ _ (by omega)).trans HH3.out)
  have HB4 : Hid (Below w.heap.size w w4) := Lib.hid (by rw [hw4]; exact Go.below_setRow HB3.out (by rw [HAW.out]; exact Nat.le_refl _) _)
  rw [← hw4]
  refine hK.out _ _ (range_block HH4.out) (fun hHeld2 => ?_)
  clear hK K hHeld hHeld2 hw4
  try simp only [Act.put, List.getElem_toArray, List.getElem_cons_zero, List.getElem_cons_succ, List.setIfInBounds_toArray, List.set_cons_zero, List.set_cons_succ]
  refine wpAnyH_done (by kernel_rfl) ?_ _
  try simp only [Act.put, List.getElem_toArray, List.getElem_cons_zero, List.getElem_cons_succ, List.setIfInBounds_toArray, List.set_cons_zero, List.set_cons_succ]
  go_wp2
  refine bodyPost_ret (v := .agg (Lib.byteCells l).toArray) (results_cell_row rfl _ _ a IdT' _ (0, 0) _ rfl HQ4.out Tryd.underlying63 rfl IS.out) rfl ⟨by rw [HL.out], HB4.out⟩
end Go.Proofs.YthcjjekkjbidlaaDoor.Sh
