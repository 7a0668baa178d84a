import Derived.Test.YtpbhkaokgpacoaaGreatDoorZStIn
set_option linter.unusedSimpArgs false
set_option linter.unusedVariables false
/-
  The law's want: an entry in plain words, as the reference's.
-/
namespace Go.Proofs.YtpbhkaokgpacoaaGreatDoor.St
open Go.RowKit Go.Maps Go.WideMaps Go.Proofs.YtpbhkaokgpacoaaGreatDoor.Rf Go.Proofs.YtpbhkaokgpacoaaGreatDoor.Rd

set_option linter.unusedSimpArgs false in
set_option maxHeartbeats 4000000 in
set_option maxRecDepth 100000 in
theorem want_any (w : World) (x : It) (hx : x.Fits) :
    Calls Tryz.prog 11 #[.agg x.cells.toArray] w fun e w' => e = .returned (enV x.se) ∧ Below w.heap.size w w' := by
  obtain ⟨W2, hW⟩ : ∃ W2, W2 = (w.alloc (.cells x.cells.toArray 33)).alloc (.cells zeroS.cells.toArray 49) := ⟨_, rfl⟩
  have hb2 : Below w.heap.size w W2 := by rw [hW]; exact ((Below.refl _ _).alloc (Nat.le_refl _) _).alloc (by rw [one_size]; omega) _
  have hq0 : W2.heap[w.heap.size]? = some (.cells x.cells.toArray 33) := by rw [hW]; exact at_alloc (MapKept.heap_alloc w _).1 _
  have hq1 : W2.heap[w.heap.size + 1]? = some (.cells zeroS.cells.toArray 49) := by
    have := (MapKept.heap_alloc (w.alloc (.cells x.cells.toArray 33)) (.cells zeroS.cells.toArray 49)).1
    rw [one_size] at this
    rw [hW]; exact this
  have HB2 := Lib.hid hb2; have HW := Lib.hid hW
  have ID := Lib.hid (fun w => id_any w x.idt (by have := hx.idt; unfold maxLen; omega))
  have EOK := Lib.hid (It.fits hx).enR
  have FC : Hid (∀ w' : World, Below W2.heap.size W2 w' → (w'.cell? ⟨w.heap.size, 0, none⟩ = some (.string ⟨x.path.toArray⟩) ∧ w'.cell? ⟨w.heap.size, 1, none⟩ = some (.int .u8 (x.node.toNat : Int)) ∧ w'.cell? ⟨w.heap.size, 2, none⟩ = some (.int .i64 x.size) ∧ w'.cell? ⟨w.heap.size, 3, none⟩ = some (.int .u64 (x.ino : Int)) ∧ w'.cell? ⟨w.heap.size, 4, none⟩ = some (.int .i64 x.tick) ∧ w'.cell? ⟨w.heap.size, 5, none⟩ = some (.int .u8 (x.kind.toNat : Int)) ∧ w'.cell? ⟨w.heap.size, 6, none⟩ = some (.string ⟨x.idt.toArray⟩)) ∧ w.heap.size < w'.heap.size ∧ w'.heap[w.heap.size + 1]? = some (.cells zeroS.cells.toArray 49)) := Lib.hid (fun w' hb => by
    have h0 := (hb.block _ (lt_of_heap hq0)).trans hq0
    exact ⟨⟨by rw [cell_of_heap h0]; rfl, by rw [cell_of_heap h0]; rfl, by rw [cell_of_heap h0]; rfl, by rw [cell_of_heap h0]; rfl, by rw [cell_of_heap h0]; rfl, by rw [cell_of_heap h0]; rfl, by rw [cell_of_heap h0]; rfl⟩, lt_of_heap h0, (hb.block _ (lt_of_heap hq1)).trans hq1⟩)
  clear hb2 hq0 hq1 hW hx
  go_enter Tryz.func11, Tryz.ntmps11
  go_wp2
  change Code.wp _ _ _ _ ((w.alloc (.cells x.cells.toArray 33)).alloc (.cells zeroS.cells.toArray 49))
  rw [← HW.out]
  go_wp2
  refine wp_region_held_drew (S := (fun w' : World => w'.cell? ⟨w.heap.size, 0, none⟩ = some (.string ⟨x.path.toArray⟩) ∧ w'.cell? ⟨w.heap.size, 1, none⟩ = some (.int .u8 (x.node.toNat : Int)) ∧ w'.cell? ⟨w.heap.size, 2, none⟩ = some (.int .i64 x.size) ∧ w'.cell? ⟨w.heap.size, 3, none⟩ = some (.int .u64 (x.ino : Int)) ∧ w'.cell? ⟨w.heap.size, 4, none⟩ = some (.int .i64 x.tick) ∧ w'.cell? ⟨w.heap.size, 5, none⟩ = some (.int .u8 (x.kind.toNat : Int)) ∧ w'.cell? ⟨w.heap.size, 6, none⟩ = some (.string ⟨x.idt.toArray⟩))) (by kernel_rfl) (FC.out _ (Below.refl _ _).drew).1 (fun hHeld => ?_)
  refine wpAnyH_take (i := 0) (v := ?_) rfl (by kernel_rfl) (by kernel_rfl) (by kernel_rfl) (fun _ _ _ h => h) (Or.inl ⟨by rfl, ?zR0⟩) hHeld ?_
  case zR0 =>
    intro wS hSw
    obtain ⟨k0, k1, k2, k3, k4, k5, k6⟩ := hSw
    go_simp
    try with_reducible rfl
  try simp only [Act.put, List.getElem_toArray, List.getElem_cons_zero, List.getElem_cons_succ, List.setIfInBounds_toArray, List.set_cons_zero, List.set_cons_succ]
  refine wpAnyH_take (i := 1) (v := ?_) rfl (by kernel_rfl) (by kernel_rfl) (by kernel_rfl) (fun _ _ _ h => h) (Or.inl ⟨by rfl, ?zR1⟩) hHeld ?_
  case zR1 =>
    intro wS hSw
    obtain ⟨k0, k1, k2, k3, k4, k5, k6⟩ := hSw
    go_simp
    try with_reducible rfl
  try simp only [Act.put, List.getElem_toArray, List.getElem_cons_zero, List.getElem_cons_succ, List.setIfInBounds_toArray, List.set_cons_zero, List.set_cons_succ]
  refine wpAnyH_take (i := 2) (v := ?_) rfl (by kernel_rfl) (by kernel_rfl) (by kernel_rfl) (fun _ _ _ h => h) (Or.inl ⟨by rfl, ?zR2⟩) hHeld ?_
  case zR2 =>
    intro wS hSw
    obtain ⟨k0, k1, k2, k3, k4, k5, k6⟩ := hSw
    go_simp
    try with_reducible rfl
  try simp only [Act.put, List.getElem_toArray, List.getElem_cons_zero, List.getElem_cons_succ, List.setIfInBounds_toArray, List.set_cons_zero, List.set_cons_succ]
  refine wpAnyH_take (i := 3) (v := ?_) rfl (by kernel_rfl) (by kernel_rfl) (by kernel_rfl) (fun _ _ _ h => h) (Or.inl ⟨by rfl, ?zR3⟩) hHeld ?_
  case zR3 =>
    intro wS hSw
    obtain ⟨k0, k1, k2, k3, k4, k5, k6⟩ := hSw
    go_simp
    try with_reducible rfl
  try simp only [Act.put, List.getElem_toArray, List.getElem_cons_zero, List.getElem_cons_succ, List.setIfInBounds_toArray, List.set_cons_zero, List.set_cons_succ]
  refine wpAnyH_take (i := 4) (v := ?_) rfl (by kernel_rfl) (by kernel_rfl) (by kernel_rfl) (fun _ _ _ h => h) (Or.inl ⟨by rfl, ?zR4⟩) hHeld ?_
  case zR4 =>
    intro wS hSw
    obtain ⟨k0, k1, k2, k3, k4, k5, k6⟩ := hSw
    go_simp
    try with_reducible rfl
  try simp only [Act.put, List.getElem_toArray, List.getElem_cons_zero, List.getElem_cons_succ, List.setIfInBounds_toArray, List.set_cons_zero, List.set_cons_succ]
  refine wpAnyH_take (i := 5) (v := ?_) rfl (by kernel_rfl) (by kernel_rfl) (by kernel_rfl) (fun _ _ _ h => h) (Or.inl ⟨by rfl, ?zR5⟩) hHeld ?_
  case zR5 =>
    intro wS hSw
    obtain ⟨k0, k1, k2, k3, k4, k5, k6⟩ := hSw
    go_simp
    try with_reducible rfl
  try simp only [Act.put, List.getElem_toArray, List.getElem_cons_zero, List.getElem_cons_succ, List.setIfInBounds_toArray, List.set_cons_zero, List.set_cons_succ]
  refine wpAnyH_take (i := 6) (v := ?_) rfl (by kernel_rfl) (by kernel_rfl) (by kernel_rfl) (fun _ _ _ h => h) (Or.inl ⟨by rfl, ?zR6⟩) hHeld ?_
  case zR6 =>
    intro wS hSw
    obtain ⟨k0, k1, k2, k3, k4, k5, k6⟩ := hSw
    go_simp
    try with_reducible rfl
  try simp only [Act.put, List.getElem_toArray, List.getElem_cons_zero, List.getElem_cons_succ, List.setIfInBounds_toArray, List.set_cons_zero, List.set_cons_succ]
  refine wpAnyH_take (i := 7) (v := ?_) rfl (by kernel_rfl) (by kernel_rfl) (by kernel_rfl) (fun _ _ _ h => h) (Or.inl ⟨by rfl, ?zR7⟩) hHeld ?_
  case zR7 =>
    intro wS hSw
    obtain ⟨k0, k1, k2, k3, k4, k5, k6⟩ := hSw
    go_simp
    try with_reducible rfl
  try simp only [Act.put, List.getElem_toArray, List.getElem_cons_zero, List.getElem_cons_succ, List.setIfInBounds_toArray, List.set_cons_zero, List.set_cons_succ]
  refine wpAnyH_take (i := 8) (v := ?_) rfl (by kernel_rfl) (by kernel_rfl) (by kernel_rfl) (fun _ _ _ h => h) (Or.inl ⟨by rfl, ?zR8⟩) hHeld ?_
  case zR8 =>
    intro wS hSw
    obtain ⟨k0, k1, k2, k3, k4, k5, k6⟩ := hSw
    go_simp
    try with_reducible rfl
  try simp only [Act.put, List.getElem_toArray, List.getElem_cons_zero, List.getElem_cons_succ, List.setIfInBounds_toArray, List.set_cons_zero, List.set_cons_succ]
  refine wpAnyH_take (i := 9) (v := ?_) rfl (by kernel_rfl) (by kernel_rfl) (by kernel_rfl) (fun _ _ _ h => h) (Or.inl ⟨by rfl, ?zR9⟩) hHeld ?_
  case zR9 =>
    intro wS hSw
    obtain ⟨k0, k1, k2, k3, k4, k5, k6⟩ := hSw
    go_simp
    try with_reducible rfl
  try simp only [Act.put, List.getElem_toArray, List.getElem_cons_zero, List.getElem_cons_succ, List.setIfInBounds_toArray, List.set_cons_zero, List.set_cons_succ]
  refine wpAnyH_take (i := 10) (v := .agg #[.int .u8 (x.node.toNat : Int), .int .i64 x.size, .int .u64 (x.ino : Int), .int .i64 x.tick]) rfl (by kernel_rfl) (by kernel_rfl) (by kernel_rfl) (fun _ _ _ h => h) (Or.inl ⟨by rfl, ?zR10⟩) hHeld ?_
  case zR10 =>
    intro wS hSw
    refine exec_bstatR (x0 := .tmp 6) (x1 := .tmp 8) (x2 := .tmp 10) (x3 := .tmp 12) (x.node.toNat : Int) x.size (x.ino : Int) x.tick ?_ ?_ ?_ ?_ ?_
    all_goals kernel_rfl
  try simp only [Act.put, List.getElem_toArray, List.getElem_cons_zero, List.getElem_cons_succ, List.setIfInBounds_toArray, List.set_cons_zero, List.set_cons_succ]
  refine wpAnyH_take (i := 11) (v := ?_) rfl (by kernel_rfl) (by kernel_rfl) (by kernel_rfl) (fun _ _ _ h => h) (Or.inl ⟨by rfl, ?zR11⟩) hHeld ?_
  case zR11 =>
    intro wS hSw
    obtain ⟨k0, k1, k2, k3, k4, k5, k6⟩ := hSw
    go_simp
    try with_reducible rfl
  try simp only [Act.put, List.getElem_toArray, List.getElem_cons_zero, List.getElem_cons_succ, List.setIfInBounds_toArray, List.set_cons_zero, List.set_cons_succ]
  refine wpAnyH_take (i := 12) (v := ?_) rfl (by kernel_rfl) (by kernel_rfl) (by kernel_rfl) (fun _ _ _ h => h) (Or.inl ⟨by rfl, ?zR12⟩) hHeld ?_
  case zR12 =>
    intro wS hSw
    obtain ⟨k0, k1, k2, k3, k4, k5, k6⟩ := hSw
    go_simp
    try with_reducible rfl
  try simp only [Act.put, List.getElem_toArray, List.getElem_cons_zero, List.getElem_cons_succ, List.setIfInBounds_toArray, List.set_cons_zero, List.set_cons_succ]
  refine wpAnyH_take (i := 13) (v := ?_) rfl (by kernel_rfl) (by kernel_rfl) (by kernel_rfl) (fun _ _ _ h => h) (Or.inl ⟨by rfl, ?zR13⟩) hHeld ?_
  case zR13 =>
    intro wS hSw
    obtain ⟨k0, k1, k2, k3, k4, k5, k6⟩ := hSw
    go_simp
    try with_reducible rfl
  try simp only [Act.put, List.getElem_toArray, List.getElem_cons_zero, List.getElem_cons_succ, List.setIfInBounds_toArray, List.set_cons_zero, List.set_cons_succ]
  refine wpAnyH_take (i := 14) (v := ?_) rfl (by kernel_rfl) (by kernel_rfl) (by kernel_rfl) (fun _ _ _ h => h) (Or.inl ⟨by rfl, ?zR14⟩) hHeld ?_
  case zR14 =>
    intro wS hSw
    obtain ⟨k0, k1, k2, k3, k4, k5, k6⟩ := hSw
    go_simp
    try with_reducible rfl
  try simp only [Act.put, List.getElem_toArray, List.getElem_cons_zero, List.getElem_cons_succ, List.setIfInBounds_toArray, List.set_cons_zero, List.set_cons_succ]
  refine wpAnyH_ready (rs := [15]) (by kernel_rfl) (by simp) ?_
  refine AllReadyH.cons rfl (fun K hK => ?_) AllReadyH.nil
  go_simp
  refine (ID.out _).mono ?_
  rintro e7 w7 ⟨rfl, hb7⟩
  have HB7 : Hid (Below W2.heap.size W2 w7) := Lib.hid ((Below.refl W2.heap.size W2).drew.trans hb7)
  clear hb7
  go_wp2_with fail
  refine hK.out _ _ (FC.out _ HB7.out).1 (fun hHeld2 => ?_)
  clear hK K hHeld
  try simp only [Act.put, List.getElem_toArray, List.getElem_cons_zero, List.getElem_cons_succ, List.setIfInBounds_toArray, List.set_cons_zero, List.set_cons_succ]
  refine wpAnyH_take (i := 16) (v := enV x.se) rfl (by kernel_rfl) (by kernel_rfl) (by kernel_rfl) (fun _ _ _ h => h) (Or.inl ⟨by rfl, ?zR16⟩) hHeld2 ?_
  case zR16 =>
    intro wS hSw
    refine exec_benR (x0 := .tmp 4) (x1 := .tmp 13) (x2 := .tmp 15) (x3 := .tmp 18) ⟨x.path.toArray⟩ (x.node.toNat : Int) x.size (x.ino : Int) x.tick (x.kind.toNat : Int) (idOf x.idt) (idOf_length _) ?_ ?_ ?_ ?_ ?_
    all_goals kernel_rfl
  try simp only [Act.put, List.getElem_toArray, List.getElem_cons_zero, List.getElem_cons_succ, List.setIfInBounds_toArray, List.set_cons_zero, List.set_cons_succ]
  refine wpAnyH_ready (rs := [17]) (by kernel_rfl) (by simp) ?_
  refine AllReadyH.cons rfl (fun K hK => ?_) AllReadyH.nil
  refine step_wp rfl ?_
  refine wp_store_at (FC.out _ HB7.out).2.2 _ _ _ rfl x.se.cells.toArray rfl rfl EOK.out.info EOK.out.z EOK.out.one ?_
  intro w8 hq8 ht8 hs8
  have HQ8 := Lib.hid hq8
  have HB8 : Hid (Below w.heap.size w w8) := Lib.hid ((HB2.out.trans (HB7.out.mono HB2.out.size)).trans (ht8.below (by simp) (Nat.le_trans HB2.out.size HB7.out.size)))
  clear hq8 hs8
  refine hK.out _ _ (arg_turn ht8 (by simp) (FC.out _ HB7.out).2.1 (FC.out _ HB7.out).1) (fun hHeld3 => ?_)
  clear hK K hHeld2
  try simp only [Act.put, List.getElem_toArray, List.getElem_cons_zero, List.getElem_cons_succ, List.setIfInBounds_toArray, List.set_cons_zero, List.set_cons_succ]
  refine wpAnyH_done (by kernel_rfl) ?_ _
  clear hHeld3
  try simp only [Act.put, List.getElem_toArray, List.getElem_cons_zero, List.getElem_cons_succ, List.setIfInBounds_toArray, List.set_cons_zero, List.set_cons_succ]
  go_wp2
  refine bodyPost_ret (v := enV x.se) (results_cell_row (fn := Tryz.f11) rfl _ _ (w.heap.size + 1) _ _ _ _ rfl HQ8.out Tryz.underlying49 rfl EOK.out.info) rfl ?_
  exact ⟨rfl, HB8.out⟩
end Go.Proofs.YtpbhkaokgpacoaaGreatDoor.St
