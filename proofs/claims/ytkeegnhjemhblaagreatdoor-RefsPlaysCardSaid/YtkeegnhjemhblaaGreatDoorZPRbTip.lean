import Derived.Test.YtkeegnhjemhblaaGreatDoorZPRbPair
import Derived.Test.YtkeegnhjemhblaaGreatDoorZPRbEnc
import Derived.Test.YtkeegnhjemhblaaGreatDoorZPRbEnd
import Derived.Laws.ResultCell
import Derived.Test.YtkeegnhjemhblaaGreatDoorZPRfDec2
import Derived.Stop.BytesEq
set_option linter.unusedSimpArgs false
set_option linter.unusedVariables false
/-
  The contract of the reference's Tip.
-/
namespace Go.Proofs.YtkeegnhjemhblaaGreatDoor.Rb
open Go.RowKit Go.Maps Go.WideMaps Go.Proofs.YtkeegnhjemhblaaGreatDoor.Rf

set_option linter.unusedSimpArgs false in
set_option maxHeartbeats 4000000 in
set_option maxRecDepth 100000 in
theorem rtip_some (B : Nat) (w : World) (r : Nat) (v : Value) (Z : BM) (k : List UInt8) (pv : Value) (pl : List En) (el : En) (h : RBk B w r v Z) (ok : OkB (plainB Z)) (hg : getM Z k = some (pv, pl ++ [el])) :
    Calls Tryz.prog 54 #[ptr r, .string ⟨k.toArray⟩] w fun e w' => e = .returned (.tuple #[enV el, .int .i64 0]) ∧ Below w.heap.size w w' := by
  have hbx : Below w.heap.size w (w.alloc (.cells zer33 EnT)) := (Below.refl _ _).alloc (Nat.le_refl _) _
  obtain ⟨W, hW⟩ : ∃ W, W = w.alloc (.cells zer33 EnT) := ⟨_, rfl⟩
  rw [← hW] at hbx
  have hq0 : W.heap[w.heap.size]? = some (.cells zer33 EnT) := by rw [hW]; exact (MapKept.heap_alloc w _).1
  have h1 := h.below hbx
  have hn : Z.length ≤ 1000 := by have := ok.size; rw [plain_length] at this; omega
  have K := rlog_any B W r v Z k hn h1
  obtain ⟨_, ok1, ok2, ok3⟩ := ok.row hg
  obtain ⟨i, hz⟩ : ∃ i, Z[i]? = some (k, (pv, pl ++ [el])) := by
    cases ha : atN Z k with
    | none => rw [(at_none ha).1] at hg; cases hg
    | some i =>
      obtain ⟨n, hz, hg2⟩ := at_some ha
      rw [hg] at hg2
      cases hg2
      exact ⟨i, hz⟩
  have hrow := h1.each _ (List.mem_of_getElem? hz)
  dsimp only at ok1 ok2 ok3 hrow
  unfold logV at K
  rw [hg] at K
  dsimp only at K
  obtain ⟨m, hm⟩ : ∃ m, m = pl.length := ⟨_, rfl⟩
  have hln : (pl ++ [el]).length = m + 1 := by simp [hm]
  have hcl : (cellsL pl).length = 33 * m := by rw [hm]; exact cellsL_length (fun e he => (ok3 e (by simp [he])).1)
  have hel := (ok3 el (by simp)).1
  rw [hln] at hrow ok2
  have hm4 : m + 1 ≤ 4096 := ok2
  obtain ⟨gb, cap, rfl, hgb, _, hcell⟩ := rowS_form hrow (by omega)
  have hcs := cells_size hel
  have HRG : Hid (∀ w', Below W.heap.size W w' → w'.rangeAt gb (m * 33) el.cells) := Lib.hid (fun w' hb t v hv => (hb.cell (p := ⟨gb, m * 33 + t, none⟩) hgb).trans (hcell _ _ (by
    rw [cellsL, List.flatMap_append, ← cellsL, List.getElem?_append_right (by omega), hcl, show m * 33 + t - 33 * m = t by omega]
    simpa [cellsL] using hv)))
  have HI : Hid ((Tryz.prog.info? EnT).map (·.size) = some el.cells.length) := Lib.hid (by rw [hcs]; kernel_rfl)
  have HI2 : Hid ((Tryz.prog.info? EnT).map (·.size) = some el.cells.toArray.size) := Lib.hid (by rw [List.size_toArray]; exact HI.out)
  have HS2 : Hid (zer33.size = el.cells.toArray.size) := Lib.hid (by show 33 = _; rw [List.size_toArray]; exact hcs.symm)
  have HONE : Hid (el.cells.toArray.all (·.oneCell') = true) := Lib.hid (Array.all_eq_true_iff_forall_mem.2 (fun u hu => cellsL_one [el] u (by simpa [cellsL] using hu)))
  have HK := Lib.hid K; have HQ0 := Lib.hid hq0; have HBX := Lib.hid hbx; have HW := Lib.hid hW
  clear K hq0 hbx hrow hcell ok1 ok2 ok3 hcl hel hcs hm hln hg h h1 ok hW hz hn
  unfold ptr at *
  go_enter Tryz.func54, Tryz.ntmps54
  go_wp2_with fail
  change Calls _ _ _ (w.alloc (.cells zer33 EnT)) _
  rw [← HW.out]
  refine HK.out.mono ?_
  rintro e w1 ⟨rfl, hb1⟩
  have HB1 := Lib.hid hb1
  have HQ1 : Hid (w1.heap[w.heap.size]? = some (.cells zer33 EnT)) := Lib.hid ((hb1.block _ (lt_of_heap HQ0.out)).trans HQ0.out)
  have HRG1 := Lib.hid (HRG.out w1 hb1)
  obtain ⟨hq6, hb6⟩ : (w1.setRow w.heap.size el.cells.toArray).heap[w.heap.size]? = some (.cells el.cells.toArray EnT) ∧ Below w.heap.size w (w1.setRow w.heap.size el.cells.toArray) := by
    refine ⟨setRow_heap _ _ _ _ _ _ HQ1.out, (HBX.out.trans (hb1.mono HBX.out.size)).trans ⟨rfl, rfl, rfl, by simp [World.setRow], fun k hk => ?_⟩⟩
    exact setRow_other _ _ _ _ (by omega)
  have HQ6 := Lib.hid hq6; have HB6 := Lib.hid hb6
  clear hq6 hb6 HK hb1
  go_wp2_with (first
    | (refine wpList_load_mid rfl _ _ rfl gb (m * 33) rfl el.cells _ HRG1.out Tryz.underlying89 rfl HI.out ?_)
    | (refine wpList_store_row rfl _ _ _ rfl w.heap.size el.cells.toArray rfl rfl 89 zer33 HQ1.out HI2.out HS2.out HONE.out ?_))
  have hld := run_loadVar_row (P := Tryz.prog) (w1.setRow w.heap.size el.cells.toArray) w.heap.size _ 89 el.cells.toArray _ _ HQ6.out Tryz.underlying89 rfl HI2.out
  refine bodyPost_ret (v := .tuple #[enV el, .int .i64 0]) ?_ rfl ?_
  · rw [results_cell_tmp (fn := Tryz.f54) rfl]
    show ((asAddr (.pointer (some ⟨w.heap.size, 0, none⟩))).run Tryz.prog _).andThen _ = _
    simp only [asAddr, Sem.run_pure, Result.andThen_ok, hld]
    rfl
  · exact ⟨rfl, HB6.out⟩
def enZ : En := ⟨List.replicate 32 0, 0⟩
theorem enZ_cells : enZ.cells.toArray = zer33 := by kernel_rfl
set_option linter.unusedSimpArgs false in
set_option maxHeartbeats 4000000 in
set_option maxRecDepth 100000 in
theorem rtip_none (B : Nat) (w : World) (r : Nat) (v : Value) (Z : BM) (k : List UInt8) (h : RBk B w r v Z) (hn : Z.length ≤ 1000) (hg : getM Z k = none) :
    Calls Tryz.prog 54 #[ptr r, .string ⟨k.toArray⟩] w fun e w' => e = .returned (.tuple #[enV enZ, .int .i64 6]) ∧ Below w.heap.size w w' := by
  have hbx : Below w.heap.size w (w.alloc (.cells zer33 EnT)) := (Below.refl _ _).alloc (Nat.le_refl _) _
  obtain ⟨W, hW⟩ : ∃ W, W = w.alloc (.cells zer33 EnT) := ⟨_, rfl⟩
  rw [← hW] at hbx
  have hq0 : W.heap[w.heap.size]? = some (.cells zer33 EnT) := by rw [hW]; exact (MapKept.heap_alloc w _).1
  have h1 := h.below hbx
  have K := rlog_any B W r v Z k hn h1
  unfold logV at K
  rw [hg] at K
  dsimp only at K
  have HI2 : Hid ((Tryz.prog.info? EnT).map (·.size) = some zer33.size) := Lib.hid (by kernel_rfl)
  have HONE : Hid (zer33.all (·.oneCell') = true) := Lib.hid (by kernel_rfl)
  have HK := Lib.hid K; have HQ0 := Lib.hid hq0; have HBX := Lib.hid hbx; have HW := Lib.hid hW
  clear K hq0 hbx hg h h1 hW hn
  unfold ptr at *
  go_enter Tryz.func54, Tryz.ntmps54
  go_wp2_with fail
  change Calls _ _ _ (w.alloc (.cells zer33 EnT)) _
  rw [← HW.out]
  refine HK.out.mono ?_
  rintro e w1 ⟨rfl, hb1⟩
  have HQ1 : Hid (w1.heap[w.heap.size]? = some (.cells zer33 EnT)) := Lib.hid ((hb1.block _ (lt_of_heap HQ0.out)).trans HQ0.out)
  obtain ⟨hq6, hb6⟩ : (w1.setRow w.heap.size zer33).heap[w.heap.size]? = some (.cells zer33 EnT) ∧ Below w.heap.size w (w1.setRow w.heap.size zer33) := by
    refine ⟨setRow_heap _ _ _ _ _ _ HQ1.out, (HBX.out.trans (hb1.mono HBX.out.size)).trans ⟨rfl, rfl, rfl, by simp [World.setRow], fun k hk => ?_⟩⟩
    exact setRow_other _ _ _ _ (by omega)
  have HQ6 := Lib.hid hq6; have HB6 := Lib.hid hb6
  clear hq6 hb6 HK hb1
  go_wp2_with (first
    | (refine wpList_store_row rfl _ _ _ rfl w.heap.size zer33 rfl rfl 89 zer33 HQ1.out HI2.out rfl HONE.out ?_))
  have hld := run_loadVar_row (P := Tryz.prog) (w1.setRow w.heap.size zer33) w.heap.size _ 89 zer33 _ _ HQ6.out Tryz.underlying89 rfl HI2.out
  refine bodyPost_ret (v := .tuple #[enV enZ, .int .i64 6]) ?_ rfl ?_
  · rw [results_cell_tmp (fn := Tryz.f54) rfl]
    show ((asAddr (.pointer (some ⟨w.heap.size, 0, none⟩))).run Tryz.prog _).andThen _ = _
    simp only [asAddr, Sem.run_pure, Result.andThen_ok, hld]
    rw [enV, enZ_cells]
    rfl
  · exact ⟨rfl, HB6.out⟩
end Go.Proofs.YtkeegnhjemhblaaGreatDoor.Rb
/-
  The contract of a book's Tip at a branch that is not there.
-/
namespace Go.Proofs.YtkeegnhjemhblaaGreatDoor.Rf
open Go.RowKit Go.Maps Go.WideMaps Go.Proofs.YtkeegnhjemhblaaGreatDoor.Rb
variable {X : Spect}

set_option linter.unusedSimpArgs false in
set_option maxHeartbeats 4000000 in
set_option maxRecDepth 100000 in
theorem tip_none (B : Nat) (w : World) (g b : Nat) (Z : BM) (S : ByteArray) (hS : S.size ≤ maxLen) (h : BookAt X B w g b Z) (hg : getM Z S.data.toList = none) :
    Calls Tryz.prog 53 #[ptr g, .string S] w fun e w' => e = .returned (.tuple #[enV enZ, .int .i64 6]) ∧ Below w.heap.size w w' := by
  have hbx : Below w.heap.size w (w.alloc (.cells zer33 84)) := (Below.refl _ _).alloc (Nat.le_refl _) _
  obtain ⟨W, hW⟩ : ∃ W, W = w.alloc (.cells zer33 84) := ⟨_, rfl⟩
  rw [← hW] at hbx
  have hq0 : W.heap[w.heap.size]? = some (.cells zer33 84) := by rw [hW]; exact (MapKept.heap_alloc w _).1
  have h1 := h.below hbx
  have K := log_any B W g b Z S hS h1
  unfold logV at K
  rw [hg] at K
  dsimp only at K
  have HI2 : Hid ((Tryz.prog.info? 84).map (·.size) = some zer33.size) := Lib.hid (by kernel_rfl)
  have HONE : Hid (zer33.all (·.oneCell') = true) := Lib.hid (by kernel_rfl)
  have HK := Lib.hid K; have HQ0 := Lib.hid hq0; have HW := Lib.hid hW
  clear K hq0 hbx hg h h1 hW
  unfold ptr at *
  go_enter Tryz.func53, Tryz.ntmps53
  go_wp2_with fail
  change Calls _ _ _ (w.alloc (.cells zer33 84)) _
  rw [← HW.out]
  refine HK.out.mono ?_
  rintro e w1 ⟨rfl, rfl⟩
  obtain ⟨hq6, hb6⟩ : (w1.setRow w.heap.size zer33).heap[w.heap.size]? = some (.cells zer33 84) ∧ Below w.heap.size w (w1.setRow w.heap.size zer33) := by rw [HW.out]; exact store_new w _
  have HQ6 := Lib.hid hq6; have HB6 := Lib.hid hb6
  clear hq6 hb6 HK
  go_wp2_with (first
    | (refine wpList_store_row rfl _ _ _ rfl w.heap.size zer33 rfl rfl 84 zer33 HQ0.out HI2.out rfl HONE.out ?_))
  have hld := run_loadVar_row (P := Tryz.prog) (w1.setRow w.heap.size zer33) w.heap.size _ 84 zer33 _ _ HQ6.out Tryz.underlying84 rfl HI2.out
  refine bodyPost_ret (v := .tuple #[enV enZ, .int .i64 6]) ?_ rfl ?_
  · rw [results_cell_tmp (fn := Tryz.f53) rfl]
    show ((asAddr (.pointer (some ⟨w.heap.size, 0, none⟩))).run Tryz.prog _).andThen _ = _
    simp only [asAddr, Sem.run_pure, Result.andThen_ok, hld]
    rw [enV, enZ_cells]
    rfl
  · exact ⟨rfl, HB6.out⟩
end Go.Proofs.YtkeegnhjemhblaaGreatDoor.Rf
/-
  The contract of munimentlaw20's log, where the two lists are equal.
-/
namespace Go.Proofs.YtkeegnhjemhblaaGreatDoor.Rb
open Go.RowKit Go.Maps Go.WideMaps Go.Proofs.YtkeegnhjemhblaaGreatDoor.Rf

theorem rsize8 (w : World) : (sizeOf 5).run Tryz.prog w = .ok 1 w := by kernel_rfl
theorem row_bytes {w w' : World} {B : Nat} {T : TypeId} {g n c : Nat} {l : List En} {i : Nat} {e : En} (h : w.ownsRow B T 33 (.slice (some ⟨g, 0, none⟩) n c) n (cellsL l)) (hn : n ≠ 0) (hl : ∀ e ∈ l, e.c.length = 32) (hi : l[i]? = some e) (hb : Below w.heap.size w w') :
    w'.rangeAt g (i * 33) (Lib.byteCells e.c) ∧ w'.cell? ⟨g, i * 33 + 32, none⟩ = some (.int .i64 e.t) := by
  obtain ⟨g', c', hv, hg, _, hc⟩ := rowS_form h hn
  injection hv with e1 _ _
  injection e1 with e1
  injection e1 with e1
  subst e1
  have ec := hl e (List.mem_of_getElem? hi)
  refine ⟨fun t v hv => ?_, ?_⟩
  · exact (hb.cell (p := ⟨g, i * 33 + t, none⟩) hg).trans (hc _ _ (cellsL_at hl hi (by rw [En.cells, List.getElem?_append_left (List.getElem?_eq_some_iff.1 hv).1]; exact hv)))
  · refine (hb.cell (p := ⟨g, i * 33 + 32, none⟩) hg).trans (hc _ _ (cellsL_at hl hi ?_))
    rw [En.cells, List.getElem?_append_right (by rw [Lib.byteCells_length, ec]; omega), Lib.byteCells_length, ec]; rfl
set_option linter.unusedSimpArgs false in
set_option maxHeartbeats 8000000 in
set_option maxRecDepth 100000 in
theorem samelog_any {B C : Nat} (w : World) (v u : Value) (l : List En) {T T' : TypeId} (hv : w.ownsRow B T 33 v l.length (cellsL l)) (hu : w.ownsRow C T' 33 u l.length (cellsL l)) (hl : ∀ e ∈ l, e.c.length = 32) (hm : l.length ≤ 4096) :
    Calls Tryz.prog 55 #[v, u] w fun e w' => e = .returned (.bool true) ∧ Below w.heap.size w w' := by
  obtain ⟨va, vc, rfl⟩ := rowS_slice hv
  obtain ⟨ua, uc, rfl⟩ := rowS_slice hu
  obtain ⟨n, hn⟩ : ∃ n, n = l.length := ⟨_, rfl⟩
  rw [← hn] at hv hu hm ⊢
  have HV := Lib.hid hv; have HU := Lib.hid hu; have HN := Lib.hid hn; have HL := Lib.hid hl
  clear hv hu hl hn
  go_enter Tryz.func55, Tryz.ntmps55
  go_wp2
  go_loopw [5] (fun v5 ws => ∃ i : Nat, i ≤ n ∧ v5 = .int .i64 (i : Int) ∧ Hid (Below w.heap.size w ws)) (fun v5 _ => n - (RowKit.intOf v5).toNat)
  case atStart => exact ⟨0, Nat.zero_le _, rfl, Lib.hid (Below.refl _ _)⟩
  case round =>
    obtain ⟨i, hi, rfl, HB⟩ := hrel
    obtain ⟨ws, hws⟩ : ∃ ws, ws = wr := ⟨_, rfl⟩
    subst hws
    by_cases hin : (i : Int) < (n : Int)
    · obtain ⟨e, he⟩ : ∃ e, l[i]? = some e := ⟨_, List.getElem?_eq_getElem (by rw [← HN.out]; omega)⟩
      have hn0 : n ≠ 0 := by omega
      obtain ⟨g1, c1, h1, _⟩ := rowS_form HV.out hn0
      obtain ⟨g2, c2, h2, _⟩ := rowS_form HU.out hn0
      injection h1 with a1 _ _
      injection h2 with a2 _ _
      subst a1 a2
      have ec := HL.out e (List.mem_of_getElem? he)
      have KS : Hid (∀ w', Below w.heap.size w w' → w'.rangeAt g1 (i * 33) (Lib.byteCells e.c) ∧ w'.rangeAt g2 (i * 33) (Lib.byteCells e.c) ∧ w'.cell? ⟨g1, i * 33 + 32, none⟩ = some (.int .i64 e.t) ∧ w'.cell? ⟨g2, i * 33 + 32, none⟩ = some (.int .i64 e.t)) := Lib.hid (fun w' hb => by
        obtain ⟨a, b⟩ := row_bytes HV.out hn0 HL.out he hb
        obtain ⟨c, d⟩ := row_bytes HU.out hn0 HL.out he hb
        exact ⟨a, c, b, d⟩)
      have HI : Hid ((Tryz.prog.info? 81).map (·.size) = some (Lib.byteCells e.c).toArray.size) := Lib.hid (by rw [List.size_toArray, Lib.byteCells_length, ec]; kernel_rfl)
      have hE : ∀ w : World, (Op.equalIn 10000 81 (.agg (Lib.byteCells e.c).toArray) (.agg (Lib.byteCells e.c).toArray)).run Tryz.prog w = .ok true w := fun w => by
        have hb := run_equalIn_bytes (P := Tryz.prog) w 9998 81 5 32 Tryz.underlying81 Tryz.underlying5 rsize8 e.c e.c ec ec
        rw [beq_self_eq_true, show List.map Extern.Stop.cell e.c = Lib.byteCells e.c from rfl, show (9998 + 2 : Nat) = 10000 from rfl] at hb
        exact hb
      have h0 : (0 : Int) ≤ (i : Int) := by omega
      clear he hn0 ec
      go_upto_region 6 with (fail)
      refine wp_region_held_drew (S := (fun w' : World => w'.rangeAt g1 (i * 33) (Lib.byteCells e.c) ∧ w'.rangeAt g2 (i * 33) (Lib.byteCells e.c) ∧ w'.cell? ⟨g1, i * 33 + 32, none⟩ = some (.int .i64 e.t) ∧ w'.cell? ⟨g2, i * 33 + 32, none⟩ = some (.int .i64 e.t))) (by kernel_rfl) (KS.out _ (HB.out.drew)) (fun hHeld => ?_)
      refine wpAnyH_take (i := 0) (v := ?_) rfl (by kernel_rfl) (by kernel_rfl) (by kernel_rfl) (fun _ _ _ h => h) (Or.inl ⟨by rfl, ?e60⟩) hHeld ?_
      case e60 =>
        intro wS hSw
        obtain ⟨z0, z1, z2, z3⟩ := hSw
        go_simp
        try with_reducible rfl
      try simp only [Act.put, List.getElem_toArray, List.getElem_cons_zero, List.getElem_cons_succ, List.setIfInBounds_toArray, List.set_cons_zero, List.set_cons_succ]
      refine wpAnyH_take (i := 1) (v := ?_) rfl (by kernel_rfl) (by kernel_rfl) (by kernel_rfl) (fun _ _ _ h => h) (Or.inl ⟨by rfl, ?e61⟩) hHeld ?_
      case e61 =>
        intro wS hSw
        obtain ⟨z0, z1, z2, z3⟩ := hSw
        go_simp
        try with_reducible rfl
      try simp only [Act.put, List.getElem_toArray, List.getElem_cons_zero, List.getElem_cons_succ, List.setIfInBounds_toArray, List.set_cons_zero, List.set_cons_succ]
      refine wpAnyH_take (i := 2) (v := ?_) rfl (by kernel_rfl) (by kernel_rfl) (by kernel_rfl) (fun _ _ _ h => h) (Or.inl ⟨by rfl, ?e62⟩) hHeld ?_
      case e62 =>
        intro wS hSw
        obtain ⟨z0, z1, z2, z3⟩ := hSw
        go_simp
        try with_reducible rfl
      try simp only [Act.put, List.getElem_toArray, List.getElem_cons_zero, List.getElem_cons_succ, List.setIfInBounds_toArray, List.set_cons_zero, List.set_cons_succ]
      refine wpAnyH_take (i := 3) (v := ?_) rfl (by kernel_rfl) (by kernel_rfl) (by kernel_rfl) (fun _ _ _ h => h) (Or.inl ⟨by rfl, ?e63⟩) hHeld ?_
      case e63 =>
        intro wS hSw
        obtain ⟨z0, z1, z2, z3⟩ := hSw
        go_simp
        try with_reducible rfl
      try simp only [Act.put, List.getElem_toArray, List.getElem_cons_zero, List.getElem_cons_succ, List.setIfInBounds_toArray, List.set_cons_zero, List.set_cons_succ]
      refine' wpAnyH_take (i := 4) (v := _) rfl (by kernel_rfl) (by kernel_rfl) (by kernel_rfl) (fun _ _ _ h => h) (yieldsIf_load_mid (by rfl) _ _ rfl g1 (i * 33) rfl (Lib.byteCells e.c) _ ?e64S ?e64u ?e64d ?e64i) hHeld ?e64x
      case e64S =>
        intro wS hSw
        obtain ⟨z0, z1, z2, z3⟩ := hSw
        exact z0
      case e64u => exact Tryz.underlying81
      case e64d => rfl
      case e64i => exact HI.out
      try simp only [Act.put, List.getElem_toArray, List.getElem_cons_zero, List.getElem_cons_succ, List.setIfInBounds_toArray, List.set_cons_zero, List.set_cons_succ]
      refine wpAnyH_take (i := 5) (v := ?_) rfl (by kernel_rfl) (by kernel_rfl) (by kernel_rfl) (fun _ _ _ h => h) (Or.inl ⟨by rfl, ?e65⟩) hHeld ?_
      case e65 =>
        intro wS hSw
        obtain ⟨z0, z1, z2, z3⟩ := hSw
        go_simp
        try with_reducible rfl
      try simp only [Act.put, List.getElem_toArray, List.getElem_cons_zero, List.getElem_cons_succ, List.setIfInBounds_toArray, List.set_cons_zero, List.set_cons_succ]
      refine wpAnyH_take (i := 6) (v := ?_) rfl (by kernel_rfl) (by kernel_rfl) (by kernel_rfl) (fun _ _ _ h => h) (Or.inl ⟨by rfl, ?e66⟩) hHeld ?_
      case e66 =>
        intro wS hSw
        obtain ⟨z0, z1, z2, z3⟩ := hSw
        go_simp
        try with_reducible rfl
      try simp only [Act.put, List.getElem_toArray, List.getElem_cons_zero, List.getElem_cons_succ, List.setIfInBounds_toArray, List.set_cons_zero, List.set_cons_succ]
      refine wpAnyH_take (i := 7) (v := ?_) rfl (by kernel_rfl) (by kernel_rfl) (by kernel_rfl) (fun _ _ _ h => h) (Or.inl ⟨by rfl, ?e67⟩) hHeld ?_
      case e67 =>
        intro wS hSw
        obtain ⟨z0, z1, z2, z3⟩ := hSw
        go_simp
        try with_reducible rfl
      try simp only [Act.put, List.getElem_toArray, List.getElem_cons_zero, List.getElem_cons_succ, List.setIfInBounds_toArray, List.set_cons_zero, List.set_cons_succ]
      refine wpAnyH_take (i := 8) (v := ?_) rfl (by kernel_rfl) (by kernel_rfl) (by kernel_rfl) (fun _ _ _ h => h) (Or.inl ⟨by rfl, ?e68⟩) hHeld ?_
      case e68 =>
        intro wS hSw
        obtain ⟨z0, z1, z2, z3⟩ := hSw
        go_simp
        try with_reducible rfl
      try simp only [Act.put, List.getElem_toArray, List.getElem_cons_zero, List.getElem_cons_succ, List.setIfInBounds_toArray, List.set_cons_zero, List.set_cons_succ]
      refine' wpAnyH_take (i := 9) (v := _) rfl (by kernel_rfl) (by kernel_rfl) (by kernel_rfl) (fun _ _ _ h => h) (yieldsIf_load_mid (by rfl) _ _ rfl g2 (i * 33) rfl (Lib.byteCells e.c) _ ?e69S ?e69u ?e69d ?e69i) hHeld ?e69x
      case e69S =>
        intro wS hSw
        obtain ⟨z0, z1, z2, z3⟩ := hSw
        exact z1
      case e69u => exact Tryz.underlying81
      case e69d => rfl
      case e69i => exact HI.out
      try simp only [Act.put, List.getElem_toArray, List.getElem_cons_zero, List.getElem_cons_succ, List.setIfInBounds_toArray, List.set_cons_zero, List.set_cons_succ]
      refine wpAnyH_take (i := 10) (v := ?_) rfl (by kernel_rfl) (by kernel_rfl) (by kernel_rfl) (fun _ _ _ h => h) (Or.inl ⟨by rfl, ?e610⟩) hHeld ?_
      case e610 =>
        intro wS hSw
        obtain ⟨z0, z1, z2, z3⟩ := hSw
        go_simp
        try with_reducible rfl
      try simp only [Act.put, List.getElem_toArray, List.getElem_cons_zero, List.getElem_cons_succ, List.setIfInBounds_toArray, List.set_cons_zero, List.set_cons_succ]
      refine wpAnyH_take (i := 11) (v := ?_) rfl (by kernel_rfl) (by kernel_rfl) (by kernel_rfl) (fun _ _ _ h => h) (Or.inl ⟨by rfl, ?e611⟩) hHeld ?_
      case e611 =>
        intro wS hSw
        obtain ⟨z0, z1, z2, z3⟩ := hSw
        go_simp
        try with_reducible rfl
      try simp only [Act.put, List.getElem_toArray, List.getElem_cons_zero, List.getElem_cons_succ, List.setIfInBounds_toArray, List.set_cons_zero, List.set_cons_succ]
      refine wpAnyH_take (i := 12) (v := ?_) rfl (by kernel_rfl) (by kernel_rfl) (by kernel_rfl) (fun _ _ _ h => h) (Or.inl ⟨by rfl, ?e612⟩) hHeld ?_
      case e612 =>
        intro wS hSw
        obtain ⟨z0, z1, z2, z3⟩ := hSw
        go_simp
        try with_reducible rfl
      try simp only [Act.put, List.getElem_toArray, List.getElem_cons_zero, List.getElem_cons_succ, List.setIfInBounds_toArray, List.set_cons_zero, List.set_cons_succ]
      refine wpAnyH_take (i := 13) (v := ?_) rfl (by kernel_rfl) (by kernel_rfl) (by kernel_rfl) (fun _ _ _ h => h) (Or.inl ⟨by rfl, ?e613⟩) hHeld ?_
      case e613 =>
        intro wS hSw
        obtain ⟨z0, z1, z2, z3⟩ := hSw
        go_simp
        try with_reducible rfl
      try simp only [Act.put, List.getElem_toArray, List.getElem_cons_zero, List.getElem_cons_succ, List.setIfInBounds_toArray, List.set_cons_zero, List.set_cons_succ]
      refine wpAnyH_take (i := 14) (v := ?_) rfl (by kernel_rfl) (by kernel_rfl) (by kernel_rfl) (fun _ _ _ h => h) (Or.inl ⟨by rfl, ?e614⟩) hHeld ?_
      case e614 =>
        intro wS hSw
        obtain ⟨z0, z1, z2, z3⟩ := hSw
        go_simp
        try with_reducible rfl
      try simp only [Act.put, List.getElem_toArray, List.getElem_cons_zero, List.getElem_cons_succ, List.setIfInBounds_toArray, List.set_cons_zero, List.set_cons_succ]
      refine wpAnyH_take (i := 15) (v := ?_) rfl (by kernel_rfl) (by kernel_rfl) (by kernel_rfl) (fun _ _ _ h => h) (Or.inl ⟨by rfl, ?e615⟩) hHeld ?_
      case e615 =>
        intro wS hSw
        obtain ⟨z0, z1, z2, z3⟩ := hSw
        go_simp
        try with_reducible rfl
      try simp only [Act.put, List.getElem_toArray, List.getElem_cons_zero, List.getElem_cons_succ, List.setIfInBounds_toArray, List.set_cons_zero, List.set_cons_succ]
      refine wpAnyH_take (i := 16) (v := ?_) rfl (by kernel_rfl) (by kernel_rfl) (by kernel_rfl) (fun _ _ _ h => h) (Or.inl ⟨by rfl, ?e616⟩) hHeld ?_
      case e616 =>
        intro wS hSw
        obtain ⟨z0, z1, z2, z3⟩ := hSw
        go_simp
        try with_reducible rfl
      try simp only [Act.put, List.getElem_toArray, List.getElem_cons_zero, List.getElem_cons_succ, List.setIfInBounds_toArray, List.set_cons_zero, List.set_cons_succ]
      refine wpAnyH_take (i := 17) (v := ?_) rfl (by kernel_rfl) (by kernel_rfl) (by kernel_rfl) (fun _ _ _ h => h) (Or.inl ⟨by rfl, ?e617⟩) hHeld ?_
      case e617 =>
        intro wS hSw
        obtain ⟨z0, z1, z2, z3⟩ := hSw
        go_simp
        try with_reducible rfl
      try simp only [Act.put, List.getElem_toArray, List.getElem_cons_zero, List.getElem_cons_succ, List.setIfInBounds_toArray, List.set_cons_zero, List.set_cons_succ]
      refine wpAnyH_take (i := 18) (v := ?_) rfl (by kernel_rfl) (by kernel_rfl) (by kernel_rfl) (fun _ _ _ h => h) (Or.inl ⟨by rfl, ?e618⟩) hHeld ?_
      case e618 =>
        intro wS hSw
        obtain ⟨z0, z1, z2, z3⟩ := hSw
        go_simp
        try with_reducible rfl
      try simp only [Act.put, List.getElem_toArray, List.getElem_cons_zero, List.getElem_cons_succ, List.setIfInBounds_toArray, List.set_cons_zero, List.set_cons_succ]
      refine wpAnyH_take (i := 19) (v := ?_) rfl (by kernel_rfl) (by kernel_rfl) (by kernel_rfl) (fun _ _ _ h => h) (Or.inl ⟨by rfl, ?e619⟩) hHeld ?_
      case e619 =>
        intro wS hSw
        obtain ⟨z0, z1, z2, z3⟩ := hSw
        go_simp
        try with_reducible rfl
      try simp only [Act.put, List.getElem_toArray, List.getElem_cons_zero, List.getElem_cons_succ, List.setIfInBounds_toArray, List.set_cons_zero, List.set_cons_succ]
      refine wpAnyH_take (i := 20) (v := ?_) rfl (by kernel_rfl) (by kernel_rfl) (by kernel_rfl) (fun _ _ _ h => h) (Or.inl ⟨by rfl, ?e620⟩) hHeld ?_
      case e620 =>
        intro wS hSw
        obtain ⟨z0, z1, z2, z3⟩ := hSw
        go_simp
        try with_reducible rfl
      try simp only [Act.put, List.getElem_toArray, List.getElem_cons_zero, List.getElem_cons_succ, List.setIfInBounds_toArray, List.set_cons_zero, List.set_cons_succ]
      refine wpAnyH_take (i := 21) (v := ?_) rfl (by kernel_rfl) (by kernel_rfl) (by kernel_rfl) (fun _ _ _ h => h) (Or.inl ⟨by rfl, ?e621⟩) hHeld ?_
      case e621 =>
        intro wS hSw
        obtain ⟨z0, z1, z2, z3⟩ := hSw
        go_simp
        try with_reducible rfl
      try simp only [Act.put, List.getElem_toArray, List.getElem_cons_zero, List.getElem_cons_succ, List.setIfInBounds_toArray, List.set_cons_zero, List.set_cons_succ]
      refine wpAnyH_take (i := 22) (v := ?_) rfl (by kernel_rfl) (by kernel_rfl) (by kernel_rfl) (fun _ _ _ h => h) (Or.inl ⟨by rfl, ?e622⟩) hHeld ?_
      case e622 =>
        intro wS hSw
        obtain ⟨z0, z1, z2, z3⟩ := hSw
        go_simp
        try with_reducible rfl
      try simp only [Act.put, List.getElem_toArray, List.getElem_cons_zero, List.getElem_cons_succ, List.setIfInBounds_toArray, List.set_cons_zero, List.set_cons_succ]
      refine wpAnyH_take (i := 23) (v := ?_) rfl (by kernel_rfl) (by kernel_rfl) (by kernel_rfl) (fun _ _ _ h => h) (Or.inl ⟨by rfl, ?e623⟩) hHeld ?_
      case e623 =>
        intro wS hSw
        obtain ⟨z0, z1, z2, z3⟩ := hSw
        go_simp
        try with_reducible rfl
      try simp only [Act.put, List.getElem_toArray, List.getElem_cons_zero, List.getElem_cons_succ, List.setIfInBounds_toArray, List.set_cons_zero, List.set_cons_succ]
      refine wpAnyH_done (by kernel_rfl) ?_ _
      clear hHeld
      try simp only [Act.put, List.getElem_toArray, List.getElem_cons_zero, List.getElem_cons_succ, List.setIfInBounds_toArray, List.set_cons_zero, List.set_cons_succ]
      go_wp2
      go_roundw
      case rel => exact ⟨i + 1, by omega, by go_num, Lib.hid (HB.out.drew)⟩
      case measure => simp [RowKit.intOf]; omega
    · obtain rfl : i = n := by omega
      go_wp2
      go_ret
      exact ⟨rfl, HB.out⟩
end Go.Proofs.YtkeegnhjemhblaaGreatDoor.Rb
/-
  What is told of a branch, by both books, in one form.
-/
set_option linter.unusedSimpArgs false
namespace Go.Proofs.YtkeegnhjemhblaaGreatDoor.Rb
open Go.RowKit Go.Maps Go.WideMaps Go.Proofs.YtkeegnhjemhblaaGreatDoor.Rf

def rowOf (K : BK) (k : List UInt8) : List En := (getM K k).getD []
def codeOf (K : BK) (k : List UInt8) : Int := if (getM K k).isSome then 0 else 6
def tipOf (K : BK) (k : List UInt8) : En := (rowOf K k).getLast?.getD enZ
theorem tip_split {K : BK} (ok : OkB K) {k : List UInt8} {l : List En} (h : getM K k = some l) : ∃ pl, l = pl ++ [tipOf K k] := by
  have hne := ok.ne (k, l) (getM_mem h)
  dsimp only at hne
  refine ⟨l.dropLast, ?_⟩
  have : tipOf K k = l.getLast hne := by rw [tipOf, rowOf, h]; simp [List.getLast?_eq_some_getLast hne]
  rw [this, List.dropLast_concat_getLast]
theorem row_32 {K : BK} (ok : OkB K) (k : List UInt8) : ∀ e ∈ rowOf K k, e.c.length = 32 := fun e he => by
  rw [rowOf] at he
  cases h : getM K k with
  | none => rw [h] at he; cases he
  | some l => rw [h] at he; exact (ok.ent (k, l) (getM_mem h) e he).1
theorem row_len {K : BK} (ok : OkB K) (k : List UInt8) : (rowOf K k).length ≤ 4096 := by
  rw [rowOf]
  cases h : getM K k with
  | none => simp
  | some l => exact ok.len (k, l) (getM_mem h)
theorem enZ_len : enZ.c.length = 32 := by decide
theorem tip_32 {K : BK} (ok : OkB K) (k : List UInt8) : (tipOf K k).c.length = 32 := by
  cases h : getM K k with
  | none => rw [tipOf, rowOf, h]; exact enZ_len
  | some l =>
    obtain ⟨pl, hl⟩ := tip_split ok h
    exact (ok.ent (k, l) (getM_mem h) _ (by dsimp only; rw [hl]; simp)).1
section
variable {X : Spect} {B : Nat} {w : World} {K : BK} {Z : BM}
theorem ask_log {g b : Nat} (h : BookAt X B w g b Z) (e : plainB Z = K) (ok : OkB K) (k : List UInt8) (hk : k.length ≤ maxLen) :
    Calls Tryz.prog 51 #[ptr g, .string ⟨k.toArray⟩] w fun e w' => ∃ v, e = .returned (.tuple #[v, .int .i64 (codeOf K k)]) ∧ w'.ownsRow w.heap.size 84 33 v (rowOf K k).length (cellsL (rowOf K k)) ∧ Below w.heap.size w w' := by
  subst e
  refine (bookLog_any B w g b Z ⟨k.toArray⟩ hk h ok).mono ?_
  rintro e w' ⟨hb, hp⟩
  have hk' : (⟨k.toArray⟩ : ByteArray).data.toList = k := rfl
  rw [hk'] at hp
  rw [codeOf, rowOf, plain_get]
  cases hg : getM Z k with
  | none => rw [hg] at hp; exact ⟨_, hp, World.ownsRow_nil _ _ _ _, hb⟩
  | some p =>
    rw [hg] at hp
    obtain ⟨v', he, ho⟩ := hp
    exact ⟨v', he, ho, hb⟩
theorem ask_rlog {r : Nat} {v : Value} (h : RBk B w r v Z) (e : plainB Z = K) (ok : OkB K) (k : List UInt8) :
    Calls Tryz.prog 52 #[ptr r, .string ⟨k.toArray⟩] w fun e w' => ∃ v, e = .returned (.tuple #[v, .int .i64 (codeOf K k)]) ∧ (∀ W r1 v1, RBk B W r1 v1 Z → W.ownsRow B EnT 33 v (rowOf K k).length (cellsL (rowOf K k))) ∧ Below w.heap.size w w' := by
  subst e
  refine (rlog_any B w r v Z k (by have := ok.size; rw [plain_length] at this; omega) h).mono ?_
  rintro e w' ⟨rfl, hb⟩
  rw [codeOf, rowOf, plain_get, logV]
  cases hg : getM Z k with
  | none => exact ⟨_, rfl, fun _ _ _ _ => World.ownsRow_nil _ _ _ _, hb⟩
  | some p => exact ⟨_, rfl, fun _ _ _ h => h.each _ (getM_mem hg), hb⟩
theorem ask_tip {g b : Nat} (h : BookAt X B w g b Z) (e : plainB Z = K) (ok : OkB K) (k : List UInt8) (hk : k.length ≤ maxLen) :
    Calls Tryz.prog 53 #[ptr g, .string ⟨k.toArray⟩] w fun e w' => e = .returned (.tuple #[enV (tipOf K k), .int .i64 (codeOf K k)]) ∧ Below w.heap.size w w' := by
  subst e
  have hk' : (⟨k.toArray⟩ : ByteArray).data.toList = k := rfl
  cases hg : getM Z k with
  | none =>
    have e1 : tipOf (plainB Z) k = enZ := by rw [tipOf, rowOf, plain_get, hg]; rfl
    have e2 : codeOf (plainB Z) k = 6 := by rw [codeOf, plain_get, hg]; rfl
    rw [e1, e2]
    exact tip_none B w g b Z ⟨k.toArray⟩ hk h (by rw [hk']; exact hg)
  | some p =>
    obtain ⟨pv, l⟩ := p
    have hp : getM (plainB Z) k = some l := by rw [plain_get, hg]; rfl
    obtain ⟨pl, hl⟩ := tip_split ok hp
    have e2 : codeOf (plainB Z) k = 0 := by rw [codeOf, hp]; rfl
    rw [e2]
    exact tip_any B w g b Z ⟨k.toArray⟩ pv pl _ hk h ok (by rw [hk', hg, ← hl])
theorem ask_rtip {r : Nat} {v : Value} (h : RBk B w r v Z) (e : plainB Z = K) (ok : OkB K) (k : List UInt8) :
    Calls Tryz.prog 54 #[ptr r, .string ⟨k.toArray⟩] w fun e w' => e = .returned (.tuple #[enV (tipOf K k), .int .i64 (codeOf K k)]) ∧ Below w.heap.size w w' := by
  subst e
  cases hg : getM Z k with
  | none =>
    have e1 : tipOf (plainB Z) k = enZ := by rw [tipOf, rowOf, plain_get, hg]; rfl
    have e2 : codeOf (plainB Z) k = 6 := by rw [codeOf, plain_get, hg]; rfl
    rw [e1, e2]
    exact rtip_none B w r v Z k h (by have := ok.size; rw [plain_length] at this; omega) hg
  | some p =>
    obtain ⟨pv, l⟩ := p
    have hp : getM (plainB Z) k = some l := by rw [plain_get, hg]; rfl
    obtain ⟨pl, hl⟩ := tip_split ok hp
    have e2 : codeOf (plainB Z) k = 0 := by rw [codeOf, hp]; rfl
    rw [e2]
    exact rtip_some B w r v Z k pv pl _ h ok (by rw [hg, ← hl])
end
end Go.Proofs.YtkeegnhjemhblaaGreatDoor.Rb
