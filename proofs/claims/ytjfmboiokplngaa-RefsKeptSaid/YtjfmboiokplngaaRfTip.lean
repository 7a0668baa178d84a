/-
  The contract of a book's Tip at a branch that is there.
-/
import Derived.Test.YtjfmboiokplngaaRfDec2
import Derived.Laws.ResultCell
namespace Go.Proofs.Ytjfmboiokplngaa.Rf
open Go.RowKit Go.Maps Go.WideMaps
variable {X : Spect}

set_option maxHeartbeats 4000000 in
set_option maxRecDepth 100000 in
theorem tip_any (B : Nat) (w : World) (g b : Nat) (Z : BM) (S : ByteArray) (pv : Value) (pl : List En) (el : En) (hS : S.size ≤ maxLen) (h : BookAt X B w g b Z) (ok : OkB (plainB Z)) (hg : getM Z S.data.toList = some (pv, pl ++ [el])) :
    Calls Try.prog 22 #[ptr g, .string S] w fun e w' => e = .returned (.tuple #[enV el, .int .i64 0]) ∧ Below w.heap.size w w' := by
  have hbx : Below w.heap.size w (w.alloc (.cells zer33 34)) := (Below.refl _ _).alloc (Nat.le_refl _) _
  obtain ⟨W, hW⟩ : ∃ W, W = w.alloc (.cells zer33 34) := ⟨_, rfl⟩
  rw [← hW] at hbx
  have hq0 : W.heap[w.heap.size]? = some (.cells zer33 34) := by rw [hW]; exact (MapKept.heap_alloc w _).1
  have h1 := h.below hbx
  have K := log_any B W g b Z S hS h1
  obtain ⟨_, ok1, ok2, ok3⟩ := ok.row hg
  have hrow := h1.row hg
  dsimp only at ok1 ok2 ok3 hrow
  unfold logV at K
  rw [hg] at K
  dsimp only at K
  obtain ⟨m, hm⟩ : ∃ m, m = pl.length := ⟨_, rfl⟩
  have hln : (pl ++ [el]).length = m + 1 := by simp [hm]
  have hcl : (cellsL pl).length = 33 * m := by rw [hm]; exact cellsL_length (fun e he => (ok3 e (by simp [he])).1)
  have hel := (ok3 el (by simp)).1
  rw [hln] at hrow ok2
  have hm4 : m + 1 ≤ 4096 := ok2
  obtain ⟨gb, cap, rfl, hgb, _, hcell⟩ := rowS_form hrow (by omega)
  have hcs := cells_size hel
  have HRG : Hid (W.rangeAt gb (m * 33) el.cells) := Lib.hid (fun t v hv => hcell _ _ (by
    rw [cellsL, List.flatMap_append, ← cellsL, List.getElem?_append_right (by omega), hcl, show m * 33 + t - 33 * m = t by omega]
    simpa [cellsL] using hv))
  have HI : Hid ((Try.prog.info? 34).map (·.size) = some el.cells.length) := Lib.hid (by rw [hcs]; kernel_rfl)
  have HI2 : Hid ((Try.prog.info? 34).map (·.size) = some el.cells.toArray.size) := Lib.hid (by rw [List.size_toArray]; exact HI.out)
  have HS2 : Hid (zer33.size = el.cells.toArray.size) := Lib.hid (by show 33 = _; rw [List.size_toArray]; exact hcs.symm)
  have HONE : Hid (el.cells.toArray.all (·.oneCell') = true) := Lib.hid (Array.all_eq_true_iff_forall_mem.2 (fun u hu => row_one (l := [el]) u (by simpa [cellsL] using hu)))
  have HK := Lib.hid K; have HQ0 := Lib.hid hq0; have HBX := Lib.hid hbx; have HW := Lib.hid hW
  clear K hq0 hbx hrow hcell ok1 ok2 ok3 hcl hel hcs hm hln hg h h1 ok hW
  unfold ptr at *
  go_enter Try.func22, Try.ntmps22
  go_wp2_with fail
  change Calls _ _ _ (w.alloc (.cells zer33 34)) _
  rw [← HW.out]
  refine HK.out.mono ?_
  rintro e w1 ⟨rfl, rfl⟩
  obtain ⟨hq6, hb6⟩ : (w1.setRow w.heap.size el.cells.toArray).heap[w.heap.size]? = some (.cells el.cells.toArray 34) ∧ Below w.heap.size w (w1.setRow w.heap.size el.cells.toArray) := by rw [HW.out]; exact store_new w _
  have HQ6 := Lib.hid hq6; have HB6 := Lib.hid hb6
  clear hq6 hb6 HK
  go_wp2_with (first
    | (refine wpList_load_mid rfl _ _ rfl gb (m * 33) rfl el.cells _ HRG.out Try.underlying34 rfl HI.out ?_)
    | (refine wpList_store_row rfl _ _ _ rfl w.heap.size el.cells.toArray rfl rfl 34 zer33 HQ0.out HI2.out HS2.out HONE.out ?_))
  have hld := run_loadVar_row (P := Try.prog) (w1.setRow w.heap.size el.cells.toArray) w.heap.size _ 34 el.cells.toArray _ _ HQ6.out Try.underlying34 rfl HI2.out
  refine bodyPost_ret (v := .tuple #[enV el, .int .i64 0]) ?_ rfl ?_
  · rw [results_cell_tmp (fn := Try.f22) rfl]
    show ((asAddr (.pointer (some ⟨w.heap.size, 0, none⟩))).run Try.prog _).andThen _ = _
    simp only [asAddr, Sem.run_pure, Result.andThen_ok, hld]
    rfl
  · exact ⟨rfl, HB6.out⟩
end Go.Proofs.Ytjfmboiokplngaa.Rf
