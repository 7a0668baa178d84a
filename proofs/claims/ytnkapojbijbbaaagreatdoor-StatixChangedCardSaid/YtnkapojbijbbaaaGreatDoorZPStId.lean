import Derived.Test.YtnkapojbijbbaaaGreatDoorZPRowKit
set_option linter.unusedSimpArgs false
set_option linter.unusedVariables false
set_option maxHeartbeats 4000000
set_option maxRecDepth 100000
namespace Go.Proofs.YtnkapojbijbbaaaGreatDoor.St
open Go.RowKit Go.Maps Go.WideMaps Rf Rd
def idOf (l : List UInt8) : List UInt8 := l.take 32 ++ List.replicate (32 - (l.take 32).length) 0
theorem idOf_length (l : List UInt8) : (idOf l).length = 32 := by simp [idOf]; omega
theorem buf_id (l : List UInt8) : buf (l.take 32) 32 = (Lib.byteCells (idOf l)).toArray := by
 rw [buf, idOf, Lib.byteCells, Lib.byteCells, List.map_append]
 congr 2
 rw [List.map_replicate]; rfl
theorem id_any (w : World) (l : List UInt8) (hl : l.length ≤ maxLen) :
 Calls Tryz.prog 13 #[.string ⟨l.toArray⟩] w fun e w' => e = .returned (.agg (Lib.byteCells (idOf l)).toArray) ∧ Below w.heap.size w w' := by
 have hs : (⟨l.toArray⟩ : ByteArray).size = l.length := rfl
 have HLN := Lib.hid hl
 obtain ⟨W, hW⟩ : ∃ W, W = (w.alloc (.cells (buf [] 32) 49)).alloc (.cells (buf [] 32) 49) := ⟨_, rfl⟩
 have hb0 : Below w.heap.size w W := by rw [hW]; exact ((Below.refl _ _).alloc (Nat.le_refl _) _).alloc (by rw [one_size]; omega) _
 have hq0 : W.heap[w.heap.size]? = some (.cells (buf [] 32) 49) := by rw [hW]; exact at_alloc (MapKept.heap_alloc w _).1 _
 have hq1 : W.heap[w.heap.size + 1]? = some (.cells (buf [] 32) 49) := by
  have := (MapKept.heap_alloc (w.alloc (.cells (buf [] 32) 49)) (.cells (buf [] 32) 49)).1
  rw [one_size] at this
  rw [hW]; exact this
 have HB0 := Lib.hid hb0; have HQ0 := Lib.hid hq0; have HQ1 := Lib.hid hq1; have HW := Lib.hid hW
 clear hb0 hq0 hq1 hW hl
 have hI32 : Hid ((Tryz.prog.info? 49).map (·.size) = some (Lib.byteCells (idOf l)).length) := Lib.hid (by rw [Lib.byteCells_length, idOf_length]; kernel_rfl)
 have hJ32 : Hid ((Tryz.prog.info? 49).map (·.size) = some (Lib.byteCells (idOf l)).toArray.size) := Lib.hid (by rw [List.size_toArray]; exact hI32.out)
 have hK32 : Hid ((buf [] 32).size = (Lib.byteCells (idOf l)).toArray.size) := Lib.hid (by rw [buf_size [] 32 (by decide), List.size_toArray, Lib.byteCells_length, idOf_length])
 have hone : Hid ((Lib.byteCells (idOf l)).toArray.all (·.oneCell') = true) := Lib.hid (Array.all_eq_true_iff_forall_mem.2 (fun u hu => by
  simp only [List.mem_toArray, Lib.byteCells, List.mem_map] at hu
  obtain ⟨b, _, rfl⟩ := hu; rfl))
 go_enter Tryz.func13, Tryz.ntmps13
 go_wp2
 go_loopw [4] (fun vi wr => ∃ i : Nat, i ≤ l.length ∧ i ≤ 32 ∧ vi = .int .i64 (i : Int) ∧ Hid (Below w.heap.size w wr ∧ wr.heap[w.heap.size]? = some (.cells (buf [] 32) 49) ∧ wr.heap[w.heap.size + 1]? = some (.cells (buf (l.take i) 32) 49))) (fun vi _ => 32 - (RowKit.intOf vi).toNat)
 case atStart =>
  refine ⟨0, Nat.zero_le _, by omega, rfl, Lib.hid ?_⟩
  change Below w.heap.size w ((w.alloc (.cells (buf [] 32) 49)).alloc (.cells (buf [] 32) 49)) ∧ ((w.alloc (.cells (buf [] 32) 49)).alloc (.cells (buf [] 32) 49)).heap[w.heap.size]? = _ ∧ ((w.alloc (.cells (buf [] 32) 49)).alloc (.cells (buf [] 32) 49)).heap[w.heap.size + 1]? = _
  rw [← HW.out]
  exact ⟨HB0.out, HQ0.out, HQ1.out⟩
 case round =>
  obtain ⟨i, hil, hi32, rfl, HR⟩ := hrel
  by_cases h1 : (i : Int) < (l.length : Int)
  · by_cases h2 : (i : Int) < 32
    · have hil' : i < l.length := by omega
      obtain ⟨b, hb⟩ : ∃ b, b = l[i] := ⟨_, rfl⟩
      have hidx : (⟨l.toArray⟩ : ByteArray)[i]'(by rw [hs]; omega) = b := by rw [hb]; rfl
      have hlt : w.heap.size + 1 < wr.heap.size := lt_of_heap HR.out.2.2
      have hck : wr.cell? ⟨w.heap.size + 1, i, none⟩ = some (.int .u8 0) := by
       rw [cell_of_heap HR.out.2.2]
       have := buf_get (l.take i) 32 (by rw [List.length_take]; omega)
       rwa [List.length_take, Nat.min_eq_left hil] at this
      have hfz : wr.frozen? ⟨w.heap.size + 1, i, none⟩ = false := frozen_of_heap HR.out.2.2
      have HN : Hid (Below w.heap.size w (wr.setCell ⟨w.heap.size + 1, i, none⟩ (.int .u8 (b.toNat : Int))) ∧ (wr.setCell ⟨w.heap.size + 1, i, none⟩ (.int .u8 (b.toNat : Int))).heap[w.heap.size]? = some (.cells (buf [] 32) 49) ∧ (wr.setCell ⟨w.heap.size + 1, i, none⟩ (.int .u8 (b.toNat : Int))).heap[w.heap.size + 1]? = some (.cells (buf (l.take (i + 1)) 32) 49)) := Lib.hid (by
       refine ⟨HR.out.1.setCell (p := ⟨w.heap.size + 1, i, none⟩) (Nat.le_succ _) _, (Below.heap_setCell _ _ _ _ (by simp)).trans HR.out.2.1, ?_⟩
       rw [setCell_heap _ _ _ _ _ _ HR.out.2.2]
       have := buf_set (l.take i) 32 b (by rw [List.length_take]; omega)
       rw [List.length_take, Nat.min_eq_left hil] at this
       rw [this, List.take_add_one, List.getElem?_eq_getElem hil', hb]; rfl)
      clear hb
      go_wp2
      go_roundw
      case rel => exact ⟨i + 1, by omega, by omega, by simp, HN⟩
      case measure => simp [RowKit.intOf]; omega
    · obtain rfl : i = 32 := by omega
      have hti : Hid (l.take 32 = l.take 32) := Lib.hid rfl
      have hr := HR.out
      have hrg : wr.rangeAt (w.heap.size + 1) 0 (Lib.byteCells (idOf l)) := by
       have := range_block hr.2.2
       rw [hti.out, buf_id] at this
       exact this
      have HRG := Lib.hid hrg
      have HQ := Lib.hid hr.2.1
      have HB := Lib.hid hr.1
      clear hr hrg HR
      go_wp2_with (first
       | (refine wpList_load_mid rfl _ _ rfl (w.heap.size + 1) 0 rfl (Lib.byteCells (idOf l)) _ HRG.out Tryz.underlying49 rfl hI32.out ?_)
       | (refine wpList_store_at HQ.out rfl _ _ _ rfl (Lib.byteCells (idOf l)).toArray rfl rfl hJ32.out hK32.out hone.out ?_
          intro w3 hq3 ht3 hs3
          have HQ3 := Lib.hid hq3; have HT3 := Lib.hid ht3
          clear hq3 ht3 hs3))
      refine bodyPost_ret (v := .agg (Lib.byteCells (idOf l)).toArray) (results_cell_row (fn := Tryz.f13) rfl _ _ w.heap.size _ _ _ _ rfl HQ3.out Tryz.underlying49 rfl hJ32.out) rfl ?_
      exact ⟨rfl, HB.out.trans (HT3.out.below (by simp) HB.out.size)⟩
  · have hti : Hid (l.take i = l.take 32) := Lib.hid (by rw [List.take_of_length_le (by omega), List.take_of_length_le (by omega)])
    have hr := HR.out
    have hrg : wr.rangeAt (w.heap.size + 1) 0 (Lib.byteCells (idOf l)) := by
     have := range_block hr.2.2
     rw [hti.out, buf_id] at this
     exact this
    have HRG := Lib.hid hrg
    have HQ := Lib.hid hr.2.1
    have HB := Lib.hid hr.1
    clear hr hrg HR
    go_wp2_with (first
     | (refine wpList_load_mid rfl _ _ rfl (w.heap.size + 1) 0 rfl (Lib.byteCells (idOf l)) _ HRG.out Tryz.underlying49 rfl hI32.out ?_)
     | (refine wpList_store_at HQ.out rfl _ _ _ rfl (Lib.byteCells (idOf l)).toArray rfl rfl hJ32.out hK32.out hone.out ?_
        intro w3 hq3 ht3 hs3
        have HQ3 := Lib.hid hq3; have HT3 := Lib.hid ht3
        clear hq3 ht3 hs3))
    refine bodyPost_ret (v := .agg (Lib.byteCells (idOf l)).toArray) (results_cell_row (fn := Tryz.f13) rfl _ _ w.heap.size _ _ _ _ rfl HQ3.out Tryz.underlying49 rfl hJ32.out) rfl ?_
    exact ⟨rfl, HB.out.trans (HT3.out.below (by simp) HB.out.size)⟩
end Go.Proofs.YtnkapojbijbbaaaGreatDoor.St
