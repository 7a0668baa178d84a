/-
  The functions of find, check and refs that GcNames reaches, at an empty disk and an empty book.
-/
import Derived.Test.YthfnhhfobaocoaaGreatDoorGcDisk
import Derived.Test.YthfnhhfobaocoaaGreatDoorGcSort
import Derived.Deep.CutBlock
namespace Go.Proofs.YthfnhhfobaocoaaGreatDoor.Gc
open Go.RowKit Go.Maps Go.WideMaps Go.Proofs.YthfnhhfobaocoaaGreatDoor.Dk

set_option maxHeartbeats 2000000 in
set_option maxRecDepth 100000 in
theorem roots_any (w : World) (g b : Nat) (h : Empty w g b) :
    Calls Tryz.prog 19 #[ptr g] w fun e w' => e = .returned (.slice none 0 0) ∧ Below w.heap.size w w' := by
  have BR := Lib.hid (branches_any w g b h)
  clear h
  unfold ptr at *
  go_enter Tryz.func19, Tryz.ntmps19
  go_wp2_with fail
  refine BR.out.mono ?_
  rintro e w1 ⟨rfl, hb⟩
  have HB := Lib.hid hb
  clear hb BR
  go_wp2
  go_loop [3, 11] (fun u v => u = .slice none 0 0 ∧ v = .int .i64 0) (fun _ _ => 0)
  case atStart => exact ⟨rfl, rfl⟩
  case round =>
    obtain ⟨rfl, rfl⟩ := hrel
    go_wp2_with fail
    refine (sort0 _ w1).mono ?_
    rintro e wx ⟨rfl, rfl⟩
    go_wp2_with fail
    refine (compact0 _).mono ?_
    rintro e wy ⟨rfl, rfl⟩
    go_wp2
    go_ret
    exact ⟨rfl, HB.out⟩

set_option maxHeartbeats 4000000 in
set_option maxRecDepth 100000 in
theorem open_any (B k : Nat) (hk : k ≤ 1000) (w : World) (Y : Lay) (h : DiskAt B w Y (fresh k)) :
    Calls Tryz.prog 39 #[ptr Y.g] w fun e w' => ∃ s, e = .returned (.tuple #[ptr s, .int .i64 0]) ∧ ∃ Y', DP B Y w (k + 1) w' Y' := by
  have LI := Lib.hid (list_any B k hk w Y h)
  have hmm := @run_makeMap Tryz.prog
  clear h
  unfold ptr at *
  go_enter Tryz.func39, Tryz.ntmps39
  go_wp2_with fail
  refine LI.out.mono ?_
  rintro e w1 ⟨rfl, Y', hd⟩
  have HD := Lib.hid hd
  clear hd LI
  go_wp2_with fail
  refine (packs0 _).mono ?_
  rintro e wx ⟨rfl, hwx⟩
  obtain rfl := hwx
  obtain ⟨W, hW⟩ : ∃ W, W = ((wx.alloc (.cells #[ptr Y.g, .slice none 0 0, .slice none 0 0, .pointer none, .int .i64 0, .int .i64 0, .int .i64 0, .int .i64 0, .int .i64 0, .bool false] 201)).alloc (.cells #[ptr wx.heap.size] 112)) := ⟨_, rfl⟩
  have hb0 : Below wx.heap.size wx W := by rw [hW]; exact ((Below.refl _ _).alloc (Nat.le_refl _) _).alloc (by rw [one_size]; omega) _
  have q0 : W.heap[wx.heap.size]? = some (.cells #[ptr Y.g, .slice none 0 0, .slice none 0 0, .pointer none, .int .i64 0, .int .i64 0, .int .i64 0, .int .i64 0, .int .i64 0, .bool false] 201) := by rw [hW]; exact at_alloc (MapKept.heap_alloc wx _).1 _
  have q1 : W.heap[wx.heap.size + 1]? = some (.cells #[ptr wx.heap.size] 112) := by
    have := (MapKept.heap_alloc (wx.alloc (.cells #[ptr Y.g, .slice none 0 0, .slice none 0 0, .pointer none, .int .i64 0, .int .i64 0, .int .i64 0, .int .i64 0, .int .i64 0, .bool false] 201)) (.cells #[ptr wx.heap.size] 112)).1
    rw [hW]; rwa [one_size] at this
  go_wp2_with fail
  unfold ptr at hW
  rw [← hW]
  have c0 : W.cell? ⟨wx.heap.size + 1, 0, none⟩ = some (.pointer (some ⟨wx.heap.size, 0, none⟩)) := cell_of_heap q1
  have c1 : W.cell? ⟨wx.heap.size, 1, none⟩ = some (.slice none 0 0) := cell_of_heap q0
  have c4 : W.cell? ⟨wx.heap.size, 4, none⟩ = some (.int .i64 0) := cell_of_heap q0
  have f4 : W.frozen? ⟨wx.heap.size, 4, none⟩ = false := frozen_of_heap q0
  have HB0 := Lib.hid hb0; have Q0 := Lib.hid q0; have Q1 := Lib.hid q1
  clear hb0 q0 q1 hW
  go_region
  clear c0 c1 c4 f4
  obtain ⟨W2, hW2⟩ : ∃ W2, W2 = (W.setCell ⟨wx.heap.size, 4, none⟩ (.int .i64 0)).drew := ⟨_, rfl⟩
  have hb2 : Below wx.heap.size wx W2 := by rw [hW2]; exact (HB0.out.setCell (Nat.le_refl _) _).drew
  have q0 : W2.heap[wx.heap.size]? = some (.cells #[ptr Y.g, .slice none 0 0, .slice none 0 0, .pointer none, .int .i64 0, .int .i64 0, .int .i64 0, .int .i64 0, .int .i64 0, .bool false] 201) := by
    rw [hW2]; exact setCell_heap _ _ _ _ _ _ Q0.out
  have q1 : W2.heap[wx.heap.size + 1]? = some (.cells #[ptr wx.heap.size] 112) := by
    rw [hW2]; exact (Below.heap_setCell _ _ _ _ (by show wx.heap.size + 1 ≠ wx.heap.size; omega)).trans Q1.out
  rw [← hW2]
  clear hW2 HB0 Q0 Q1
  have HB0 := Lib.hid hb2; have Q0 := Lib.hid q0; have Q1 := Lib.hid q1
  clear hb2 q0 q1
  go_wp2_with fail
  obtain ⟨W3, hW3⟩ : ∃ W3, W3 = (W2.alloc (.map #[] 0)).alloc (.cells #[.map (some W2.heap.size)] 51) := ⟨_, rfl⟩
  have hb3 : Below wx.heap.size wx W3 := by rw [hW3]; exact (HB0.out.alloc HB0.out.size _).alloc (by rw [one_size]; have := HB0.out.size; omega) _
  have hm3 : W3.ownsMap Tryz.prog 27 (fun _ => none) W2.heap.size 0 (.map [] : DataW Unit) := by
    rw [hW3]; exact ((World.ownsMap_made W2 Tryz.prog 27 _).alloc _)
  have q0 := at_alloc (at_alloc Q0.out (.map #[] 0)) (.cells #[.map (some W2.heap.size)] 51)
  have q2 : W3.heap[W2.heap.size + 1]? = some (.cells #[.map (some W2.heap.size)] 51) := by
    have := (MapKept.heap_alloc (W2.alloc (.map #[] 0)) (.cells #[.map (some W2.heap.size)] 51)).1
    rw [hW3]; rwa [one_size] at this
  have q1 := at_alloc (at_alloc Q1.out (.map #[] 0)) (.cells #[.map (some W2.heap.size)] 51)
  rw [← hW3] at q0 q1
  rw [← hW3]
  clear hW3 HB0 Q0 Q1
  have hlen := fun ty => hm3.len Tryz.underlying51 ty
  simp only [show Maps.size (.map [] : DataW Unit) = 0 from rfl] at hlen
  have c0 : W3.cell? ⟨wx.heap.size + 1, 0, none⟩ = some (.pointer (some ⟨wx.heap.size, 0, none⟩)) := cell_of_heap q1
  have c2 : W3.cell? ⟨W2.heap.size + 1, 0, none⟩ = some (.map (some W2.heap.size)) := cell_of_heap q2
  have c5 : W3.cell? ⟨wx.heap.size, 5, none⟩ = some (.int .i64 0) := cell_of_heap q0
  have f5 : W3.frozen? ⟨wx.heap.size, 5, none⟩ = false := frozen_of_heap q0
  have HB3 := Lib.hid hb3; have Q0 := Lib.hid q0; have Q1 := Lib.hid q1
  clear hb3 q0 q1 q2 hm3
  refine (each0 _ _ _ _).mono ?_
  rintro e wy ⟨rfl, hwy⟩
  obtain rfl := hwy
  go_upto_region 11 with (fail)
  clear c0 c2 c5 f5 hlen
  obtain ⟨W4, hW4⟩ : ∃ W4, W4 = wy.setCell ⟨wx.heap.size, 5, none⟩ (.int .i64 0) := ⟨_, rfl⟩
  have hb4 : Below wx.heap.size wx W4 := by rw [hW4]; exact HB3.out.setCell (Nat.le_refl _) _
  have c1 : W4.cell? ⟨wx.heap.size, 1, none⟩ = some (.slice none 0 0) := by
    rw [hW4]; exact cell_of_heap (setCell_heap _ _ _ _ _ _ Q0.out)
  have c0 : W4.cell? ⟨wx.heap.size + 1, 0, none⟩ = some (.pointer (some ⟨wx.heap.size, 0, none⟩)) := by
    rw [hW4]; exact cell_of_heap ((Below.heap_setCell _ _ _ _ (by show wx.heap.size + 1 ≠ wx.heap.size; omega)).trans Q1.out)
  rw [← hW4]
  have HB4 := Lib.hid hb4
  clear hW4 hb4 HB3 Q0 Q1
  go_wp2
  go_loop [53] (fun v => v = .int .i64 0) (fun _ => 0)
  case atStart => exact rfl
  case round =>
    obtain rfl := hrel
    go_wp2_with fail
    refine (each0 _ _ _ _).mono ?_
    rintro e wz ⟨rfl, hwz⟩
    obtain rfl := hwz
    go_wp2
    go_ret2
    exact ⟨_, rfl, Y', HD.out.below HB4.out⟩

set_option maxHeartbeats 4000000 in
set_option maxRecDepth 100000 in
theorem reach_any (B k : Nat) (hk : k ≤ 1000) (w : World) (Y : Lay) (h : DiskAt B w Y (fresh k)) :
    Calls Tryz.prog 18 #[ptr Y.g, .slice none 0 0] w fun e w' => e = .returned (.tuple #[.slice none 0 0, .slice none 0 0, .int .i64 0]) ∧ ∃ Y', DP B Y w (k + 1) w' Y' := by
  have OP := Lib.hid (open_any B k hk w Y h)
  have hmm := @run_makeMap Tryz.prog
  clear h
  unfold ptr at *
  go_enter Tryz.func18, Tryz.ntmps18
  go_wp2
  go_step3
  go_wp2_with fail
  refine OP.out.mono ?_
  rintro e w1 ⟨s, rfl, Y', hd⟩
  have HD := Lib.hid hd
  clear hd OP
  go_wp2
  go_loop [8, 28] (fun u v => u = .slice none 0 0 ∧ v = .int .i64 0) (fun _ _ => 0)
  case atStart => exact ⟨rfl, rfl⟩
  case round =>
    obtain ⟨rfl, rfl⟩ := hrel
    go_wp2
    go_step3
    go_wp2
    go_loop [4, 5, 6, 8] (fun u v z x => u = .slice none 0 0 ∧ v = .slice none 0 0 ∧ z = .int .i64 0 ∧ x = .slice none 0 0) (fun _ _ _ _ => 0)
    case atStart => exact ⟨rfl, rfl, rfl, rfl⟩
    case round =>
      obtain ⟨rfl, rfl, rfl, rfl⟩ := hrel
      go_wp2_with fail
      refine (sort0 _ _).mono ?_
      rintro e wz ⟨rfl, hwz⟩
      subst hwz
      go_wp2_with fail
      refine (sort0 _ _).mono ?_
      rintro e wz2 ⟨rfl, hwz⟩
      subst hwz
      have HDB := Lib.hid (HD.out.below ((Below.refl w1.heap.size w1).alloc (Nat.le_refl _) (.map #[] 0)))
      go_wp2
      rw [Exit.noGoto_ret]
      go_ret3
      exact ⟨rfl, Y', HDB.out⟩
end Go.Proofs.YthfnhhfobaocoaaGreatDoor.Gc
