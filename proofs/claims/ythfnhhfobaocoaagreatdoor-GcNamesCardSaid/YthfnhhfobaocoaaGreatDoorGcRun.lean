/-
  The functions of gc that GcNames reaches, at an empty disk.
-/
import Derived.Test.YthfnhhfobaocoaaGreatDoorGcFind
import Derived.Test.YthfnhhfobaocoaaGreatDoorGcKit
import Derived.Test.YthfnhhfobaocoaaGreatDoorShTail
import Derived.Deep.CutBlock
namespace Go.Proofs.YthfnhhfobaocoaaGreatDoor.Gc
open Go.RowKit Go.Maps Go.WideMaps Go.Proofs.YthfnhhfobaocoaaGreatDoor.Dk

abbrev StT : TypeId := 55
/-- A state without anything. -/
structure Bare (w : World) (x : Nat) (d : Value) : Prop where
  live : ∃ m : Nat, (∃ o, w.heap[x]? = some (.cells #[d, .int .i64 0, .map (some m), o, .slice none 0 0, .slice none 0 0] StT)) ∧ w.ownsMap Tryz.prog 27 (fun _ => none) m 0 (.map [] : DataW Unit)
theorem Bare.below {w w' : World} {x : Nat} {d : Value} (h : Bare w x d) (hb : Below w.heap.size w w') : Bare w' x d := by
  obtain ⟨m, ⟨o, h1⟩, h2⟩ := h.live
  exact ⟨m, ⟨o, (hb.block _ (lt_of_heap h1)).trans h1⟩, ownsMap_block h2 (hb.block _ h2.lt)⟩

abbrev told0 : Array Value := (Array.replicate 6 (.int .i64 0)) ++ Array.replicate 32 (.int .u8 0)

theorem stand_nil (w : World) : Calls Tryz.prog 10 #[.pointer none] w fun e w' => e = .returned (.tuple #[.pointer none, .int .i64 2]) ∧ w' = w := by
  go_enter Tryz.func10, Tryz.ntmps10
  go_wp2
  go_ret2
  exact ⟨rfl, rfl⟩
theorem shares_nil (w : World) : Calls Tryz.prog 4 #[.pointer none] w fun e w' => e = .returned (.tuple #[.slice none 0 0, .int .i64 2]) ∧ w' = w := by
  go_enter Tryz.func4, Tryz.ntmps4
  go_wp2_with fail
  refine (stand_nil w).mono ?_
  rintro e w1 ⟨rfl, rfl⟩
  go_wp2
  go_ret2
  exact ⟨rfl, rfl⟩

set_option maxHeartbeats 4000000 in
set_option maxRecDepth 100000 in
theorem stand_any (B k : Nat) (hk : k ≤ 900) (w : World) (Y : Lay) (h : DiskAt B w Y (fresh k)) :
    Calls Tryz.prog 10 #[ptr Y.g] w fun e w' => ∃ x d, e = .returned (.tuple #[ptr x, .int .i64 0]) ∧ Bare w' x d ∧ ∃ Y', DP B Y w (k + 3) w' Y' := by
  have LD := Lib.hid (load_any B k (by omega) w Y h)
  have hmm := @run_makeMap Tryz.prog
  clear h
  unfold ptr at *
  go_enter Tryz.func10, Tryz.ntmps10
  go_wp2_with fail
  refine LD.out.mono ?_
  rintro e w1 ⟨g, b, rfl, hE, Y', hd⟩
  have HD := Lib.hid hd; have HE := Lib.hid hE
  have NW := Lib.hid (newest_any w1 g b hE)
  unfold ptr at NW
  clear hd LD hE
  go_wp2_with fail
  refine NW.out.mono ?_
  rintro e w2 ⟨rfl, hb⟩
  have HB2 := Lib.hid hb
  clear hb NW
  go_wp2_with fail
  obtain ⟨W, hW⟩ : ∃ W, W = ((w2.alloc (.map #[] 0)).alloc (.map #[] 0)).alloc (.cells #[.pointer (some ⟨Y.g, 0, none⟩), .int .i64 0, .map (some w2.heap.size), .map (some (w2.heap.size + 1)), .slice none 0 0, .slice none 0 0] StT) := ⟨_, rfl⟩
  have hbw : Below w2.heap.size w2 W := by rw [hW]; exact (((Below.refl _ _).alloc (Nat.le_refl _) _).alloc (by rw [one_size]; omega) _).alloc (by rw [one_size, one_size]; omega) _
  have hq : W.heap[w2.heap.size + 1 + 1]? = some (.cells #[.pointer (some ⟨Y.g, 0, none⟩), .int .i64 0, .map (some w2.heap.size), .map (some (w2.heap.size + 1)), .slice none 0 0, .slice none 0 0] StT) := by
    have := (MapKept.heap_alloc ((w2.alloc (.map #[] 0)).alloc (.map #[] 0)) (.cells #[.pointer (some ⟨Y.g, 0, none⟩), .int .i64 0, .map (some w2.heap.size), .map (some (w2.heap.size + 1)), .slice none 0 0, .slice none 0 0] StT)).1
    rw [hW]; rwa [one_size, one_size] at this
  have hm : W.ownsMap Tryz.prog 27 (fun _ => none) w2.heap.size 0 (.map [] : DataW Unit) := by
    rw [hW]; exact (((World.ownsMap_made w2 Tryz.prog 27 _).alloc _).alloc _)
  rw [← hW]
  have RT := Lib.hid (roots_any W g b ((HE.out.below HB2.out).below hbw))
  unfold ptr at RT
  have HQ := Lib.hid hq; have HM := Lib.hid hm
  have HD2 := Lib.hid ((HD.out.below HB2.out).below hbw)
  have HX : Hid (w2.heap.size + 1 + 1 ∉ Y'.blocks ∧ w2.heap.size ∉ Y'.blocks) := Lib.hid ⟨fun hx => by have := (HD.out.below HB2.out).disk.lt _ hx; omega, fun hx => by have := (HD.out.below HB2.out).disk.lt _ hx; omega⟩
  have HLW : Hid (w.heap.size ≤ w2.heap.size) := Lib.hid (Nat.le_trans HD.out.turn.size HB2.out.size)
  have HL := Lib.hid hbw.size
  clear hW hbw hq hm HD HB2 HE
  refine RT.out.mono ?_
  rintro e w3 ⟨rfl, hb3⟩
  have HQ3 := Lib.hid ((hb3.block _ (lt_of_heap HQ.out)).trans HQ.out)
  have HM3 := Lib.hid (ownsMap_block HM.out (hb3.block _ HM.out.lt))
  have HD3 := Lib.hid (HD2.out.below hb3)
  clear hb3 RT HD2 HQ HM HL
  have RE := reach_any B (k + 1) (by omega) w3 Y' HD3.out.disk
  have HG : Hid (Y'.g = Y.g) := Lib.hid HD3.out.g
  rw [HG.out] at RE
  unfold ptr at RE
  have RE := Lib.hid RE
  go_wp2_with fail
  refine RE.out.mono ?_
  rintro e w4 ⟨rfl, Y2, hd⟩
  have HQ4 := Lib.hid ((hd.far (lt_of_heap HQ3.out) HX.out.1).trans HQ3.out)
  have HM4 := Lib.hid (ownsMap_block HM3.out (hd.far HM3.out.lt HX.out.2))
  have HD4 := Lib.hid (HD3.out.trans hd)
  have HX4 := Lib.hid (And.intro (hd.apart (lt_of_heap HQ3.out) HX.out.1) (hd.apart HM3.out.lt HX.out.2))
  clear hd RE HX HQ3 HM3 HD3 HG
  have LI := list_any B (k + 1 + 1) (by omega) w4 Y2 HD4.out.disk
  have HG : Hid (Y2.g = Y.g) := Lib.hid HD4.out.g
  rw [HG.out] at LI
  unfold ptr at LI
  have LI := Lib.hid LI
  go_wp2
  go_loop [44] (fun v => v = .int .i64 0) (fun _ => 0)
  case atStart => exact rfl
  case round =>
    obtain rfl := hrel
    go_wp2_with fail
    refine LI.out.mono ?_
    rintro e w5 ⟨rfl, Y3, hd⟩
    have hq5 := (hd.far (lt_of_heap HQ4.out) HX4.out.1).trans HQ4.out
    have hm5 := ownsMap_block HM4.out (hd.far HM4.out.lt HX4.out.2)
    have f5 : w5.frozen? ⟨w2.heap.size + 1 + 1, 4, none⟩ = false := frozen_of_heap hq5
    have c4 : w5.cell? ⟨w2.heap.size + 1 + 1, 4, none⟩ = some (.slice none 0 0) := cell_of_heap hq5
    have HQ5 := Lib.hid hq5; have HM5 := Lib.hid hm5
    have HD5 := Lib.hid (HD4.out.trans hd)
    have HX5 := Lib.hid (And.intro (hd.apart (lt_of_heap HQ4.out) HX4.out.1) (hd.apart HM4.out.lt HX4.out.2))
    clear hd hq5 hm5 LI HQ4 HM4 HD4 HX4 HG
    go_upto_region 16 with (fail)
    obtain ⟨W6, hW6⟩ : ∃ W6, W6 = w5.setCell ⟨w2.heap.size + 1 + 1, 4, none⟩ (.slice none 0 0) := ⟨_, rfl⟩
    have hq6 : W6.heap[w2.heap.size + 1 + 1]? = some (.cells #[.pointer (some ⟨Y.g, 0, none⟩), .int .i64 0, .map (some w2.heap.size), .map (some (w2.heap.size + 1)), .slice none 0 0, .slice none 0 0] StT) := by
      rw [hW6]; exact setCell_heap _ _ _ _ _ _ HQ5.out
    have HM6 : Hid (W6.ownsMap Tryz.prog 27 (fun _ => none) w2.heap.size 0 (.map [] : DataW Unit)) := Lib.hid (by
      rw [hW6]; exact ownsMap_block HM5.out (Below.heap_setCell _ _ _ _ (by show w2.heap.size ≠ w2.heap.size + 1 + 1; omega)))
    have HD6 : Hid (DP B Y w (k + 1 + 1 + 1) W6 Y3) := Lib.hid (by rw [hW6]; exact HD5.out.aside HX5.out.1 (by have := HLW.out; omega) _ _)
    have c4 : W6.cell? ⟨w2.heap.size + 1 + 1, 4, none⟩ = some (.slice none 0 0) := cell_of_heap hq6
    have HQ6 := Lib.hid hq6
    rw [← hW6]
    clear hW6 hq6 HM5 HD5 HX5 HQ5 f5
    go_wp2
    go_loop [70] (fun v => v = .int .i64 0) (fun _ => 0)
    case atStart => exact rfl
    case round =>
      obtain rfl := hrel
      go_wp2
      go_ret2
      exact ⟨_, rfl, ⟨_, ⟨_, ⟨_, HQ6.out⟩, HM6.out⟩⟩, Y3, HD6.out⟩

set_option maxHeartbeats 4000000 in
set_option maxRecDepth 100000 in
theorem judge_any (w : World) (x : Nat) (d : Value) (h : Bare w x d) :
    Calls Tryz.prog 12 #[ptr x, pol 100 0] w fun e w' => e = .returned (.agg told0) ∧ Below w.heap.size w w' := by
  obtain ⟨m, ⟨o, hq⟩, hm⟩ := h.live
  have HQ := Lib.hid hq; have HM := Lib.hid hm
  clear h hq hm
  unfold ptr at *
  go_enter Tryz.func12, Tryz.ntmps12
  go_wp2_with fail
  obtain ⟨W, hW⟩ : ∃ W, W = ((w.alloc (.cells #[.int .i64 100, .int .i64 0] 42)).alloc (.cells told0 29)) := ⟨_, rfl⟩
  have hb : Below w.heap.size w W := by rw [hW]; exact ((Below.refl _ _).alloc (Nat.le_refl _) _).alloc (by rw [one_size]; omega) _
  have hq0 : W.heap[x]? = some (.cells #[d, .int .i64 0, .map (some m), o, .slice none 0 0, .slice none 0 0] StT) := (hb.block _ (lt_of_heap HQ.out)).trans HQ.out
  have hq1 : W.heap[w.heap.size + 1]? = some (.cells told0 29) := by
    have := (MapKept.heap_alloc (w.alloc (.cells #[.int .i64 100, .int .i64 0] 42)) (.cells told0 29)).1
    rw [hW]; rwa [one_size] at this
  have hlen := fun n ty => (ownsMap_block HM.out (show (W.drewN n).heap[m]? = w.heap[m]? from hb.block _ HM.out.lt)).len Tryz.underlying51 ty
  simp only [show Maps.size (.map [] : DataW Unit) = 0 from rfl] at hlen
  have c2 : W.cell? ⟨x, 2, none⟩ = some (.map (some m)) := cell_of_heap hq0
  have c5 : W.cell? ⟨x, 5, none⟩ = some (.slice none 0 0) := cell_of_heap hq0
  have HQ0 := Lib.hid hq0; have HQ1 := Lib.hid hq1; have HB := Lib.hid hb
  have HLX : Hid (x < w.heap.size) := Lib.hid (lt_of_heap HQ.out)
  change Code.wp _ _ _ _ ((w.alloc (.cells #[.int .i64 100, .int .i64 0] 42)).alloc (.cells told0 29))
  rw [← hW]
  clear hq0 hq1 hW hb HQ HM
  refine Sh.wp_region_quiet_tail 11 (by kernel_rfl) (by kernel_rfl) ?_
  simp only [List.take_succ_cons, List.take_zero, List.drop_succ_cons, List.drop_zero]
  repeat (go_big_quiet_step (fail))
  refine wpQuiet_nil ?_
  intro _ hw'
  obtain ⟨nq, hw''⟩ := hw'
  subst hw''
  go_wp2_with (first
    | (refine wpList_store_at (g := w.heap.size + 1) HQ1.out rfl 29 (.tmp 4) (.tmp 18) rfl told0 rfl rfl (by kernel_rfl) rfl (by kernel_rfl) ?_
       intro w2 hq2 ht2 hs2
       have c5b : w2.cell? ⟨x, 5, none⟩ = some (.slice none 0 0) := cell_of_heap ((ht2.block x (lt_of_heap HQ0.out) (by have := HLX.out; simp; omega)).trans HQ0.out)
       have HQ2 := Lib.hid hq2; have HT2 : Hid (Turn [w.heap.size + 1] W w2) := Lib.hid ⟨ht2.os, ht2.tape, ht2.output, ht2.size, ht2.block⟩
       clear hq2 ht2 hs2 c5 c2 hlen)
    | fail)
  go_loop [24] (fun v => v = .int .i64 0) (fun _ => 0)
  case atStart => exact rfl
  case round =>
    obtain rfl := hrel
    go_wp2_with (first
      | (refine wpList_load_at HQ2.out rfl 29 (.tmp 4) rfl rfl _ Tryz.underlying29 rfl (by kernel_rfl) ?_)
      | (refine wpList_store_at (g := w.heap.size + 1) HQ2.out rfl 29 (.tmp 4) (.tmp 82) rfl told0 rfl rfl (by kernel_rfl) rfl (by kernel_rfl) ?_
         intro w3 hq3 ht3 hs3
         have HQ3 := Lib.hid hq3; have HT3 := Lib.hid (HT2.out.trans ht3 (fun y hy => .inl hy))
         clear hq3 ht3 hs3)
      | fail)
    refine bodyPost_ret (v := .agg told0) (results_cell_row (fn := Tryz.f12) rfl _ _ (w.heap.size + 1) _ _ _ _ rfl HQ3.out Tryz.underlying29 rfl (by kernel_rfl)) rfl ?_
    exact ⟨rfl, HB.out.trans (HT3.out.below (by simp) HB.out.size)⟩

set_option maxHeartbeats 4000000 in
set_option maxRecDepth 100000 in
theorem moving_any (w : World) (x : Nat) (d : Value) (h : Bare w x d) :
    Calls Tryz.prog 13 #[ptr x] w fun e w' => e = .returned (.slice none 0 0) ∧ Below w.heap.size w w' := by
  obtain ⟨m, ⟨o, hq⟩, hm⟩ := h.live
  have hmm := @run_makeMap Tryz.prog
  have q1 := at_alloc hq (.map #[] 0)
  have c5 : (w.alloc (.map #[] 0)).cell? ⟨x, 5, none⟩ = some (.slice none 0 0) := cell_of_heap q1
  clear h hq hm q1
  unfold ptr at *
  go_enter Tryz.func13, Tryz.ntmps13
  go_wp2
  go_loop [21] (fun v => v = .int .i64 0) (fun _ => 0)
  case atStart => exact rfl
  case round =>
    obtain rfl := hrel
    go_wp2
    go_loop [8, 45] (fun u v => u = .slice none 0 0 ∧ v = .int .i64 0) (fun _ _ => 0)
    case atStart => exact ⟨rfl, rfl⟩
    case round =>
      obtain ⟨rfl, rfl⟩ := hrel
      go_wp2
      go_ret
      exact ⟨rfl, (Below.refl _ _).alloc (Nat.le_refl _) _⟩

set_option maxHeartbeats 4000000 in
set_option maxRecDepth 100000 in
theorem sweep_any (w : World) (x : Nat) (d : Value) (h : Bare w x d) :
    Calls Tryz.prog 15 #[ptr x, .string ⟨#[]⟩] w fun e w' => e = .returned (.int .i64 0) ∧ w' = w := by
  obtain ⟨m, ⟨o, hq⟩, hm⟩ := h.live
  have c5 : w.cell? ⟨x, 5, none⟩ = some (.slice none 0 0) := cell_of_heap hq
  clear h hq hm
  unfold ptr at *
  go_enter Tryz.func15, Tryz.ntmps15
  go_wp2
  go_loop [5, 16] (fun u v => u = .bool false ∧ v = .int .i64 0) (fun _ _ => 0)
  case atStart => exact ⟨rfl, rfl⟩
  case round =>
    obtain ⟨rfl, rfl⟩ := hrel
    go_wp2
    go_ret
    exact ⟨rfl, rfl⟩
end Go.Proofs.YthfnhhfobaocoaaGreatDoor.Gc
