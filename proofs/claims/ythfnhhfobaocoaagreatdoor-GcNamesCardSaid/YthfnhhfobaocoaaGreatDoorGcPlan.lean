/-
  The contracts of the checks of plans and policies at the plans and policies of GcNames; of small and plan.
-/
import Derived.Test.YthfnhhfobaocoaaGreatDoorRowKit
import Derived.Maps.OwnSet
import Derived.Maps.OwnOps
import Derived.Lib.BufSteps
import Derived.Lib.Hide
import Derived.Laws.AppendOwn
import Derived.OwnWalk
import Derived.BigRegion
import Derived.BigQuiet
import Derived.BigCall
import Derived.BigGuard
import Derived.Deep.QuietTactic
namespace Go.Proofs.YthfnhhfobaocoaaGreatDoor.Gc
open Go.RowKit Go.Maps

abbrev pol (a y : Int) : Value := .agg #[.int .i64 a, .int .i64 y]
abbrev pl3 (a b c : Int) : Value := .agg #[.int .i64 a, .int .i64 b, .int .i64 c]
abbrev pl6 (a b c d e f : Int) : Value := .agg #[.int .i64 a, .int .i64 b, .int .i64 c, .int .i64 d, .int .i64 e, .int .i64 f]

theorem one_size (w : World) (A : Obj) : (w.alloc A).heap.size = w.heap.size + 1 := by show (w.heap.push _).size = _; simp
theorem at_alloc {w : World} {g : Nat} {o : Obj} (h : w.heap[g]? = some o) (A : Obj) : (w.alloc A).heap[g]? = some o :=
  (Below.heap_alloc _ _ _ (Array.getElem?_eq_some_iff.1 h).1).trans h

theorem pol1 (w : World) : Calls Tryz.prog 9 #[pol 101 0] w fun e w' => e = .returned (.int .i64 1) ∧ Below w.heap.size w w' := by
  go_enter Tryz.func9, Tryz.ntmps9
  go_wp2
  go_ret
  exact ⟨rfl, (Below.refl _ _).alloc (Nat.le_refl _) _⟩
theorem pol2 (w : World) : Calls Tryz.prog 9 #[pol 0 (-1)] w fun e w' => e = .returned (.int .i64 1) ∧ Below w.heap.size w w' := by
  go_enter Tryz.func9, Tryz.ntmps9
  go_wp2
  go_ret
  exact ⟨rfl, (Below.refl _ _).alloc (Nat.le_refl _) _⟩
theorem pol3 (w : World) : Calls Tryz.prog 9 #[pol 100 1099511627776] w fun e w' => e = .returned (.int .i64 0) ∧ Below w.heap.size w w' := by
  go_enter Tryz.func9, Tryz.ntmps9
  go_wp2
  go_ret
  exact ⟨rfl, (Below.refl _ _).alloc (Nat.le_refl _) _⟩
theorem pol4 (w : World) : Calls Tryz.prog 9 #[pol 0 1099511627777] w fun e w' => e = .returned (.int .i64 1) ∧ Below w.heap.size w w' := by
  go_enter Tryz.func9, Tryz.ntmps9
  go_wp2
  go_ret
  exact ⟨rfl, (Below.refl _ _).alloc (Nat.le_refl _) _⟩
theorem pol5 (w : World) : Calls Tryz.prog 9 #[pol 100 0] w fun e w' => e = .returned (.int .i64 0) ∧ Below w.heap.size w w' := by
  go_enter Tryz.func9, Tryz.ntmps9
  go_wp2
  go_ret
  exact ⟨rfl, (Below.refl _ _).alloc (Nat.le_refl _) _⟩
theorem cut1 (w : World) : Calls Tryz.prog 22 #[pl3 4 2 64] w fun e w' => e = .returned (.int .i64 0) ∧ Below w.heap.size w w' := by
  go_enter Tryz.func22, Tryz.ntmps22
  go_wp2
  go_ret
  exact ⟨rfl, (Below.refl _ _).alloc (Nat.le_refl _) _⟩
theorem cut2 (w : World) : Calls Tryz.prog 22 #[pl3 0 0 0] w fun e w' => e = .returned (.int .i64 90) ∧ Below w.heap.size w w' := by
  go_enter Tryz.func22, Tryz.ntmps22
  go_wp2
  go_ret
  exact ⟨rfl, (Below.refl _ _).alloc (Nat.le_refl _) _⟩
theorem plan1 (w : World) : Calls Tryz.prog 11 #[pl6 4 2 64 3 3 2] w fun e w' => e = .returned (.int .i64 0) ∧ Below w.heap.size w w' := by
  go_enter Tryz.func11, Tryz.ntmps11
  go_wp2_with fail
  refine (cut1 _).mono ?_
  rintro e w1 ⟨rfl, hb⟩
  have h0 : Below w.heap.size w (w.alloc (.cells #[.int .i64 4, .int .i64 2, .int .i64 64, .int .i64 3, .int .i64 3, .int .i64 2] 35)) := (Below.refl _ _).alloc (Nat.le_refl _) _
  have hq : w1.heap[w.heap.size]? = some (.cells #[.int .i64 4, .int .i64 2, .int .i64 64, .int .i64 3, .int .i64 3, .int .i64 2] 35) := (hb.block _ (by show _ < (w.heap.push _).size; simp)).trans (MapKept.heap_alloc w _).1
  have c3 : w1.cell? ⟨w.heap.size, 3, none⟩ = some (.int .i64 3) := by simp [World.cell?, hq]
  have c4 : w1.cell? ⟨w.heap.size, 4, none⟩ = some (.int .i64 3) := by simp [World.cell?, hq]
  have c5 : w1.cell? ⟨w.heap.size, 5, none⟩ = some (.int .i64 2) := by simp [World.cell?, hq]
  have HB := Lib.hid (h0.trans (hb.mono h0.size))
  clear hb h0 hq
  go_wp2
  go_ret
  exact ⟨rfl, HB.out⟩
theorem plan2 (w : World) : Calls Tryz.prog 11 #[pl6 0 0 0 0 0 0] w fun e w' => e = .returned (.int .i64 90) ∧ Below w.heap.size w w' := by
  go_enter Tryz.func11, Tryz.ntmps11
  go_wp2_with fail
  refine (cut2 _).mono ?_
  rintro e w1 ⟨rfl, hb⟩
  have h0 : Below w.heap.size w (w.alloc (.cells #[.int .i64 0, .int .i64 0, .int .i64 0, .int .i64 0, .int .i64 0, .int .i64 0] 35)) := (Below.refl _ _).alloc (Nat.le_refl _) _
  have HB := Lib.hid (h0.trans (hb.mono h0.size))
  clear hb h0
  go_wp2
  go_ret
  exact ⟨rfl, HB.out⟩
theorem small_any (w : World) : Calls Tryz.prog 7 #[] w fun e w' => e = .returned (pl6 4 2 64 3 3 2) ∧ Below w.heap.size w w' := by
  go_enter Tryz.func7, Tryz.ntmps7
  go_wp2
  have hq : ((w.alloc (.cells #[.int .i64 4, .int .i64 2, .int .i64 64, .int .i64 3, .int .i64 3, .int .i64 2] 39)).alloc (.cells #[.int .i64 4, .int .i64 2, .int .i64 64, .int .i64 3, .int .i64 3, .int .i64 2] 39)).heap[w.heap.size]? = some (.cells #[.int .i64 4, .int .i64 2, .int .i64 64, .int .i64 3, .int .i64 3, .int .i64 2] 39) := at_alloc (MapKept.heap_alloc w _).1 _
  refine bodyPost_ret (v := pl6 4 2 64 3 3 2) (results_cell_row (fn := Tryz.f7) rfl _ _ w.heap.size _ _ _ _ rfl hq Tryz.underlying39 rfl (by kernel_rfl)) rfl ?_
  exact ⟨rfl, ((Below.refl _ _).alloc (Nat.le_refl _) _).alloc (by rw [one_size]; omega) _⟩
theorem toplan_any (w : World) : Calls Tryz.prog 6 #[pl6 4 2 64 3 3 2] w fun e w' => e = .returned (pl6 4 2 64 3 3 2) ∧ Below w.heap.size w w' := by
  go_enter Tryz.func6, Tryz.ntmps6
  go_wp2
  have hq : ((w.alloc (.cells #[.int .i64 4, .int .i64 2, .int .i64 64, .int .i64 3, .int .i64 3, .int .i64 2] 39)).alloc (.cells #[.int .i64 4, .int .i64 2, .int .i64 64, .int .i64 3, .int .i64 3, .int .i64 2] 35)).heap[w.heap.size + 1]? = some (.cells #[.int .i64 4, .int .i64 2, .int .i64 64, .int .i64 3, .int .i64 3, .int .i64 2] 35) := by
    have := (MapKept.heap_alloc (w.alloc (.cells #[.int .i64 4, .int .i64 2, .int .i64 64, .int .i64 3, .int .i64 3, .int .i64 2] 39)) (.cells #[.int .i64 4, .int .i64 2, .int .i64 64, .int .i64 3, .int .i64 3, .int .i64 2] 35)).1
    rwa [one_size] at this
  refine bodyPost_ret (v := pl6 4 2 64 3 3 2) (results_cell_row (fn := Tryz.f6) rfl _ _ (w.heap.size + 1) _ _ _ _ rfl hq Tryz.underlying35 rfl (by kernel_rfl)) rfl ?_
  exact ⟨rfl, ((Below.refl _ _).alloc (Nat.le_refl _) _).alloc (by rw [one_size]; omega) _⟩
end Go.Proofs.YthfnhhfobaocoaaGreatDoor.Gc
