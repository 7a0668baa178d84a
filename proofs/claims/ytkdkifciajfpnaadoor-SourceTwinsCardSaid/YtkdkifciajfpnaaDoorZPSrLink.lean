import Derived.Test.YtkdkifciajfpnaaDoorZPSrHapp
set_option linter.unusedSimpArgs false
set_option linter.unusedVariables false
/-
  The contract of Link.
-/
namespace Go.Proofs.YtkdkifciajfpnaaDoor.Sr
open Go.RowKit Go.Maps Go.WideMaps Go.Proofs.YtkdkifciajfpnaaDoor.Rf Go.Proofs.YtkdkifciajfpnaaDoor.Nm Go.Proofs.YtkdkifciajfpnaaDoor.St

/-- As a link's. -/
def asLink (t : List UInt8) (A : XA) : XA := { A with node := 3, target := t }
set_option linter.unusedSimpArgs false in
set_option maxHeartbeats 4000000 in
set_option maxRecDepth 100000 in
theorem link_any (B : Nat) (w : World) (r : Nat) (T : Tr) (p t : List UInt8) (A : XA) (v : Value) (hp : p.length ≤ 4611686018427387904) (ht : t.length ≤ 4611686018427387904) (hv : XsAt w v A.xs) (hvr : ∀ b ∈ xob A.xs v, b ≠ r) (hmost : T.most < 18446744073709551615) (h : TreeAt B w r T) :
    Calls Tryd.prog 18 #[ptr r, .string ⟨p.toArray⟩, .string ⟨t.toArray⟩, .agg (A.cells v).toArray] w fun e w' => ∃ W, Below w.heap.size w W ∧ TreeAt B W r T ∧ AddPost B W r T p [] (asLink t A) e w' := by
  obtain ⟨W, hW⟩ : ∃ W, W = w.alloc (.cells (((A.cells v).set 0 (.int .u8 3)).set 5 (.string ⟨t.toArray⟩)).toArray AtT) := ⟨_, rfl⟩
  have q2 : W.heap[w.heap.size]? = some (.cells ((asLink t A).cells v).toArray AtT) := by rw [hW]; exact (MapKept.heap_alloc w _).1
  have hb : Below w.heap.size w W := by rw [hW]; exact (Below.refl _ _).alloc (Nat.le_refl _) _
  have q0 : (w.alloc (.cells (A.cells v).toArray AtT)).heap[w.heap.size]? = some (.cells (A.cells v).toArray AtT) := (MapKept.heap_alloc w _).1
  have hT := h.below hb
  have hX : XsAt W v (asLink t A).xs := hv.kept hb.size (fun b hb' => hb.block b (hv.lt b hb'))
  have AD := Lib.hid (add_any B W r T p [] (asLink t A) v hp (by simp) hX hvr hmost hT)
  have HQ2 : Hid (W.heap[w.heap.size]? = some (.cells ((asLink t A).cells v).toArray AtT)) := Lib.hid q2
  have HB := Lib.hid hb; have HT := Lib.hid hT; have HW := Lib.hid hW
  have k0 : (w.alloc (.cells (A.cells v).toArray AtT)).cell? ⟨w.heap.size, 0, none⟩ = some (.int .u8 (A.node : Int)) := cell_of_heap q0
  have f0 : (w.alloc (.cells (A.cells v).toArray AtT)).frozen? ⟨w.heap.size, 0, none⟩ = false := frozen_of_heap q0
  unfold ptr at *
  clear h hv hvr hmost hT hX q0 q2 hb hW
  go_enter Tryd.func18, Tryd.ntmps18
  go_wp2_with (first
    | (refine Sh.wpList_load_at (T := AtT) (cs := ((asLink t A).cells v).toArray) (by rw [← HW.out]; exact HQ2.out) rfl AtT (.tmp 7) rfl rfl _ Tryd.underlying42 rfl (infoAt _ _) ?_)
    | fail)
  rw [← HW.out]
  refine AD.out.mono ?_
  rintro ex w1 ⟨rfl, hno, hyes⟩
  have HNO := Lib.hid hno; have HYES := Lib.hid hyes
  clear hno hyes AD
  go_wp2
  go_ret
  exact ⟨W, HB.out, HT.out, rfl, HNO.out, HYES.out⟩
end Go.Proofs.YtkdkifciajfpnaaDoor.Sr
