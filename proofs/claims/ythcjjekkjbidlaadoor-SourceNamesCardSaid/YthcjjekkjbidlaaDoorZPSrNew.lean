import Derived.Test.YthcjjekkjbidlaaDoorZPSrAdd
set_option linter.unusedSimpArgs false
set_option linter.unusedVariables false
/-
  The contracts of New and File.
-/
namespace Go.Proofs.YthcjjekkjbidlaaDoor.Sr
open Go.RowKit Go.Maps Go.WideMaps Go.Proofs.YthcjjekkjbidlaaDoor.Rf Go.Proofs.YthcjjekkjbidlaaDoor.Nm Go.Proofs.YthcjjekkjbidlaaDoor.St

/-- The root of a new tree. -/
def rootE (p m : Nat) : TE := ⟨[], 1, 0, ⟨2, 493, 0, 0, 0, [], []⟩, [], p, some m, .slice none 0 0⟩
def newT (p m : Nat) : Tr := ⟨[rootE p m], 0, 1, 0⟩
set_option linter.unusedSimpArgs false in
set_option maxHeartbeats 4000000 in
set_option maxRecDepth 100000 in
theorem tree_new (w : World) :
    Calls Tryd.prog 16 #[] w fun e w' => ∃ r p m, e = .returned (ptr r) ∧ TreeAt w.heap.size w' r (newT p m) ∧ Below w.heap.size w w' := by
  have hmm := @run_makeMap Tryd.prog
  go_enter Tryd.func16, Tryd.ntmps16
  go_wp2
  go_ret
  obtain ⟨n, hn⟩ : ∃ n, n = w.heap.size := ⟨_, rfl⟩
  obtain ⟨A, hA⟩ : ∃ A, A = w.alloc (.map #[] 0) := ⟨_, rfl⟩
  have sA : A.heap.size = n + 1 := by rw [hA, one_size, hn]
  obtain ⟨C, hC⟩ : ∃ C, C = A.alloc (.cells (rootE (n + 1) n).cells.toArray NdT) := ⟨_, rfl⟩
  have sC : C.heap.size = n + 1 + 1 := by rw [hC, one_size, sA]
  obtain ⟨D, hD⟩ : ∃ D, D = C.alloc (.cells #[ptr (n + 1), .int .i64 0, .int .u64 1, .int .i64 0] TrT) := ⟨_, rfl⟩
  have qC : C.heap[n + 1]? = some (.cells (rootE (n + 1) n).cells.toArray NdT) := by rw [hC, ← sA]; exact (MapKept.heap_alloc A _).1
  have qD : D.heap[n + 1 + 1]? = some (.cells #[ptr (n + 1), .int .i64 0, .int .u64 1, .int .i64 0] TrT) := by rw [hD, ← sC]; exact (MapKept.heap_alloc C _).1
  have bD : Below n w D := by
    rw [hD, hC, hA]
    exact (((Below.refl _ _).alloc (by omega) _).alloc (by rw [one_size]; omega) _).alloc (by rw [one_size, one_size]; omega) _
  have mA : A.ownsMap Tryd.prog 9 Rv n 1000000 (toD ptr ([] : MV Nat)) := by
    rw [hA, hn]; exact map_tight (enc := ptr) (m := ([] : MV Nat)) (World.ownsMap_made w Tryd.prog 9 Rv) (by decide)
  have mD : D.ownsMap Tryd.prog 9 Rv n 1000000 (toD ptr ([] : MV Nat)) := by rw [hD, hC]; exact (mA.alloc _).alloc _
  have hk : kidsT [rootE (n + 1) n] [] = [] := rfl
  refine ⟨n + 1 + 1, n + 1, n, by rw [hn]; rfl, ?_, ?_⟩
  · show TreeAt w.heap.size _ _ _
    have hE : ((w.alloc (.map #[] 0)).alloc (.cells (rootE (w.heap.size + 1) w.heap.size).cells.toArray NdT)).alloc (.cells #[ptr (w.heap.size + 1), .int .i64 0, .int .u64 1, .int .i64 0] TrT) = D := by rw [hD, hC, hA, hn]
    have hT : TreeAt n D (n + 1 + 1) (newT (n + 1) n) := by
      refine ⟨⟨rootE (n + 1) n, rfl, qD⟩, fun e he => ?_, ?_, ?_, ?_, List.pairwise_singleton _ _, ?_, ?_⟩
      · obtain rfl := List.mem_singleton.1 he
        refine ⟨by rw [hD]; exact at_alloc qC _, fun b hb => ?_, ⟨none, 0, rfl, Nat.zero_le _, by simp [rootE], by simp [rootE]⟩⟩
        obtain rfl := Option.some.inj hb
        exact mD
      · show ((n + 1 + 1) :: ownL [rootE (n + 1) n]).Nodup
        simp [ownL, ownE, rootE]; omega
      · intro b hb
        simp [xobL, newT, rootE, xob] at hb
      · intro b hb
        simp [ownL, ownE, xobL, xob, newT, rootE] at hb
        omega
      · intro e he m s hm
        obtain rfl := List.mem_singleton.1 he
        have := congrArg List.length hm
        simp [rootE] at this
      · intro e he
        obtain rfl := List.mem_singleton.1 he
        simp [rootE]
    rw [← hE] at hT
    subst hn
    exact hT
  · have : ((w.alloc (.map #[] 0)).alloc (.cells (rootE (w.heap.size + 1) w.heap.size).cells.toArray NdT)).alloc (.cells #[ptr (w.heap.size + 1), .int .i64 0, .int .u64 1, .int .i64 0] TrT) = D := by rw [hD, hC, hA, hn]
    rw [← this] at bD
    subst hn
    exact bD
/-- What File hands to add. -/
def asFile (A : XA) : XA := { A with node := 1, target := [] }
set_option linter.unusedSimpArgs false in
set_option maxHeartbeats 4000000 in
set_option maxRecDepth 100000 in
theorem file_any (B : Nat) (w : World) (r : Nat) (T : Tr) (p d : List UInt8) (A : XA) (v : Value) (hp : p.length ≤ 4611686018427387904) (hd : d.length ≤ 4611686018427387904) (hv : XsAt w v A.xs) (hvr : ∀ b ∈ xob A.xs v, b ≠ r) (hmost : T.most < 18446744073709551615) (h : TreeAt B w r T) :
    Calls Tryd.prog 17 #[ptr r, .string ⟨p.toArray⟩, .string ⟨d.toArray⟩, .agg (A.cells v).toArray] w fun e w' => ∃ W, Below w.heap.size w W ∧ TreeAt B W r T ∧ AddPost B W r T p d (asFile A) e w' := by
  obtain ⟨W, hW⟩ : ∃ W, W = w.alloc (.cells (((A.cells v).set 0 (.int .u8 1)).set 5 (.string ⟨#[]⟩)).toArray AtT) := ⟨_, rfl⟩
  have q2 : W.heap[w.heap.size]? = some (.cells ((asFile A).cells v).toArray AtT) := by rw [hW]; exact (MapKept.heap_alloc w _).1
  have hb : Below w.heap.size w W := by rw [hW]; exact (Below.refl _ _).alloc (Nat.le_refl _) _
  have q0 : (w.alloc (.cells (A.cells v).toArray AtT)).heap[w.heap.size]? = some (.cells (A.cells v).toArray AtT) := (MapKept.heap_alloc w _).1
  have hT := h.below hb
  have hX : XsAt W v (asFile A).xs := hv.kept hb.size (fun b hb' => hb.block b (hv.lt b hb'))
  have AD := Lib.hid (add_any B W r T p d (asFile A) v hp hd hX hvr hmost hT)
  have HQ2 : Hid (W.heap[w.heap.size]? = some (.cells ((asFile A).cells v).toArray AtT)) := Lib.hid q2
  have HB := Lib.hid hb; have HT := Lib.hid hT; have HW := Lib.hid hW
  have k0 : (w.alloc (.cells (A.cells v).toArray AtT)).cell? ⟨w.heap.size, 0, none⟩ = some (.int .u8 (A.node : Int)) := cell_of_heap q0
  have f0 : (w.alloc (.cells (A.cells v).toArray AtT)).frozen? ⟨w.heap.size, 0, none⟩ = false := frozen_of_heap q0
  unfold ptr at *
  clear h hv hvr hmost hT hX q0 q2 hb hW
  go_enter Tryd.func17, Tryd.ntmps17
  go_wp2_with (first
    | (refine Sh.wpList_load_at (T := AtT) (cs := ((asFile A).cells v).toArray) (by rw [← HW.out]; exact HQ2.out) rfl AtT (.tmp 7) rfl rfl _ Tryd.underlying42 rfl (infoAt _ _) ?_)
    | fail)
  rw [← HW.out]
  refine AD.out.mono ?_
  rintro ex w1 ⟨rfl, hno, hyes⟩
  have HNO := Lib.hid hno; have HYES := Lib.hid hyes
  clear hno hyes AD
  go_wp2
  go_ret
  exact ⟨W, HB.out, HT.out, rfl, HNO.out, HYES.out⟩
end Go.Proofs.YthcjjekkjbidlaaDoor.Sr
