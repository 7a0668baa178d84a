/-
  The laws' last argument, opened: a crash.
-/
import Derived.Test.YtcfdfpjemonhoaaDkDirs
import Derived.Lib.SmallJoins
import Derived.ChangeSlices
import Derived.SizedLaws
namespace Go.Proofs.Ytcfdfpjemonhoaa.Dk
open Go.RowKit Go.ChangeShapes Go.WideShapes Go.Deep

set_option maxRecDepth 100000 in
theorem open_crash {H : Type} {enc : TypeId × Value → H} {W : World} {base : Nat} {v : Value} {d : DataW H} {p : List MemPlace} {r : Reach} {b0 : Nat} {ts : List TypeId} {ds : List (DataW H)} {j : Nat}
    (hval : Value.okWide Try.prog W r b0 43 v) (h : DataW.Trod enc Try.prog W base (fun _ => true) true 43 v d p)
    (hz : (DataW.weightsEach Try.prog ts ds).all (· ≤ reachBytes) = true) (ht : ts[j]? = some 43) (hd : ds[j]? = some d) :
    ∃ (dir : Int) (vk : Value) (ks : List Int), v = .agg #[.int .i64 dir, vk] ∧ KeepAt W [] vk ks := by
  obtain ⟨v0, v1, y0, y1, n, rfl, rfl, rfl, h0, h1⟩ := Joins.open_agg2 Try.underlying43 (by kernel_rfl) (by kernel_rfl) hval h
  obtain ⟨dir, r0, _, _⟩ := DataW.trod_int Try.underlying3 h0
  injection r0 with r0
  have k3 : Try.prog.cellsOf 3 = 1 := by kernel_rfl
  have hb8 : Try.prog.bytesOf 3 = 8 := by kernel_rfl
  rcases open_ints Try.underlying30 Try.underlying3 k3 h1 with ⟨hcs, _⟩ | ⟨a, len, cap, zs, hcs, _, hle, hcm, hzl, hx, hcell, _⟩
  · injection hcs with hcs
    exact ⟨dir, v1, [], by rw [r0], by rw [hcs]; exact keep_nil _ _⟩
  · injection hcs with hcs
    have hzl' : zs.length = cap := by rw [hzl]; simp
    have hkl : (zs.take len).length = len := by rw [List.length_take]; omega
    have hlen : len ≤ 17592186044416 := by
      have hw : ((lits (H := H) .i64 (zs.take len)).length + (lits (H := H) .i64 (zs.drop len)).length) * Try.prog.bytesOf 3 ∈ DataW.weights Try.prog 30 y1.1 := by
        rw [hx]; simp [DataW.weights, Try.underlying30]
      have hw2 := DataW.weights_mem_each (P := Try.prog) (ts := [3, 30]) (ds := [y0.1, y1.1]) (j := 1) rfl rfl _ hw
      have hw3 : ((lits (H := H) .i64 (zs.take len)).length + (lits (H := H) .i64 (zs.drop len)).length) * Try.prog.bytesOf 3 ∈ DataW.weights Try.prog 43 (.agg [y0.1, y1.1]) := by
        simp only [DataW.weights, Try.underlying43]
        exact hw2
      have hw4 := List.all_eq_true.1 hz _ (DataW.weights_mem_each ht hd _ hw3)
      have hr := reachBytes_lt
      have e : (2 : Nat) ^ 47 = 140737488355328 := by decide
      have hll : (lits (H := H) .i64 (zs.take len)).length = len := by simp [lits]; omega
      rw [hll, hb8] at hw4
      simp only [decide_eq_true_eq] at hw4
      omega
    refine ⟨dir, v1, zs.take len, by rw [r0], a, cap, by rw [hcs, hkl], by rw [hkl]; exact hlen, fun hne => ?_⟩
    have hpos : 0 < len := by
      rcases Nat.eq_zero_or_pos len with e | e
      · exact absurd (by rw [e]; rfl) hne
      · exact e
    have hsp : a.spot = none := by
      have := World.cell?_spot (hcell 0 (by omega))
      simpa [Addr.add] using this
    obtain ⟨ab, ao, asp⟩ := a
    simp only at hsp
    subst hsp
    have hadd : ∀ i, (⟨ab, ao, none⟩ : Addr).add i = ⟨ab, ao + i, none⟩ := fun i => by
      unfold Addr.add
      split
      · next h => rw [h]; rfl
      · rfl
    have hbl : ab < W.heap.size := by
      have := World.block_lt_of_cell? W _ (hcell 0 (by omega))
      rw [hadd] at this
      exact this
    refine ⟨ab, ao, rfl, hbl, by simp, fun i x hi => ?_⟩
    have hil : i < len := by have := (List.getElem?_eq_some_iff.1 hi).1; omega
    rw [← hadd, hcell i (by omega)]
    rw [List.getElem?_take_of_lt hil] at hi
    rw [List.getD, hi]; rfl
end Go.Proofs.Ytcfdfpjemonhoaa.Dk
