/-
  The contract of the disk's counted call.
-/
import Derived.Test.YthfnhhfobaocoaaGreatDoorDkKit
namespace Go.Proofs.YthfnhhfobaocoaaGreatDoor.Dk
open Go.RowKit Go.Maps

theorem DiskAt.cell {B : Nat} {w : World} {Y : Lay} {D : Dk} (h : DiskAt B w Y D) (i : Nat) : w.cell? ⟨Y.g, i, none⟩ = (cellsOf Y D)[i]? := cell_of_heap h.disk
theorem DiskAt.frozen {B : Nat} {w : World} {Y : Lay} {D : Dk} (h : DiskAt B w Y D) (i : Nat) : w.frozen? ⟨Y.g, i, none⟩ = false := frozen_of_heap h.disk

/-- What a counted call leaves. -/
def CountPost (B : Nat) (Y : Lay) (w : World) (r : Int × Dk) (e : Ending) (w' : World) : Prop :=
  ∃ kc', e = .returned (.int .i64 r.1) ∧ DiskAt B w' { Y with kc := kc' } r.2 ∧ Turn [Y.g] w w'

theorem countPost_mk {B : Nat} {Y : Lay} {w w' : World} {D D' : Dk} (h : DiskAt B w Y D) (r : Int) (kc' : Value) (hf : D'.files = D.files) (hn : D'.now = D.now) (hs : D'.safe = D.safe) (hc : D'.chs = D.chs) (hnx : D'.next = D.next)
    (ht : Turn [Y.g] w w') (hg : w'.heap[Y.g]? = some (.cells (cellsOf { Y with kc := kc' } D') 76)) (hk : (kc' = Y.kc ∧ D'.crash = D.crash) ∨ (kc' = Y.kn ∧ D'.crash = D.next)) :
    CountPost B Y w (r, D') (.returned (.int .i64 r)) w' := by
  have hb : ∀ b, b < w.heap.size → b ≠ Y.g → w'.heap[b]? = w.heap[b]? := fun b hlt hne => ht.block b hlt (by simpa using hne)
  have hx : ∀ b, b < w.heap.size → b ∉ Y.blocks → w'.heap[b]? = w.heap[b]? := fun b hlt hnb => hb b hlt (fun e => hnb (by rw [e]; exact mem_g Y))
  refine ⟨kc', rfl, h.scalars Y.kn kc' D' hf hn hs hc hg ht.size hb (by rw [hnx]; exact h.kn.kept ht.size hx (fun _ _ x => x)) ?_, ht⟩
  rcases hk with ⟨rfl, e⟩ | ⟨rfl, e⟩
  · rw [e]; exact h.kc.kept ht.size hx (fun _ _ x => x)
  · rw [e]; exact h.kn.kept ht.size hx (fun _ _ x => x)

set_option maxHeartbeats 2000000 in
set_option maxRecDepth 100000 in
theorem count_any (B : Nat) (w : World) (Y : Lay) (D : Dk) (h : DiskAt B w Y D) (hc : D.calls ≤ 1000000) (hl : D.left ≤ 1073741824) :
    Calls Tryz.prog 47 #[ptr Y.g] w (CountPost B Y w (count D)) := by
  have H := Lib.hid h
  have c6 : w.cell? ⟨Y.g, 6, none⟩ = some (.int .i64 (D.calls : Int)) := h.cell 6
  have c7 : w.cell? ⟨Y.g, 7, none⟩ = some (.int .i64 (D.left : Int)) := h.cell 7
  have c8 : w.cell? ⟨Y.g, 8, none⟩ = some (.int .i64 D.next.1) := h.cell 8
  have c9 : w.cell? ⟨Y.g, 9, none⟩ = some Y.kn := h.cell 9
  have c10 : w.cell? ⟨Y.g, 10, none⟩ = some (.int .i64 D.crash.1) := h.cell 10
  have c11 : w.cell? ⟨Y.g, 11, none⟩ = some Y.kc := h.cell 11
  have c12 : w.cell? ⟨Y.g, 12, none⟩ = some (.bool D.down) := h.cell 12
  have f6 := h.frozen 6; have f7 := h.frozen 7; have f10 := h.frozen 10; have f11 := h.frozen 11; have f12 := h.frozen 12
  obtain ⟨ka, kcap, hkn, _⟩ := h.kn
  rw [hkn] at c9
  have HKN := Lib.hid hkn
  clear h hkn
  go_enter Tryz.func47, Tryz.ntmps47
  unfold ptr
  cases hd : D.down with
  | true =>
    rw [hd] at c12
    have e1 : count D = (8, D) := by rw [count, hd]; rfl
    rw [e1]
    clear e1
    go_wp2
    go_ret
    exact countPost_mk H.out 8 Y.kc rfl rfl rfl rfl rfl (Turn.refl _ _) H.out.disk (.inl ⟨rfl, rfl⟩)
  | false =>
    rw [hd] at c12
    by_cases h0 : D.left = 0
    · have e1 : count D = (0, { D with calls := D.calls + 1, left := D.left - 1 }) := by rw [count, hd, h0]; rfl
      rw [e1]
      rw [h0] at c7
      go_wp2
      go_ret
      refine countPost_mk H.out 0 Y.kc rfl rfl rfl rfl rfl ((Turn.refl _ _).setCell (.inl (by simp)) _) ?_ (.inl ⟨rfl, rfl⟩)
      rw [setCell_heap _ _ _ _ _ _ H.out.disk]
      simp [cellsOf, h0, hd]
    · by_cases h1 : D.left = 1
      · have e1 : count D = (8, { D with calls := D.calls + 1, left := D.left - 1, down := true, crash := D.next }) := by rw [count, hd, h1]; rfl
        rw [e1]
        rw [h1] at c7
        go_wp2
        go_ret
        refine countPost_mk H.out 8 Y.kn rfl rfl rfl rfl rfl (((((((Turn.refl _ _).setCell (.inl (by simp)) _).setCell (.inl (by simp)) _).setCell (.inl (by simp)) _).setCell (.inl (by simp)) _).setCell (.inl (by simp)) _)) ?_ (.inr ⟨rfl, rfl⟩)
        rw [setCell_heap _ _ _ _ _ _ (setCell_heap _ _ _ _ _ _ (setCell_heap _ _ _ _ _ _ (setCell_heap _ _ _ _ _ _ (setCell_heap _ _ _ _ _ _ H.out.disk))))]
        rw [← HKN.out]
        simp [cellsOf, h1]
      · have e1 : count D = (0, { D with calls := D.calls + 1, left := D.left - 1 }) := by rw [count, hd]; simp [h1]
        rw [e1]
        have i0 : (0 : Int) < (D.left : Int) := by omega
        have i1 : ((D.left : Int) - 1 == 0) = false := by simp; omega
        clear h0 e1
        go_wp2
        go_ret
        refine countPost_mk H.out 0 Y.kc rfl rfl rfl rfl rfl ((((Turn.refl _ _).setCell (.inl (by simp)) _).setCell (.inl (by simp)) _).setCell (.inl (by simp)) _) ?_ (.inl ⟨rfl, rfl⟩)
        rw [setCell_heap _ _ _ _ _ _ (setCell_heap _ _ _ _ _ _ (setCell_heap _ _ _ _ _ _ H.out.disk))]
        have e2 : ((D.left - 1 : Nat) : Int) = (D.left : Int) - 1 := by omega
        simp [cellsOf, hd, e2]
end Go.Proofs.YthfnhhfobaocoaaGreatDoor.Dk
