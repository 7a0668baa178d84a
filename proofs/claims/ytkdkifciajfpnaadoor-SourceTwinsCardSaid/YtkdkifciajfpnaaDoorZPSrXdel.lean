import Derived.Test.YtkdkifciajfpnaaDoorZPSrXins
import Derived.Test.YtkdkifciajfpnaaDoorZPShTail
import Derived.Deep.RegionLaw
set_option linter.unusedSimpArgs false
set_option linter.unusedVariables false
/-
  The contract of slices.Delete of one at extended attributes: a row of one's own.
-/
namespace Go.Proofs.YtkdkifciajfpnaaDoor.Sr
open Go.RowKit Go.Maps Go.WideMaps Go.Proofs.YtkdkifciajfpnaaDoor.Rf Go.Proofs.YtkdkifciajfpnaaDoor.Nm Go.Proofs.YtkdkifciajfpnaaDoor.St

/-- A row with one less. -/
def delX (xs : Xs) (i : Nat) : Xs := xs.take i ++ xs.drop (i + 1)
theorem delX_len (xs : Xs) {i : Nat} (hi : i < xs.length) : (delX xs i).length = xs.length - 1 := by
  rw [delX, List.length_append, List.length_take, List.length_drop]; omega
theorem delX_cells (xs : Xs) {i : Nat} (hi : i < xs.length) : xcells (delX xs i) = (xcells xs).take (i * 2) ++ (xcells xs).drop ((i + 1) * 2) := by
  rw [delX, xcells_app, xcells_take xs (by omega), xcells_drop xs (by omega)]
theorem run_clear_two (w : World) (g o c : Nat) (ty : TypeId) (hc : ∀ j, j < 2 → (w.cell? ⟨g, o + j, none⟩).isSome = true) (hf : ∀ j, j < 2 → w.frozen? ⟨g, o + j, none⟩ = false) :
    (Builtin.clear_ #[40] ty #[.slice (some ⟨g, o, none⟩) 1 c]).run Tryd.prog w = .ok (.tuple #[]) (w.setCells g o [.string ⟨#[]⟩, .string ⟨#[]⟩]) := by
  obtain ⟨i0, hi0, hz0, hz1, hz2⟩ := info_parts infoXa
  have hz : (Builtin.zeroCells (Value.agg #[.string ⟨#[]⟩, .string ⟨#[]⟩]).cells 1).toList = [.string ⟨#[]⟩, .string ⟨#[]⟩] := by kernel_rfl
  have hst := run_storeCells_cells (P := Tryd.prog) g o [.string ⟨#[]⟩, .string ⟨#[]⟩] 0 w (by simpa using hc) (by simpa using hf) (by intro v hv; simp at hv; subst hv; rfl)
  simp only [Nat.add_zero] at hst
  simp [Builtin.clear_, run_underlying (P := Tryd.prog) Tryd.underlying40, zeroValue, typeInfo, hi0, hz0, hz, hst]
def DelPost (C : Nat) (w : World) (v : Value) (xs : Xs) (i : Nat) (e : Ending) (w' : World) : Prop :=
  ∃ v', e = .returned v' ∧ w'.ownsRow C 78 2 v' (xs.length - 1) (xcells (delX xs i)) ∧ Turn (ob v) w w' ∧ (∀ b ∈ ob v', b ∈ ob v)
set_option linter.unusedSimpArgs false in
set_option maxHeartbeats 8000000 in
set_option maxRecDepth 100000 in
theorem xdel_any (C : Nat) (w : World) (v : Value) (xs : Xs) (i : Nat) (hi : i < xs.length) (hl : xs.length ≤ 1000) (hrow : w.ownsRow C 78 2 v xs.length (xcells xs)) :
    Calls Tryd.prog 38 #[v, .int .i64 (i : Int), .int .i64 ((i : Int) + 1)] w (DelPost C w v xs i) := by
  obtain ⟨i0, hi0, hz0, hz1, hz2⟩ := info_parts infoXa
  obtain ⟨_, ⟨_, h0⟩ | ⟨g, cap, cur, rfl, hCg, hg, hnc, hcm, hsz, hcur⟩⟩ := hrow
  · omega
  obtain ⟨n, hn⟩ : ∃ n, n = xs.length := ⟨_, rfl⟩
  obtain ⟨X, hX⟩ : ∃ X, X = xcells xs := ⟨_, rfl⟩
  have hXl : X.length = n * 2 := by rw [hX, hn]; exact xcells_length xs
  have hXg : ∀ j u, X[j]? = some u → w.cell? ⟨g, j, none⟩ = some u := fun j u hj => by
    rw [hX, ← hcur, List.getElem?_take] at hj
    split at hj
    · rw [cell_of_heap hg, ← Array.getElem?_toList]; exact hj
    · cases hj
  obtain ⟨news, hnews⟩ : ∃ news, news = X.drop ((i + 1) * 2) := ⟨_, rfl⟩
  have hnl : news.length = (n - (i + 1)) * 2 := by rw [hnews, List.length_drop, hXl]; omega
  have S1 : Hid (news.length = (n - (i + 1)) * 2) := Lib.hid hnl
  have S2 : Hid (∀ u ∈ news, u.oneCell' = true) := Lib.hid (by rw [hnews, hX]; exact fun u hu => xcells_one xs u (List.mem_of_mem_drop hu))
  have hcell : ∀ j, j < cap * 2 → (w.drew.cell? ⟨g, j, none⟩).isSome = true ∧ w.drew.frozen? ⟨g, j, none⟩ = false := fun j hj => by
    refine ⟨?_, frozen_of_heap (w := w.drew) hg⟩
    rw [cell_of_heap (w := w.drew) hg, Array.getElem?_eq_getElem (by rw [hsz]; exact hj)]; rfl
  have S3 : Hid (∀ j, j < news.length → (w.drew.cell? ⟨g, 0 + i * 2 + j, none⟩).isSome = true ∧ w.drew.frozen? ⟨g, 0 + i * 2 + j, none⟩ = false) := Lib.hid (fun j hj => hcell _ (by omega))
  obtain ⟨A, hA, hsrc⟩ : ∃ A : Addr, (if cap = i + 1 then some (⟨g, 0, none⟩ : Addr) else some ⟨g, (i + 1) * 2, none⟩) = some A ∧ Hid (∀ t u, news[t]? = some u → w.drew.cell? (A.add t) = some u) := by
    by_cases h : cap = i + 1
    · refine ⟨⟨g, 0, none⟩, by simp [h], Lib.hid (fun t u hu => ?_)⟩
      have h0 : news.length = 0 := by rw [hnl]; omega
      rw [List.length_eq_zero_iff.1 h0] at hu
      simp at hu
    · refine ⟨⟨g, (i + 1) * 2, none⟩, by simp [h], Lib.hid (fun t u hu => ?_)⟩
      rw [hnews, List.getElem?_drop] at hu
      rw [Addr.add_lit]
      exact hXg _ u hu
  obtain ⟨W1, hW1⟩ : ∃ W1, W1 = w.drew.setCells g (0 + i * 2) news := ⟨_, rfl⟩
  obtain ⟨c1, hq1, hz1', hc1⟩ := heap_setCells news (0 + i * 2) w.drew _ hg (by rw [hnl, hsz]; omega)
  rw [← hW1] at hq1
  have hc1l : c1.size = cap * 2 := by rw [hz1', hsz]
  obtain ⟨W2, hW2⟩ : ∃ W2, W2 = W1.setCells g ((n - 1) * 2) [.string ⟨#[]⟩, .string ⟨#[]⟩] := ⟨_, rfl⟩
  obtain ⟨c2, hq2, hz2', hc2⟩ := heap_setCells [.string ⟨#[]⟩, .string ⟨#[]⟩] ((n - 1) * 2) W1 _ hq1 (by rw [hc1l]; show _ + 2 ≤ _; omega)
  rw [← hW2] at hq2
  have hcl : ∀ ty, (Builtin.clear_ #[40] ty #[.slice (some ⟨g, (n - 1) * 2, none⟩) 1 (cap - (n - 1))]).run Tryd.prog W1 = .ok (.tuple #[]) W2 := fun ty => by
    rw [hW2]
    exact run_clear_two W1 g ((n - 1) * 2) _ ty (fun j hj => by rw [cell_of_heap hq1, Array.getElem?_eq_getElem (by rw [hc1l]; omega)]; rfl) (fun j hj => frozen_of_heap hq1)
  have HF : Hid (DelPost C w (.slice (some ⟨g, 0, none⟩) n cap) xs i (.returned (.slice (some ⟨g, 0, none⟩) (n - 1) cap)) W2) := Lib.hid (by
    refine ⟨_, rfl, ⟨by rw [xcells_length, delX_len xs hi], .inr ⟨g, cap, c2, by rw [hn], hCg, hq2, by omega, hcm, by rw [hz2', hc1l], ?_⟩⟩, ?_, fun b hb => hb⟩
    · have hXt : cur.toList.take (0 + i * 2) = X.take (i * 2) := by rw [hX, ← hcur, List.take_take, Nat.zero_add]; congr 1; omega
      have e1 : c1.toList.take ((n - 1) * 2) = X.take (i * 2) ++ news := by
        rw [hc1, hXt, List.take_left' (by rw [List.length_append, hnl, List.length_take, hXl]; omega)]
      rw [delX_cells xs hi, ← hX, ← hnews, ← hn, hc2, List.append_assoc, List.take_append_of_le_length (by rw [List.length_take, Array.length_toList, hc1l]; omega), List.take_take, Nat.min_self, e1]
    · rw [hW2, hW1]
      exact (((Turn.refl _ w).drew).trans (turn_setCells _ _ _ _) (fun y hy => .inl (by simpa [ob, Value.ownBlock] using hy))).trans (turn_setCells _ _ _ _) (fun y hy => .inl (by simpa [ob, Value.ownBlock] using hy)))
  have HW1 := Lib.hid hW1
  have mixed : Tryd.prog.follows .mixedOrders = true := by kernel_rfl
  have hik : (i : Int) ≠ (i : Int) + 1 := by omega
  have htn : ((i : Int) + 1).toNat = i + 1 := by omega
  have hin : i + 1 ≤ n := by omega
  have hb1 : (0 : Int) ≤ (i : Int) + 1 := by omega
  have hb3 : (i : Int) + 1 ≤ (n : Int) := by omega
  have hii : i ≤ cap := by omega
  have hij : i + 1 ≤ cap := by omega
  have hcn : n ≤ cap := by omega
  unfold maxLen at hcm
  have hk : i + (n - (i + 1)) = n - 1 := by omega
  have hk1 : n - (n - 1) = 1 := by omega
  have hcl1 : ∀ ty, (Builtin.clear_ #[40] ty #[.slice (some ⟨g, (i + (n - (i + 1))) * 2, none⟩) (n - (i + (n - (i + 1)))) (cap - (i + (n - (i + 1))))]).run Tryd.prog W1 = .ok (.tuple #[]) W2 := fun ty => by rw [hk, hk1]; exact hcl ty
  have HF2 : Hid (DelPost C w (.slice (some ⟨g, 0, none⟩) n cap) xs i (.returned (.slice (some ⟨g, 0, none⟩) (i + (n - (i + 1))) cap)) W2) := Lib.hid (by rw [hk]; exact HF.out)
  rw [← hn] at hl ⊢
  clear HF hk hk1 hX hg hq1 hq2 hc1 hc2 hz1' hz2' hW1 hW2 hcur hXg hnl hnews hcell hXl hcl hsz hn hi hnc hc1l
  go_enter Tryd.func38, Tryd.ntmps38
  go_wp2_with fail
  go_region_law_o (refine step_append_room rfl (.tmp 22) (.tmp 25) 40 rfl 78 i0 2 Tryd.underlying40 hi0 hz1 g 0 i cap (by simp [Act.eval, Act.put]) A (n - (i + 1)) (cap - (i + 1)) news (by simp [Act.eval, Act.put]) S1.out hsrc.out S2.out (by omega) S3.out ?_; rw [← HW1.out])
  go_wp2
  go_ret
  exact HF2.out
end Go.Proofs.YtkdkifciajfpnaaDoor.Sr
