import Derived.Test.YtkdkifciajfpnaaDoorZPSrSeat
import Derived.Test.YtkdkifciajfpnaaDoorZPSrRowN
import Derived.Lib.Overlaps
import Derived.Lib.AppendZerosOnto
import Derived.Laws.Externs
import Derived.Laws.CopyRow
set_option linter.unusedSimpArgs false
set_option linter.unusedVariables false
/-
  The contract of slices.Insert of one at extended attributes: a row of one's own.
-/
namespace Go.Proofs.YtkdkifciajfpnaaDoor.Sr
open Go.RowKit Go.Maps Go.WideMaps Go.Proofs.YtkdkifciajfpnaaDoor.Rf Go.Proofs.YtkdkifciajfpnaaDoor.Nm Go.Proofs.YtkdkifciajfpnaaDoor.St

section
variable {P : Program}
theorem run_copy_wide (w : World) (dT sT ty elem : TypeId) (k g o dLen dCap : Nat) (a : Addr) (sLen sCap : Nat) (cur : Array Value) (t : TypeId) (cs : List Value)
    (hu : P.underlying dT = some (.slice elem)) (hs : (P.info? elem).map (·.size) = some k)
    (hg : w.heap[g]? = some (.cells cur t (0, 0))) (hn : cs.length = Nat.min sLen dLen * k)
    (hsrc : ∀ j v, cs[j]? = some v → w.cell? (a.add j) = some v) (hfit : o + cs.length ≤ cur.size) (h1 : ∀ v ∈ cs, v.oneCell' = true) :
    (Builtin.copy_ #[dT, sT] ty #[.slice (some ⟨g, o, none⟩) dLen dCap, .slice (some a) sLen sCap]).run P w =
      .ok (goInt (Nat.min sLen dLen)) (w.setRow g (cur.toList.take o ++ cs ++ cur.toList.drop (o + cs.length)).toArray) := by
  have hl := run_loadCells_list (P := P) w a cs hsrc
  have hst := run_storeCells_at P g o t cs 0 cur w hg (by simpa using hfit) h1
  cases hq : P.info? elem with
  | none => simp [hq] at hs
  | some i =>
    have hi : i.size = k := by simpa [hq] using hs
    simp [Builtin.copy_, run_underlying hu, Builtin.lenOf, Builtin.firstCells, sizeOf, typeInfo, hq, hi, ← hn, hl, hst]
end
theorem turn_setRow {X : List Nat} {a b : World} (h : Turn X a b) {g : Nat} (hg : g ∈ X ∨ a.heap.size ≤ g) (cs : Array Value) : Turn X a (b.setRow g cs) :=
  ⟨h.os, h.tape, h.output, by rw [setRow_size]; exact h.size, fun k hk hx => by
    rw [setRow_other b g k cs (fun e => by subst e; rcases hg with hg | hg; exact hx hg; omega)]; exact h.block k hk hx⟩
theorem xcells_app (a b : Xs) : xcells (a ++ b) = xcells a ++ xcells b := by rw [xcells, List.flatMap_append]; rfl
theorem xcells_take (xs : Xs) {i : Nat} (hi : i ≤ xs.length) : xcells (xs.take i) = (xcells xs).take (i * 2) := by
  have h := xcells_app (xs.take i) (xs.drop i)
  rw [List.take_append_drop] at h
  rw [h, List.take_left' (by rw [xcells_length, List.length_take]; omega)]
theorem xcells_drop (xs : Xs) {i : Nat} (hi : i ≤ xs.length) : xcells (xs.drop i) = (xcells xs).drop (i * 2) := by
  have h := xcells_app (xs.take i) (xs.drop i)
  rw [List.take_append_drop] at h
  rw [h, List.drop_left' (by rw [xcells_length, List.length_take]; omega)]
/-- A row with one more. -/
def insX (xs : Xs) (i : Nat) (x : List UInt8 × List UInt8) : Xs := xs.take i ++ x :: xs.drop i
theorem insX_len (xs : Xs) {i : Nat} (hi : i ≤ xs.length) (x : List UInt8 × List UInt8) : (insX xs i x).length = xs.length + 1 := by
  rw [insX, List.length_append, List.length_cons, List.length_take, List.length_drop]; omega
def xpair (x : List UInt8 × List UInt8) : List Value := [.string ⟨x.1.toArray⟩, .string ⟨x.2.toArray⟩]
theorem insX_cells (xs : Xs) {i : Nat} (hi : i ≤ xs.length) (x : List UInt8 × List UInt8) : xcells (insX xs i x) = (xcells xs).take (i * 2) ++ (xpair x ++ (xcells xs).drop (i * 2)) := by
  rw [insX, xcells_app, xcells_take xs hi, ← xcells_drop xs hi]; rfl
section
variable {L X : List Value} {i n : Nat} {p : List Value}
/-- In place: what stood behind goes one on, then the new one is laid. -/
theorem shift_cells (hX : L.take (n * 2) = X) (hi : i < n) (hp : p.length = 2) (hL : (n + 1) * 2 ≤ L.length) {c1 c2 : List Value}
    (h1 : c1 = L.take ((i + 1) * 2) ++ X.drop (i * 2) ++ L.drop ((i + 1) * 2 + (X.drop (i * 2)).length)) (h2 : c2 = c1.take (i * 2) ++ p ++ c1.drop (i * 2 + p.length)) :
    c2.take ((n + 1) * 2) = X.take (i * 2) ++ (p ++ X.drop (i * 2)) ∧ c2.length = L.length ∧ c1.length = L.length := by
  have hXl : X.length = n * 2 := by rw [← hX, List.length_take]; omega
  have hdl : (X.drop (i * 2)).length = n * 2 - i * 2 := by rw [List.length_drop, hXl]
  have l1 : c1.length = L.length := by
    rw [h1, List.length_append, List.length_append, List.length_take, hdl, List.length_drop]; omega
  have t1 : c1.take (i * 2) = X.take (i * 2) := by
    rw [h1, List.append_assoc, List.take_append_of_le_length (by rw [List.length_take]; omega), List.take_take, ← hX, List.take_take]
    congr 1; omega
  have d1 : c1.drop (i * 2 + p.length) = X.drop (i * 2) ++ L.drop ((i + 1) * 2 + (X.drop (i * 2)).length) := by
    rw [h1, List.append_assoc, List.drop_left' (by rw [List.length_take]; omega)]
  refine ⟨?_, ?_, l1⟩
  · rw [h2, t1, d1]
    have : X.take (i * 2) ++ p ++ (X.drop (i * 2) ++ L.drop ((i + 1) * 2 + (X.drop (i * 2)).length)) = (X.take (i * 2) ++ (p ++ X.drop (i * 2))) ++ L.drop ((i + 1) * 2 + (X.drop (i * 2)).length) := by simp
    rw [this, List.take_left']
    simp only [List.length_append, List.length_take, hdl, hXl, hp]; omega
  · rw [h2, t1, d1]
    simp only [List.length_append, List.length_take, hdl, hXl, hp, List.length_drop]; omega
/-- In a new row. -/
theorem grow_cells (hX : X.length = n * 2) (hi : i < n) (hp : p.length = 2) {Z c1 c2 : List Value} (hZ : Z.take (i * 2) = X.take (i * 2)) (hL : (n + 1) * 2 ≤ Z.length)
    (h1 : c1 = Z.take (i * 2) ++ p ++ Z.drop (i * 2 + p.length)) (h2 : c2 = c1.take ((i + 1) * 2) ++ X.drop (i * 2) ++ c1.drop ((i + 1) * 2 + (X.drop (i * 2)).length)) :
    c2.take ((n + 1) * 2) = X.take (i * 2) ++ (p ++ X.drop (i * 2)) ∧ c2.length = Z.length ∧ c1.length = Z.length := by
  have hdl : (X.drop (i * 2)).length = n * 2 - i * 2 := by rw [List.length_drop, hX]
  have htl : (X.take (i * 2)).length = i * 2 := by rw [List.length_take]; omega
  have l1 : c1.length = Z.length := by
    rw [h1, List.length_append, List.length_append, List.length_take, hp, List.length_drop]; omega
  have t1 : c1.take ((i + 1) * 2) = X.take (i * 2) ++ p := by
    rw [h1, hZ, List.take_left' (by rw [List.length_append, htl, hp]; omega)]
  refine ⟨?_, ?_, l1⟩
  · rw [h2, t1]
    have e : X.take (i * 2) ++ p ++ X.drop (i * 2) ++ c1.drop ((i + 1) * 2 + (X.drop (i * 2)).length) = (X.take (i * 2) ++ (p ++ X.drop (i * 2))) ++ c1.drop ((i + 1) * 2 + (X.drop (i * 2)).length) := by simp
    rw [e, List.take_left' (by simp only [List.length_append, htl, hdl, hp]; omega)]
  · rw [h2, t1]
    simp only [List.length_append, htl, hdl, hp, List.length_drop, l1]; omega
end
def InsPost (C : Nat) (w : World) (v : Value) (xs : Xs) (i : Nat) (x : List UInt8 × List UInt8) (e : Ending) (w' : World) : Prop :=
  ∃ v', e = .returned v' ∧ w'.ownsRow C 78 2 v' (xs.length + 1) (xcells (insX xs i x)) ∧ Turn (ob v) w w' ∧ (∀ b ∈ ob v', b ∈ ob v ∨ w.heap.size ≤ b)
theorem xpair_one (x : List UInt8 × List UInt8) : ∀ u ∈ xpair x, u.oneCell' = true := by
  intro u hu
  simp [xpair] at hu
  rcases hu with rfl | rfl <;> rfl
theorem sizeXa (w : World) : (Go.sizeOf 78).run Tryd.prog w = .ok 2 w := by kernel_rfl
theorem infoXa2 : (Tryd.prog.info? 78).map (·.size) = some 2 := by kernel_rfl
set_option linter.unusedSimpArgs false in
set_option maxHeartbeats 8000000 in
set_option maxRecDepth 100000 in
theorem xins_end (C : Nat) (w : World) (v : Value) (xs : Xs) (x : List UInt8 × List UInt8) (hl : xs.length ≤ 1000) (hrow : w.ownsRow C 78 2 v xs.length (xcells xs)) (vb : Nat) (hvb : w.heap[vb]? = some (.cells (xpair x).toArray 78)) (hC : C ≤ w.heap.size) :
    Calls Tryd.prog 37 #[v, .int .i64 (xs.length : Int), .slice (some ⟨vb, 0, none⟩) 1 1] w (InsPost C w v xs xs.length x) := by
  obtain ⟨i0, hi0, hz0, hz1, hz2⟩ := info_parts infoXa
  have hz3 : (Value.agg #[.string ⟨#[]⟩, .string ⟨#[]⟩]).cells.size = 2 := by kernel_rfl
  have HXC := Lib.hid (insX_cells xs (Nat.le_refl _) x)
  have HXL := Lib.hid (xcells_length xs)
  have HR := Lib.hid hrow
  have HVB : Hid (∀ (j : Nat) u, (xpair x)[j]? = some u → w.cell? ((⟨vb, 0, none⟩ : Addr).add j) = some u) := Lib.hid (fun j u hj => by
    rw [Addr.add_lit, Nat.zero_add, cell_of_heap hvb]; simpa using hj)
  have HOB : Hid (∀ b ∈ ob v, b < w.heap.size) := Lib.hid (rowS_lt hrow)
  have KEY : Hid (∀ v' w1, w1.ownsRow C 78 2 v' (xs.length + 1) (xcells xs ++ xpair x) → w.grownBy w1 v.ownBlock → (v'.ownBlock = v.ownBlock ∨ v'.ownBlock = some w.heap.size) → InsPost C w v xs xs.length x (.returned v') w1) := Lib.hid (fun v' w1 ho hg hob => by
    refine ⟨v', rfl, ?_, ⟨hg.os, hg.tape, hg.output, hg.size, fun k hk hx => hg.block k hk (fun e => hx (by unfold ob; rw [← e]; simp))⟩, fun b hb => ?_⟩
    · rw [HXC.out, List.take_of_length_le (by rw [HXL.out]; omega), List.drop_of_length_le (by rw [HXL.out]; omega), List.append_nil]
      exact ho
    · unfold ob at hb ⊢
      rcases hob with h | h
      · rw [h] at hb; exact .inl hb
      · rw [h] at hb; right; have : b = w.heap.size := by simpa using hb
        omega)
  clear hvb hrow
  obtain ⟨va, vc, rfl⟩ := rowS_slice HR.out
  have HR2 := HR.out
  obtain ⟨_, hcase⟩ := HR2
  rcases hcase with ⟨hv, h0⟩ | ⟨g, cap, cur, hv, _, _, hnc, hcm, _, _⟩
  · injection hv with e1 e2 e3
    subst e1 e3
    rw [h0] at HR KEY ⊢
    clear e2
    go_enter Tryd.func37, Tryd.ntmps37
    go_wp2_with (at_builtin; refine wpList_append_own_at _ rfl _ _ 40 rfl C 78 i0 _ 2 32 Tryd.underlying40 hi0 hz0 hz1 hz2 hz3 (by decide) _ _ _ rfl HR.out ⟨vb, 0, none⟩ 1 1 (xpair x) rfl rfl HVB.out (xpair_one x) (by unfold maxLen; omega) (by omega) hC ?_)
    intro v' w1 hown hgrow hnil hat
    have HF := Lib.hid (KEY.out v' w1 hown hgrow hat)
    clear hown hgrow hnil hat
    go_wp2
    go_ret
    exact HF.out
  · injection hv with e1 e2 e3
    subst e1 e3
    clear e2
    by_cases hcn : vc = xs.length
    all_goals
      go_enter Tryd.func37, Tryd.ntmps37
      go_wp2_with (at_builtin; refine wpList_append_own_at _ rfl _ _ 40 rfl C 78 i0 _ 2 32 Tryd.underlying40 hi0 hz0 hz1 hz2 hz3 (by decide) _ _ _ rfl HR.out ⟨vb, 0, none⟩ 1 1 (xpair x) rfl rfl HVB.out (xpair_one x) (by unfold maxLen; omega) (by omega) hC ?_)
      intro v' w1 hown hgrow hnil hat
      have HF := Lib.hid (KEY.out v' w1 hown hgrow hat)
      clear hown hgrow hnil hat
      go_wp2
      go_ret
      exact HF.out
set_option linter.unusedSimpArgs false in
set_option maxHeartbeats 8000000 in
set_option maxRecDepth 100000 in
theorem xins_shift (C : Nat) (w : World) (g cap : Nat) (cur : Array Value) (xs : Xs) (i : Nat) (hi : i < xs.length) (x : List UInt8 × List UInt8) (hl : xs.length ≤ 1000) (hCg : C ≤ g) (hg : w.heap[g]? = some (.cells cur 78 (0, 0))) (hroom : xs.length + 1 ≤ cap) (hcm : cap ≤ maxLen) (hsz : cur.size = cap * 2) (hcur : cur.toList.take (xs.length * 2) = xcells xs)
    (vb : Nat) (hvb : w.heap[vb]? = some (.cells (xpair x).toArray 78)) (hne : vb ≠ g) :
    Calls Tryd.prog 37 #[.slice (some ⟨g, 0, none⟩) xs.length cap, .int .i64 (i : Int), .slice (some ⟨vb, 0, none⟩) 1 1] w (InsPost C w (.slice (some ⟨g, 0, none⟩) xs.length cap) xs i x) := by
  obtain ⟨n, hn⟩ : ∃ n, n = xs.length := ⟨_, rfl⟩
  obtain ⟨X, hX⟩ : ∃ X, X = xcells xs := ⟨_, rfl⟩
  have HXl : Hid (X.length = n * 2) := Lib.hid (by rw [hX, hn]; exact xcells_length xs)
  have HXone : Hid (∀ u ∈ X, u.oneCell' = true) := Lib.hid (by rw [hX]; exact xcells_one xs)
  obtain ⟨c1, hc1⟩ : ∃ c1, c1 = cur.toList.take ((i + 1) * 2) ++ X.drop (i * 2) ++ cur.toList.drop ((i + 1) * 2 + (X.drop (i * 2)).length) := ⟨_, rfl⟩
  obtain ⟨c2, hc2⟩ : ∃ c2, c2 = c1.take (i * 2) ++ xpair x ++ c1.drop (i * 2 + (xpair x).length) := ⟨_, rfl⟩
  have hi' : i < n := by omega
  obtain ⟨hs1, hs2, hs3⟩ := shift_cells (L := cur.toList) (X := X) (i := i) (n := n) (p := xpair x) (by rw [hn, hX]; exact hcur) hi' rfl (by rw [Array.length_toList, hsz]; omega) hc1 hc2
  have hdl : (X.drop (i * 2)).length = (n - i) * 2 := by rw [List.length_drop, HXl.out]; omega
  obtain ⟨W1, hW1⟩ : ∃ W1, W1 = w.drew.setRow g c1.toArray := ⟨_, rfl⟩
  obtain ⟨W2, hW2⟩ : ∃ W2, W2 = W1.setRow g c2.toArray := ⟨_, rfl⟩
  have hg1 : W1.heap[g]? = some (.cells c1.toArray 78 (0, 0)) := by rw [hW1]; exact setRow_heap w.drew g cur _ _ _ hg
  have hg2 : W2.heap[g]? = some (.cells c2.toArray 78 (0, 0)) := by rw [hW2]; exact setRow_heap W1 g _ _ _ _ hg1
  have HCP1 : Hid (∀ ty dc sc, (Builtin.copy_ #[40, 40] ty #[.slice (some ⟨g, (i + 1) * 2, none⟩) (n - i) dc, .slice (some ⟨g, i * 2, none⟩) (n + 1 - i) sc]).run Tryd.prog w.drew = .ok (goInt ((n - i : Nat) : Int)) W1) := Lib.hid (fun ty dc sc => by
    have h := run_copy_wide (P := Tryd.prog) w.drew 40 40 ty 78 2 g ((i + 1) * 2) (n - i) dc ⟨g, i * 2, none⟩ (n + 1 - i) sc cur _ (X.drop (i * 2)) Tryd.underlying40 infoXa2 hg
      (by rw [hdl]; congr 1; simp only [Nat.min_def]; split <;> omega)
      (fun j u hj => by
        rw [Addr.add_lit]
        rw [List.getElem?_drop, hX, ← hcur, List.getElem?_take] at hj
        split at hj
        · rw [cell_of_heap (w := w.drew) hg, ← Array.getElem?_toList]; exact hj
        · cases hj)
      (by rw [hdl, hsz]; omega) (fun u hu => HXone.out u (List.mem_of_mem_drop hu))
    rw [h, hW1, hc1]
    congr 2
    simp only [Nat.min_def]; split <;> omega)
  have HCP2 : Hid (∀ ty dc, (Builtin.copy_ #[40, 40] ty #[.slice (some ⟨g, i * 2, none⟩) (n + 1 - i) dc, .slice (some ⟨vb, 0, none⟩) 1 1]).run Tryd.prog W1 = .ok (goInt 1) W2) := Lib.hid (fun ty dc => by
    have hm : Nat.min 1 (n + 1 - i) = 1 := by simp only [Nat.min_def]; split <;> omega
    have h := run_copy_wide (P := Tryd.prog) W1 40 40 ty 78 2 g (i * 2) (n + 1 - i) dc ⟨vb, 0, none⟩ 1 1 c1.toArray _ (xpair x) Tryd.underlying40 infoXa2 hg1
      (by rw [hm]; rfl)
      (fun j u hj => by
        rw [Addr.add_lit, Nat.zero_add, hW1, cell_setRow_other _ _ _ _ (by exact hne), cell_of_heap (w := w.drew) hvb]; simpa using hj)
      (by simp only [List.size_toArray, hs3, Array.length_toList, hsz]; show _ + 2 ≤ _; omega) (xpair_one x)
    rw [h, hW2, hc2, hm]
    rfl)
  have hov : ∀ lb cb, (callFunc 46 #[.slice (some ⟨vb, 0, none⟩) 1 1, .slice (some ⟨g, (i + 1) * 2, none⟩) lb cb]).run Tryd.prog w = .ok (.value (.bool false)) w := fun lb cb => by
    rw [run_callFunc_extern Tryd.func46 (by kernel_rfl) (by kernel_rfl) (by kernel_rfl) (e := Extern.SlicesOverlaps.overlaps #[40, 40] #[4]) (by kernel_rfl),
      Lib.run_overlaps_apart w 40 4 78 Tryd.underlying40 2 sizeXa ⟨vb, 0, none⟩ ⟨g, (i + 1) * 2, none⟩ 1 1 lb cb hne 78 78 2 (cap * 2) (by simp [World.shape?, hvb, xpair]) (by simp [World.shape?, hg, hsz]) (by omega) (frozen_of_heap hvb) (frozen_of_heap hvb)]
    rfl
  have HF : Hid (InsPost C w (.slice (some ⟨g, 0, none⟩) n cap) xs i x (.returned (.slice (some ⟨g, 0, none⟩) (n + 1) cap)) W2) := Lib.hid (by
    refine ⟨_, rfl, ⟨by rw [xcells_length, insX_len xs (by omega)], .inr ⟨g, cap, c2.toArray, by rw [hn], hCg, hg2, by omega, hcm, by simp [hs2, hsz], ?_⟩⟩, ?_, fun b hb => .inl hb⟩
    · rw [insX_cells xs (by omega), ← hX, ← hn]; exact hs1
    · rw [hW2, hW1]
      exact turn_setRow (turn_setRow ((Turn.refl _ w).drew) (.inl (by simp [ob, Value.ownBlock])) _) (.inl (by simp [ob, Value.ownBlock])) _)
  have mixed : Tryd.prog.follows .mixedOrders = true := by kernel_rfl
  have hw1 : IntKind.i64.wrap ((i : Int) + 1) = (i : Int) + 1 := by rw [IntKind.wrap_i64]; omega
  have hb1 : (0 : Int) ≤ (i : Int) + 1 := by omega
  have hin : i ≤ n := by omega
  have htn : ((i : Int) + 1).toNat = i + 1 := by omega
  have hb2 : ¬ (cap = i + 1) := by omega
  have hb3 : (i : Int) ≤ (n : Int) + 1 := by omega
  have hb4 : ¬ (cap = i) := by omega
  have hz2 : ¬ ((i : Int) = (n : Int)) := by omega
  unfold maxLen at hcm
  rw [← hn] at hl hroom ⊢
  clear hX hc1 hc2 hs1 hs2 hs3 hdl hW1 hW2 hg1 hg2 hg hvb hcur hsz hn hi
  go_enter Tryd.func37, Tryd.ntmps37
  go_wp2_with (simp only [hov])
  have hcx := HCP1.out 3 (cap - (i + 1)) (cap - i)
  go_region
  clear hcx
  have hcy := HCP2.out 3 (cap - i)
  go_wp2
  clear hcy
  go_ret
  exact HF.out
theorem zeros_size (k : Nat) : (Builtin.zeroCells (Value.agg #[.string ⟨#[]⟩, .string ⟨#[]⟩]).cells k).size = k * 2 := by
  simp [Builtin.zeroCells, Value.cells]
set_option linter.unusedSimpArgs false in
set_option maxHeartbeats 8000000 in
set_option maxRecDepth 100000 in
theorem xins_grow (C : Nat) (w : World) (g cap : Nat) (cur : Array Value) (xs : Xs) (i : Nat) (hi : i < xs.length) (x : List UInt8 × List UInt8) (hl : xs.length ≤ 1000) (hg : w.heap[g]? = some (.cells cur 78 (0, 0))) (hnc : xs.length ≤ cap) (hroom : cap < xs.length + 1) (hcur : cur.toList.take (xs.length * 2) = xcells xs)
    (vb : Nat) (hvb : w.heap[vb]? = some (.cells (xpair x).toArray 78)) (hC : C ≤ w.heap.size) :
    Calls Tryd.prog 37 #[.slice (some ⟨g, 0, none⟩) xs.length cap, .int .i64 (i : Int), .slice (some ⟨vb, 0, none⟩) 1 1] w (InsPost C w (.slice (some ⟨g, 0, none⟩) xs.length cap) xs i x) := by
  obtain ⟨i0, hi0, hz0, hz1, hz2⟩ := info_parts infoXa
  obtain ⟨n, hn⟩ : ∃ n, n = xs.length := ⟨_, rfl⟩
  obtain ⟨X, hX⟩ : ∃ X, X = xcells xs := ⟨_, rfl⟩
  obtain rfl : cap = n := by omega
  have hXl : X.length = cap * 2 := by rw [hX, hn]; exact xcells_length xs
  have HXone : Hid (∀ u ∈ X, u.oneCell' = true) := Lib.hid (by rw [hX]; exact xcells_one xs)
  have hi' : i < cap := by omega
  have hXg : ∀ j u, X[j]? = some u → w.cell? ⟨g, j, none⟩ = some u := fun j u hj => by
    rw [hX, ← hcur, List.getElem?_take] at hj
    split at hj
    · rw [cell_of_heap hg, ← Array.getElem?_toList]; exact hj
    · cases hj
  have hold : (Builtin.firstCells i0.size i (.slice (some ⟨g, 0, none⟩) i cap)).run Tryd.prog w.drew = .ok (X.take (i * 2)).toArray w.drew := by
    rw [hz1]
    exact run_firstCells_some w.drew 2 i ⟨g, 0, none⟩ i cap (X.take (i * 2)) (by rw [List.length_take]; omega) (fun j u hj => by
      rw [Addr.add_lit, Nat.zero_add]
      rw [List.getElem?_take] at hj
      split at hj
      · exact hXg j u hj
      · cases hj)
  obtain ⟨h, hh⟩ : ∃ h, h = w.heap.size := ⟨_, rfl⟩
  obtain ⟨G, hG⟩ : ∃ G, G = grownCap w (cap + 1) cap 78 := ⟨_, rfl⟩
  have hGn : cap + 1 ≤ G := by rw [hG]; exact grownCap_ge w _ _ _
  have hGm : G ≤ maxLen := by rw [hG]; exact grownCap_le_maxLen w _ _ _ (by unfold maxLen; omega)
  obtain ⟨Z, hZ⟩ : ∃ Z : Array Value, Z = (X.take (i * 2)).toArray ++ Builtin.zeroCells (Value.agg #[.string ⟨#[]⟩, .string ⟨#[]⟩]).cells (cap + 1 - i) ++ Builtin.zeroCells (Value.agg #[.string ⟨#[]⟩, .string ⟨#[]⟩]).cells (G - (cap + 1)) := ⟨_, rfl⟩
  have hZl : Z.size = G * 2 := by
    rw [hZ, Array.size_append, Array.size_append, zeros_size, zeros_size, List.size_toArray, List.length_take]; omega
  have hZt : Z.toList.take (i * 2) = X.take (i * 2) := by
    rw [hZ, Array.toList_append, Array.toList_append, List.append_assoc, List.take_left' (by simp; omega)]
  obtain ⟨W1, hW1⟩ : ∃ W1, W1 = w.drew.alloc (.cells Z 78) := ⟨_, rfl⟩
  have hrz : (Builtin.append_ #[40, 3] 40 #[.slice (some ⟨g, 0, none⟩) i cap, .int .i64 ((cap : Int) + 1 - (i : Int))]).run Tryd.prog w = .ok (.slice (some ⟨h, 0, none⟩) (cap + 1) G) W1 := by
    have hik : i + (cap + 1 - i) = cap + 1 := by omega
    have h := Lib.run_append_grow_zeros (P := Tryd.prog) w 40 3 40 78 i0 _ .i64 .i64 Tryd.underlying40 Tryd.underlying3 hi0 hz0 (some ⟨g, 0, none⟩) i cap (X.take (i * 2)) hold (cap + 1 - i) (by omega) (by omega) (by omega) (by omega) (by rw [hz2]; omega) (by rw [hz2, hik]; exact growslice_fits (by omega) (by omega))
    rw [hik, ← hG, ← hZ, ← hh, ← hW1, show ((cap + 1 - i : Nat) : Int) = (cap : Int) + 1 - (i : Int) by omega] at h
    exact h
  have hq1 : W1.heap[h]? = some (.cells Z 78 (0, 0)) := by rw [hW1, hh]; exact (MapKept.heap_alloc w.drew _).1
  have hgh : g < w.heap.size := lt_of_heap hg
  have hvh : vb < w.heap.size := lt_of_heap hvb
  have hb1 : Below w.heap.size w W1 := by rw [hW1]; exact (Below.refl _ w).drew.alloc (Nat.le_refl _) _
  obtain ⟨c1, hc1⟩ : ∃ c1, c1 = Z.toList.take (i * 2) ++ xpair x ++ Z.toList.drop (i * 2 + (xpair x).length) := ⟨_, rfl⟩
  obtain ⟨c2, hc2⟩ : ∃ c2, c2 = c1.take ((i + 1) * 2) ++ X.drop (i * 2) ++ c1.drop ((i + 1) * 2 + (X.drop (i * 2)).length) := ⟨_, rfl⟩
  obtain ⟨hs1, hs2, hs3⟩ := grow_cells (X := X) (Z := Z.toList) (i := i) (n := cap) (p := xpair x) hXl hi' rfl hZt (by rw [Array.length_toList, hZl]; omega) hc1 hc2
  have hdl : (X.drop (i * 2)).length = (cap - i) * 2 := by rw [List.length_drop, hXl]; omega
  obtain ⟨W2, hW2⟩ : ∃ W2, W2 = W1.setRow h c1.toArray := ⟨_, rfl⟩
  have hq2 : W2.heap[h]? = some (.cells c1.toArray 78 (0, 0)) := by rw [hW2]; exact setRow_heap W1 h _ _ _ _ hq1
  obtain ⟨W3, hW3⟩ : ∃ W3, W3 = W2.drew.setRow h c2.toArray := ⟨_, rfl⟩
  have hq3 : W3.heap[h]? = some (.cells c2.toArray 78 (0, 0)) := by rw [hW3]; exact setRow_heap W2.drew h _ _ _ _ hq2
  have hcp1 : (Builtin.copy_ #[40, 40] 3 #[.slice (some ⟨h, i * 2, none⟩) (cap + 1 - i) (G - i), .slice (some ⟨vb, 0, none⟩) 1 1]).run Tryd.prog W1 = .ok (goInt 1) W2 := by
    have hm : Nat.min 1 (cap + 1 - i) = 1 := by simp only [Nat.min_def]; split <;> omega
    have h := run_copy_wide (P := Tryd.prog) W1 40 40 3 78 2 h (i * 2) (cap + 1 - i) (G - i) ⟨vb, 0, none⟩ 1 1 Z _ (xpair x) Tryd.underlying40 infoXa2 hq1
      (by rw [hm]; rfl)
      (fun j u hj => by
        rw [Addr.add_lit, Nat.zero_add, cell_of_heap ((hb1.block vb hvh).trans hvb)]; simpa using hj)
      (by rw [hZl]; show _ + 2 ≤ _; omega) (xpair_one x)
    rw [h, hW2, hc1, hm]
    rfl
  have hcp2 : (Builtin.copy_ #[40, 40] 3 #[.slice (some ⟨h, (i + 1) * 2, none⟩) (cap - i) (G - (i + 1)), .slice (some ⟨g, i * 2, none⟩) (cap - i) (cap - i)]).run Tryd.prog W2.drew = .ok (goInt ((cap - i : Nat) : Int)) W3 := by
    have hne : g ≠ h := by omega
    have h := run_copy_wide (P := Tryd.prog) W2.drew 40 40 3 78 2 h ((i + 1) * 2) (cap - i) (G - (i + 1)) ⟨g, i * 2, none⟩ (cap - i) (cap - i) c1.toArray _ (X.drop (i * 2)) Tryd.underlying40 infoXa2 hq2
      (by rw [hdl]; congr 1; simp only [Nat.min_def]; split <;> omega)
      (fun j u hj => by
        rw [List.getElem?_drop] at hj
        have h2 := hXg _ u hj
        rw [Addr.add_lit]
        show W2.cell? _ = _
        rw [hW2, cell_setRow_other _ _ _ _ (by exact hne)]
        exact (hb1.cell (p := ⟨g, i * 2 + j, none⟩) hgh).trans h2)
      (by rw [hdl, List.size_toArray, hs3, Array.length_toList, hZl]; omega) (fun u hu => HXone.out u (List.mem_of_mem_drop hu))
    rw [h, hW3, hc2]
    congr 2
    simp only [Nat.min_def]; split <;> omega
  have HF : Hid (InsPost C w (.slice (some ⟨g, 0, none⟩) cap cap) xs i x (.returned (.slice (some ⟨h, 0, none⟩) (cap + 1) G)) W3) := Lib.hid (by
    refine ⟨_, rfl, ⟨by rw [xcells_length, insX_len xs (by omega)], .inr ⟨h, G, c2.toArray, by rw [hn], by omega, hq3, by omega, hGm, by simp [hs2, hZl], ?_⟩⟩, ?_, fun b hb => .inr ?_⟩
    · rw [insX_cells xs (by omega), ← hX, ← hn]; exact hs1
    · rw [hW3, hW2]
      exact turn_setRow ((turn_setRow (Turn.of_below hb1) (.inr (by omega)) _).drew) (.inr (by omega)) _
    · simp [ob, Value.ownBlock] at hb; omega)
  have hw1 : IntKind.i64.wrap ((i : Int) + 1) = (i : Int) + 1 := by rw [IntKind.wrap_i64]; omega
  have hb1 : (0 : Int) ≤ (i : Int) + 1 := by omega
  have htn : ((i : Int) + 1).toNat = i + 1 := by omega
  have hb2 : ¬ (G = i + 1) := by omega
  have hb3 : (i : Int) ≤ (cap : Int) := by omega
  have hb4 : ¬ (G = i) := by omega
  have hb5 : ¬ (cap = i) := by omega
  have hz3 : ¬ ((i : Int) = (cap : Int)) := by omega
  have mixed : Tryd.prog.follows .mixedOrders = true := by kernel_rfl
  unfold maxLen at hGm
  rw [← hn] at hl ⊢
  have HRZ := Lib.hid hrz
  clear hX hc1 hc2 hs1 hs2 hs3 hdl hW1 hW2 hW3 hq1 hq2 hq3 hg hvb hcur hn hi hold hZ hZl hZt hG hXg hXl hb1 hgh hvh hnc hroom hz0 hz1 hz2 hi0 hh hrz
  go_enter Tryd.func37, Tryd.ntmps37
  go_wp2_with (at_builtin; refine Lib.wpList_append_run _ rfl _ _ _ _ rfl _ _ rfl rfl _ _ HRZ.out ?_)
  go_region
  go_wp2
  go_ret
  exact HF.out
set_option maxRecDepth 100000 in
theorem xins_any (C : Nat) (w : World) (v : Value) (xs : Xs) (i : Nat) (hi : i ≤ xs.length) (x : List UInt8 × List UInt8) (hl : xs.length ≤ 1000) (hrow : w.ownsRow C 78 2 v xs.length (xcells xs)) (vb : Nat) (hvb : w.heap[vb]? = some (.cells (xpair x).toArray 78)) (hne : vb ∉ ob v) (hC : C ≤ w.heap.size) :
    Calls Tryd.prog 37 #[v, .int .i64 (i : Int), .slice (some ⟨vb, 0, none⟩) 1 1] w (InsPost C w v xs i x) := by
  by_cases h : i = xs.length
  · rw [h]; exact xins_end C w v xs x hl hrow vb hvb hC
  · obtain ⟨_, ⟨_, h0⟩ | ⟨g, cap, cur, rfl, h1, h2, h3, h4, h5, h6⟩⟩ := hrow
    · omega
    · have hng : vb ≠ g := by simpa [ob, Value.ownBlock] using hne
      by_cases hr : xs.length + 1 ≤ cap
      · exact xins_shift C w g cap cur xs i (by omega) x hl h1 h2 hr h4 h5 h6 vb hvb hng
      · exact xins_grow C w g cap cur xs i (by omega) x hl h2 h3 (by omega) h6 vb hvb hC
end Go.Proofs.YtkdkifciajfpnaaDoor.Sr
