import Derived.Test.YtkeegnhjemhblaaGreatDoorZPRbRowSet
import Derived.Test.YtkeegnhjemhblaaGreatDoorZPRbShelf
import Derived.Lib.Bytealg
import Derived.Laws.Externs
import Derived.Deep.RegionLaw
import Derived.Test.YtkeegnhjemhblaaGreatDoorZPRfBack
set_option linter.unusedSimpArgs false
set_option linter.unusedVariables false
/-
  The contract of slices.SortFunc at names, by the closure that bytes.Compare makes.
-/
set_option linter.unusedSimpArgs false
namespace Go.Proofs.YtkeegnhjemhblaaGreatDoor.Rb
open Go.RowKit Go.Maps Go.WideMaps Go.Proofs.YtkeegnhjemhblaaGreatDoor.Rf Go.Sort

/-- A name of 32 bytes. -/
def N32 : Type := { l : List UInt8 // l.length = 32 }
instance : Inhabited N32 := ⟨⟨List.replicate 32 0, by simp⟩⟩
def encN (x : N32) : List Value := Lib.byteCells x.1
def cmpN (x y : N32) : Int := Lib.compareBytes x.1 y.1
theorem cmp_lt : ∀ a b : List UInt8, decide (Lib.compareBytes a b < 0) = lt a b
  | [], [] => rfl
  | [], _ :: _ => rfl
  | _ :: _, [] => rfl
  | a :: r, b :: s => by
    have h2 : lt (a :: r) (b :: s) = (decide (a < b) || (a == b && lt r s)) := rfl
    rw [h2, ← cmp_lt r s, Lib.compareBytes]
    by_cases h : a < b
    · rw [if_pos h]; simp [h]
    · rw [if_neg h]
      by_cases k : b < a
      · rw [if_pos k]
        have : (a == b) = false := by simp; rintro rfl; exact h k
        simp [h, this]
      · have e : a = b := UInt8.le_antisymm (UInt8.not_lt.1 k) (UInt8.not_lt.1 h)
        rw [if_neg k]; subst e; simp [h]
theorem ltOf_cmp (x y : N32) : ltOf cmpN x y = lt x.1 y.1 := cmp_lt x.1 y.1
theorem swoN : SWO (ltOf cmpN) where
  irrefl x := by rw [ltOf_cmp]; exact lt_irr _
  trans x y z h k := by rw [ltOf_cmp] at *; exact lt_tr h k
  ntrans x y z h k := by rw [ltOf_cmp] at *; exact lt_le_tr k h
theorem load_bytes {P : Program} {w : World} {g : Nat} : ∀ (l : List UInt8) (o : Nat) (acc : ByteArray), w.rangeAt g o (Lib.byteCells l) →
    (Extern.Bytes.loadBytes ⟨g, o, none⟩ l.length acc).run P w = .ok ⟨acc.data ++ l.toArray⟩ w
  | [], o, acc, _ => by simp [Extern.Bytes.loadBytes]
  | b :: r, o, acc, h => by
    have h0 : w.cell? ⟨g, o, none⟩ = some (.int .u8 (b.toNat : Int)) := h 0 _ rfl
    have hr : w.rangeAt g (o + 1) (Lib.byteCells r) := fun j v hj => by
      have := h (j + 1) v hj
      rwa [show o + (j + 1) = o + 1 + j by omega] at this
    have ih := load_bytes (P := P) (w := w) (g := g) r (o + 1) (acc.push b) hr
    rw [List.length_cons, Extern.Bytes.loadBytes, Sem.run_bind, run_load, h0]
    simp only [Result.andThen, Addr.add_lit]
    rw [show ((b.toNat : Int)).toNat.toUInt8 = b by simp, ih]
    congr 2
    simp
theorem run_compare_rows {P : Program} (w : World) (g k ca cb : Nat) (a b : List UInt8) (ha : w.rangeAt g 0 (Lib.byteCells a)) (hb : w.rangeAt k 0 (Lib.byteCells b)) :
    (Extern.BytealgCompare.compare #[.slice (some ⟨g, 0, none⟩) a.length ca, .slice (some ⟨k, 0, none⟩) b.length cb]).run P w = .ok (.int .i64 (Lib.compareBytes a b)) w := by
  change Sem.run P (do pure (goInt (Extern.BytealgCompare.cmp (← Extern.Bytes.bytesOf (.slice (some ⟨g, 0, none⟩) a.length ca)) (← Extern.Bytes.bytesOf (.slice (some ⟨k, 0, none⟩) b.length cb))))) w = _
  simp only [Extern.Bytes.bytesOf, Sem.run_bind, Sem.run_pure]
  rw [load_bytes a 0 _ ha]
  simp only [Result.andThen]
  rw [load_bytes b 0 _ hb]
  simp only [Result.andThen]
  rw [Lib.cmp_eq]
  simp [goInt]
set_option maxHeartbeats 4000000 in
set_option maxRecDepth 100000 in
theorem compare_any (w : World) (g k : Nat) (a b : List UInt8) (ea : a.length = 32) (eb : b.length = 32) (ha : w.rangeAt g 0 (Lib.byteCells a)) (hb : w.rangeAt k 0 (Lib.byteCells b)) :
    Calls Tryz.prog 113 #[.slice (some ⟨g, 0, none⟩) 32 32, .slice (some ⟨k, 0, none⟩) 32 32] w fun e w' => e = .returned (.int .i64 (Lib.compareBytes a b)) ∧ w' = w := by
  have hr := run_compare_rows (P := Tryz.prog) w g k 32 32 a b ha hb
  rw [ea, eb] at hr
  clear ha hb
  go_enter Tryz.func113, Tryz.ntmps113
  go_wp2
  rw [run_callFunc_extern Tryz.func153 (by kernel_rfl) (by kernel_rfl) (by kernel_rfl) (e := Extern.BytealgCompare.compare) (by kernel_rfl), hr]
  simp only [Result.andThen]
  rw [Oper.upon_value]
  go_wp2
  go_ret
  exact ⟨rfl, rfl⟩
end Go.Proofs.YtkeegnhjemhblaaGreatDoor.Rb
/-
  The contract of slices.SortFunc at names. Printed by gensort.py.
-/
set_option linter.unusedSimpArgs false
namespace Go.Proofs.YtkeegnhjemhblaaGreatDoor.Rb
open Go.RowKit Go.Maps Go.WideMaps Go.Proofs.YtkeegnhjemhblaaGreatDoor.Rf Go.Sort

set_option maxHeartbeats 4000000 in
set_option maxRecDepth 100000 in
theorem closure_any (w : World) (x y : N32) : Calls Tryz.prog 112 #[.agg (encN x).toArray, .agg (encN y).toArray] w fun e w' => e = .returned (.int .i64 (cmpN x y)) ∧ ∃ q os', w' = grow (w.drewN q) os' := by
  obtain ⟨W, hW⟩ : ∃ W, W = (w.alloc (.cells (encN x).toArray IdT)).alloc (.cells (encN y).toArray IdT) := ⟨_, rfl⟩
  have hs1 : (w.alloc (.cells (encN x).toArray IdT)).heap.size = w.heap.size + 1 := one_size _ _
  have HS : Hid (∀ w', Below W.heap.size W w' → w'.rangeAt w.heap.size 0 (Lib.byteCells x.1) ∧ w'.rangeAt (w.heap.size + 1) 0 (Lib.byteCells y.1)) := Lib.hid (fun w' hb => by
    have hq1 : W.heap[w.heap.size]? = some (.cells (encN x).toArray IdT) := by
      rw [hW]
      exact (((Below.refl (w.alloc (.cells (encN x).toArray IdT)).heap.size _).alloc (Nat.le_refl _) _).block _ (by omega)).trans (MapKept.heap_alloc w _).1
    have hq2 : W.heap[w.heap.size + 1]? = some (.cells (encN y).toArray IdT) := by
      rw [hW, ← hs1]; exact (MapKept.heap_alloc _ _).1
    refine ⟨fun j v hj => ?_, fun j v hj => ?_⟩
    · rw [Nat.zero_add, cell_of_heap ((hb.block _ (lt_of_heap hq1)).trans hq1), List.getElem?_toArray]; exact hj
    · rw [Nat.zero_add, cell_of_heap ((hb.block _ (lt_of_heap hq2)).trans hq2), List.getElem?_toArray]; exact hj)
  have HG : Hid (∃ q os', W.drew = grow (w.drewN q) os') := Lib.hid ⟨1, _, by
    rw [hW, alloc_eq_grow, alloc_eq_grow, grow_grow]; rfl⟩
  have HW := Lib.hid hW
  clear hW
  go_enter Tryz.func112, Tryz.ntmps112
  go_upto_region 1 with (fail)
  rw [← HW.out]
  try rw [hs1]
  clear hs1
  refine wp_region_held_drew (S := (fun w' : World => w'.rangeAt w.heap.size 0 (Lib.byteCells x.1) ∧ w'.rangeAt (w.heap.size + 1) 0 (Lib.byteCells y.1))) (by kernel_rfl) (HS.out _ (Below.refl _ _).drew) (fun hHeld => ?_)
  refine wpAnyH_take (i := 0) (v := ?_) rfl (by kernel_rfl) (by kernel_rfl) (by kernel_rfl) (fun _ _ _ h => h) (Or.inl ⟨by rfl, ?q0⟩) hHeld ?_
  case q0 =>
    intro wS hSw
    go_simp
    try with_reducible rfl
  try simp only [Act.put, List.getElem_toArray, List.getElem_cons_zero, List.getElem_cons_succ, List.setIfInBounds_toArray, List.set_cons_zero, List.set_cons_succ]
  refine wpAnyH_take (i := 1) (v := ?_) rfl (by kernel_rfl) (by kernel_rfl) (by kernel_rfl) (fun _ _ _ h => h) (Or.inl ⟨by rfl, ?q1⟩) hHeld ?_
  case q1 =>
    intro wS hSw
    go_simp
    try with_reducible rfl
  try simp only [Act.put, List.getElem_toArray, List.getElem_cons_zero, List.getElem_cons_succ, List.setIfInBounds_toArray, List.set_cons_zero, List.set_cons_succ]
  refine wpAnyH_ready (rs := [2]) (by kernel_rfl) (by simp) ?_
  refine AllReadyH.cons rfl (fun K hK => ?_) AllReadyH.nil
  refine step_wp rfl ?_
  go_simp
  refine (compare_any _ w.heap.size (w.heap.size + 1) x.1 y.1 x.2 y.2 (HS.out _ (Below.refl _ _).drew).1 (HS.out _ (Below.refl _ _).drew).2).mono ?_
  rintro e wl ⟨rfl, rfl⟩
  refine hK.out _ _ (HS.out _ (Below.refl _ _).drew) (fun hHeld2 => ?_)
  clear hK K hHeld
  have hHeld := hHeld2
  clear hHeld2
  try simp only [Act.put, List.getElem_toArray, List.getElem_cons_zero, List.getElem_cons_succ, List.setIfInBounds_toArray, List.set_cons_zero, List.set_cons_succ]
  refine wpAnyH_take (i := 3) (v := ?_) rfl (by kernel_rfl) (by kernel_rfl) (by kernel_rfl) (fun _ _ _ h => h) (Or.inl ⟨by rfl, ?q3⟩) hHeld ?_
  case q3 =>
    intro wS hSw
    go_simp
    try with_reducible rfl
  try simp only [Act.put, List.getElem_toArray, List.getElem_cons_zero, List.getElem_cons_succ, List.setIfInBounds_toArray, List.set_cons_zero, List.set_cons_succ]
  refine wpAnyH_done (by kernel_rfl) ?_ _
  clear hHeld
  try simp only [Act.put, List.getElem_toArray, List.getElem_cons_zero, List.getElem_cons_succ, List.setIfInBounds_toArray, List.set_cons_zero, List.set_cons_succ]
  go_wp2
  go_ret
  exact ⟨rfl, HG.out⟩
theorem cmpLays (blk off size : Nat) (w : World) : CmpLays Tryz.prog 112 #[] encN 32 cmpN blk off size w :=
  fun _ _ _ _ x y => closure_any _ x y
theorem n32_list {R : Ids} (h : Is32 R) : ∃ D : List N32, D.map (fun x => x.1) = R := by
  induction R with
  | nil => exact ⟨[], rfl⟩
  | cons x r ih =>
    obtain ⟨D, hD⟩ := ih h.tail
    exact ⟨(⟨x, h.head⟩ : N32) :: D, by show x :: List.map (fun x : N32 => x.1) D = x :: r; rw [hD]⟩
theorem is32_map (D : List N32) : Is32 (D.map (fun x => x.1)) := fun x hx => by
  obtain ⟨y, _, rfl⟩ := List.mem_map.1 hx
  exact y.2
theorem flat_at (D : List N32) {t : Nat} (ht : t < D.length * 32) : (idsC (D.map (fun x => x.1)))[t]? = some (flatK encN 32 D.toArray)[t]! := by
  have hd : t / 32 < D.length := by omega
  have e1 : D.toArray[t / 32]! = D[t / 32] := by
    rw [getElem!_pos D.toArray (t / 32) (by simpa using hd), List.getElem_toArray]
  have hl : (encN D[t / 32]).length = 32 := by rw [encN, bytes_len]; exact D[t / 32].2
  rw [get_flatK encN 32 D.toArray t (by simpa using ht), e1]
  have h2 : t % 32 < (encN D[t / 32]).length := by rw [hl]; exact Nat.mod_lt _ (by decide)
  have := idsC_at (is32_map D) (i := t / 32) (x := D[t / 32].1) (by rw [List.getElem?_map, List.getElem?_eq_getElem hd]; rfl) (j := t % 32) (u := (encN D[t / 32])[t % 32]) (List.getElem?_eq_getElem h2)
  rw [show t / 32 * 32 + t % 32 = t by omega] at this
  rw [this, getElem!_pos (encN D[t / 32]) (t % 32) h2]
theorem sort_any (B : Nat) (w : World) (v : Value) (R : Ids) (hm : R.length ≤ 262144) (h32 : Is32 R) (h : w.ownsRow B IdT 32 v R.length (idsC R)) :
    Calls Tryz.prog 111 #[v, .func (.func 112) #[] #[]] w fun e w' => e = .returned (.tuple #[]) ∧ ∃ R', R'.Perm R ∧ Ris R' ∧ w'.ownsRow B IdT 32 v R'.length (idsC R') ∧ Turn (ob v) w w' := by
  obtain ⟨h1, ⟨rfl, h2⟩ | ⟨g, cap, cur, rfl, a1, a2, a3, a4, a5, a6⟩⟩ := h
  · obtain rfl : R = [] := List.eq_nil_of_length_eq_zero h2
    have hc := AnyF.slices_SortFunc_none Tryz.sortFL none 0 (.func (.func 112) #[] #[]) w
    refine Calls.mono (P := Tryz.prog) (f := 111) hc ?_
    rintro e w' ⟨rfl, rfl⟩
    exact ⟨rfl, [], List.Perm.refl _, List.Pairwise.nil, World.ownsRow_nil _ _ _ _, Turn.refl _ _⟩
  · obtain ⟨D, rfl⟩ := n32_list h32
    rw [List.length_map] at *
    have hgl := lt_of_heap a2
    have hcur : ∀ t, t < D.length * 32 → cur[t]? = some (flatK encN 32 D.toArray)[t]! := fun t ht => by
      rw [← flat_at D ht, ← a6, List.getElem?_take_of_lt ht, Array.getElem?_toList]
    have hH : HoldsK encN 32 w g 0 D.toArray := fun j hj => by
      rw [size_flatK] at hj
      refine ⟨?_, frozen_of_heap a2⟩
      rw [Nat.zero_add, cell_of_heap a2, hcur j (by simpa using hj)]; rfl
    have eg : ∀ args w, (callFunc 112 args).run Tryz.prog w = .ok (.enter 112 args) w := enters_of Tryz.func112 (by kernel_rfl) rfl
    have hc := AnyQ.slices_SortFunc Tryz.sortFL 32 (fun w => by kernel_rfl) (fun w => by kernel_rfl) encN (fun x => by rw [encN, bytes_len]; exact x.2) (fun x => bytes_one x.1) cmpN swoN 112 #[] g 0 cap D.toArray w eg (cmpLays _ _ _ _) hH hgl (by rw [List.size_toArray]; omega)
    rw [List.size_toArray] at hc
    refine Calls.mono (P := Tryz.prog) (f := 111) hc ?_
    rintro e w' ⟨rfl, d', n, os, hp, hso, rfl⟩
    obtain ⟨hps, _, hpp⟩ := hp
    rw [List.size_toArray] at hps
    obtain ⟨D', rfl⟩ : ∃ D' : List N32, d' = D'.toArray := ⟨d'.toList, by simp⟩
    have hps : D'.length = D.length := by simpa using hps
    have hpm : D'.Perm D := by
      have e1 : (D'.toArray.extract 0 D.length).toList = D' := by rw [← hps]; simp
      have e2 : (D.toArray.extract 0 D.length).toList = D := by simp
      rwa [e1, e2] at hpp
    have hblk : (sortWorldK encN 32 w g 0 n D'.toArray os).heap[g]? = some (.cells (putCells id 0 (flatK encN 32 D'.toArray) cur) IdT) := by
      show ((w.heap.modify g (onCells (putCells id 0 (flatK encN 32 D'.toArray)))) ++ os)[g]? = _
      rw [Array.getElem?_append_left (by simpa using hgl), Array.getElem?_modify, if_pos rfl, a2]; rfl
    refine ⟨rfl, D'.map (fun x => x.1), hpm.map _, ?_, ⟨?_, .inr ⟨g, cap, putCells id 0 (flatK encN 32 D'.toArray) cur, ?_, a1, hblk, by rw [List.length_map, hps]; exact a3, a4, ?_, ?_⟩⟩, ⟨rfl, rfl, rfl, ?_, fun k hk hkg => ?_⟩⟩
    · rw [Ris, List.pairwise_map, List.pairwise_iff_getElem]
      intro i j hi hj hij
      have := hso i j (Nat.zero_le _) hij (by rw [← hps]; exact hj)
      rw [ltOf_cmp, getElem!_pos D'.toArray j (by simpa using hj), getElem!_pos D'.toArray i (by simpa using hi), List.getElem_toArray, List.getElem_toArray] at this
      exact this
    · rw [idsC_length (is32_map D')]
    · rw [List.length_map, hps]
    · rw [← a5]; simp [putCells]
    · apply List.ext_getElem?
      intro t
      rw [List.length_map, hps]
      by_cases ht : t < D.length * 32
      · have ht2 : t < D'.length * 32 := by rw [hps]; exact ht
        rw [List.getElem?_take_of_lt ht, Array.getElem?_toList, flat_at D' ht2]
        simp only [putCells, Array.getElem?_mapIdx, hcur t ht, Option.map_some]
        rw [if_pos ⟨Nat.zero_le _, by rw [size_flatK, List.size_toArray]; omega⟩]
        rfl
      · rw [List.getElem?_eq_none (by rw [List.length_take]; omega), List.getElem?_eq_none (by rw [idsC_length (is32_map D'), List.length_map, hps]; omega)]
    · exact size_sortWorldK_c encN 32 w g 0 n D'.toArray os
    · show ((w.heap.modify g (onCells (putCells id 0 (flatK encN 32 D'.toArray)))) ++ os)[k]? = _
      rw [Array.getElem?_append_left (by simpa using hk), Array.getElem?_modify, if_neg (by rintro rfl; exact hkg (by simp [ob, Value.ownBlock]))]
end Go.Proofs.YtkeegnhjemhblaaGreatDoor.Rb
/-
  The contract of the program's Roots.
-/
set_option linter.unusedSimpArgs false
namespace Go.Proofs.YtkeegnhjemhblaaGreatDoor.Rb
open Go.RowKit Go.Maps Go.WideMaps Go.Proofs.YtkeegnhjemhblaaGreatDoor.Rf

/-- What the branches of these names hold. -/
def rowC (K : BK) (k : List UInt8) : Ids := ((getM K k).getD []).map En.c
theorem getM_srt {α : Type} {K : MV α} (hs : SrtM K) {p : List UInt8 × α} (hp : p ∈ K) : getM K p.1 = some p.2 := by
  induction K with
  | nil => cases hp
  | cons y r ih =>
    obtain ⟨h1, h2⟩ := List.pairwise_cons.1 hs
    rcases List.mem_cons.1 hp with rfl | h
    · simp [getM]
    · have hne : y.1 ≠ p.1 := fun e => by have := h1 p h; rw [e, lt_irr] at this; cases this
      have := ih h2 h
      unfold getM at this ⊢
      rw [List.find?_cons_of_neg (by simpa using hne)]
      exact this
theorem rows_all {K : BK} (hs : SrtM K) : (names K).flatMap (rowC K) = allC K := by
  rw [names_srt hs, List.flatMap_map, allC]
  have : ∀ L : BK, (∀ p ∈ L, p ∈ K) → (L.flatMap fun p => rowC K p.1) = L.flatMap fun p => p.2.map En.c := by
    intro L
    induction L with
    | nil => intro _; rfl
    | cons y t ih =>
      intro hL
      rw [List.flatMap_cons, List.flatMap_cons, ih (fun p hp => hL p (List.mem_cons_of_mem _ hp)), rowC, getM_srt hs (hL y (List.mem_cons_self ..))]
      rfl
  exact this K (fun _ h => h)
set_option maxHeartbeats 8000000 in
set_option maxRecDepth 100000 in
theorem roots_any {X : Spect} (B : Nat) (w : World) (g b : Nat) (Z : BM) (h : BookAt X B w g b Z) (ok : OkB (plainB Z)) :
    Calls Tryz.prog 49 #[ptr g] w fun e w' => ∃ v' R, e = .returned v' ∧ w'.ownsRow w.heap.size IdT 32 v' (ddN R R.length).length (idsC (ddN R R.length)) ∧ Below w.heap.size w w' ∧ R.Perm (allC (plainB Z)) ∧ Ris R := by
  obtain ⟨i0, hi0, hz0, hz1, hz2⟩ := info_parts' infoId
  have hz3 : zeroId.cells.size = 32 := zeroId_size
  have H := Lib.hid h; have HOK := Lib.hid ok
  have HSRT : Hid (SrtM (plainB Z)) := Lib.hid ((srt_map _).2 (srt_own h.map))
  have HZL : Hid (Z.length ≤ 64) := Lib.hid (by rw [← plain_length]; exact ok.size)
  have BR := Lib.hid (branches_any B w g b Z h ok)
  clear h ok
  unfold ptr at *
  go_enter Tryz.func49, Tryz.ntmps49
  go_wp2_with fail
  refine BR.out.mono ?_
  rintro e w2 ⟨nv, rfl, ho2, hb2⟩
  have HB2 := Lib.hid hb2
  have H2 := Lib.hid (H.out.below hb2)
  obtain ⟨N, hN⟩ : ∃ N, N = names (plainB Z) := ⟨_, rfl⟩
  have HNL : Hid (N.length ≤ 64) := Lib.hid (by rw [hN, names_length, plain_length]; exact HZL.out)
  rw [← hN] at ho2
  have HN := Lib.hid hN
  have HO2 := Lib.hid ho2
  clear hb2 ho2 hN BR
  obtain ⟨na, nc, rfl⟩ := rowS_slice HO2.out
  have HAL : Hid (∀ i, ((N.take i).flatMap (rowC (plainB Z))).length ≤ i * 4096) := Lib.hid (fun i => by
    have key : ∀ (L : List (List UInt8)), (L.flatMap (rowC (plainB Z))).length ≤ L.length * 4096 := by
      intro L
      induction L with
      | nil => simp
      | cons y t ih =>
        have h1 : (rowC (plainB Z) y).length ≤ 4096 := by
          rw [rowC, List.length_map]
          cases hy : getM (plainB Z) y with
          | none => simp
          | some l => exact HOK.out.len (y, l) (getM_mem hy)
        rw [List.flatMap_cons, List.length_append, List.length_cons]; omega
    have h1 := key (N.take i)
    rw [List.length_take] at h1
    have h3 : min i N.length * 4096 ≤ i * 4096 := Nat.mul_le_mul_right _ (Nat.min_le_left ..)
    omega)
  go_wp2_with fail
  go_loopw [3, 5, 11] (fun u3 _ u11 wr => ∃ i : Nat, i ≤ N.length ∧ u11 = .int .i64 (i : Int) ∧ Hid (wr.ownsRow w2.heap.size IdT 32 u3 ((N.take i).flatMap (rowC (plainB Z))).length (idsC ((N.take i).flatMap (rowC (plainB Z))))) ∧ Hid (Below w2.heap.size w2 wr)) (fun _ _ u11 _ => N.length - (RowKit.intOf u11).toNat)
  case atStart => exact ⟨0, Nat.zero_le _, rfl, Lib.hid (World.ownsRow_nil _ _ _ _), Lib.hid (Below.refl _ _)⟩
  case round =>
    obtain ⟨i, hi, rfl, HO, HB⟩ := hrel
    obtain ⟨wo, hwo⟩ : ∃ wo, wo = wr := ⟨_, rfl⟩
    subst hwo
    have hNL : N.length ≤ 64 := HNL.out
    by_cases hlt : (i : Int) < (N.length : Int)
    · have hi' : i < N.length := by omega
      have hin0 : (0 : Int) ≤ (i : Int) := by omega
      obtain ⟨gn, ncap, hnv, hgn, _, hcell⟩ := rowS_form HO2.out (by omega)
      injection hnv with e1 e2 e3
      subst e1 e3
      obtain ⟨k, hk⟩ : ∃ k, k = N[i] := ⟨_, rfl⟩
      have hck : wo.cell? ⟨gn, i, none⟩ = some (.string ⟨k.toArray⟩) := (World.cell?_of_block (a := ⟨gn, i, none⟩) (HB.out.block gn hgn)).trans (hcell i _ (by rw [List.getElem?_map, List.getElem?_eq_getElem hi', ← hk]; rfl))
      have hkm : k ∈ names (plainB Z) := by rw [← HN.out, hk]; exact List.getElem_mem hi'
      obtain ⟨p, hp⟩ : ∃ p, getM Z k = some p := by
        obtain ⟨l, hl⟩ := names_get hkm
        rw [plain_get] at hl
        obtain ⟨p, hp, _⟩ := Option.map_eq_some_iff.1 hl
        exact ⟨p, hp⟩
      have hrb := H2.out.below HB.out
      have c2 : wo.cell? ⟨g, 0, none⟩ = some (.map (some b)) := cell_of_heap hrb.book
      obtain ⟨a1, a2, a3, a4⟩ := HOK.out.row hp
      have hks : (⟨k.toArray⟩ : ByteArray).size ≤ 255 := a1
      have hlk := look_run1 Tryz.underlying107 zeroRow hrb.map ⟨k.toArray⟩ (by unfold maxLen; omega)
      rw [ba_data, hp] at hlk
      have hrow := H2.out.row hp
      obtain ⟨pv, pl⟩ := p
      obtain ⟨m, hm⟩ : ∃ m, m = pl.length := ⟨_, rfl⟩
      dsimp only at a2 a3 a4 hrow hlk
      have hm0 : m ≠ 0 := by rw [hm]; simpa using a2
      rw [← hm] at hrow
      obtain ⟨gb, cap, rfl, hgb, _, hrc⟩ := rowS_form hrow hm0
      have HTK2 : Hid ((N.take (i + 1)).flatMap (rowC (plainB Z)) = (N.take i).flatMap (rowC (plainB Z)) ++ pl.map En.c) := Lib.hid (by
        rw [List.take_add_one, List.flatMap_append, List.getElem?_eq_getElem hi', ← hk, Option.toList_some, List.flatMap_cons, List.flatMap_nil, List.append_nil, rowC, plain_get, hp]; rfl)
      have HAL1 := Lib.hid (HAL.out i)
      obtain ⟨A, hA⟩ : ∃ A, A = (N.take i).flatMap (rowC (plainB Z)) := ⟨_, rfl⟩
      rw [← hA] at HO HAL1 HTK2
      have hmb : m ≤ 4096 := by rw [hm]; exact a3
      have HRC := Lib.hid hrc; have HM := Lib.hid hm; have HA4 := Lib.hid a4; have HMB := Lib.hid hmb
      clear hrow hrc a1 a2 a3 a4 hm hcell hkm hp hrb hk hA
      go_wp2
      go_loopw [3, 7, 22] (fun u3 _ u22 wr => ∃ j : Nat, j ≤ m ∧ u22 = .int .i64 (j : Int) ∧ Hid (wr.ownsRow w2.heap.size IdT 32 u3 (A ++ (pl.take j).map En.c).length (idsC (A ++ (pl.take j).map En.c))) ∧ Hid (Below w2.heap.size w2 wr)) (fun _ _ u22 _ => m - (RowKit.intOf u22).toNat)
      case atStart => exact ⟨0, by omega, rfl, Lib.hid (by simpa using HO.out), HB⟩
      case round =>
        obtain ⟨j, hj, rfl, HOJ, HBJ⟩ := hrel
        obtain ⟨wq, hwq⟩ : ∃ wq, wq = wr := ⟨_, rfl⟩
        subst hwq
        have hm4 : m ≤ 4096 := HMB.out
        by_cases hjm : (j : Int) < (m : Int)
        · have hjl : j < pl.length := by rw [← HM.out]; omega
          have hj0 : (0 : Int) ≤ (j : Int) := by omega
          obtain ⟨e, he⟩ : ∃ e, pl[j]? = some e := ⟨_, List.getElem?_eq_getElem hjl⟩
          have HEC : Hid (e.c.length = 32) := Lib.hid (HA4.out e (List.mem_of_getElem? he)).1
          have HCS : Hid (e.cells.length = 33) := Lib.hid (cells_size HEC.out)
          have HRG : Hid (wq.rangeAt gb (j * 33) e.cells) := Lib.hid (fun t v hv => (World.cell?_of_block (a := ⟨gb, j * 33 + t, none⟩) (HBJ.out.block gb hgb)).trans (HRC.out _ _ (cellsL_at (fun e he => (HA4.out e he).1) he hv)))
          have HI : Hid ((Tryz.prog.info? 84).map (·.size) = some e.cells.length) := Lib.hid (by rw [HCS.out]; kernel_rfl)
          have HI2 : Hid ((Tryz.prog.info? 84).map (·.size) = some e.cells.toArray.size) := Lib.hid (by rw [List.size_toArray]; exact HI.out)
          have HS2 : Hid (zer33.size = e.cells.toArray.size) := Lib.hid (by show 33 = _; rw [List.size_toArray]; exact HCS.out.symm)
          have HONE : Hid (e.cells.toArray.all (·.oneCell') = true) := Lib.hid (Array.all_eq_true_iff_forall_mem.2 (fun u hu => row_one (l := [e]) u (by simpa [cellsL] using hu)))
          have HTJ : Hid (A ++ (pl.take (j + 1)).map En.c = (A ++ (pl.take j).map En.c) ++ [e.c]) := Lib.hid (by rw [List.take_add_one, he]; simp)
          have HDL : Hid ((A ++ (pl.take j).map En.c).length ≤ 300000) := Lib.hid (by
            have := HAL1.out
            rw [List.length_append, List.length_map, List.length_take]; omega)
          obtain ⟨AJ, hAJ⟩ : ∃ AJ, AJ = A ++ (pl.take j).map En.c := ⟨_, rfl⟩
          rw [← hAJ] at HOJ HTJ HDL
          have HS22 : Hid (w2.heap.size ≤ wq.heap.size) := Lib.hid HBJ.out.size
          clear he hAJ hjl
          go_wp2_with (first
            | (refine wpList_load_mid rfl _ _ rfl gb (j * 33) rfl e.cells _ HRG.out Tryz.underlying84 rfl HI.out ?_)
            | (refine wpList_store_row rfl _ _ _ rfl wq.heap.size e.cells.toArray rfl rfl 84 zer33 (MapKept.heap_alloc wq (.cells zer33 84)).1 HI2.out HS2.out HONE.out ?_
               obtain ⟨hq6, hb6⟩ := store_new wq e.cells.toArray
               change wpList _ _ _ _ _ ((wq.alloc (.cells zer33 84)).setRow wq.heap.size e.cells.toArray)
               generalize (wq.alloc (.cells zer33 84)).setRow wq.heap.size e.cells.toArray = w6 at hq6 hb6 ⊢
               have HQ6 := Lib.hid hq6; have HB6 := Lib.hid hb6
               have HRG6 : Hid (w6.rangeAt wq.heap.size 0 (Lib.byteCells e.c)) := Lib.hid (fun t v hv => by
                 rw [Nat.zero_add, cell_of_heap HQ6.out, List.getElem?_toArray, En.cells, List.getElem?_append_left (List.getElem?_eq_some_iff.1 hv).1]; exact hv)
               have HO6 := Lib.hid (rowS_kept HOJ.out (fun b _ hl => HB6.out.block b hl))
               clear hq6 hb6)
            | (refine wpList_load_mid rfl _ _ rfl wq.heap.size 0 rfl (Lib.byteCells e.c) _ HRG6.out Tryz.underlying81 rfl (infoIdX HEC.out) ?_)
            | (refine wpList_oneH 32 (by decide) (by decide) rfl 94 IdT (.tmp 28) (Lib.byteCells e.c) i0 _ rfl rfl Tryz.underlying94 hi0 hz0 hz1 (by rw [bytes_len, HEC.out]) ?_
               intro yd wd hhd hgd hyd hsd
               have HHd := Lib.hid hhd; have HGd := Lib.hid hgd; have HSd := Lib.hid hsd
               clear hhd hgd hyd hsd)
            | (refine wpList_appendN 32 (by decide) rfl _ _ 94 rfl w2.heap.size IdT i0 _ 32 Tryz.underlying94 hi0 hz0 hz1 hz2 hz3 u3 AJ.length (idsC AJ) rfl (rowS_kept HO6.out (fun x _ hl => HGd.out.block x hl (fun h => nomatch h))) _ 1 (Lib.byteCells e.c) rfl HHd.out (by rw [bytes_len, HEC.out]) (bytes_one e.c) (by have := HDL.out; unfold maxLen; omega) (by have := HDL.out; omega) (Nat.le_trans HS22.out (Nat.le_trans HB6.out.size (Nat.le_of_lt HSd.out))) ?_
               intro vd xd hod hgd hvd
               have HOe := Lib.hid hod; have HKe := Lib.hid hgd
               clear hod hgd hvd)
            | fail)
          go_roundw
          case rel =>
            refine ⟨j + 1, by omega, by go_num, Lib.hid ?_, Lib.hid ?_⟩
            · rw [HTJ.out, idsC_append, idsC_one, List.length_append]; exact HOe.out
            · exact ((HBJ.out.trans (HB6.out.mono HBJ.out.size)).grown HGd.out (Nat.le_trans HBJ.out.size HB6.out.size) (fun k hk => nomatch hk)).grown HKe.out (Nat.le_trans (Nat.le_trans HBJ.out.size HB6.out.size) HGd.out.size) (fun x hx => rowS_ge HOJ.out x (by simp [ob, hx]))
          case measure => simp [RowKit.intOf]; omega
        · obtain rfl : j = m := by omega
          have HE : Hid (A ++ (pl.take j).map En.c = (N.take (i + 1)).flatMap (rowC (plainB Z))) := Lib.hid (by rw [HTK2.out, HM.out, List.take_length])
          rw [HE.out] at HOJ
          go_wp2
          go_roundw
          case rel => exact ⟨i + 1, by omega, by go_num, HOJ, HBJ⟩
          case measure => simp [RowKit.intOf]; omega
    · obtain rfl : i = N.length := by omega
      rw [List.take_length] at HO
      have HE : Hid (N.flatMap (rowC (plainB Z)) = allC (plainB Z)) := Lib.hid (by rw [HN.out]; exact rows_all HSRT.out)
      rw [HE.out] at HO
      have HAL1 : Hid ((allC (plainB Z)).length ≤ 262144) := Lib.hid (by have h1 := HAL.out N.length; rw [List.take_length, HE.out] at h1; omega)
      have CS := Lib.hid (sort_any w2.heap.size wo u3 (allC (plainB Z)) HAL1.out (allC_32 HOK.out) HO.out)
      go_wp2_with fail
      refine CS.out.mono ?_
      rintro e w3 ⟨rfl, R, hp3, hr3, ho3, ht3⟩
      have HO3 := Lib.hid ho3; have HP3 := Lib.hid hp3; have HR3 := Lib.hid hr3
      have HB3 : Hid (Below w2.heap.size w2 w3) := Lib.hid (HB.out.trans (ht3.below (rowS_ge HO.out) HB.out.size))
      have CC := Lib.hid (compact_any w2.heap.size w3 u3 R (by rw [hp3.length_eq]; exact HAL1.out) ((allC_32 HOK.out).perm hp3) ho3)
      have HB4 : Hid (∀ w4, Turn (ob u3) w3 w4 → Below w2.heap.size w2 w4) := Lib.hid (fun w4 ht => HB3.out.trans (ht.below (rowS_ge ho3) HB3.out.size))
      clear ho3 hp3 hr3 ht3 CS
      go_wp2_with fail
      refine CC.out.mono ?_
      rintro e w4 ⟨v4, rfl, ho4, ht4⟩
      have HO4 := Lib.hid ho4
      have HB5 := Lib.hid (HB4.out w4 ht4)
      clear ho4 ht4 CC
      go_wp2
      go_ret
      exact ⟨_, R, rfl, row_mono HO4.out HB2.out.size, HB2.out.trans (HB5.out.mono HB2.out.size), HP3.out, HR3.out⟩
end Go.Proofs.YtkeegnhjemhblaaGreatDoor.Rb
