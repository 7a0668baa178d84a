import Derived.Test.YtkeegnhjemhblaaGreatDoorZPRbDd
import Derived.Deep.Upon
set_option linter.unusedSimpArgs false
set_option linter.unusedVariables false
/-
  Rows written in place, shortened, cleared.
-/
namespace Go.Proofs.YtkeegnhjemhblaaGreatDoor.Rb
open Go.RowKit Go.Maps Go.WideMaps Go.Proofs.YtkeegnhjemhblaaGreatDoor.Rf

theorem list_midR {α : Type} (l : List α) (o : Nat) (v : α) (n : Nat) (ho : o < l.length) : (l.take o ++ v :: l.drop (o + 1)).take (o + 1) = l.take o ++ [v] ∧ (l.take o ++ v :: l.drop (o + 1)).drop (o + 1 + n) = l.drop (o + 1 + n) := by
  have hl : (l.take o ++ [v]).length = o + 1 := by rw [List.length_append, List.length_take, List.length_singleton]; omega
  have e : l.take o ++ v :: l.drop (o + 1) = (l.take o ++ [v]) ++ l.drop (o + 1) := by simp
  rw [e]
  refine ⟨by rw [List.take_left' hl], ?_⟩
  rw [List.drop_append, hl, List.drop_eq_nil_of_le (by rw [hl]; omega), List.nil_append, List.drop_drop]
  congr 1; omega
theorem heap_setCellsR {b : Nat} {T : TypeId} : ∀ (vs : List Value) (o : Nat) (w : World) (cur : Array Value), w.heap[b]? = some (.cells cur T) → o + vs.length ≤ cur.size →
    ∃ cur' : Array Value, (w.setCells b o vs).heap[b]? = some (.cells cur' T) ∧ cur'.size = cur.size ∧ cur'.toList = cur.toList.take o ++ vs ++ cur.toList.drop (o + vs.length)
  | [], o, w, cur, h, _ => ⟨cur, h, rfl, by simp⟩
  | v :: r, o, w, cur, h, hl => by
    have h1 := setCell_heap w b o v cur T h
    have hsz : (cur.setIfInBounds o v).size = cur.size := Array.size_setIfInBounds ..
    obtain ⟨cur', a1, a2, a3⟩ := heap_setCellsR r (o + 1) _ _ h1 (by rw [hsz]; simp at hl; omega)
    refine ⟨cur', a1, a2.trans hsz, ?_⟩
    have ho : o < cur.toList.length := by simp at hl ⊢; omega
    rw [a3, Array.toList_setIfInBounds, List.set_eq_take_append_cons_drop, if_pos ho]
    obtain ⟨l1, l2⟩ := list_midR cur.toList o v r.length ho
    rw [l1, l2]
    simp [show o + (r.length + 1) = o + 1 + r.length by omega]
theorem turn_setCells (w : World) (g o : Nat) (vs : List Value) (X : List Nat) (hg : g ∈ X) : Turn X w (w.setCells g o vs) := by
  induction vs generalizing w o with
  | nil => exact Turn.refl _ _
  | cons v r ih => exact ((Turn.refl X w).setCell (p := ⟨g, o, none⟩) (.inl hg) v).trans (ih _ _) (fun y hy => .inl hy)
section
variable {B : Nat} {w : World} {g n cap s : Nat} {T : TypeId} {xs vs : List Value}
theorem row_there (h : w.ownsRow B T s (.slice (some ⟨g, 0, none⟩) n cap) n xs) {o m : Nat} (ho : o + m ≤ n * s) : w.there g o m := by
  obtain ⟨h1, ⟨hc, _⟩ | ⟨g', cap', cur, hv, a1, a2, a3, a4, a5, a6⟩⟩ := h
  · cases hc
  · injection hv with e1 e2 e3
    injection e1 with e1
    injection e1 with e1
    subst e1 e3
    intro j hj
    refine ⟨?_, frozen_of_heap a2⟩
    have hs : o + j < cur.size := by rw [a5]; exact Nat.lt_of_lt_of_le (by omega) (Nat.mul_le_mul_right _ a3)
    rw [cell_of_heap a2, Array.getElem?_eq_getElem hs]; rfl
theorem row_setCells (h : w.ownsRow B T s (.slice (some ⟨g, 0, none⟩) n cap) n xs) {o : Nat} (ho : o + vs.length ≤ n * s) :
    (w.setCells g o vs).ownsRow B T s (.slice (some ⟨g, 0, none⟩) n cap) n (xs.take o ++ vs ++ xs.drop (o + vs.length)) := by
  obtain ⟨h1, ⟨hc, _⟩ | ⟨g', cap', cur, hv, a1, a2, a3, a4, a5, a6⟩⟩ := h
  · cases hc
  · injection hv with e1 e2 e3
    injection e1 with e1
    injection e1 with e1
    subst e1 e3
    have hle : n * s ≤ cur.size := by rw [a5]; exact Nat.mul_le_mul_right _ a3
    obtain ⟨cur', b1, b2, b3⟩ := heap_setCellsR vs o w cur a2 (by omega)
    refine ⟨by rw [List.length_append, List.length_append, List.length_take, List.length_drop]; omega, .inr ⟨g, cap, cur', rfl, a1, b1, a3, a4, by rw [b2, a5], ?_⟩⟩
    rw [b3, ← a6]
    have hcl : cur.toList.length = cur.size := Array.length_toList ..
    rw [List.take_append, List.take_of_length_le (by rw [List.length_append, List.length_take]; omega), List.length_append, List.length_take, Nat.min_eq_left (by omega)]
    rw [List.take_take, Nat.min_eq_left (by omega), List.drop_take, show n * s - (o + vs.length) = n * s - (o + vs.length) from rfl]
theorem row_short (h : w.ownsRow B T s (.slice (some ⟨g, 0, none⟩) n cap) n xs) {k : Nat} (hk : k ≤ n) : w.ownsRow B T s (.slice (some ⟨g, 0, none⟩) k cap) k (xs.take (k * s)) := by
  obtain ⟨h1, ⟨hc, _⟩ | ⟨g', cap', cur, hv, a1, a2, a3, a4, a5, a6⟩⟩ := h
  · cases hc
  · injection hv with e1 e2 e3
    injection e1 with e1
    injection e1 with e1
    subst e1 e3
    have hks : k * s ≤ n * s := Nat.mul_le_mul_right _ hk
    refine ⟨by rw [List.length_take]; omega, .inr ⟨g, cap, cur, rfl, a1, a2, by omega, a4, a5, ?_⟩⟩
    rw [← a6, List.take_take, Nat.min_eq_left hks]
end
theorem idsC_set {L : Ids} (h : Is32 L) {i : Nat} (hi : i < L.length) {x : List UInt8} (hx : x.length = 32) : (idsC L).take (i * 32) ++ Lib.byteCells x ++ (idsC L).drop (i * 32 + (Lib.byteCells x).length) = idsC (L.set i x) := by
  rw [bytes_len, hx, idsC_take h (by omega), show i * 32 + 32 = (i + 1) * 32 by omega, idsC_drop h (by omega), List.set_eq_take_append_cons_drop, if_pos hi, idsC_append, List.append_assoc]
  rfl
theorem Is32.set {L : Ids} (h : Is32 L) {i : Nat} {x : List UInt8} (hx : x.length = 32) : Is32 (L.set i x) := fun y hy => by
  rcases List.mem_or_eq_of_mem_set hy with hy | rfl
  · exact h y hy
  · exact hx
theorem zero_cells (z : Value) (n : Nat) : (Builtin.zeroCells (List.replicate 32 z).toArray n).toList = List.replicate (n * 32) z := by
  have hs : (List.replicate 32 z).toArray.size = 32 := by simp
  rw [List.eq_replicate_iff]
  unfold Builtin.zeroCells
  rw [hs]
  refine ⟨by simp, fun b hb => ?_⟩
  rw [Array.toList_map, List.mem_map] at hb
  obtain ⟨i, _, rfl⟩ := hb
  have hlt : i % 32 < (List.replicate 32 z).toArray.size := by rw [hs]; exact Nat.mod_lt _ (by decide)
  rw [getElem!_pos (List.replicate 32 z).toArray (i % 32) hlt, List.getElem_toArray, List.getElem_replicate]
/-- What clear does to the end of a row of names. -/
theorem run_clear_ids (w : World) (g o n c : Nat) (ty : TypeId) (ht : w.there g o (n * 32)) :
    ∃ vs : List Value, vs.length = n * 32 ∧ (Builtin.clear_ #[94] ty #[.slice (some ⟨g, o, none⟩) n c]).run Tryz.prog w = .ok (.tuple #[]) (w.setCells g o vs) := by
  cases n with
  | zero => exact ⟨[], rfl, by simp [Builtin.clear_, run_underlying (P := Tryz.prog) Tryz.underlying94, World.setCells]⟩
  | succ n =>
    obtain ⟨i0, hi0, hz0, hz1, hz2⟩ := info_parts' infoId
    have hzc : zeroId.cells = (List.replicate 32 (Value.int .u8 0)).toArray := by kernel_rfl
    have hz : (Builtin.zeroCells zeroId.cells (n + 1)).toList = List.replicate ((n + 1) * 32) (Value.int .u8 0) := by
      rw [hzc]
      exact zero_cells _ (n + 1)
    refine ⟨List.replicate ((n + 1) * 32) (Value.int .u8 0), List.length_replicate, ?_⟩
    have hst := run_storeCells_cells (P := Tryz.prog) g o (List.replicate ((n + 1) * 32) (Value.int .u8 0)) 0 w (fun j hj => by rw [List.length_replicate] at hj; exact (ht j hj).1) (fun j hj => by rw [List.length_replicate] at hj; exact (ht j hj).2) (by intro v hv; rw [List.eq_of_mem_replicate hv]; rfl)
    simp only [Nat.add_zero] at hst
    simp [Builtin.clear_, run_underlying (P := Tryz.prog) Tryz.underlying94, zeroValue, typeInfo, hi0, hz0, hz, hst]
theorem run_clear_ids_any (g o n c : Nat) (w : World) (ht : w.there g o (n * 32)) :
    ∃ vs : List Value, vs.length = n * 32 ∧ ∀ ty, (Builtin.clear_ #[94] ty #[.slice (some ⟨g, o, none⟩) n c]).run Tryz.prog w = .ok (.tuple #[]) (w.setCells g o vs) := by
  obtain ⟨vs, h1, h2⟩ := run_clear_ids w g o n c 0 ht
  exact ⟨vs, h1, fun ty => h2⟩
end Go.Proofs.YtkeegnhjemhblaaGreatDoor.Rb
/-
  The contract of slices.Compact at names. Printed by gencompact.py.
-/
set_option linter.unusedSimpArgs false
namespace Go.Proofs.YtkeegnhjemhblaaGreatDoor.Rb
open Go.RowKit Go.Maps Go.WideMaps Go.Proofs.YtkeegnhjemhblaaGreatDoor.Rf

theorem range_row {B : Nat} {w : World} {g cap : Nat} {C : Ids} (h : w.ownsRow B IdT 32 (slI g 0 cap C) C.length (idsC C)) (hC : Is32 C) {j : Nat} {x : List UInt8} (hx : C[j]? = some x) : w.rangeAt g (j * 32) (Lib.byteCells x) := by
  have hn : C ≠ [] := by rintro rfl; simp at hx
  obtain ⟨g', c', hv, hh, _⟩ := hold_own h hn
  injection hv with e1 _ e3
  injection e1 with e1
  injection e1 with e1
  subst e1 e3
  have := hh.range hC hx
  rwa [Nat.zero_add] at this
def CmpPost (B : Nat) (w : World) (v : Value) (R : Ids) (e : Ending) (w' : World) : Prop :=
  ∃ v', e = .returned v' ∧ w'.ownsRow B IdT 32 v' (ddN R R.length).length (idsC (ddN R R.length)) ∧ Turn (ob v) w w'
theorem set_take {L : Ids} {i : Nat} (hi : i < L.length) (x : List UInt8) : (L.set i x).take (i + 1) = L.take i ++ [x] := by
  rw [List.set_eq_take_append_cons_drop, if_pos hi]
  have hl : (L.take i ++ [x]).length = i + 1 := by rw [List.length_append, List.length_take, List.length_singleton]; omega
  rw [show L.take i ++ x :: L.drop (i + 1) = (L.take i ++ [x]) ++ L.drop (i + 1) by simp, List.take_left' hl]
set_option maxHeartbeats 8000000 in
set_option maxRecDepth 100000 in
theorem compact_any (B : Nat) (w : World) (v : Value) (R : Ids) (hm : R.length ≤ 262144) (h32 : Is32 R) (h : w.ownsRow B IdT 32 v R.length (idsC R)) :
    Calls Tryz.prog 114 #[v] w (CmpPost B w v R) := by
  by_cases hs : R.length < 2
  · obtain ⟨a, c, rfl⟩ := rowS_slice h
    have h2 : (R.length : Int) < 2 := by omega
    have HD : Hid (ddN R R.length = R) := Lib.hid (by
      rw [ddN_all (Nat.le_refl _) (fun i hi => by obtain rfl : i = 0 := by omega
                                                  rfl), List.take_length])
    have HO := Lib.hid h
    clear h h32 hs hm
    go_enter Tryz.func114, Tryz.ntmps114
    go_wp2
    go_ret
    exact ⟨_, rfl, by rw [HD.out]; exact HO.out, Turn.refl _ _⟩
  · obtain ⟨g, c, rfl, hh, hBg⟩ := hold_own h (by rintro rfl; exact hs (by decide))
    have hcap := hh.cap
    obtain ⟨n, hn⟩ : ∃ n, n = R.length := ⟨_, rfl⟩
    have h2 : ¬ (n : Int) < 2 := by omega
    have hn2 : 2 ≤ n := by omega
    have HO : Hid (w.ownsRow B IdT 32 (.slice (some ⟨g, 0, none⟩) n c) n (idsC R)) := Lib.hid (by rw [hn]; exact h)
    have H32 := Lib.hid h32; have HN := Lib.hid hn; have HC : Hid (n ≤ c) := Lib.hid (by omega)
    have hm' : n ≤ 262144 := by omega
    unfold slI
    rw [← hn]
    have HPO : Hid (∀ e w', CmpPost B w (.slice (some ⟨g, 0, none⟩) n c) R e w' → CmpPost B w (.slice (some ⟨g, 0, none⟩) n c) R e w') := Lib.hid (fun _ _ h => h)
    clear h h32 hh hs hn hcap hm hBg
    go_enter Tryz.func114, Tryz.ntmps114
    go_wp2
    go_loopw [3, 4, 5] (fun u3 _ _ wr => ∃ i : Nat, 1 ≤ i ∧ i ≤ n ∧ u3 = .int .i64 (i : Int) ∧ Hid (∀ j, j < i → stays R j = true) ∧ Hid (Below w.heap.size w wr)) (fun u3 _ _ _ => n - (RowKit.intOf u3).toNat)
    case atStart => exact ⟨1, by omega, by omega, rfl, Lib.hid (fun j hj => by obtain rfl : j = 0 := by omega
                                                                               rfl), Lib.hid (Below.refl _ _)⟩
    case round =>
      obtain ⟨i, hi1, hi, rfl, HST, HB⟩ := hrel
      obtain ⟨wo, hwo⟩ : ∃ wo, wo = wr := ⟨_, rfl⟩
      subst hwo
      by_cases hin : (i : Int) < (n : Int)
      · obtain ⟨x, hx⟩ : ∃ x, R[i]? = some x := ⟨_, List.getElem?_eq_getElem (by rw [← HN.out]; omega)⟩
        obtain ⟨y, hy⟩ : ∃ y, R[i - 1]? = some y := ⟨_, List.getElem?_eq_getElem (by rw [← HN.out]; omega)⟩
        have HX32 : Hid (x.length = 32) := Lib.hid (H32.out x (List.mem_of_getElem? hx))
        have HY32 : Hid (y.length = 32) := Lib.hid (H32.out y (List.mem_of_getElem? hy))
        have HOB : Hid (∀ w', Below wo.heap.size wo w' → w'.ownsRow B IdT 32 (slI g 0 c R) R.length (idsC R)) := Lib.hid (fun w' hb => by
          have := rowS_kept HO.out (fun b _ hl => (HB.out.trans (hb.mono HB.out.size)).block b hl)
          rw [HN.out] at this; exact this)
        have KR : Hid (∀ w' : World, Below wo.heap.size wo w' → w'.rangeAt g (i * 32) (Lib.byteCells x) ∧ w'.rangeAt g ((i - 1) * 32) (Lib.byteCells y)) := Lib.hid (fun w' hb => ⟨range_row (HOB.out w' hb) H32.out hx, range_row (HOB.out w' hb) H32.out hy⟩)
        have HSTY : Hid (stays R i = !(x == y)) := Lib.hid (by
          have := stays_ne (l := R) (i := i - 1) (x := x) (y := y) (by rw [Nat.sub_add_cancel hi1]; exact hx) hy
          rwa [Nat.sub_add_cancel hi1] at this)
        have hsub : IntKind.i64.wrap ((i : Int) - 1) = ((i - 1 : Nat) : Int) := by rw [IntKind.wrap_i64]; omega
        have hs0 : (0 : Int) ≤ ((i - 1 : Nat) : Int) := by omega
        have hs1 : ((i - 1 : Nat) : Int) < (n : Int) := by omega
        have hi0 : (0 : Int) ≤ (i : Int) := by omega
        have hE := fun w : World => eq_ids w HX32.out HY32.out
        clear hx hy
        obtain ⟨q, hq⟩ : ∃ q, q = (x == y) := ⟨_, rfl⟩
        rw [← hq] at HSTY hE
        clear hq
        go_upto_region 6 with (fail)
        refine wp_region_held_drew (S := (fun w' : World => w'.rangeAt g (i * 32) (Lib.byteCells x) ∧ w'.rangeAt g ((i - 1) * 32) (Lib.byteCells y))) (by kernel_rfl) (KR.out _ (Below.refl _ _).drew) (fun hHeld => ?_)
        refine wpAnyH_take (i := 0) (v := ?_) rfl (by kernel_rfl) (by kernel_rfl) (by kernel_rfl) (fun _ _ _ h => h) (Or.inl ⟨by rfl, ?q0⟩) hHeld ?_
        case q0 =>
          intro wS hSw
          obtain ⟨z0, z1⟩ := hSw
          go_simp
          try with_reducible rfl
        try simp only [Act.put, List.getElem_toArray, List.getElem_cons_zero, List.getElem_cons_succ, List.setIfInBounds_toArray, List.set_cons_zero, List.set_cons_succ]
        refine wpAnyH_take (i := 1) (v := ?_) rfl (by kernel_rfl) (by kernel_rfl) (by kernel_rfl) (fun _ _ _ h => h) (Or.inl ⟨by rfl, ?q1⟩) hHeld ?_
        case q1 =>
          intro wS hSw
          obtain ⟨z0, z1⟩ := hSw
          go_simp
          try with_reducible rfl
        try simp only [Act.put, List.getElem_toArray, List.getElem_cons_zero, List.getElem_cons_succ, List.setIfInBounds_toArray, List.set_cons_zero, List.set_cons_succ]
        refine wpAnyH_take (i := 2) (v := ?_) rfl (by kernel_rfl) (by kernel_rfl) (by kernel_rfl) (fun _ _ _ h => h) (Or.inl ⟨by rfl, ?q2⟩) hHeld ?_
        case q2 =>
          intro wS hSw
          obtain ⟨z0, z1⟩ := hSw
          go_simp
          try with_reducible rfl
        try simp only [Act.put, List.getElem_toArray, List.getElem_cons_zero, List.getElem_cons_succ, List.setIfInBounds_toArray, List.set_cons_zero, List.set_cons_succ]
        refine' wpAnyH_take (i := 3) (v := _) rfl (by kernel_rfl) (by kernel_rfl) (by kernel_rfl) (fun _ _ _ h => h) (yieldsIf_load_mid (by rfl) _ _ rfl g (i * 32) rfl (Lib.byteCells x) _ ?q3S ?q3u ?q3d ?q3i) hHeld ?q3x
        case q3S =>
          intro wS hSw
          exact hSw.1
        case q3u => exact Tryz.underlying81
        case q3d => rfl
        case q3i => exact (infoIdX HX32.out)
        try simp only [Act.put, List.getElem_toArray, List.getElem_cons_zero, List.getElem_cons_succ, List.setIfInBounds_toArray, List.set_cons_zero, List.set_cons_succ]
        refine wpAnyH_take (i := 4) (v := ?_) rfl (by kernel_rfl) (by kernel_rfl) (by kernel_rfl) (fun _ _ _ h => h) (Or.inl ⟨by rfl, ?q4⟩) hHeld ?_
        case q4 =>
          intro wS hSw
          obtain ⟨z0, z1⟩ := hSw
          go_simp
          try with_reducible rfl
        try simp only [Act.put, List.getElem_toArray, List.getElem_cons_zero, List.getElem_cons_succ, List.setIfInBounds_toArray, List.set_cons_zero, List.set_cons_succ]
        refine wpAnyH_take (i := 5) (v := ?_) rfl (by kernel_rfl) (by kernel_rfl) (by kernel_rfl) (fun _ _ _ h => h) (Or.inl ⟨by rfl, ?q5⟩) hHeld ?_
        case q5 =>
          intro wS hSw
          obtain ⟨z0, z1⟩ := hSw
          go_simp
          try with_reducible rfl
        try simp only [Act.put, List.getElem_toArray, List.getElem_cons_zero, List.getElem_cons_succ, List.setIfInBounds_toArray, List.set_cons_zero, List.set_cons_succ]
        refine wpAnyH_take (i := 6) (v := ?_) rfl (by kernel_rfl) (by kernel_rfl) (by kernel_rfl) (fun _ _ _ h => h) (Or.inl ⟨by rfl, ?q6⟩) hHeld ?_
        case q6 =>
          intro wS hSw
          obtain ⟨z0, z1⟩ := hSw
          go_simp
          try with_reducible rfl
        try simp only [Act.put, List.getElem_toArray, List.getElem_cons_zero, List.getElem_cons_succ, List.setIfInBounds_toArray, List.set_cons_zero, List.set_cons_succ]
        refine wpAnyH_take (i := 7) (v := ?_) rfl (by kernel_rfl) (by kernel_rfl) (by kernel_rfl) (fun _ _ _ h => h) (Or.inl ⟨by rfl, ?q7⟩) hHeld ?_
        case q7 =>
          intro wS hSw
          obtain ⟨z0, z1⟩ := hSw
          go_simp
          try with_reducible rfl
        try simp only [Act.put, List.getElem_toArray, List.getElem_cons_zero, List.getElem_cons_succ, List.setIfInBounds_toArray, List.set_cons_zero, List.set_cons_succ]
        refine' wpAnyH_take (i := 8) (v := _) rfl (by kernel_rfl) (by kernel_rfl) (by kernel_rfl) (fun _ _ _ h => h) (yieldsIf_load_mid (by rfl) _ _ rfl g ((i - 1) * 32) rfl (Lib.byteCells y) _ ?q8S ?q8u ?q8d ?q8i) hHeld ?q8x
        case q8S =>
          intro wS hSw
          exact hSw.2
        case q8u => exact Tryz.underlying81
        case q8d => rfl
        case q8i => exact (infoIdX HY32.out)
        try simp only [Act.put, List.getElem_toArray, List.getElem_cons_zero, List.getElem_cons_succ, List.setIfInBounds_toArray, List.set_cons_zero, List.set_cons_succ]
        refine wpAnyH_take (i := 9) (v := ?_) rfl (by kernel_rfl) (by kernel_rfl) (by kernel_rfl) (fun _ _ _ h => h) (Or.inl ⟨by rfl, ?q9⟩) hHeld ?_
        case q9 =>
          intro wS hSw
          obtain ⟨z0, z1⟩ := hSw
          go_simp
          try with_reducible rfl
        try simp only [Act.put, List.getElem_toArray, List.getElem_cons_zero, List.getElem_cons_succ, List.setIfInBounds_toArray, List.set_cons_zero, List.set_cons_succ]
        refine wpAnyH_done (by kernel_rfl) ?_ _
        clear hHeld
        try simp only [Act.put, List.getElem_toArray, List.getElem_cons_zero, List.getElem_cons_succ, List.setIfInBounds_toArray, List.set_cons_zero, List.set_cons_succ]
        cases q with
        | false =>
          go_wp2
          go_roundw
          case rel => exact ⟨i + 1, by omega, by omega, by go_num, Lib.hid (fun j hj => by
              by_cases hji : j < i
              · exact HST.out j hji
              · obtain rfl : j = i := by omega
                exact HSTY.out), Lib.hid HB.out.drew⟩
          case measure => simp [RowKit.intOf]; omega
        | true =>
          have HD1 : Hid (ddN R (i + 1) = R.take i) := Lib.hid (by rw [ddN_out HSTY.out, ddN_all (by rw [← HN.out]; omega) HST.out])
          have HI : Hid (1 ≤ i ∧ i < n) := Lib.hid ⟨hi1, by omega⟩
          have HBl : Hid (Below w.heap.size w wo.drew) := Lib.hid HB.out.drew
          have hsl : ∀ w', (Instr.slice 94 (.slice (some ⟨g, 0, none⟩) n c) (some (.int .i64 (i : Int))) none none).run Tryz.prog w' = .ok (.slice (some ⟨g, i * 32, none⟩) (n - i) (c - i)) w' := fun w' => by
            rw [run_slice_l w' _ _ _ _ undI .i64 _ (by omega) (by omega), sizeI]
            simp only [Result.andThen, sliced, Int.toNat_natCast, if_neg (show ¬ c = i from by have := HC.out; omega), Option.map_some, Addr.add_lit, Nat.zero_add]
          have HSL := Lib.hid hsl
          have hm3 : n - i ≤ 262144 := by omega
          clear hsl hE hsub hs0 hs1
          go_wp2_with (first
            | (refine wpList_want_run (by rfl) (.slice (some ⟨g, i * 32, none⟩) (n - i) (c - i)) (by
                refine exec_sliceN 94 (.tmp 26) (some (.tmp 27)) none (.slice (some ⟨g, 0, none⟩) n c) _ (some (.int .i64 (i : Int))) none undI rfl rfl ?_ rfl (HSL.out _)
                simp only [Option.map_some]; go_simp) ?_)
            | fail)
          go_loopw [3, 5] (fun u3 u5 wr => ∃ (k p : Nat) (C : Ids), 1 ≤ k ∧ k ≤ n - i ∧ p ≤ i + k - 1 ∧ u5 = .int .i64 (k : Int) ∧ u3 = .int .i64 (p : Int) ∧ Hid (wr.ownsRow B IdT 32 (.slice (some ⟨g, 0, none⟩) n c) n (idsC C)) ∧ Hid (C.length = n ∧ Is32 C ∧ p = (ddN R (i + k)).length ∧ C.take p = ddN R (i + k) ∧ C.drop (i + k - 1) = R.drop (i + k - 1)) ∧ Hid (Turn [g] w wr)) (fun _ u5 _ => (n - i) - (RowKit.intOf u5).toNat)
          case atStart =>
            have hl : (R.take i).length = i := by rw [List.length_take]; have := HI.out; have := HN.out; omega
            refine ⟨1, i, R, by omega, by have := HI.out; omega, by omega, rfl, rfl, Lib.hid ?_, Lib.hid ⟨HN.out.symm, H32.out, by rw [HD1.out, hl], HD1.out.symm, rfl⟩, Lib.hid (Turn.of_below HBl.out)⟩
            exact rowS_kept HO.out (fun b _ hl => HBl.out.block b hl)
          case round =>
            obtain ⟨k, p, C, hk1, hk, hpk, rfl, rfl, HOC, HCC, HT⟩ := hrel
            obtain ⟨wq, hwq⟩ : ∃ wq, wq = wr := ⟨_, rfl⟩
            subst hwq
            by_cases hkn : (k : Int) < ((n - i : Nat) : Int)
            · have hik : i + k < n := by omega
              obtain ⟨x, hx⟩ : ∃ x, R[i + k]? = some x := ⟨_, List.getElem?_eq_getElem (by rw [← HN.out]; exact hik)⟩
              obtain ⟨y, hy⟩ : ∃ y, R[i + k - 1]? = some y := ⟨_, List.getElem?_eq_getElem (by rw [← HN.out]; omega)⟩
              have hx' : C[i + k]? = some x := by
                have h1 := congrArg (fun l => l[1]?) HCC.out.2.2.2.2
                simp only [List.getElem?_drop] at h1
                rw [show i + k - 1 + 1 = i + k by omega] at h1
                exact h1.trans hx
              have hy' : C[i + k - 1]? = some y := by
                have h1 := congrArg (fun l => l[0]?) HCC.out.2.2.2.2
                simp only [List.getElem?_drop, Nat.add_zero] at h1
                exact h1.trans hy
              have HX32 : Hid (x.length = 32) := Lib.hid (H32.out x (List.mem_of_getElem? hx))
              have HY32 : Hid (y.length = 32) := Lib.hid (H32.out y (List.mem_of_getElem? hy))
              have HOB : Hid (∀ w', Below wq.heap.size wq w' → w'.ownsRow B IdT 32 (slI g 0 c C) C.length (idsC C)) := Lib.hid (fun w' hb => by
                have := rowS_kept HOC.out (fun b _ hl => hb.block b hl)
                rw [← HCC.out.1] at this; exact this)
              have KR : Hid (∀ w' : World, Below wq.heap.size wq w' → w'.rangeAt g (i * 32 + k * 32) (Lib.byteCells x) ∧ w'.rangeAt g (i * 32 + (k - 1) * 32) (Lib.byteCells y)) := Lib.hid (fun w' hb => ⟨by
                  have := range_row (HOB.out w' hb) HCC.out.2.1 hx'
                  rwa [show (i + k) * 32 = i * 32 + k * 32 by omega] at this, by
                  have := range_row (HOB.out w' hb) HCC.out.2.1 hy'
                  rwa [show (i + k - 1) * 32 = i * 32 + (k - 1) * 32 by omega] at this⟩)
              have HSTK : Hid (stays R (i + k) = !(x == y)) := Lib.hid (by
                have := stays_ne (l := R) (i := i + k - 1) (x := x) (y := y) (by rw [Nat.sub_add_cancel (by omega)]; exact hx) hy
                rwa [Nat.sub_add_cancel (by omega)] at this)
              have hsub : IntKind.i64.wrap ((k : Int) - 1) = ((k - 1 : Nat) : Int) := by rw [IntKind.wrap_i64]; omega
              have hs0 : (0 : Int) ≤ ((k - 1 : Nat) : Int) := by omega
              have hs1 : ((k - 1 : Nat) : Int) < ((n - i : Nat) : Int) := by omega
              have hk0 : (0 : Int) ≤ (k : Int) := by omega
              have hE := fun w : World => eq_ids w HX32.out HY32.out
              have HXR := Lib.hid hx
              clear hx hy hx' hy'
              obtain ⟨q, hq⟩ : ∃ q, q = (x == y) := ⟨_, rfl⟩
              rw [← hq] at HSTK hE
              clear hq
              have HTD : Hid (C.drop (i + k) = R.drop (i + k)) := Lib.hid (by
                have h1 := congrArg (List.drop 1) HCC.out.2.2.2.2
                rw [List.drop_drop, List.drop_drop, show i + k - 1 + 1 = i + k by omega] at h1; exact h1)
              go_upto_region 11 with (fail)
              refine wp_region_held_drew (S := (fun w' : World => w'.rangeAt g (i * 32 + k * 32) (Lib.byteCells x) ∧ w'.rangeAt g (i * 32 + (k - 1) * 32) (Lib.byteCells y))) (by kernel_rfl) (KR.out _ (Below.refl _ _).drew) (fun hHeld => ?_)
              refine wpAnyH_take (i := 0) (v := ?_) rfl (by kernel_rfl) (by kernel_rfl) (by kernel_rfl) (fun _ _ _ h => h) (Or.inl ⟨by rfl, ?p0⟩) hHeld ?_
              case p0 =>
                intro wS hSw
                obtain ⟨z0, z1⟩ := hSw
                go_simp
                try with_reducible rfl
              try simp only [Act.put, List.getElem_toArray, List.getElem_cons_zero, List.getElem_cons_succ, List.setIfInBounds_toArray, List.set_cons_zero, List.set_cons_succ]
              refine wpAnyH_take (i := 1) (v := ?_) rfl (by kernel_rfl) (by kernel_rfl) (by kernel_rfl) (fun _ _ _ h => h) (Or.inl ⟨by rfl, ?p1⟩) hHeld ?_
              case p1 =>
                intro wS hSw
                obtain ⟨z0, z1⟩ := hSw
                go_simp
                try with_reducible rfl
              try simp only [Act.put, List.getElem_toArray, List.getElem_cons_zero, List.getElem_cons_succ, List.setIfInBounds_toArray, List.set_cons_zero, List.set_cons_succ]
              refine wpAnyH_take (i := 2) (v := ?_) rfl (by kernel_rfl) (by kernel_rfl) (by kernel_rfl) (fun _ _ _ h => h) (Or.inl ⟨by rfl, ?p2⟩) hHeld ?_
              case p2 =>
                intro wS hSw
                obtain ⟨z0, z1⟩ := hSw
                go_simp
                try with_reducible rfl
              try simp only [Act.put, List.getElem_toArray, List.getElem_cons_zero, List.getElem_cons_succ, List.setIfInBounds_toArray, List.set_cons_zero, List.set_cons_succ]
              refine' wpAnyH_take (i := 3) (v := _) rfl (by kernel_rfl) (by kernel_rfl) (by kernel_rfl) (fun _ _ _ h => h) (yieldsIf_load_mid (by rfl) _ _ rfl g (i * 32 + k * 32) rfl (Lib.byteCells x) _ ?p3S ?p3u ?p3d ?p3i) hHeld ?p3x
              case p3S =>
                intro wS hSw
                exact hSw.1
              case p3u => exact Tryz.underlying81
              case p3d => rfl
              case p3i => exact (infoIdX HX32.out)
              try simp only [Act.put, List.getElem_toArray, List.getElem_cons_zero, List.getElem_cons_succ, List.setIfInBounds_toArray, List.set_cons_zero, List.set_cons_succ]
              refine wpAnyH_take (i := 4) (v := ?_) rfl (by kernel_rfl) (by kernel_rfl) (by kernel_rfl) (fun _ _ _ h => h) (Or.inl ⟨by rfl, ?p4⟩) hHeld ?_
              case p4 =>
                intro wS hSw
                obtain ⟨z0, z1⟩ := hSw
                go_simp
                try with_reducible rfl
              try simp only [Act.put, List.getElem_toArray, List.getElem_cons_zero, List.getElem_cons_succ, List.setIfInBounds_toArray, List.set_cons_zero, List.set_cons_succ]
              refine wpAnyH_take (i := 5) (v := ?_) rfl (by kernel_rfl) (by kernel_rfl) (by kernel_rfl) (fun _ _ _ h => h) (Or.inl ⟨by rfl, ?p5⟩) hHeld ?_
              case p5 =>
                intro wS hSw
                obtain ⟨z0, z1⟩ := hSw
                go_simp
                try with_reducible rfl
              try simp only [Act.put, List.getElem_toArray, List.getElem_cons_zero, List.getElem_cons_succ, List.setIfInBounds_toArray, List.set_cons_zero, List.set_cons_succ]
              refine wpAnyH_take (i := 6) (v := ?_) rfl (by kernel_rfl) (by kernel_rfl) (by kernel_rfl) (fun _ _ _ h => h) (Or.inl ⟨by rfl, ?p6⟩) hHeld ?_
              case p6 =>
                intro wS hSw
                obtain ⟨z0, z1⟩ := hSw
                go_simp
                try with_reducible rfl
              try simp only [Act.put, List.getElem_toArray, List.getElem_cons_zero, List.getElem_cons_succ, List.setIfInBounds_toArray, List.set_cons_zero, List.set_cons_succ]
              refine wpAnyH_take (i := 7) (v := ?_) rfl (by kernel_rfl) (by kernel_rfl) (by kernel_rfl) (fun _ _ _ h => h) (Or.inl ⟨by rfl, ?p7⟩) hHeld ?_
              case p7 =>
                intro wS hSw
                obtain ⟨z0, z1⟩ := hSw
                go_simp
                try with_reducible rfl
              try simp only [Act.put, List.getElem_toArray, List.getElem_cons_zero, List.getElem_cons_succ, List.setIfInBounds_toArray, List.set_cons_zero, List.set_cons_succ]
              refine' wpAnyH_take (i := 8) (v := _) rfl (by kernel_rfl) (by kernel_rfl) (by kernel_rfl) (fun _ _ _ h => h) (yieldsIf_load_mid (by rfl) _ _ rfl g (i * 32 + (k - 1) * 32) rfl (Lib.byteCells y) _ ?p8S ?p8u ?p8d ?p8i) hHeld ?p8x
              case p8S =>
                intro wS hSw
                exact hSw.2
              case p8u => exact Tryz.underlying81
              case p8d => rfl
              case p8i => exact (infoIdX HY32.out)
              try simp only [Act.put, List.getElem_toArray, List.getElem_cons_zero, List.getElem_cons_succ, List.setIfInBounds_toArray, List.set_cons_zero, List.set_cons_succ]
              refine wpAnyH_take (i := 9) (v := ?_) rfl (by kernel_rfl) (by kernel_rfl) (by kernel_rfl) (fun _ _ _ h => h) (Or.inl ⟨by rfl, ?p9⟩) hHeld ?_
              case p9 =>
                intro wS hSw
                obtain ⟨z0, z1⟩ := hSw
                go_simp
                try with_reducible rfl
              try simp only [Act.put, List.getElem_toArray, List.getElem_cons_zero, List.getElem_cons_succ, List.setIfInBounds_toArray, List.set_cons_zero, List.set_cons_succ]
              refine wpAnyH_done (by kernel_rfl) ?_ _
              clear hHeld
              try simp only [Act.put, List.getElem_toArray, List.getElem_cons_zero, List.getElem_cons_succ, List.setIfInBounds_toArray, List.set_cons_zero, List.set_cons_succ]
              cases q with
              | true =>
                have HDD : Hid (ddN R (i + k + 1) = ddN R (i + k)) := Lib.hid (ddN_out HSTK.out)
                go_wp2
                go_roundw
                case rel =>
                  refine ⟨k + 1, p, C, by omega, by omega, by omega, by go_num, by go_num, Lib.hid ?_, Lib.hid ⟨HCC.out.1, HCC.out.2.1, ?_, ?_, ?_⟩, Lib.hid HT.out.drew⟩
                  · exact rowS_kept HOC.out (fun b _ hl => rfl)
                  · rw [← Nat.add_assoc, HDD.out]; exact HCC.out.2.2.1
                  · rw [← Nat.add_assoc, HDD.out]; exact HCC.out.2.2.2.1
                  · rw [show i + (k + 1) - 1 = i + k by omega]; exact HTD.out
                case measure => simp [RowKit.intOf]; omega
              | false =>
                have HDD : Hid (ddN R (i + k + 1) = ddN R (i + k) ++ [x]) := Lib.hid (ddN_in HSTK.out HXR.out)
                have hp0 : (0 : Int) ≤ (p : Int) := by omega
                have hpn : (p : Int) < (n : Int) := by omega
                have HRG : Hid (wq.drew.rangeAt g (i * 32 + k * 32) (Lib.byteCells x)) := Lib.hid (KR.out _ (Below.refl _ _).drew).1
                have HOd : Hid (wq.drew.ownsRow B IdT 32 (.slice (some ⟨g, 0, none⟩) n c) n (idsC C)) := Lib.hid (rowS_kept HOC.out (fun b _ hl => rfl))
                have HTH : Hid (wq.drew.there g (p * 32) 32) := Lib.hid (row_there HOd.out (by omega))
                have HSC : Hid ((wq.drew.setCells g (p * 32) (Lib.byteCells x)).ownsRow B IdT 32 (.slice (some ⟨g, 0, none⟩) n c) n (idsC (C.set p x))) := Lib.hid (by
                  have h1 := row_setCells (vs := Lib.byteCells x) HOd.out (o := p * 32) (by rw [bytes_len, HX32.out]; omega)
                  rwa [idsC_set HCC.out.2.1 (by rw [HCC.out.1]; omega) HX32.out] at h1)
                have HTS : Hid (Turn [g] w (wq.drew.setCells g (p * 32) (Lib.byteCells x))) := Lib.hid (HT.out.drew.trans (turn_setCells _ _ _ _ [g] (by simp)) (fun y hy => .inl hy))
                obtain ⟨W, hW⟩ : ∃ W, W = wq.drew.setCells g (p * 32) (Lib.byteCells x) := ⟨_, rfl⟩
                have HWE := Lib.hid hW
                rw [← hW] at HSC HTS
                clear hW
                go_wp2_with (first
                  | (refine wpList_load_mid rfl _ _ rfl g (i * 32 + k * 32) rfl (Lib.byteCells x) _ HRG.out Tryz.underlying81 rfl (infoIdX HX32.out) ?_)
                  | (refine wpList_store_mid rfl 81 _ _ rfl g (p * 32) (Lib.byteCells x).toArray rfl rfl (by rw [List.size_toArray, bytes_len, HX32.out]; exact HTH.out) (by rw [List.size_toArray]; exact infoIdX HX32.out) (all_oneCell_toArray (bytes_one x)) ?_
                     show wpList _ _ _ _ _ (wq.drew.setCells g (p * 32) (Lib.byteCells x))
                     rw [← HWE.out])
                  | fail)
                go_roundw
                case rel =>
                  refine ⟨k + 1, p + 1, C.set p x, by omega, by omega, by omega, by go_num, by go_num, HSC, Lib.hid ⟨by rw [List.length_set]; exact HCC.out.1, HCC.out.2.1.set HX32.out, ?_, ?_, ?_⟩, HTS⟩
                  · rw [← Nat.add_assoc, HDD.out, List.length_append, ← HCC.out.2.2.1]; rfl
                  · rw [← Nat.add_assoc, HDD.out, set_take (by rw [HCC.out.1]; omega), HCC.out.2.2.2.1]
                  · rw [show i + (k + 1) - 1 = i + k by omega, List.drop_set_of_lt (by omega)]; exact HTD.out
                case measure => simp [RowKit.intOf]; omega
            · obtain rfl : k = n - i := by omega
              have hin2 : i + (n - i) = n := by have := HI.out; omega
              rw [hin2] at HCC hpk
              have hpn : p < n := by omega
              have HTH : Hid (wq.there g (p * 32) ((n - p) * 32)) := Lib.hid (row_there HOC.out (by omega))
              obtain ⟨vs, hvl, hcl⟩ := run_clear_ids_any g (p * 32) (n - p) (c - p) wq HTH.out
              have HW2 : Hid ((wq.setCells g (p * 32) vs).ownsRow B IdT 32 (.slice (some ⟨g, 0, none⟩) p c) (ddN R R.length).length (idsC (ddN R R.length))) := Lib.hid (by
                have h1 := row_short (row_setCells (vs := vs) HOC.out (o := p * 32) (by rw [hvl]; omega)) (k := p) (by omega)
                have hpl : ((idsC C).take (p * 32)).length = p * 32 := by rw [List.length_take, idsC_length HCC.out.2.1, HCC.out.1]; omega
                rw [List.append_assoc, List.take_left' hpl, idsC_take HCC.out.2.1 (by rw [HCC.out.1]; omega), HCC.out.2.2.2.1] at h1
                rw [← HN.out, ← HCC.out.2.2.1]; exact h1)
              have HT2 : Hid (Turn [g] w (wq.setCells g (p * 32) vs)) := Lib.hid (HT.out.trans (turn_setCells _ _ _ _ [g] (by simp)) (fun y hy => .inl hy))
              obtain ⟨W2, hW2⟩ : ∃ W2, W2 = wq.setCells g (p * 32) vs := ⟨_, rfl⟩
              rw [← hW2] at HW2 HT2 hcl
              have hp0 : (0 : Int) ≤ (p : Int) := by omega
              have HSP : Hid (∀ w', (Instr.slice 94 (.slice (some ⟨g, 0, none⟩) n c) (some (.int .i64 (p : Int))) none none).run Tryz.prog w' = .ok (.slice (some ⟨g, p * 32, none⟩) (n - p) (c - p)) w') := Lib.hid (fun w' => by
                rw [run_slice_l w' _ _ _ _ undI .i64 _ (by omega) (by omega), sizeI]
                simp only [Result.andThen, sliced, Int.toNat_natCast, if_neg (show ¬ c = p from by have := HC.out; omega), Option.map_some, Addr.add_lit, Nat.zero_add])
              have HSQ : Hid (∀ w', (Instr.slice 94 (.slice (some ⟨g, 0, none⟩) n c) none (some (.int .i64 (p : Int))) none).run Tryz.prog w' = .ok (.slice (some ⟨g, 0, none⟩) p c) w') := Lib.hid (fun w' => by
                rw [run_slice_h w' _ _ _ _ undI .i64 _ (by omega) (by have := HC.out; omega), sizeI]
                simp only [Result.andThen, sliced, Int.toNat_natCast, Nat.zero_mul, Nat.sub_zero, Option.map_some, Addr.add_lit, Nat.add_zero]
                split <;> rfl)
              clear hW2 hvl HTH
              go_wp2_with (first
                | (refine wpList_want_run (by rfl) (.slice (some ⟨g, p * 32, none⟩) (n - p) (c - p)) (by
                    refine exec_sliceN 94 (.tmp 54) (some (.tmp 55)) none (.slice (some ⟨g, 0, none⟩) n c) _ (some (.int .i64 (p : Int))) none undI rfl rfl rfl rfl (HSP.out _)) ?_)
                | (refine wpList_want_run (by rfl) (.slice (some ⟨g, 0, none⟩) p c) (by
                    refine exec_sliceN 94 (.tmp 57) none (some (.tmp 58)) (.slice (some ⟨g, 0, none⟩) n c) _ none (some (.int .i64 (p : Int))) undI rfl rfl rfl rfl (HSQ.out _)) ?_)
                | fail)
              go_ret
              exact ⟨_, rfl, HW2.out, by rw [show ob (.slice (some ⟨g, 0, none⟩) n c) = [g] from rfl]; exact HT2.out⟩
      · obtain rfl : i = n := by omega
        have HD : Hid (ddN R R.length = R) := Lib.hid (by
          rw [← HN.out, ddN_all (by rw [HN.out]; exact Nat.le_refl _) HST.out, HN.out, List.take_length])
        go_wp2
        go_ret
        refine ⟨_, rfl, ?_, Turn.of_below HB.out⟩
        rw [HD.out, ← HN.out]
        exact rowS_kept HO.out (fun b _ hl => HB.out.block b hl)
end Go.Proofs.YtkeegnhjemhblaaGreatDoor.Rb
