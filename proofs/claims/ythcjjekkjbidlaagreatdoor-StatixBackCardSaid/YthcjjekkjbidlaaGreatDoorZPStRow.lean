import Derived.Test.YthcjjekkjbidlaaGreatDoorZPStHeld
set_option linter.unusedSimpArgs false
set_option linter.unusedVariables false
/-
  An entry written over another one of a row.
-/
namespace Go.Proofs.YthcjjekkjbidlaaGreatDoor.St
open Go.RowKit Go.Maps Go.WideMaps Go.Proofs.YthcjjekkjbidlaaGreatDoor.Rf Go.Proofs.YthcjjekkjbidlaaGreatDoor.Rd

theorem list_mid {α : Type} (l : List α) (o : Nat) (v : α) (m : Nat) (h : o < l.length) : (l.take o ++ v :: l.drop (o + 1)).take (o + 1) = l.take o ++ [v] ∧ (l.take o ++ v :: l.drop (o + 1)).drop (o + 1 + m) = l.drop (o + 1 + m) := by
  have hA : (l.take o).length = o := by rw [List.length_take]; omega
  have hC : l.drop (o + 1 + m) = (l.drop (o + 1)).drop m := by rw [List.drop_drop]
  rw [hC]
  generalize l.take o = A at *
  generalize l.drop (o + 1) = C at *
  subst hA
  constructor
  · simp [List.take_append]
    exact List.take_of_length_le (by omega)
  · rw [Nat.add_assoc, ← List.drop_drop, List.drop_left, Nat.add_comm, List.drop_succ_cons]
theorem heap_setCells {b : Nat} {T : TypeId} : ∀ (vs : List Value) (o : Nat) (w : World) (cur : Array Value), w.heap[b]? = some (.cells cur T) → o + vs.length ≤ cur.size →
    ∃ cur' : Array Value, (w.setCells b o vs).heap[b]? = some (.cells cur' T) ∧ cur'.size = cur.size ∧ cur'.toList = cur.toList.take o ++ vs ++ cur.toList.drop (o + vs.length)
  | [], o, w, cur, h, _ => ⟨cur, h, rfl, by simp⟩
  | v :: r, o, w, cur, h, hl => by
    have h1 := setCell_heap w b o v cur T h
    have hsz : (cur.setIfInBounds o v).size = cur.size := Array.size_setIfInBounds ..
    obtain ⟨cur', a1, a2, a3⟩ := heap_setCells r (o + 1) _ _ h1 (by rw [hsz]; simp at hl; omega)
    refine ⟨cur', a1, a2.trans hsz, ?_⟩
    have ho : o < cur.toList.length := by simp at hl ⊢; omega
    rw [a3, Array.toList_setIfInBounds, List.set_eq_take_append_cons_drop, if_pos ho]
    obtain ⟨l1, l2⟩ := list_mid cur.toList o v r.length ho
    rw [l1, l2]
    simp [show o + (r.length + 1) = o + 1 + r.length by omega]
theorem cellsS_split {L : List SE} {i : Nat} {x : SE} (h : L[i]? = some x) (e : SE) : cellsS L = cellsS (L.take i) ++ (x.cells ++ cellsS (L.drop (i + 1))) ∧ cellsS (L.set i e) = cellsS (L.take i) ++ (e.cells ++ cellsS (L.drop (i + 1))) := by
  obtain ⟨hi, rfl⟩ := List.getElem?_eq_some_iff.1 h
  constructor
  · conv => lhs; rw [← List.take_append_drop i L, List.drop_eq_getElem_cons hi]
    rw [cellsS_append, cellsS_cons]
  · rw [List.set_eq_take_append_cons_drop, if_pos hi, cellsS_append, cellsS_cons]
theorem turn_setCells (w : World) (g o : Nat) (vs : List Value) : Turn [g] w (w.setCells g o vs) := by
  induction vs generalizing w o with
  | nil => exact Turn.refl _ _
  | cons v r ih => exact ((Turn.refl [g] w).setCell (p := ⟨g, o, none⟩) (.inl (by simp)) v).trans (ih _ _) (fun y hy => .inl hy)
/-- An entry written over another one. -/
theorem row_set {w : World} {B g n cap i : Nat} {T : TypeId} {L : List SE} (h : w.ownsRow B T 38 (.slice (some ⟨g, 0, none⟩) n cap) n (cellsS L)) (hn : n = L.length) (hid : ∀ e ∈ L, e.id.length = 32) (hi : i < L.length) {e : SE} (he : e.id.length = 32) :
    (w.setCells g (i * 38) e.cells).ownsRow B T 38 (.slice (some ⟨g, 0, none⟩) n cap) n (cellsS (L.set i e)) ∧ w.there g (i * 38) 38 := by
  obtain ⟨h1, ⟨e1, _⟩ | ⟨g', cap', cur, e1, a1, a2, a3, a4, a5, a6⟩⟩ := h
  · cases e1
  · injection e1 with e1 e2 e3
    injection e1 with e1
    injection e1 with e1
    subst e1 e3 hn
    obtain ⟨x, hx⟩ : ∃ x, L[i]? = some x := ⟨_, List.getElem?_eq_getElem hi⟩
    obtain ⟨s1, s2⟩ := cellsS_split hx e
    have hxl := cells_size (hid x (List.mem_of_getElem? hx))
    have hel := cells_size he
    have hl1 : (cellsS (L.take i)).length = i * 38 := by rw [cellsS_length (fun e he => hid e (List.mem_of_mem_take he)), List.length_take, Nat.min_eq_left (Nat.le_of_lt hi), Nat.mul_comm]
    have hfit : i * 38 + 38 ≤ cur.size := by
      rw [a5]
      have : (i + 1) * 38 ≤ cap * 38 := Nat.mul_le_mul_right _ (by omega)
      omega
    obtain ⟨cur', b1, b2, b3⟩ := heap_setCells e.cells (i * 38) w cur a2 (by rw [hel]; exact hfit)
    refine ⟨⟨?_, .inr ⟨g, cap, cur', rfl, a1, b1, a3, a4, b2.trans a5, ?_⟩⟩, fun j hj => ?_⟩
    · rw [cellsS_length (fun y hy => by rcases List.mem_or_eq_of_mem_set hy with h | h; exact hid y h; rw [h]; exact he), List.length_set, Nat.mul_comm]
    · rw [b3, hel, s2]
      have hlen : L.length * 38 = i * 38 + 38 + (cellsS (L.drop (i + 1))).length := by
        rw [cellsS_length (fun e he => hid e (List.mem_of_mem_drop he)), List.length_drop]; omega
      have t1 : cur.toList.take (i * 38) = cellsS (L.take i) := by
        have := congrArg (List.take (i * 38)) a6
        rw [List.take_take, Nat.min_eq_left (by omega), s1, ← hl1, List.take_left] at this
        rw [hl1] at this
        exact this
      have t2 : (cur.toList.drop (i * 38 + 38)).take ((cellsS (L.drop (i + 1))).length) = cellsS (L.drop (i + 1)) := by
        have := congrArg (List.drop (i * 38 + 38)) a6
        have hX : (cellsS (L.take i) ++ x.cells).length = i * 38 + 38 := by rw [List.length_append, hl1, hxl]
        rw [List.drop_take, s1, ← List.append_assoc, ← hX, List.drop_left, hX] at this
        rw [show L.length * 38 - (i * 38 + 38) = (cellsS (L.drop (i + 1))).length by omega] at this
        exact this
      rw [t1, List.take_append, List.take_of_length_le (by rw [List.length_append, hl1, hel]; omega), List.length_append, hl1, hel, show L.length * 38 - (i * 38 + 38) = (cellsS (L.drop (i + 1))).length by omega, t2, List.append_assoc]
    · refine ⟨?_, frozen_of_heap a2⟩
      rw [cell_of_heap a2, Array.getElem?_eq_getElem (by omega)]
      rfl
end Go.Proofs.YthcjjekkjbidlaaGreatDoor.St
