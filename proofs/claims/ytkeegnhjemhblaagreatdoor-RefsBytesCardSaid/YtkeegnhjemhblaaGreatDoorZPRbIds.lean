import Derived.Test.YtkeegnhjemhblaaGreatDoorZPRbRise
import Derived.Test.YtkeegnhjemhblaaGreatDoorZPRbHeld
set_option linter.unusedSimpArgs false
set_option linter.unusedVariables false
/-
  Rows of names of 32 bytes; slices of them.
-/
namespace Go.Proofs.YtkeegnhjemhblaaGreatDoor.Rb
open Go.RowKit Go.Maps Go.WideMaps Go.Proofs.YtkeegnhjemhblaaGreatDoor.Rf

abbrev IdT : TypeId := 81
abbrev Ids := List (List UInt8)
def Is32 (L : Ids) : Prop := ∀ x ∈ L, x.length = 32
def idsC (L : Ids) : List Value := L.flatMap Lib.byteCells
theorem bytes_len (x : List UInt8) : (Lib.byteCells x).length = x.length := List.length_map _
theorem idsC_append (A B : Ids) : idsC (A ++ B) = idsC A ++ idsC B := List.flatMap_append
theorem idsC_one (x : List UInt8) : idsC [x] = Lib.byteCells x := by simp [idsC]
theorem idsC_length : ∀ {L : Ids}, Is32 L → (idsC L).length = L.length * 32
  | [], _ => rfl
  | x :: r, h => by
    rw [idsC, List.flatMap_cons, List.length_append, ← idsC, idsC_length (fun y hy => h y (List.mem_cons_of_mem _ hy)), bytes_len, h x (List.mem_cons_self ..), List.length_cons]; omega
theorem Is32.append {A B : Ids} (h : Is32 A) (k : Is32 B) : Is32 (A ++ B) := fun x hx => (List.mem_append.1 hx).elim (h x) (k x)
theorem Is32.sub {A B : Ids} (h : Is32 A) (k : ∀ x ∈ B, x ∈ A) : Is32 B := fun x hx => h x (k x hx)
theorem Is32.take {A : Ids} (h : Is32 A) (i : Nat) : Is32 (A.take i) := h.sub (fun _ hx => List.mem_of_mem_take hx)
theorem Is32.drop {A : Ids} (h : Is32 A) (i : Nat) : Is32 (A.drop i) := h.sub (fun _ hx => List.mem_of_mem_drop hx)
theorem Is32.perm {A B : Ids} (h : Is32 A) (k : B.Perm A) : Is32 B := h.sub (fun _ hx => k.mem_iff.1 hx)
theorem Is32.tail {x : List UInt8} {A : Ids} (h : Is32 (x :: A)) : Is32 A := h.sub (fun _ hx => List.mem_cons_of_mem _ hx)
theorem Is32.head {x : List UInt8} {A : Ids} (h : Is32 (x :: A)) : x.length = 32 := h x (List.mem_cons_self ..)
theorem idsC_split (L : Ids) (i : Nat) : idsC L = idsC (L.take i) ++ idsC (L.drop i) := by rw [← idsC_append, List.take_append_drop]
theorem idsC_take {L : Ids} (h : Is32 L) {i : Nat} (hi : i ≤ L.length) : (idsC L).take (i * 32) = idsC (L.take i) := by
  rw [idsC_split L i, List.take_left' (by rw [idsC_length (h.take i), List.length_take, Nat.min_eq_left hi])]
theorem idsC_drop {L : Ids} (h : Is32 L) {i : Nat} (hi : i ≤ L.length) : (idsC L).drop (i * 32) = idsC (L.drop i) := by
  rw [idsC_split L i, List.drop_left' (by rw [idsC_length (h.take i), List.length_take, Nat.min_eq_left hi])]
theorem idsC_at {L : Ids} (h : Is32 L) {i : Nat} {x : List UInt8} (hi : L[i]? = some x) {j : Nat} {u : Value} (hj : (Lib.byteCells x)[j]? = some u) : (idsC L)[i * 32 + j]? = some u := by
  obtain ⟨hil, rfl⟩ := List.getElem?_eq_some_iff.1 hi
  have hlt := (List.getElem?_eq_some_iff.1 hj).1
  rw [idsC_split L i, List.getElem?_append_right (by rw [idsC_length (h.take i), List.length_take, Nat.min_eq_left (by omega)]; omega), idsC_length (h.take i), List.length_take, Nat.min_eq_left (by omega),
    show i * 32 + j - i * 32 = j by omega, List.drop_eq_getElem_cons hil, idsC, List.flatMap_cons, List.getElem?_append_left hlt]
  exact hj
theorem bytes_one (x : List UInt8) : ∀ u ∈ Lib.byteCells x, u.oneCell' = true := by
  intro u hu
  rw [Lib.byteCells, List.mem_map] at hu
  obtain ⟨b, _, rfl⟩ := hu; rfl
theorem idsC_ones (L : Ids) : ∀ u ∈ idsC L, u.oneCell' = true := by
  intro u hu
  obtain ⟨e, _, hu⟩ := List.mem_flatMap.1 hu
  exact bytes_one e u hu
def zeroId : Value := .agg (List.replicate 32 (Value.int .u8 0)).toArray
theorem infoId : (Tryz.prog.info? IdT).map (fun i => (i.zero, i.size, i.bytes)) = some (some zeroId, 32, 32) := by kernel_rfl
theorem undI : Tryz.prog.underlying 94 = some (.slice (Tryz.prog.elem 94)) := by kernel_rfl
theorem sizeI (w : World) : (sizeOf (Tryz.prog.elem 94)).run Tryz.prog w = .ok 32 w := by kernel_rfl
theorem zeroId_size : zeroId.cells.size = 32 := by kernel_rfl
theorem info_parts' {T : TypeId} {z : Value} {s b : Nat} (h : (Tryz.prog.info? T).map (fun i => (i.zero, i.size, i.bytes)) = some (some z, s, b)) : ∃ i, Tryz.prog.info? T = some i ∧ i.zero = some z ∧ i.size = s ∧ i.bytes = b := by
  obtain ⟨i, hi, e⟩ := Option.map_eq_some_iff.1 h
  injection e with e1 e2
  injection e2 with e2 e3
  exact ⟨i, hi, e1, e2, e3⟩
theorem infoIdX {x : List UInt8} (h : x.length = 32) : (Tryz.prog.info? IdT).map (·.size) = some (Lib.byteCells x).length := by rw [bytes_len, h]; kernel_rfl

/-- A slice of names: it lies somewhere and holds these. -/
structure HoldI (w : World) (g off c : Nat) (L : Ids) : Prop where
  cap : L.length ≤ c
  lt : g < w.heap.size
  at_ : ∀ j u, (idsC L)[j]? = some u → w.cell? ⟨g, off + j, none⟩ = some u
abbrev slI (g off c : Nat) (L : Ids) : Value := .slice (some ⟨g, off, none⟩) L.length c
section
variable {w w' : World} {g off c : Nat} {L : Ids}
theorem HoldI.block (h : HoldI w g off c L) (hs : w.heap.size ≤ w'.heap.size) (hb : w'.heap[g]? = w.heap[g]?) : HoldI w' g off c L :=
  ⟨h.cap, Nat.lt_of_lt_of_le h.lt hs, fun j u hj => (World.cell?_of_block (a := ⟨g, off + j, none⟩) hb).trans (h.at_ j u hj)⟩
theorem HoldI.below (h : HoldI w g off c L) (hb : Below w.heap.size w w') : HoldI w' g off c L := h.block hb.size (hb.block _ h.lt)
theorem HoldI.hold (h : HoldI w g off c L) : HoldN w (slI g off c L) L.length (idsC L) :=
  .inl ⟨_, _, rfl, fun j u hj => by rw [Addr.add_lit]; exact h.at_ j u hj⟩
theorem HoldI.range (h : HoldI w g off c L) (h32 : Is32 L) {i : Nat} {x : List UInt8} (hi : L[i]? = some x) : w.rangeAt g (off + i * 32) (Lib.byteCells x) := fun j u hj => by
  rw [Nat.add_assoc]; exact h.at_ _ _ (idsC_at h32 hi hj)
theorem HoldI.front (h : HoldI w g off c L) {i : Nat} (hi : i ≤ L.length) (h32 : Is32 L) :
    (∀ w', (Instr.slice 94 (slI g off c L) none (some (.int .i64 (i : Int))) none).run Tryz.prog w' = .ok (slI g off c (L.take i)) w') ∧ HoldI w g off c (L.take i) := by
  have hl : (L.take i).length = i := by rw [List.length_take]; omega
  refine ⟨fun w' => ?_, by rw [hl]; have := h.cap; omega, h.lt, fun j u hj => h.at_ j u ?_⟩
  · rw [run_slice_h w' _ _ _ _ undI .i64 _ (by omega) (by have := h.cap; omega), sizeI]
    simp only [Result.andThen, sliced, Int.toNat_natCast, Nat.zero_mul, Nat.sub_zero, Option.map_some, Addr.add_lit, Nat.add_zero]
    rw [slI, hl]
    split <;> rfl
  · rw [idsC_split L i, List.getElem?_append_left (List.getElem?_eq_some_iff.1 hj).1]; exact hj
theorem HoldI.back (h : HoldI w g off c L) {i : Nat} (hi : i ≤ L.length) (h32 : Is32 L) :
    ∃ off' c', (∀ w', (Instr.slice 94 (slI g off c L) (some (.int .i64 (i : Int))) none none).run Tryz.prog w' = .ok (slI g off' c' (L.drop i)) w') ∧ HoldI w g off' c' (L.drop i) := by
  have hl : (L.drop i).length = L.length - i := List.length_drop
  by_cases hc : c = i
  · have h0 : L.drop i = [] := List.drop_eq_nil_of_le (by have := h.cap; omega)
    refine ⟨off, c - i, fun w' => ?_, by rw [h0]; simp, h.lt, fun j u hj => by rw [h0] at hj; cases hj⟩
    rw [run_slice_l w' _ _ _ _ undI .i64 _ (by omega) (by omega), sizeI]
    simp only [Result.andThen, sliced, Int.toNat_natCast, if_pos hc]
    try rw [← hl]
  · refine ⟨off + i * 32, c - i, fun w' => ?_, by rw [hl]; have := h.cap; omega, h.lt, fun j u hj => ?_⟩
    · rw [run_slice_l w' _ _ _ _ undI .i64 _ (by omega) (by omega), sizeI]
      simp only [Result.andThen, sliced, Int.toNat_natCast, if_neg hc, Option.map_some, Addr.add_lit]
      rw [← hl]
    · rw [Nat.add_assoc]
      refine h.at_ _ _ ?_
      rw [idsC_split L i, List.getElem?_append_right (by rw [idsC_length (h32.take i), List.length_take, Nat.min_eq_left hi]; omega), idsC_length (h32.take i), List.length_take, Nat.min_eq_left hi, show i * 32 + j - i * 32 = j by omega]
      exact hj
/-- A row that is not empty, as a slice. -/
theorem hold_own {B : Nat} {v : Value} (h : w.ownsRow B IdT 32 v L.length (idsC L)) (hn : L ≠ []) : ∃ g c, v = slI g 0 c L ∧ HoldI w g 0 c L ∧ B ≤ g := by
  obtain ⟨h1, ⟨rfl, h2⟩ | ⟨g, cap, cur, rfl, a1, a2, a3, a4, a5, a6⟩⟩ := h
  · exact absurd (List.length_eq_zero_iff.1 h2) hn
  · refine ⟨g, cap, rfl, ⟨a3, lt_of_heap a2, fun j u hj => ?_⟩, ?_⟩
    · rw [Nat.zero_add, cell_of_heap a2]
      have hlt := (List.getElem?_eq_some_iff.1 hj).1
      rw [← a6, List.getElem?_take_of_lt (by omega), Array.getElem?_toList] at hj
      exact hj
    · assumption
end
/-- A list of names as an argument. -/
def InI (w : World) (x : Value) (L : Ids) : Prop := (∃ g off c, x = slI g off c L ∧ HoldI w g off c L) ∨ (x = .slice none 0 0 ∧ L = [])
theorem InI.hold {w : World} {x : Value} {L : Ids} (h : InI w x L) : HoldN w x L.length (idsC L) := by
  rcases h with ⟨g, off, c, rfl, h⟩ | ⟨rfl, rfl⟩
  · exact h.hold
  · exact .inr ⟨0, rfl, rfl, rfl⟩
theorem InI.below {w w' : World} {x : Value} {L : Ids} (h : InI w x L) (hb : Below w.heap.size w w') : InI w' x L :=
  h.imp (fun ⟨g, off, c, e, h⟩ => ⟨g, off, c, e, h.below hb⟩) id
theorem InI.form {w : World} {x : Value} {L : Ids} (h : InI w x L) : ∃ a c, x = .slice a L.length c := by
  rcases h with ⟨g, off, c, rfl, _⟩ | ⟨rfl, rfl⟩
  · exact ⟨_, _, rfl⟩
  · exact ⟨_, _, rfl⟩
theorem own_in {w : World} {B : Nat} {v : Value} {L : Ids} (h : w.ownsRow B IdT 32 v L.length (idsC L)) : InI w v L := by
  by_cases hn : L = []
  · subst hn
    obtain ⟨h1, ⟨rfl, h2⟩ | ⟨g, cap, cur, rfl, a1, a2, a3, a4, a5, a6⟩⟩ := h
    · exact .inr ⟨rfl, rfl⟩
    · exact .inl ⟨g, 0, cap, rfl, ⟨a3, lt_of_heap a2, fun j u hj => by cases hj⟩⟩
  · obtain ⟨g, c, e, h2, _⟩ := hold_own h hn
    exact .inl ⟨g, 0, c, e, h2⟩
end Go.Proofs.YtkeegnhjemhblaaGreatDoor.Rb
