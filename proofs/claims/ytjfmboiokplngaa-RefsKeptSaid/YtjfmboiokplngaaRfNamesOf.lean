/-
  The names of a book's branches, in order: plain, and the contract of Branches.
-/
import Derived.Test.YtjfmboiokplngaaRfCopy
import Derived.Test.YtjfmboiokplngaaRfShelf
import Derived.Lib.BufferRead
import Derived.Lib.SlKeysI
namespace Go.Proofs.Ytjfmboiokplngaa.Rf
open Go.RowKit Go.Maps Go.WideMaps
variable {X : Spect}

/-- The keys of a map, in order. -/
def names {α : Type} (m : MV α) : List (List UInt8) := (m.map (·.1)).mergeSort (fun x y => decide (x ≤ y))
theorem names_perm {α : Type} (m : MV α) : (names m).Perm (m.map (·.1)) := List.mergeSort_perm _ _
theorem strKeys_toD {α : Type} (enc : α → Value) (m : MV α) : strKeys (toD enc m) = m.map (·.1) := by
  show (m.map fun p => ((Lit.string p.1, DataW.held (enc p.2)) : Lit × DataW Value)).map (fun p => strOf p.1) = _
  rw [List.map_map]; rfl
theorem names_of {α : Type} {enc : α → Value} {m : MV α} {ss : List (List UInt8)} (h : ss.Perm (strKeys (toD enc m))) : ss.mergeSort (fun x y => decide (x ≤ y)) = names m := by
  rw [strKeys_toD] at h
  exact mergeSort_of_perm h
theorem names_length {α : Type} (m : MV α) : (names m).length = m.length := by rw [(names_perm m).length_eq, List.length_map]
theorem names_get {α : Type} {m : MV α} {k : List UInt8} (h : k ∈ names m) : ∃ n, getM m k = some n := by
  have h1 := (names_perm m).mem_iff.1 h
  obtain ⟨p, hp, rfl⟩ := List.mem_map.1 h1
  rw [getM]
  cases hf : m.find? fun q => q.1 == p.1 with
  | some q => exact ⟨q.2, rfl⟩
  | none =>
    have := List.find?_eq_none.1 hf p hp
    simp at this
theorem names_map {α β : Type} (f : α → β) (m : MV α) : names (mapM' f m) = names m := by
  simp [names, mapM', List.map_map, Function.comp_def]

theorem one_size (w : World) (A : Obj) : (w.alloc A).heap.size = w.heap.size + 1 := by show (w.heap.push _).size = _; simp

set_option maxHeartbeats 2000000 in
set_option maxRecDepth 100000 in
theorem branches_any (B : Nat) (w : World) (g b : Nat) (Z : BM) (h : BookAt X B w g b Z) (ok : OkB (plainB Z)) :
    Calls Try.prog 13 #[ptr g] w fun e w' => ∃ v, e = .returned v ∧ w'.ownsRow w.heap.size 9 1 v (names (plainB Z)).length ((names (plainB Z)).map encStr) ∧ Below w.heap.size w w' := by
  have c0 : w.cell? ⟨g, 0, none⟩ = some (.map (some b)) := cell_of_heap h.book
  have hn : Z.length ≤ 64 := by rw [← plain_length]; exact ok.size
  have KE := Lib.hid (Try.keys (some b) w)
  have SK := Lib.hid (Try.sortedKeys b 1000000 _ _ w h.map (by rw [toD_size]; unfold maxLen; omega) (by rw [toD_size]; omega))
  clear h ok
  unfold ptr at *
  go_enter Try.func13, Try.ntmps13
  go_wp2_with (first
    | (go_at_call 24; refine KE.out.mono ?_; rintro e w2 ⟨rfl, rfl⟩)
    | (go_at_call 23; refine SK.out.mono ?_; rintro e w3 ⟨v, ss, rfl, hp, ho, _, hb⟩; rw [names_of hp] at ho; have HP := Lib.hid hp; have HO := Lib.hid ho; have HB := Lib.hid hb; clear hp ho hb))
  go_ret
  have e1 : names (plainB Z) = names Z := names_map _ _
  have hlen : (names Z).length = ss.length := by rw [← names_of HP.out, List.length_mergeSort]
  have hb0 : Below w.heap.size w (w.alloc (.cells #[.map (some b)] 41)) := (Below.refl _ _).alloc (Nat.le_refl _) _
  refine ⟨v, rfl, ?_, hb0.trans (HB.out.mono (by rw [one_size]; omega))⟩
  rw [e1, hlen]
  exact row_mono HO.out (by rw [one_size]; omega)
end Go.Proofs.Ytjfmboiokplngaa.Rf
