/-
  The contracts of the disk's List and Files.
-/
import Derived.Test.YtcfdfpjemonhoaaDkPull
import Derived.StillTailTactics
import Derived.Lib.BufferRead
import Derived.Lib.SlKeysI
namespace Go.Proofs.Ytcfdfpjemonhoaa.Dk
open Go.RowKit Go.Maps Go.WideMaps

theorem ba_data (l : List UInt8) : (⟨l.toArray⟩ : ByteArray).data.toList = l := by simp

/-- The names of a directory, in order. -/
def names (m : DM) : List (List UInt8) := (m.map (·.1)).mergeSort (fun x y => decide (x ≤ y))
theorem names_perm (m : DM) : (names m).Perm (m.map (·.1)) := List.mergeSort_perm _ _
theorem strKeys_toD (m : DM) : strKeys (toD m) = m.map (·.1) := by
  show (m.map fun p => ((Lit.string p.1, DataW.lit (.int .i64 (p.2 : Int))) : Lit × DataW Unit)).map (fun p => strOf p.1) = _
  rw [List.map_map]; rfl
theorem names_of {m : DM} {ss : List (List UInt8)} (h : ss.Perm (strKeys (toD m))) : ss.mergeSort (fun x y => decide (x ≤ y)) = names m := by
  rw [strKeys_toD] at h
  exact mergeSort_of_perm h
theorem names_length (m : DM) : (names m).length = m.length := by rw [(names_perm m).length_eq, List.length_map]
theorem names_get {m : DM} {k : List UInt8} (h : k ∈ names m) : ∃ n, getM m k = some n := by
  have h1 := (names_perm m).mem_iff.1 h
  obtain ⟨p, hp, rfl⟩ := List.mem_map.1 h1
  rw [getM]
  cases hf : m.find? fun q => q.1 == p.1 with
  | some q => exact ⟨q.2, rfl⟩
  | none =>
    have := List.find?_eq_none.1 hf p hp
    simp at this
theorem names_size {w : World} {b n : Nat} {m : DM} (h : Dir w b n m) {k : List UInt8} (hk : k ∈ names m) : k.length ≤ maxLen := by
  have h1 := (names_perm m).mem_iff.1 hk
  rw [← strKeys_toD] at h1
  exact strKeys_le h Try.underlying9 k h1

theorem row_mono {w : World} {B B' : Nat} {e : TypeId} {size : Nat} {v : Value} {n : Nat} {xs : List Value} (h : w.ownsRow B e size v n xs) (hB : B' ≤ B) : w.ownsRow B' e size v n xs := by
  obtain ⟨h1, h2 | ⟨g, cap, cur, rfl, hg, rest⟩⟩ := h
  · exact ⟨h1, .inl h2⟩
  · exact ⟨h1, .inr ⟨g, cap, cur, rfl, Nat.le_trans hB hg, rest⟩⟩
theorem row_cells {w : World} {B : Nat} {e : TypeId} {v : Value} {n : Nat} {xs : List Value} (h : w.ownsRow B e 1 v n xs) (hn : n ≠ 0) : ∃ g cap, v = .slice (some ⟨g, 0, none⟩) n cap ∧ g < w.heap.size ∧ B ≤ g ∧ ∀ (j : Nat) x, xs[j]? = some x → w.cell? ⟨g, j, none⟩ = some x := by
  obtain ⟨h1, ⟨_, h2⟩ | ⟨g, cap, cur, rfl, hg, hh, _, _, _, ht⟩⟩ := h
  · exact absurd h2 hn
  · refine ⟨g, cap, rfl, lt_of_heap hh, hg, fun j x hj => ?_⟩
    have hjl : j < n := by have := (List.getElem?_eq_some_iff.1 hj).1; omega
    rw [cell_of_heap hh]
    have := congrArg (fun l => l[j]?) ht
    simp only [Nat.mul_one] at this
    rw [List.getElem?_take_of_lt hjl, Array.getElem?_toList, hj] at this
    exact this

/-- What List leaves. -/
def ListPost (B : Nat) (Y : Lay) (w : World) (r : (List (List UInt8) × Int) × Dk) (e : Ending) (w' : World) : Prop :=
  ∃ kc' v, e = .returned (.tuple #[v, .int .i64 r.1.2]) ∧ w'.ownsRow w.heap.size 9 1 v r.1.1.length (r.1.1.map encStr) ∧ DiskAt B w' { Y with kc := kc' } r.2 ∧ Turn [Y.g] w w'

def listN (D : Dk) : (List (List UInt8) × Int) × Dk :=
  let (e, D) := count D
  if e ≠ 0 then (([], e), D) else ((names D.now, 0), D)

set_option maxHeartbeats 2000000 in
set_option maxRecDepth 100000 in
theorem list_any (B : Nat) (w : World) (Y : Lay) (D : Dk) (h : DiskAt B w Y D) (ok : Ok D) :
    Calls Try.prog 16 #[ptr Y.g] w (ListPost B Y w (listN D)) := by
  have C := Lib.hid (count_any B _ Y D h ok.calls ok.left)
  obtain ⟨R, hR⟩ : ∃ R, R = listN D := ⟨_, rfl⟩
  have e0 : R = (let (e, D) := count D; if e ≠ 0 then (([], e), D) else ((names D.now, 0), D)) := hR
  obtain ⟨q1, q2, _⟩ := count_now D
  have hnow : (count D).2.now.length ≤ 4096 := by rw [q1]; exact ok.nnow
  rw [← hR]
  obtain ⟨⟨r, D'⟩, hcd⟩ : ∃ x, x = count D := ⟨_, rfl⟩
  rw [← hcd] at e0 C hnow
  dsimp only at e0 hnow
  have E0 := Lib.hid e0
  clear e0 hcd hR h ok q1 q2
  unfold ptr
  go_enter Try.func16, Try.ntmps16
  go_wp2_with fail
  refine C.out.mono ?_
  rintro e w1 ⟨kc', rfl, h1, ht⟩
  dsimp only at h1
  have H1 := Lib.hid h1; have HT := Lib.hid ht
  by_cases hr : r = 0
  · subst hr
    have c3 : w1.cell? ⟨Y.g, 3, none⟩ = some (.map (some Y.bn)) := h1.cell 3
    have ER : Hid (R = ((names D'.now, 0), D')) := Lib.hid (by rw [E0.out, if_neg (by simp)])
    have KE := Lib.hid (Try.keys (some Y.bn) w1)
    have SK := Lib.hid (Try.sortedKeys Y.bn 1000000 _ _ w1 h1.now (by rw [toD_size]; unfold maxLen; omega) (by rw [toD_size]; omega))
    clear h1 ht C E0
    go_wp2_with (first
      | (go_at_call 29; refine KE.out.mono ?_; rintro e w2 ⟨rfl, rfl⟩)
      | (go_at_call 28; refine SK.out.mono ?_; rintro e w3 ⟨v, ss, rfl, hp, ho, _, hb⟩; rw [names_of hp] at ho; have HP := Lib.hid hp; have HO := Lib.hid ho; have HB := Lib.hid hb; clear hp ho hb))
    go_ret2
    rw [ER.out]
    have hlen : (names D'.now).length = ss.length := by rw [← names_of HP.out, List.length_mergeSort]
    have hb1 : Below w1.heap.size w1 w3 := by
      have hb0 : Below w1.heap.size w1 (w1.alloc (.cells #[.map (some Y.bn)] 59)) := (Below.refl _ _).alloc (Nat.le_refl _) _
      exact hb0.trans (HB.out.mono (by rw [one_size]; omega))
    refine ⟨kc', _, rfl, ?_, H1.out.below hb1, HT.out.trans (Turn.of_below (X := []) hb1) (by simp)⟩
    show w3.ownsRow w.heap.size _ 1 _ (names D'.now).length _
    rw [hlen]
    exact row_mono HO.out (by have := HT.out.size; rw [one_size]; omega)
  · have hri : (r == 0) = false := by simpa using hr
    have ER : Hid (R = (([], r), D')) := Lib.hid (by rw [E0.out, if_pos hr])
    clear h1 ht C hr
    go_wp2
    go_ret2
    rw [ER.out]
    exact ⟨kc', _, rfl, ⟨rfl, .inl ⟨rfl, rfl⟩⟩, H1.out, HT.out⟩
end Go.Proofs.Ytcfdfpjemonhoaa.Dk
