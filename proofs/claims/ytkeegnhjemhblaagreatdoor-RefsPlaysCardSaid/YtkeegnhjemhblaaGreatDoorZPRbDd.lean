import Derived.Test.YtkeegnhjemhblaaGreatDoorZPRbRise
set_option linter.unusedSimpArgs false
set_option linter.unusedVariables false
/-
  The plain law of the doubles dropped: of each run of equal neighbours the first stays.
-/
namespace Go.Proofs.YtkeegnhjemhblaaGreatDoor.Rb
open Go.RowKit Go.Maps Go.WideMaps Go.Proofs.YtkeegnhjemhblaaGreatDoor.Rf

/-- Does the name at place i stay? -/
def stays (l : List (List UInt8)) (i : Nat) : Bool := i == 0 || !(l[i]? == l[i - 1]?)
/-- What stays of the first n. -/
def ddN (l : List (List UInt8)) (n : Nat) : List (List UInt8) := (List.range n).filterMap fun i => if stays l i then l[i]? else none
theorem ddN_succ (l : List (List UInt8)) (n : Nat) : ddN l (n + 1) = ddN l n ++ (if stays l n then l[n]?.toList else []) := by
  rw [ddN, List.range_succ, List.filterMap_append, ← ddN]
  congr 1
  by_cases h : stays l n = true
  · cases hn : l[n]? <;> simp [h, hn]
  · simp [h]
theorem ddN_in {l : List (List UInt8)} {n : Nat} {x : List UInt8} (hs : stays l n = true) (hx : l[n]? = some x) : ddN l (n + 1) = ddN l n ++ [x] := by
  rw [ddN_succ, if_pos hs, hx]; rfl
theorem ddN_out {l : List (List UInt8)} {n : Nat} (hs : stays l n = false) : ddN l (n + 1) = ddN l n := by
  rw [ddN_succ, if_neg (by rw [hs]; decide), List.append_nil]
theorem ddN_len (l : List (List UInt8)) (n : Nat) : (ddN l n).length ≤ n := by
  have := List.length_filterMap_le (fun i => if stays l i then l[i]? else none) (List.range n)
  rwa [List.length_range] at this
theorem stays_ne {l : List (List UInt8)} {i : Nat} {x y : List UInt8} (hx : l[i + 1]? = some x) (hy : l[i]? = some y) : stays l (i + 1) = !(x == y) := by
  rw [stays, Nat.add_sub_cancel, hx, hy]; rfl
/-- The first n are all kept while no neighbours are equal. -/
theorem ddN_all {l : List (List UInt8)} {n : Nat} (hn : n ≤ l.length) (h : ∀ i, i < n → stays l i = true) : ddN l n = l.take n := by
  induction n with
  | zero => rfl
  | succ n ih =>
    rw [ddN_in (h n (by omega)) (List.getElem?_eq_getElem (by omega)), ih (by omega) (fun i hi => h i (by omega)), List.take_add_one, List.getElem?_eq_getElem (by omega)]
    rfl
theorem ddN_mem {l : List (List UInt8)} {n : Nat} {x : List UInt8} (h : x ∈ ddN l n) : x ∈ l := by
  obtain ⟨i, _, hi⟩ := List.mem_filterMap.1 h
  by_cases hs : stays l i = true
  · rw [if_pos hs] at hi; exact List.mem_of_getElem? hi
  · rw [if_neg hs] at hi; cases hi
end Go.Proofs.YtkeegnhjemhblaaGreatDoor.Rb
