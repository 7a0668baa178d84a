import Derived.Test.YtkeegnhjemhblaaGreatDoorZPRowKit
import Derived.Maps.Ext
set_option linter.unusedSimpArgs false
set_option linter.unusedVariables false
/-
  A book's branches as a rising list: what the reference does with them, in plain words.
-/
namespace Go.Proofs.YtkeegnhjemhblaaGreatDoor.Rb
open Go.RowKit Go.Maps Go.WideMaps Go.Proofs.YtkeegnhjemhblaaGreatDoor.Rf

section
variable {α : Type}
/-- Rising by key. -/
def SrtM (K : MV α) : Prop := K.Pairwise fun a b => lt a.1 b.1 = true
theorem lt_irr (a : List UInt8) : lt a a = false := WideShapes.before_irrefl _
theorem lt_tr {a b c : List UInt8} (h : lt a b = true) (k : lt b c = true) : lt a c = true := WideShapes.before_trans h k
theorem lt_asym {a b : List UInt8} (h : lt a b = true) : lt b a = false := by
  cases h2 : lt b a with
  | false => rfl
  | true => have := lt_tr h h2; rw [lt_irr] at this; cases this
theorem lt_tot {a b : List UInt8} (h : a ≠ b) : lt a b = true ∨ lt b a = true := ChangeMaps.before_total ⟨_, rfl⟩ ⟨_, rfl⟩ (fun e => h (by injection e))
/-- A key's place. -/
def atN (K : MV α) (k : List UInt8) : Option Nat := K.findIdx? fun p => p.1 == k
/-- Where a key would stand. -/
def putAt (K : MV α) (k : List UInt8) : Nat := (K.takeWhile fun p => lt p.1 k).length
theorem getM_at (K : MV α) (k : List UInt8) : getM K k = (atN K k).bind fun i => (K[i]?).map (·.2) := by
  induction K with
  | nil => rfl
  | cons y r ih =>
    rw [getM, atN, List.find?_cons, List.findIdx?_cons]
    cases h : y.1 == k with
    | true => rfl
    | false =>
      have h2 : (r.find? fun p => p.1 == k).map (·.2) = getM r k := rfl
      simp only [Bool.false_eq_true, if_false]
      rw [h2, ih, atN]
      cases r.findIdx? (fun p => p.1 == k) <;> simp
theorem at_some {K : MV α} {k : List UInt8} {i : Nat} (h : atN K k = some i) : ∃ n, K[i]? = some (k, n) ∧ getM K k = some n := by
  obtain ⟨hi, hk, _⟩ := List.findIdx?_eq_some_iff_getElem.1 h
  have hk2 : (K[i]).1 = k := by simpa using hk
  refine ⟨(K[i]).2, ?_, ?_⟩
  · rw [List.getElem?_eq_getElem hi, ← hk2]
  · rw [getM_at, h]; simp [List.getElem?_eq_getElem hi]
theorem at_none {K : MV α} {k : List UInt8} (h : atN K k = none) : getM K k = none ∧ ∀ p ∈ K, p.1 ≠ k := by
  refine ⟨by rw [getM_at, h]; rfl, fun p hp hk => ?_⟩
  have := List.findIdx?_eq_none_iff.1 h p hp
  simp [hk] at this
theorem ins_take (k : List UInt8) (n : α) : ∀ {K : MV α}, (∀ p ∈ K, p.1 ≠ k) → insM k n K = K.take (putAt K k) ++ (k, n) :: K.drop (putAt K k)
  | [], _ => rfl
  | y :: r, h => by
    rw [insM, putAt, List.takeWhile_cons]
    rcases lt_tot (h y (by simp)) with h1 | h1
    · rw [if_neg (by rw [lt_asym h1]; decide), if_pos h1, List.length_cons, List.take_succ_cons, List.drop_succ_cons, ins_take k n (fun p hp => h p (by simp [hp]))]
      rfl
    · rw [if_pos h1, if_neg (by rw [lt_asym h1]; decide)]; rfl
theorem del_none {K : MV α} {k : List UInt8} (h : ∀ p ∈ K, p.1 ≠ k) : delM K k = K := by
  rw [delM, List.filter_eq_self]; intro p hp; simpa using h p hp
/-- A branch more. -/
theorem put_new {K : MV α} {k : List UInt8} {n : α} (h : atN K k = none) : putM K k n = K.take (putAt K k) ++ (k, n) :: K.drop (putAt K k) := by
  have h2 := (at_none h).2
  rw [putM, del_none h2, ins_take k n h2]
theorem del_at {K : MV α} {k : List UInt8} {i : Nat} (hs : SrtM K) (h : atN K k = some i) : delM K k = K.take i ++ K.drop (i + 1) := by
  obtain ⟨n, hn, _⟩ := at_some h
  obtain ⟨hi, hk⟩ := List.getElem?_eq_some_iff.1 hn
  have hsplit : K = K.take i ++ (k, n) :: K.drop (i + 1) := by rw [← hk, ← List.drop_eq_getElem_cons hi, List.take_append_drop]
  have hp := hs
  rw [hsplit, SrtM, List.pairwise_append, List.pairwise_cons] at hp
  obtain ⟨_, ⟨h2, _⟩, h3⟩ := hp
  conv => lhs; rw [hsplit]
  rw [delM, List.filter_append, List.filter_cons]
  have e1 : (K.take i).filter (fun p => !(p.1 == k)) = K.take i := List.filter_eq_self.2 (fun p hp => by
    have := h3 p hp (k, n) (by simp)
    have hne : p.1 ≠ k := fun e => by rw [e, lt_irr] at this; cases this
    simpa using hne)
  have e2 : (K.drop (i + 1)).filter (fun p => !(p.1 == k)) = K.drop (i + 1) := List.filter_eq_self.2 (fun p hp => by
    have := h2 p hp
    have hne : p.1 ≠ k := fun e => by rw [e, lt_irr] at this; cases this
    simpa using hne)
  rw [e1, e2]; simp
/-- A branch written. -/
theorem put_at {K : MV α} {k : List UInt8} {i : Nat} {n : α} (hs : SrtM K) (h : atN K k = some i) : putM K k n = K.set i (k, n) := by
  obtain ⟨m, hm, _⟩ := at_some h
  obtain ⟨hi, hk⟩ := List.getElem?_eq_some_iff.1 hm
  have hsplit : K = K.take i ++ (k, m) :: K.drop (i + 1) := by rw [← hk, ← List.drop_eq_getElem_cons hi, List.take_append_drop]
  have hp := hs
  rw [hsplit, SrtM, List.pairwise_append, List.pairwise_cons] at hp
  obtain ⟨_, ⟨h2, _⟩, h3⟩ := hp
  have hne : ∀ p ∈ K.take i ++ K.drop (i + 1), p.1 ≠ k := fun p hp e => by
    rcases List.mem_append.1 hp with hp | hp
    · have := h3 p hp (k, m) (by simp); rw [e, lt_irr] at this; cases this
    · have := h2 p hp; rw [e, lt_irr] at this; cases this
  have hpa : putAt (K.take i ++ K.drop (i + 1)) k = i := by
    rw [putAt, List.takeWhile_append_of_pos (fun p hp => h3 p hp (k, m) (by simp))]
    have : (K.drop (i + 1)).takeWhile (fun p => lt p.1 k) = [] := by
      cases hd : K.drop (i + 1) with
      | nil => rfl
      | cons y r =>
        have := h2 y (by rw [hd]; simp)
        rw [List.takeWhile_cons, if_neg (by rw [lt_asym this]; decide)]
    rw [this, List.append_nil, List.length_take, Nat.min_eq_left (by omega)]
  rw [putM, del_at hs h, ins_take k n hne, hpa, List.take_left' (by rw [List.length_take]; omega), List.drop_left' (by rw [List.length_take]; omega), List.set_eq_take_append_cons_drop, if_pos hi]
theorem ins_srt {k : List UInt8} {n : α} {K : MV α} (hs : SrtM K) (h : ∀ p ∈ K, p.1 ≠ k) : SrtM (insM k n K) := by
  induction K with
  | nil => exact List.pairwise_singleton _ _
  | cons y r ih =>
    obtain ⟨h1, h2⟩ := List.pairwise_cons.1 hs
    rw [insM]; split
    · next hl => exact List.pairwise_cons.2 ⟨fun p hp => by
        rcases List.mem_cons.1 hp with rfl | hp
        · exact hl
        · exact lt_tr hl (h1 p hp), hs⟩
    · next hl =>
      refine List.pairwise_cons.2 ⟨fun p hp => ?_, ih h2 (fun p hp => h p (by simp [hp]))⟩
      rcases mem_ins.1 hp with rfl | hp
      · exact (lt_tot (h y (by simp))).resolve_right (fun h3 => hl h3)
      · exact h1 p hp
theorem del_srt {K : MV α} (hs : SrtM K) (k : List UInt8) : SrtM (delM K k) := List.Pairwise.filter _ hs
theorem put_srt {K : MV α} (hs : SrtM K) (k : List UInt8) (n : α) : SrtM (putM K k n) := ins_srt (del_srt hs k) (fun p hp => (mem_del.1 hp).2)
theorem srt_map {β : Type} (f : α → β) {K : MV α} : SrtM (mapM' f K) ↔ SrtM K := by
  rw [SrtM, SrtM, mapM', List.pairwise_map]
end
theorem lt_less : ∀ a b : List UInt8, Op.bytesLess a b = lt a b
  | [], [] => rfl
  | [], _ :: _ => rfl
  | _ :: _, [] => rfl
  | a :: r, b :: s => by
    show (decide (a < b) || (a == b && Op.bytesLess r s)) = (decide (a < b) || (a == b && lt r s))
    rw [lt_less r s]
theorem takeWhile_stop {α : Type} (f : α → Bool) : ∀ (l : List α) (q : α), l[(l.takeWhile f).length]? = some q → f q = false
  | [], q, h => by cases h
  | y :: r, q, h => by
    rw [List.takeWhile_cons] at h
    cases hf : f y with
    | true =>
      rw [hf] at h
      exact takeWhile_stop f r q h
    | false =>
      rw [hf] at h
      obtain rfl := Option.some.inj h
      exact hf
theorem takeWhile_in {α : Type} (f : α → Bool) : ∀ (l : List α) (j : Nat) (q : α), l[j]? = some q → j < (l.takeWhile f).length → f q = true
  | [], _, q, h, _ => by cases h
  | y :: r, j, q, h, hj => by
    rw [List.takeWhile_cons] at hj
    cases hf : f y with
    | false => rw [hf] at hj; simp at hj
    | true =>
      rw [hf] at hj
      cases j with
      | zero => obtain rfl := Option.some.inj h; exact hf
      | succ j => exact takeWhile_in f r j q h (by simpa using hj)
/-- A map in memory rises. -/
theorem srt_own {w : World} {b n : Nat} {α : Type} {enc : α → Value} {m : MV α} (h : w.ownsMap Tryz.prog 9 Rv b n (toD enc m)) : SrtM m := by
  obtain ⟨es, he, hp, _⟩ := h.canon law
  rw [toD] at he
  injection he with he
  rw [← he, List.pairwise_map] at hp
  exact hp
end Go.Proofs.YtkeegnhjemhblaaGreatDoor.Rb
