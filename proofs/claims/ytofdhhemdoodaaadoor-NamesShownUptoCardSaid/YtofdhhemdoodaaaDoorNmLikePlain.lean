/-
  The pattern law from behind: the last rune of a pattern, the last rune of a text. No program stands in this text.
-/
import Derived.Test.YtofdhhemdoodaaaDoorNmLike
namespace Go.Proofs.YtofdhhemdoodaaaDoor.Nm

theorem like_cons_cons (c : Nat) (p : List Nat) (x : Nat) (l : List Nat) (h : c ≠ 42) : like (c :: p) (x :: l) = ((c == 63 || c == x) && like p l) := by rw [like, if_neg h]

theorem like_star_all : ∀ l, like [42] l = true
  | [] => by simp [like_cons_nil, like_nil_nil]
  | x :: l => by rw [like_star_cons, like_star_all l]; simp

theorem snoc_star_nil : ∀ p, like (p ++ [42]) [] = like p []
  | [] => by rw [List.nil_append, like_star_all, like_nil_nil]
  | d :: p => by rw [List.cons_append, like_cons_nil, like_cons_nil, snoc_star_nil p]

theorem snoc_nil {c : Nat} (h : c ≠ 42) : ∀ p, like (p ++ [c]) [] = false
  | [] => by rw [List.nil_append, like_cons_nil]; simp [h]
  | d :: p => by rw [List.cons_append, like_cons_nil, snoc_nil h p]; simp

theorem snoc_snoc {c x : Nat} (h : c ≠ 42) : ∀ (p l : List Nat), like (p ++ [c]) (l ++ [x]) = ((c == 63 || c == x) && like p l)
  | [], [] => by rw [List.nil_append, List.nil_append, like_cons_cons _ _ _ _ h]
  | [], y :: l => by
    rw [List.nil_append, List.cons_append, like_cons_cons _ _ _ _ h, like_nil_cons]
    have : like [] (l ++ [x]) = false := by cases l <;> simp [like_nil_cons]
    rw [this]; simp
  | d :: p, [] => by
    rw [List.cons_append, List.nil_append]
    by_cases hd : d = 42
    · subst hd
      have ih := snoc_snoc (c := c) (x := x) h p []
      rw [List.nil_append] at ih
      rw [like_star_cons, like_cons_nil, like_cons_nil, snoc_nil h, ih]; simp
    · rw [like_cons_cons _ _ _ _ hd, like_cons_nil, snoc_nil h]; simp [hd]
  | d :: p, y :: l => by
    rw [List.cons_append, List.cons_append]
    by_cases hd : d = 42
    · subst hd
      have i1 := snoc_snoc (c := c) (x := x) h p (y :: l)
      have i2 := snoc_snoc (c := c) (x := x) h (42 :: p) l
      rw [List.cons_append] at i1 i2
      rw [like_star_cons, i1, i2, like_star_cons]
      cases (c == 63 || c == x) <;> simp
    · rw [like_cons_cons _ _ _ _ hd, like_cons_cons _ _ _ _ hd, snoc_snoc h p l]
      cases (c == 63 || c == x) <;> simp
termination_by p l => (p.length, l.length)

theorem snoc_star : ∀ (p l : List Nat) (x : Nat), like (p ++ [42]) (l ++ [x]) = (like p (l ++ [x]) || like (p ++ [42]) l)
  | [], l, x => by rw [List.nil_append, like_star_all, like_star_all]; simp
  | d :: p, [], x => by
    rw [List.cons_append, List.nil_append]
    by_cases hd : d = 42
    · subst hd
      have ih := snoc_star p [] x
      rw [List.nil_append] at ih
      rw [like_star_cons, ih, like_cons_nil, snoc_star_nil, like_star_cons, like_cons_nil]
      cases like p [x] <;> cases like p [] <;> rfl
    · rw [like_cons_cons _ _ _ _ hd, like_cons_cons _ _ _ _ hd, like_cons_nil, snoc_star_nil]
      simp [hd]
  | d :: p, y :: l, x => by
    rw [List.cons_append, List.cons_append]
    by_cases hd : d = 42
    · subst hd
      have i1 := snoc_star p (y :: l) x
      have i2 := snoc_star (42 :: p) l x
      rw [List.cons_append] at i1 i2
      rw [like_star_cons, i1, i2, like_star_cons, like_star_cons]
      cases like p (y :: (l ++ [x])) <;> cases like (p ++ [42]) (y :: l) <;> cases like (42 :: p) (l ++ [x]) <;> cases like (42 :: (p ++ [42])) l <;> rfl
    · rw [like_cons_cons _ _ _ _ hd, like_cons_cons _ _ _ _ hd, like_cons_cons _ _ _ _ hd, snoc_star p l x]
      cases (d == 63 || d == y) <;> simp
termination_by p l => (p.length, l.length)

theorem like_nil_take (l : List Nat) (k : Nat) (h : k ≤ l.length) : like [] (l.take k) = decide (k = 0) := by
  cases k with
  | zero => simp [like_nil_nil]
  | succ k =>
    cases l with
    | nil => simp at h
    | cons x l => simp [like_nil_cons]

/-- A row of the table, out of the one before it. -/
theorem row_star (p l : List Nat) (i k : Nat) (hi : p[i]? = some 42) (hk : k ≤ l.length) :
    like (p.take (i + 1)) (l.take k) = (like (p.take i) (l.take k) || (decide (0 < k) && like (p.take (i + 1)) (l.take (k - 1)))) := by
  have e : p.take (i + 1) = p.take i ++ [42] := by rw [List.take_add_one, hi]; rfl
  rw [e]
  cases k with
  | zero => rw [List.take_zero, snoc_star_nil]; simp
  | succ k =>
    have e2 : l.take (k + 1) = l.take k ++ [l[k]] := by rw [List.take_add_one, List.getElem?_eq_getElem (by omega)]; rfl
    rw [e2, snoc_star]; simp
theorem row_zero (p l : List Nat) (i c : Nat) (hi : p[i]? = some c) (hc : c ≠ 42) : like (p.take (i + 1)) (l.take 0) = false := by
  have e : p.take (i + 1) = p.take i ++ [c] := by rw [List.take_add_one, hi]; rfl
  rw [e, List.take_zero, snoc_nil hc]
theorem row_step (p l : List Nat) (i k c x : Nat) (hi : p[i]? = some c) (hc : c ≠ 42) (hx : l[k]? = some x) : like (p.take (i + 1)) (l.take (k + 1)) = (like (p.take i) (l.take k) && (c == 63 || c == x)) := by
  have e : p.take (i + 1) = p.take i ++ [c] := by rw [List.take_add_one, hi]; rfl
  have e2 : l.take (k + 1) = l.take k ++ [x] := by rw [List.take_add_one, hx]; rfl
  rw [e, e2, snoc_snoc hc, Bool.and_comm]
end Go.Proofs.YtofdhhemdoodaaaDoor.Nm
