import Derived.Test.YthcjjekkjbidlaaGreatDoorZPStAll
set_option linter.unusedSimpArgs false
set_option linter.unusedVariables false
/-
  Bytes as digits and back, in plain words.
-/
namespace Go.Proofs.YthcjjekkjbidlaaGreatDoor.Sh

/-- A digit's letter. -/
def hx (n : Nat) : UInt8 := if n < 10 then UInt8.ofNat (48 + n) else UInt8.ofNat (87 + n)
/-- What a letter says; 16: nothing. -/
def dg (c : UInt8) : Nat := if 48 ≤ c.toNat ∧ c.toNat ≤ 57 then c.toNat - 48 else if 97 ≤ c.toNat ∧ c.toNat ≤ 102 then c.toNat - 87 else 16
def hexs (l : List UInt8) : List UInt8 := l.flatMap fun c => [hx (c.toNat / 16), hx (c.toNat % 16)]
theorem hexs_length (l : List UInt8) : (hexs l).length = 2 * l.length := by
  induction l with
  | nil => rfl
  | cons c l ih => rw [hexs, List.flatMap_cons, List.length_append, ← hexs, ih]; simp; omega
theorem hexs_snoc (l : List UInt8) (c : UInt8) : hexs (l ++ [c]) = hexs l ++ [hx (c.toNat / 16), hx (c.toNat % 16)] := by simp [hexs]
/-- Digits as bytes. -/
def unhx : List UInt8 → Option (List UInt8)
  | [] => some []
  | [_] => none
  | a :: b :: r => if dg a < 16 ∧ dg b < 16 then (unhx r).map (UInt8.ofNat (16 * dg a + dg b) :: ·) else none
theorem unhx_odd : ∀ (l : List UInt8), l.length % 2 = 1 → unhx l = none
  | [], h => by cases h
  | [_], _ => rfl
  | a :: b :: r, h => by
    rw [unhx, unhx_odd r (by simp only [List.length_cons] at h; omega)]
    split <;> rfl
theorem unhx_length : ∀ (l m : List UInt8), unhx l = some m → l.length = 2 * m.length
  | [], m, h => by cases h; rfl
  | [_], _, h => by cases h
  | a :: b :: r, m, h => by
    rw [unhx] at h
    split at h
    · cases hr : unhx r with
      | none => rw [hr] at h; cases h
      | some q =>
        rw [hr] at h
        injection h with h
        subst h
        have := unhx_length r q hr
        simp; omega
    · cases h
/-- The digits ahead were read; how those behind go on. -/
theorem unhx_none {r : List UInt8} {a b : UInt8} (h : ¬ (dg a < 16 ∧ dg b < 16)) : ∀ (f : List UInt8), f.length % 2 = 0 → unhx (f ++ a :: b :: r) = none
  | [], _ => by rw [List.nil_append, unhx, if_neg h]
  | [_], e => by cases e
  | x :: y :: f, e => by
    rw [List.cons_append, List.cons_append, unhx, unhx_none h f (by simp only [List.length_cons] at e; omega)]
    split <;> rfl
theorem unhx_some {a b : UInt8} (h : dg a < 16 ∧ dg b < 16) : ∀ (f m : List UInt8), unhx f = some m → unhx (f ++ [a, b]) = some (m ++ [UInt8.ofNat (16 * dg a + dg b)])
  | [], m, e => by cases e; rw [List.nil_append, unhx, if_pos h]; rfl
  | [_], _, e => by cases e
  | x :: y :: f, m, e => by
    rw [unhx] at e
    split at e
    · next hxy =>
      cases hr : unhx f with
      | none => rw [hr] at e; cases e
      | some q =>
        rw [hr] at e
        injection e with e
        subst e
        rw [List.cons_append, List.cons_append, unhx, if_pos hxy, unhx_some h f q hr]
        rfl
    · cases e
/-- All are digits, and there are evenly many. -/
theorem unhx_all : ∀ (l : List UInt8), (unhx l).isSome = (decide (l.length % 2 = 0) && l.all fun c => decide (dg c < 16))
  | [] => rfl
  | [_] => by rw [unhx]; simp
  | a :: b :: r => by
    rw [unhx, List.all_cons, List.all_cons, List.length_cons, List.length_cons, show (r.length + 1 + 1) % 2 = r.length % 2 by omega]
    have ih := unhx_all r
    by_cases h : dg a < 16 ∧ dg b < 16
    · rw [if_pos h, Option.isSome_map, ih, decide_eq_true h.1, decide_eq_true h.2]; simp
    · rw [if_neg h]
      by_cases ha : dg a < 16
      · have hb : ¬ dg b < 16 := fun hb => h ⟨ha, hb⟩
        simp [hb]
      · simp [ha]
end Go.Proofs.YthcjjekkjbidlaaGreatDoor.Sh
