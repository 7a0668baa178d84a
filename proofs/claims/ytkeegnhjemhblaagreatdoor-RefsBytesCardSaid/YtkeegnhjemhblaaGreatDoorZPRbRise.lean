import Derived.Test.YtkeegnhjemhblaaGreatDoorZPRbHeld
set_option linter.unusedSimpArgs false
set_option linter.unusedVariables false
/-
  The plain law of a list of names in rising order: two such lists that are permutations are equal; the merge of two.
-/
namespace Go.Proofs.YtkeegnhjemhblaaGreatDoor.Rb
open Go.RowKit Go.Maps Go.WideMaps Go.Proofs.YtkeegnhjemhblaaGreatDoor.Rf

/-- Rising, doubles allowed. -/
def Ris (l : List (List UInt8)) : Prop := l.Pairwise fun a b => lt b a = false
theorem lt_tri : ∀ {a b : List UInt8}, lt a b = false → lt b a = false → a = b
  | [], [], _, _ => rfl
  | [], _ :: _, h, _ => by cases h
  | _ :: _, [], _, h => by cases h
  | u :: r, v :: s, h, k => by
    have h1 : (decide (u < v) || (u == v && lt r s)) = false := h
    have k1 : (decide (v < u) || (v == u && lt s r)) = false := k
    simp only [Bool.or_eq_false_iff, decide_eq_false_iff_not, Bool.and_eq_false_iff, beq_eq_false_iff_ne] at h1 k1
    obtain ⟨h1, h2⟩ := h1
    obtain ⟨k1, k2⟩ := k1
    have e : u = v := UInt8.le_antisymm (UInt8.not_lt.1 k1) (UInt8.not_lt.1 h1)
    subst e
    rw [lt_tri (h2.resolve_left (fun x => x rfl)) (k2.resolve_left (fun x => x rfl))]
theorem ris_eq {l m : List (List UInt8)} (hp : l.Perm m) (hl : Ris l) (hm : Ris m) : l = m := by
  refine List.Perm.eq_of_pairwise (le := fun a b => lt b a = false) ?_ hl hm hp
  intro a b _ _ h1 h2
  exact lt_tri h2 h1
/-- The merge's state: what is out, what is left of both. -/
structure Mrg (L out A B : List (List UInt8)) : Prop where
  perm : (out ++ (A ++ B)).Perm L
  out_ : Ris out
  a : Ris A
  b : Ris B
  oa : ∀ x ∈ out, ∀ y ∈ A, lt y x = false
  ob_ : ∀ x ∈ out, ∀ y ∈ B, lt y x = false
theorem lt_total {a b : List UInt8} (h : lt b a = true) : lt a b = false := lt_asym h
theorem lt_le_tr {a b c : List UInt8} (h : lt b a = false) (k : lt c b = false) : lt c a = false := by
  cases hc : lt c a with
  | false => rfl
  | true =>
    cases hb : lt a b with
    | true => rw [lt_tr hc hb] at k; cases k
    | false =>
      have := lt_tri hb h
      subst this
      rw [hc] at k; cases k
theorem Mrg.start {A B : List (List UInt8)} (ha : Ris A) (hb : Ris B) : Mrg (A ++ B) [] A B :=
  ⟨List.Perm.refl _, List.Pairwise.nil, ha, hb, (fun _ h => nomatch h), (fun _ h => nomatch h)⟩
theorem Mrg.left {L out A B : List (List UInt8)} {x y : List UInt8} (h : Mrg L out (x :: A) (y :: B)) (hxy : lt y x = false) : Mrg L (out ++ [x]) A (y :: B) := by
  have ha := List.pairwise_cons.1 h.a
  have hb := List.pairwise_cons.1 h.b
  refine ⟨by simpa using h.perm, ?_, ha.2, h.b, fun u hu z hz => ?_, fun u hu z hz => ?_⟩
  · refine List.pairwise_append.2 ⟨h.out_, List.pairwise_singleton _ _, fun u hu z hz => ?_⟩
    rw [List.mem_singleton.1 hz]; exact h.oa u hu x (List.mem_cons_self ..)
  · rcases List.mem_append.1 hu with h1 | h1
    · exact h.oa u h1 z (List.mem_cons_of_mem _ hz)
    · rw [List.mem_singleton.1 h1]; exact ha.1 z hz
  · rcases List.mem_append.1 hu with h1 | h1
    · exact h.ob_ u h1 z hz
    · rw [List.mem_singleton.1 h1]
      rcases List.mem_cons.1 hz with rfl | h2
      · exact hxy
      · exact lt_le_tr hxy (hb.1 z h2)
theorem Mrg.right {L out A B : List (List UInt8)} {x y : List UInt8} (h : Mrg L out (x :: A) (y :: B)) (hxy : lt y x = true) : Mrg L (out ++ [y]) (x :: A) B := by
  have ha := List.pairwise_cons.1 h.a
  have hb := List.pairwise_cons.1 h.b
  have hyx := lt_total hxy
  refine ⟨?_, ?_, h.a, hb.2, fun u hu z hz => ?_, fun u hu z hz => ?_⟩
  · refine List.Perm.trans ?_ h.perm
    rw [List.append_assoc]
    refine List.Perm.append_left _ ?_
    exact (List.perm_middle (l₁ := x :: A) (l₂ := B) (a := y)).symm
  · refine List.pairwise_append.2 ⟨h.out_, List.pairwise_singleton _ _, fun u hu z hz => ?_⟩
    rw [List.mem_singleton.1 hz]; exact h.ob_ u hu y (List.mem_cons_self ..)
  · rcases List.mem_append.1 hu with h1 | h1
    · exact h.oa u h1 z hz
    · rw [List.mem_singleton.1 h1]
      rcases List.mem_cons.1 hz with rfl | h2
      · exact hyx
      · exact lt_le_tr hyx (ha.1 z h2)
  · rcases List.mem_append.1 hu with h1 | h1
    · exact h.ob_ u h1 z (List.mem_cons_of_mem _ hz)
    · rw [List.mem_singleton.1 h1]; exact hb.1 z hz
theorem Mrg.done {L out A B : List (List UInt8)} (h : Mrg L out A B) (he : A = [] ∨ B = []) : (out ++ A ++ B).Perm L ∧ Ris (out ++ A ++ B) := by
  rw [List.append_assoc]
  refine ⟨h.perm, List.pairwise_append.2 ⟨h.out_, ?_, fun u hu z hz => ?_⟩⟩
  · rcases he with rfl | rfl
    · rw [List.nil_append]; exact h.b
    · rw [List.append_nil]; exact h.a
  · rcases List.mem_append.1 hz with h1 | h1
    · exact h.oa u hu z h1
    · exact h.ob_ u hu z h1
end Go.Proofs.YtkeegnhjemhblaaGreatDoor.Rb
