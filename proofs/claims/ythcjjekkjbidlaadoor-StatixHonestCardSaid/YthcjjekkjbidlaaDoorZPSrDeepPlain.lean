import Derived.Test.YthcjjekkjbidlaaDoorZPSrIns
set_option linter.unusedSimpArgs false
set_option linter.unusedVariables false
/-
  How deep a node is: plain.
-/
namespace Go.Proofs.YthcjjekkjbidlaaDoor.Sr
open Go.RowKit Go.Proofs.YthcjjekkjbidlaaDoor.Rf Go.Proofs.YthcjjekkjbidlaaDoor.Nm Go.Proofs.YthcjjekkjbidlaaDoor.St

/-- How many names the longest path beneath a node has, from it on. -/
def deepN (L : List TE) (n : PN) : Nat := (subT L n).foldr (fun e d => max (e.nm.length - n.length) d) 0
theorem foldr_max_le {f : TE → Nat} {d : Nat} : ∀ {A : List TE}, (∀ e ∈ A, f e ≤ d) → A.foldr (fun e m => max (f e) m) 0 ≤ d
  | [], _ => Nat.zero_le _
  | a :: r, h => by
    rw [List.foldr_cons]
    exact Nat.max_le.2 ⟨h a (by simp), foldr_max_le (fun e he => h e (List.mem_cons_of_mem _ he))⟩
theorem le_foldr_max {f : TE → Nat} : ∀ {A : List TE} {e : TE}, e ∈ A → f e ≤ A.foldr (fun e m => max (f e) m) 0
  | a :: r, e, h => by
    rw [List.foldr_cons]
    rcases List.mem_cons.1 h with rfl | h
    · exact Nat.le_max_left _ _
    · exact Nat.le_trans (le_foldr_max h) (Nat.le_max_right _ _)
theorem deepN_le {L : List TE} {n : PN} {d : Nat} (h : ∀ e ∈ L, ∀ t, e.nm = n ++ t → t.length ≤ d) : deepN L n ≤ d :=
  foldr_max_le (fun e he => by
    obtain ⟨he, t, ht⟩ := subT_mem.1 he
    have := h e he t ht
    rw [ht, List.length_append]; omega)
theorem le_deepN {L : List TE} {n t : PN} {e : TE} (he : e ∈ L) (ht : e.nm = n ++ t) : t.length ≤ deepN L n := by
  have := le_foldr_max (f := fun e => e.nm.length - n.length) (subT_mem.2 ⟨he, t, ht⟩)
  rw [ht, List.length_append, Nat.add_sub_cancel_left] at this
  exact this
theorem deep_kid {L : List TE} {n : PN} {s : List UInt8} (h : ∃ e ∈ L, e.nm = n ++ [s]) : 1 + deepN L (n ++ [s]) ≤ deepN L n := by
  obtain ⟨x, hx, hn⟩ := h
  have h1 : 1 ≤ deepN L n := le_deepN hx hn
  have h2 : deepN L (n ++ [s]) ≤ deepN L n - 1 := deepN_le (fun e he t ht => by
    have := le_deepN (n := n) (t := s :: t) he (by rw [ht, List.append_assoc]; rfl)
    rw [List.length_cons] at this; omega)
  omega
theorem deep_of {L : List TE} (hp : ParT L) {n : PN} {d : Nat} (h : ∀ s, (∃ e ∈ L, e.nm = n ++ [s]) → 1 + deepN L (n ++ [s]) ≤ d) : deepN L n ≤ d :=
  deepN_le (fun e he t ht => by
    cases t with
    | nil => exact Nat.zero_le _
    | cons s t =>
      have ht2 : e.nm = (n ++ [s]) ++ t := by rw [ht, List.append_assoc]; rfl
      obtain ⟨u, hu, h1⟩ := hp.pre t he ht2
      have h2 := h s ⟨u, hu, h1⟩
      have h3 := le_deepN he ht2
      rw [List.length_cons]; omega)
theorem deepN_bound {L : List TE} {n : PN} {M : Nat} (h : ∀ e ∈ L, e.nm.length ≤ M) : deepN L n ≤ M := deepN_le (fun e he t ht => by
  have := h e he
  rw [ht, List.length_append] at this; omega)
end Go.Proofs.YthcjjekkjbidlaaDoor.Sr
