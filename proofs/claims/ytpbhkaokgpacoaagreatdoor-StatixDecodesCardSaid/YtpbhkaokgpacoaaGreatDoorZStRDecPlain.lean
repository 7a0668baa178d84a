import Derived.Test.YtpbhkaokgpacoaaGreatDoorZStDecPlain
set_option linter.unusedSimpArgs false
set_option linter.unusedVariables false
/-
  What the reference's Decode makes of bytes: the same as the program's.
-/
namespace Go.Proofs.YtpbhkaokgpacoaaGreatDoor.St
open Go.RowKit Go.Proofs.YtpbhkaokgpacoaaGreatDoor.Rf Go.Proofs.YtpbhkaokgpacoaaGreatDoor.Rd Go.Proofs.YtpbhkaokgpacoaaGreatDoor.Nm

/-- The path of a list's last entry. -/
def lastP (L : List SE) : List UInt8 := (L.getLast?.map SE.path).getD []
theorem lastP_put (L : List SE) (e : SE) : lastP (L ++ [e]) = e.path := by simp [lastP]
/-- The entry may be laid behind L. -/
def nextB (L : List SE) (R : List UInt8) : Bool := entB R && (decide (mayN (entE R) = 0) && (decide (L = []) || lt (lastP L) (entE R).path))
def refGo : Nat → List SE → List UInt8 → Option (List SE × List UInt8)
  | 0, L, R => some (L, R)
  | n + 1, L, R => if nextB L R then refGo n (L ++ [entE R]) (r7 R) else none
theorem last_above {L : List SE} {p : List UInt8} (hs : Srt L) (h : lt (lastP L) p = true) : ∀ x ∈ L, lt x.path p = true := by
  rcases List.eq_nil_or_concat L with rfl | ⟨A, z, rfl⟩
  · intro x hx; cases hx
  · rw [List.concat_eq_append] at *
    rw [lastP_put] at h
    intro x hx
    rcases List.mem_append.1 hx with hx | hx
    · exact lt_trans ((List.pairwise_append.1 hs).2.2 x hx z (by simp)) h
    · rw [List.mem_singleton] at hx; subst hx; exact h
theorem may_path {e : SE} (h : mayN e = 0) : e.path ≠ [] := (split_len (mayN_zero h).1).2
theorem set_next {L : List SE} {e : SE} (hs : Srt L) (hl : L.length < 65536) (h : lt (lastP L) e.path = true) :
    ((setX e L).1 = 0 ↔ mayN e = 0) ∧ (mayN e = 0 → (setX e L).2 = L ++ [e]) := by
  have hab := last_above hs h
  by_cases hm : mayN e = 0
  · rw [setX, if_neg (by simp [hm]), if_neg (by rintro ⟨_, h⟩; omega), insL_above hab]
    exact ⟨⟨fun _ => hm, fun _ => rfl⟩, fun _ => rfl⟩
  · rw [setX, if_pos hm]
    exact ⟨Iff.rfl, fun h => absurd h hm⟩
theorem srt_next {L : List SE} {e : SE} (hs : Srt L) (h : lt (lastP L) e.path = true) : Srt (L ++ [e]) :=
  List.pairwise_append.2 ⟨hs, List.pairwise_singleton _ _, fun x hx y hy => by rw [List.mem_singleton] at hy; subst hy; exact last_above hs h x hx⟩
theorem nextB_lt {L : List SE} {R : List UInt8} (h : nextB L R = true) : entB R = true ∧ mayN (entE R) = 0 ∧ lt (lastP L) (entE R).path = true := by
  simp only [nextB, Bool.and_eq_true, Bool.or_eq_true, decide_eq_true_iff] at h
  refine ⟨h.1, h.2.1, ?_⟩
  rcases h.2.2 with rfl | h2
  · exact lt_nil (may_path h.2.1)
  · exact h2
theorem refGo_eq : ∀ (n : Nat) (L : List SE) (R : List UInt8), L.length + n ≤ 65536 → Srt L → refGo n L R = decGo n (lastP L) L R
  | 0, _, _, _, _ => rfl
  | n + 1, L, R, hl, hs => by
    rw [refGo, decGo]
    by_cases hn : nextB L R = true
    · obtain ⟨h1, h2, h3⟩ := nextB_lt hn
      obtain ⟨g1, g2⟩ := set_next hs (by omega) h3
      rw [if_pos hn, if_pos (by rw [h1, h3, decide_eq_true (g1.2 h2)]; rfl), g2 h2, ← lastP_put L (entE R)]
      exact refGo_eq n (L ++ [entE R]) (r7 R) (by simp; omega) (srt_next hs h3)
    · rw [if_neg hn, if_neg]
      intro h
      simp only [Bool.and_eq_true, decide_eq_true_iff] at h
      obtain ⟨⟨h1, h2⟩, h3⟩ := h
      have hm := (set_next hs (by omega) h2).1.1 h3
      exact hn (by simp [nextB, h1, h2, hm])
/-- The reference's reading of bytes. -/
theorem decX_ref (s : List UInt8) : decX s = if s.take 4 = mst ∧ numB 65536 (s.drop 4) = true then
    match refGo (shN (s.drop 4)) [] (shR (s.drop 4)) with
    | some (L, []) => some L
    | _ => none
  else none := by
  rw [decX]
  by_cases h : s.take 4 = mst ∧ numB 65536 (s.drop 4) = true
  · rw [if_pos h, if_pos h, refGo_eq _ _ _ (by have := ((Bool.and_eq_true _ _).mp h.2).2; simp at this; simpa using this) List.Pairwise.nil]
    rfl
  · rw [if_neg h, if_neg h]
end Go.Proofs.YtpbhkaokgpacoaaGreatDoor.St
