import Derived.Test.YtkeegnhjemhblaaGreatDoorZPRfDec1
set_option linter.unusedSimpArgs false
set_option linter.unusedVariables false
/-
  What the calls leave of a book: within the limits; the same where the call is refused.
-/
namespace Go.Proofs.YtkeegnhjemhblaaGreatDoor.Rf
open Go.RowKit Go.Maps Go.WideMaps

theorem chk_len {k : List UInt8} (h : Nm.chk k = true) : k.length ≤ 255 := by
  simp only [Nm.chk, Nm.lenFine, Bool.and_eq_true, decide_eq_true_eq] at h
  omega
theorem add_ok {K : BK} (ok : OkB K) (k : List UInt8) (e : En) (he : e.c.length = 32) : OkB (addB K k e).2 := by
  unfold addB
  split
  · exact ok
  · next hc =>
    split
    · exact ok
    · next ht =>
      have hk := chk_len (by simpa using hc)
      split
      · next hg =>
        split
        · exact ok
        · exact okb_put ok (.inr (by omega)) hk (by simp) (by simp) (by simp; omega)
      · next l hg =>
        have hm := getM_mem hg
        split
        · exact ok
        · split
          · exact ok
          · refine okb_put ok (.inl (by rw [hg]; rfl)) hk (by simp) (by rw [List.length_append]; simp; omega) (fun x hx => ?_)
            rcases List.mem_append.1 hx with h | h
            · exact ok.ent _ hm x h
            · rw [List.mem_singleton.1 h]; exact ⟨he, by omega, by omega⟩
end Go.Proofs.YtkeegnhjemhblaaGreatDoor.Rf
