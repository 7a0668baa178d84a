import Derived.Test.YtkeegnhjemhblaaGreatDoorZPRfDec2
set_option linter.unusedSimpArgs false
set_option linter.unusedVariables false
/-
  What the calls leave of a book: within the limits; the same where the call is refused.
-/
namespace Go.Proofs.YtkeegnhjemhblaaGreatDoor.Rf
open Go.RowKit Go.Maps Go.WideMaps

theorem chk_len {k : List UInt8} (h : Nm.chk k = true) : k.length ≤ 255 := by
  simp only [Nm.chk, Nm.lenFine, Bool.and_eq_true, decide_eq_true_eq] at h
  omega
theorem okb_del {K : BK} (ok : OkB K) (k : List UInt8) : OkB (delM K k) :=
  ⟨Nat.le_trans (delM_length K k) ok.size, fun p hp => ok.keys p (mem_del.1 hp).1, fun p hp => ok.ne p (mem_del.1 hp).1, fun p hp => ok.len p (mem_del.1 hp).1, fun p hp => ok.ent p (mem_del.1 hp).1⟩

theorem add_ok {K : BK} (ok : OkB K) (k : List UInt8) (e : En) (he : e.c.length = 32) : OkB (addB K k e).2 := by
  unfold addB
  split
  · exact ok
  · next hc =>
    split
    · exact ok
    · next ht =>
      have hk := chk_len (by simpa using hc)
      split
      · next hg =>
        split
        · exact ok
        · exact okb_put ok (.inr (by omega)) hk (by simp) (by simp) (by simp; omega)
      · next l hg =>
        have hm := getM_mem hg
        split
        · exact ok
        · split
          · exact ok
          · refine okb_put ok (.inl (by rw [hg]; rfl)) hk (by simp) (by rw [List.length_append]; simp; omega) (fun x hx => ?_)
            rcases List.mem_append.1 hx with h | h
            · exact ok.ent _ hm x h
            · rw [List.mem_singleton.1 h]; exact ⟨he, by omega, by omega⟩
theorem drop_ok {K : BK} (ok : OkB K) (k : List UInt8) : OkB (dropB K k).2 := by
  unfold dropB
  split
  · exact okb_del ok k
  · exact ok
theorem back_ok {K : BK} (ok : OkB K) (k : List UInt8) (n : Int) : OkB (backB K k n).2 := by
  unfold backB
  split
  · exact ok
  · next l hg =>
    have hm := getM_mem hg
    split
    · exact ok
    · have hl := ok.len _ hm
      dsimp only at hl
      refine okb_put ok (.inl (by rw [hg]; rfl)) (ok.keys _ hm) (fun e => ?_) (by rw [List.length_take]; omega) (fun x hx => ok.ent _ hm x (List.mem_of_mem_take hx))
      have := congrArg List.length e
      rw [List.length_take, List.length_nil] at this
      have h0 : l ≠ [] := ok.ne _ hm
      have : l.length ≠ 0 := by simpa using h0
      omega
theorem copy_ok {K : BK} (ok : OkB K) (k j : List UInt8) : OkB (copyB K k j).2 := by
  unfold copyB
  split
  · exact ok
  · next l hg =>
    have hm := getM_mem hg
    split
    · exact ok
    · next hc =>
      split
      · exact ok
      · split
        · exact ok
        · exact okb_put ok (.inr (by omega)) (chk_len (by simpa using hc)) (ok.ne _ hm) (ok.len _ hm) (ok.ent _ hm)
end Go.Proofs.YtkeegnhjemhblaaGreatDoor.Rf
