/-
  The contract of the disk's label: which names may be.
-/
import Derived.Test.YtcfdfpjemonhoaaDkShelf
import Derived.Test.YtcfdfpjemonhoaaDkTurn
import Derived.Lib.MapLaws
namespace Go.Proofs.Ytcfdfpjemonhoaa.Dk
open Go.RowKit Go.Maps Go.WideMaps

/-- May this rune stand in a label? -/
def okR (r : Nat) : Bool := (decide (97 ≤ r) && decide (r ≤ 122)) || (decide (48 ≤ r) && decide (r ≤ 57)) || r == 46 || r == 45
theorem okc_okR (c : UInt8) : okc c = okR c.toNat := by
  unfold okc okR
  have h1 : (c == 46) = (c.toNat == 46) := by rw [Bool.eq_iff_iff, beq_iff_eq, beq_iff_eq, ← UInt8.toNat_inj]; rfl
  have h2 : (c == 45) = (c.toNat == 45) := by rw [Bool.eq_iff_iff, beq_iff_eq, beq_iff_eq, ← UInt8.toNat_inj]; rfl
  rw [h1, h2]
theorem okR_high {r : Nat} (h : 128 ≤ r) : okR r = false := by
  unfold okR
  have a1 : decide (r ≤ 122) = false := by simp; omega
  have a2 : decide (r ≤ 57) = false := by simp; omega
  have a3 : (r == 46) = false := by simp; omega
  have a4 : (r == 45) = false := by simp; omega
  rw [a1, a2, a3, a4]; simp

theorem decode_cases (s : ByteArray) (i : Nat) : ((s.get! i).toNat < 128 ∧ Utf8.decode s i = ((s.get! i).toNat, 1)) ∨ (128 ≤ (s.get! i).toNat ∧ 128 ≤ (Utf8.decode s i).1) := by
  rw [Lib.decode_at]
  by_cases h : (s.get! i).toNat < 128
  · left
    refine ⟨h, ?_⟩
    unfold Lib.decodeN
    rw [if_pos h]
  · right
    refine ⟨by omega, ?_⟩
    rcases Lib.decodeN_shape (s.size - i) (s.get! i).toNat (s.get! (i + 1)).toNat (s.get! (i + 2)).toNat (s.get! (i + 3)).toNat with ⟨h1, _⟩ | ⟨_, _, _, h1, h2⟩ | ⟨_, _, _, _, h1, _, h2⟩ | ⟨_, _, _, _, _, h1, _, h2⟩ | h2
    · exact absurd h1 h
    all_goals (rw [h2]; dsimp only; omega)

theorem idx_ok (s : ByteArray) : ∀ f pos, s.size ≤ pos + f → (decide (0 ≤ Lib.idxFuncFrom (fun r => !okR r) true s f pos) = !((s.data.toList.drop pos).all okc))
  | 0, pos, h => by
    rw [List.drop_eq_nil_of_le (by rw [← Lib.size_eq]; omega)]
    rfl
  | f + 1, pos, h => by
    by_cases hp : pos < s.size
    · have hl : pos < s.data.toList.length := by rw [← Lib.size_eq]; exact hp
      have hg : s.data.toList[pos] = s.get! pos := by
        rw [← Lib.getD_get!' s pos, List.getD, List.getElem?_eq_getElem hl]; rfl
      rw [List.drop_eq_getElem_cons hl, List.all_cons, hg, okc_okR, Lib.idxFuncFrom, if_pos hp]
      rcases decode_cases s pos with ⟨h1, h2⟩ | ⟨h1, h2⟩
      · rw [h2]
        cases hk : okR (s.get! pos).toNat with
        | true =>
          rw [if_neg (by simp), idx_ok s f (pos + 1) (by omega)]
          simp
        | false =>
          rw [if_pos (by simp)]
          simp
      · rw [okR_high h1, if_pos (by rw [okR_high h2]; rfl)]
        simp
    · rw [List.drop_eq_nil_of_le (by rw [← Lib.size_eq]; omega), Lib.idxFuncFrom, if_neg hp]
      rfl

set_option maxHeartbeats 2000000 in
set_option maxRecDepth 100000 in
theorem rune_bad (w : World) : PredAt Try.prog 48 #[] encR (fun r => !okR r) w := fun W x _ => by
  unfold FnGives
  have hr : (45 = x ∨ 46 = x ∨ (48 ≤ x ∧ x ≤ 57) ∨ (97 ≤ x ∧ x ≤ 122)) ∨ (x < 45 ∨ x = 47 ∨ (57 < x ∧ x < 97) ∨ 122 < x) := by omega
  have e0 : okR x = ((decide (97 ≤ x) && decide (x ≤ 122)) || (decide (48 ≤ x) && decide (x ≤ 57)) || x == 46 || x == 45) := rfl
  rcases hr with (h | h | ⟨h1, h2⟩ | ⟨h1, h2⟩) | (h | h | ⟨h1, h2⟩ | h)
  · subst h
    go_enter Try.func48, Try.ntmps48
    go_wp2
    go_ret
    exact ⟨rfl, 0, rfl⟩
  · subst h
    go_enter Try.func48, Try.ntmps48
    go_wp2
    go_ret
    exact ⟨rfl, 0, rfl⟩
  · have i1 : (48 : Int) ≤ (x : Int) := by omega
    have i2 : (x : Int) ≤ 57 := by omega
    have i3 : ¬ (97 : Int) ≤ (x : Int) := by omega
    have e1 : okR x = true := by rw [e0]; simp [h1, h2]
    dsimp only
    rw [e1]
    clear e0 e1 h1 h2
    go_enter Try.func48, Try.ntmps48
    go_wp2
    all_goals first | (exfalso; omega) | (go_ret; exact ⟨rfl, 0, rfl⟩) | (go_ret; refine ⟨?_, 0, rfl⟩; simp; omega)
  · have i1 : (97 : Int) ≤ (x : Int) := by omega
    have i2 : (x : Int) ≤ 122 := by omega
    have e1 : okR x = true := by rw [e0]; simp [h1, h2]
    dsimp only
    rw [e1]
    clear e0 e1 h1 h2
    go_enter Try.func48, Try.ntmps48
    go_wp2
    all_goals first | (exfalso; omega) | (go_ret; exact ⟨rfl, 0, rfl⟩) | (go_ret; refine ⟨?_, 0, rfl⟩; simp; omega)
  all_goals
    have e1 : okR x = false := by
      rw [e0]
      have a1 : (decide (97 ≤ x) && decide (x ≤ 122)) = false := by simp; omega
      have a2 : (decide (48 ≤ x) && decide (x ≤ 57)) = false := by simp; omega
      have a3 : (x == 46) = false := by simp; omega
      have a4 : (x == 45) = false := by simp; omega
      rw [a1, a2, a3, a4]; rfl
    dsimp only
    rw [e1]
    have i3 : ((x : Int) == 46) = false := by simp; omega
    have i4 : ((x : Int) == 45) = false := by simp; omega
    have z1 : (97 : Int) ≤ (x : Int) ↔ 97 ≤ x := by omega
    have z2 : (x : Int) ≤ 122 ↔ x ≤ 122 := by omega
    have z3 : (48 : Int) ≤ (x : Int) ↔ 48 ≤ x := by omega
    have z4 : (x : Int) ≤ 57 ↔ x ≤ 57 := by omega
    clear e0 e1
    go_enter Try.func48, Try.ntmps48
    go_wp2
    all_goals first | (exfalso; omega) | (go_ret; exact ⟨rfl, 0, rfl⟩) | (go_ret; refine ⟨?_, 0, rfl⟩; simp; omega)

set_option maxHeartbeats 2000000 in
set_option maxRecDepth 100000 in
theorem label_any (w : World) (S : ByteArray) (hS : S.size ≤ maxLen) : Calls Try.prog 31 #[.string S] w fun e w' => e = .returned (.bool (label S.data.toList)) ∧ Below w.heap.size w w' := by
  have hC := Any.strings_ContainsFunc_runes Try.contains47 48 #[] (enters_of Try.func48 (by kernel_rfl) rfl) _ S w (rune_bad w).runes
  change Calls Try.prog 47 _ _ _ at hC
  have hi := idx_ok S S.size 0 (by omega)
  rw [List.drop_zero] at hi
  change decide (0 ≤ Lib.idxFunc (fun r => !okR r) true S) = _ at hi
  rw [hi] at hC
  have hz := Lib.size_eq S
  have e0 : label S.data.toList = (!(S.data.toList == []) && decide (S.data.toList.length ≤ 200) && S.data.toList.all okc) := rfl
  by_cases h0 : S = ⟨#[]⟩
  · subst h0
    go_enter Try.func31, Try.ntmps31
    go_wp2
    go_ret
    exact ⟨rfl, Below.refl _ _⟩
  · have hne : (S.data.toList == []) = false := by
      simp only [beq_eq_false_iff_ne, ne_eq]
      intro h
      apply h0
      have : S.data = #[] := by simpa using h
      cases S; simp_all
    have hq : (S.toList == []) = false := by rw [Lib.toList_data]; exact hne
    have hq2 : ¬ S.toList = [] := by simpa using hq
    by_cases h2 : S.size ≤ 200
    · have e1 : label S.data.toList = S.data.toList.all okc := by rw [e0, hne, ← hz]; simp [h2]
      rw [e1]
      have i2 : (S.size : Int) ≤ 200 := by omega
      have HC := Lib.hid hC
      generalize S.data.toList.all okc = b at HC ⊢
      clear e0 e1 hi hC hne h2 hz
      go_enter Try.func31, Try.ntmps31
      go_wp2_with (go_at_call 47; refine HC.out.mono ?_; rintro e w' ⟨rfl, hb⟩)
      go_ret
      exact ⟨by simp, hb⟩
    · have e1 : label S.data.toList = false := by rw [e0, hne, ← hz]; simp [h2]
      rw [e1]
      have i2 : ¬ (S.size : Int) ≤ 200 := by omega
      clear e0 e1 hi hC hne h2 hz
      go_enter Try.func31, Try.ntmps31
      go_wp2
      go_ret
      exact ⟨rfl, Below.refl _ _⟩
end Go.Proofs.Ytcfdfpjemonhoaa.Dk
