import Derived.Test.YtkeegnhjemhblaaGreatDoorZPRowKit
set_option linter.unusedSimpArgs false
set_option linter.unusedVariables false
/-
  The wire's numbers and texts, as plain lists of bytes. No program stands in this text.
-/
namespace Go.Proofs.YtkeegnhjemhblaaGreatDoor.Rf

/-- A short number's bytes. -/
def shF : Nat → Nat → List UInt8
  | 0, n => [UInt8.ofNat n]
  | f + 1, n => if n < 128 then [UInt8.ofNat n] else UInt8.ofNat (n % 128 + 128) :: shF f (n / 128)
def sh (n : Nat) : List UInt8 := shF 9 n
theorem shF_small {f n : Nat} (h : n < 128) : shF f n = [UInt8.ofNat n] := by cases f <;> simp [shF, h]
theorem shF_step {f n : Nat} (h : ¬ n < 128) : shF (f + 1) n = UInt8.ofNat (n % 128 + 128) :: shF f (n / 128) := by simp [shF, h]
theorem shF_length : ∀ (f n : Nat), (shF f n).length ≤ f + 1
  | 0, _ => by simp [shF]
  | f + 1, n => by
    rw [shF]; split
    · simp
    · have := shF_length f (n / 128); simp; omega
theorem sh_length (n : Nat) : (sh n).length ≤ 10 := shF_length 9 n
/-- The short number at the front, and how many bytes it has. -/
def rd : Nat → Nat → List UInt8 → Option (Nat × Nat)
  | _, _, [] => none
  | i, n, b :: r => if 10 ≤ i then none else if (i = 9 ∧ 1 < b.toNat) ∨ (0 < i ∧ b.toNat = 0) then none
    else if b.toNat < 128 then some (n + b.toNat * 128 ^ i, i + 1) else rd (i + 1) (n + (b.toNat - 128) * 128 ^ i) r
def rd0 (s : List UInt8) : Option (Nat × Nat) := rd 0 0 s

theorem rd_shF : ∀ (f i n m : Nat) (r : List UInt8), f + i = 9 → m < 2 ^ (64 - 7 * i) → (0 < i → 0 < m) → rd i n (shF f m ++ r) = some (n + m * 128 ^ i, i + (shF f m).length)
  | 0, i, n, m, r, hi, hm, h0 => by
    obtain rfl : i = 9 := by omega
    have hm2 : m < 2 := by simpa using hm
    have : m = 1 := by have := h0 (by omega); omega
    subst this
    simp [shF, rd]
  | f + 1, i, n, m, r, hi, hm, h0 => by
    by_cases hs : m < 128
    · rw [shF_small hs]
      have hb : (UInt8.ofNat m).toNat = m := by simp; omega
      simp only [List.cons_append, List.nil_append, rd, hb, List.length_cons, List.length_nil]
      rw [if_neg (by omega), if_neg (by omega), if_pos hs]
    · rw [shF_step hs]
      have hb : (UInt8.ofNat (m % 128 + 128)).toNat = m % 128 + 128 := by simp; omega
      simp only [List.cons_append, rd, hb, List.length_cons]
      rw [if_neg (by omega), if_neg (by omega), if_neg (by omega)]
      have hm' : m / 128 < 2 ^ (64 - 7 * (i + 1)) := by
        rw [Nat.div_lt_iff_lt_mul (by decide)]
        have e : 2 ^ (64 - 7 * i) = 2 ^ (64 - 7 * (i + 1)) * 128 := by
          have : 64 - 7 * i = (64 - 7 * (i + 1)) + 7 := by omega
          rw [this, Nat.pow_add]
        omega
      rw [rd_shF f (i + 1) _ _ r (by omega) hm' (fun _ => by omega)]
      refine congrArg some (Prod.ext ?_ ?_)
      · have e1 : m % 128 + 128 - 128 = m % 128 := by omega
        show n + (m % 128 + 128 - 128) * 128 ^ i + m / 128 * 128 ^ (i + 1) = n + m * 128 ^ i
        rw [e1, Nat.pow_succ]
        have e2 := Nat.mod_add_div m 128
        generalize 128 ^ i = P
        generalize m % 128 = x at *
        generalize m / 128 = y at *
        rw [← e2, Nat.add_mul, Nat.add_assoc]
        have e3 : y * (P * 128) = 128 * y * P := by rw [Nat.mul_comm P 128, ← Nat.mul_assoc, Nat.mul_comm y 128]
        rw [e3]
      · show i + 1 + (shF f (m / 128)).length = i + ((shF f (m / 128)).length + 1)
        omega
theorem rd_sh {n : Nat} (h : n < 2 ^ 64) (r : List UInt8) : rd0 (sh n ++ r) = some (n, (sh n).length) := by
  have := rd_shF 9 0 0 n r (by omega) (by simpa using h) (by omega)
  rw [rd0, sh, this]; simp
theorem rd_size : ∀ (s : List UInt8) (i n m k : Nat), rd i n s = some (m, k) → i < k ∧ k ≤ i + s.length ∧ k ≤ 10
  | [], _, _, _, _, h => by simp [rd] at h
  | b :: r, i, n, m, k, h => by
    simp only [rd] at h
    split at h
    · cases h
    split at h
    · cases h
    split at h
    · obtain ⟨rfl, rfl⟩ := Prod.mk.inj (Option.some.inj h)
      simp; omega
    · have := rd_size r _ _ _ _ h
      simp; omega

/-- Four bytes. -/
def be4 (n : Nat) : List UInt8 := [UInt8.ofNat (n / 16777216), UInt8.ofNat (n / 65536), UInt8.ofNat (n / 256), UInt8.ofNat n]
def un4 (s : List UInt8) : Nat := s.foldl (fun n b => n * 256 + b.toNat) 0
theorem un4_be4 {n : Nat} (h : n < 4294967296) : un4 (be4 n) = n := by
  simp [un4, be4]; omega

/-- A text behind its length. -/
def putText (t : List UInt8) : List UInt8 := sh t.length ++ t
end Go.Proofs.YtkeegnhjemhblaaGreatDoor.Rf
