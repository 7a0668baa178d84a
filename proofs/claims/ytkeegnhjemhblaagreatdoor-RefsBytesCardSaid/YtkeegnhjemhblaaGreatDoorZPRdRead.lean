import Derived.Test.YtkeegnhjemhblaaGreatDoorZPRfPut
import Derived.Laws.Bits64b
set_option linter.unusedSimpArgs false
set_option linter.unusedVariables false
/-
  The contracts of the reader at any bytes: short, Uint, Take, Text, End.
-/
namespace Go.Proofs.YtkeegnhjemhblaaGreatDoor.Rd
open Go.RowKit Go.Maps Go.WideMaps Go.Proofs.YtkeegnhjemhblaaGreatDoor.Rf

theorem ba_ext {A B : ByteArray} (h : A.data.toList = B.data.toList) : A = B := by
  cases A; cases B
  congr 1
  exact Array.toList_inj.1 h
theorem ba_data (l : List UInt8) : (⟨l.toArray⟩ : ByteArray).data.toList = l := by simp
/-- A piece of a text. -/
theorem extract_list (L : List UInt8) (i j : Nat) : (⟨L.toArray⟩ : ByteArray).extract i j = ⟨((L.drop i).take (j - i)).toArray⟩ := by
  apply ba_ext
  rw [Lib.extract_data]
theorem extract_rest (L : List UInt8) (i j : Nat) (h : L.length ≤ j) : (⟨L.toArray⟩ : ByteArray).extract i j = ⟨(L.drop i).toArray⟩ := by
  rw [extract_list, List.take_of_length_le (by rw [List.length_drop]; omega)]
theorem one_size (w : World) (A : Obj) : (w.alloc A).heap.size = w.heap.size + 1 := by show (w.heap.push _).size = _; simp

/-- What the front of bytes says as a short number. -/
def shN (L : List UInt8) : Nat := match rd0 L with | some p => p.1 | none => 0
def shK (L : List UInt8) : Int := match rd0 L with | some p => (p.2 : Int) | none => -1

theorem rd_lt : ∀ (s : List UInt8) (i n m k : Nat), i ≤ 9 → n < 128 ^ i → Rf.rd i n s = some (m, k) → m < 18446744073709551616
  | [], _, _, _, _, _, _, h => by simp [Rf.rd] at h
  | b :: r, i, n, m, k, hi, hn, h => by
    have hb := UInt8.toNat_lt b
    have p64 : 128 ^ 9 * 2 = 18446744073709551616 := by decide
    simp only [Rf.rd] at h
    split at h
    · cases h
    split at h
    · cases h
    · next h2 =>
      have hbig : n + b.toNat * 128 ^ i < 18446744073709551616 ∨ ¬ b.toNat < 128 := by
        by_cases h9 : i = 9
        · left
          subst h9
          have : b.toNat ≤ 1 := by omega
          have : b.toNat * 128 ^ 9 ≤ 1 * 128 ^ 9 := Nat.mul_le_mul_right _ this
          omega
        · by_cases h128 : b.toNat < 128
          · left
            have e1 : b.toNat * 128 ^ i ≤ 127 * 128 ^ i := Nat.mul_le_mul_right _ (by omega)
            have e2 : 128 ^ (i + 1) ≤ 128 ^ 9 := Nat.pow_le_pow_right (by decide) (by omega)
            rw [Nat.pow_succ] at e2
            omega
          · exact .inr h128
      split at h
      · next h3 =>
        obtain ⟨rfl, rfl⟩ := Prod.mk.inj (Option.some.inj h)
        exact hbig.resolve_right (by omega)
      · next h3 =>
        by_cases h9 : i = 9
        · subst h9
          omega
        · refine rd_lt r (i + 1) _ m k (by omega) ?_ h
          have e1 : (b.toNat - 128) * 128 ^ i ≤ 127 * 128 ^ i := Nat.mul_le_mul_right _ (by omega)
          rw [Nat.pow_succ]; omega
theorem shN_lt (L : List UInt8) : shN L < 18446744073709551616 := by
  unfold shN
  cases h : rd0 L with
  | none => decide
  | some p => exact rd_lt L 0 0 p.1 p.2 (by omega) (by decide) h
theorem shK_le (L : List UInt8) : -1 ≤ shK L ∧ shK L ≤ L.length ∧ shK L ≤ 10 := by
  unfold shK
  cases h : rd0 L with
  | none => simp
  | some p =>
    have := rd_size L 0 0 p.1 p.2 h
    dsimp only
    omega

theorem or_add (n b i : Nat) (hn : n < 128 ^ i) : n ||| (b * 128 ^ i) = n + b * 128 ^ i := by
  have e : (128 : Nat) ^ i = 2 ^ (7 * i) := by rw [show (128 : Nat) = 2 ^ 7 from rfl, ← Nat.pow_mul]
  rw [e] at hn ⊢
  have := Nat.two_pow_add_eq_or_of_lt hn b
  rw [Nat.or_comm, Nat.mul_comm b, ← this, Nat.add_comm]
theorem and127 (b : UInt8) : bits .and .u8 (b.toNat : Int) 127 = ((b.toNat % 128 : Nat) : Int) := by
  have h1 := u8_and_nat b.toNat 127 (UInt8.toNat_lt b) (by decide)
  rw [show (127 : Nat) = 2 ^ 7 - 1 from rfl, Nat.and_two_pow_sub_one_eq_mod] at h1
  exact h1
end Go.Proofs.YtkeegnhjemhblaaGreatDoor.Rd
