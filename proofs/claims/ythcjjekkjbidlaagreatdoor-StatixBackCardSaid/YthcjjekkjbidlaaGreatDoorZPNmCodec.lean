import Derived.Test.YthcjjekkjbidlaaGreatDoorZPRowKit
import Derived.Test.YthcjjekkjbidlaaGreatDoorZPNmSplitCore
import Derived.WalkSmall
set_option linter.unusedSimpArgs false
set_option linter.unusedVariables false
/-
  Plain facts on runes and their bytes: there and back. No program stands in this text.
-/
namespace Go.Proofs.YthcjjekkjbidlaaGreatDoor.Nm

def goodRune (r : Nat) : Bool := decide (r < 55296) || (decide (57344 ≤ r) && decide (r ≤ 1114111))

theorem valid_good (r : Nat) : Utf8.valid (r : Int) = goodRune r := by
  rw [Bool.eq_iff_iff]; simp [Utf8.valid, goodRune]; omega

theorem enc_1 {r : Nat} (h : r < 128) : enc r = [UInt8.ofNat r] := by
  have hv : Utf8.valid (r : Int) = true := by rw [valid_good]; simp [goodRune]; omega
  rw [enc_eq, Utf8.encode]
  simp only [hv, if_true, Int.toNat_natCast]
  rw [if_pos h]
theorem enc_2 {r : Nat} (h1 : ¬ r < 128) (h : r < 2048) : enc r = [UInt8.ofNat (192 + r / 64), UInt8.ofNat (128 + r % 64)] := by
  have hv : Utf8.valid (r : Int) = true := by rw [valid_good]; simp [goodRune]; omega
  rw [enc_eq, Utf8.encode]
  simp only [hv, if_true, Int.toNat_natCast]
  rw [if_neg h1, if_pos h]
theorem enc_3 {r : Nat} (hg : goodRune r = true) (h1 : ¬ r < 2048) (h : r < 65536) : enc r = [UInt8.ofNat (224 + r / 4096), UInt8.ofNat (128 + r / 64 % 64), UInt8.ofNat (128 + r % 64)] := by
  have hv : Utf8.valid (r : Int) = true := by rw [valid_good]; exact hg
  rw [enc_eq, Utf8.encode]
  simp only [hv, if_true, Int.toNat_natCast]
  rw [if_neg (by omega), if_neg h1, if_pos h]
theorem enc_4 {r : Nat} (hg : goodRune r = true) (h1 : ¬ r < 65536) : enc r = [UInt8.ofNat (240 + r / 262144), UInt8.ofNat (128 + r / 4096 % 64), UInt8.ofNat (128 + r / 64 % 64), UInt8.ofNat (128 + r % 64)] := by
  have hv : Utf8.valid (r : Int) = true := by rw [valid_good]; exact hg
  rw [enc_eq, Utf8.encode]
  simp only [hv, if_true, Int.toNat_natCast]
  rw [if_neg (by omega), if_neg (by omega), if_neg h1]

theorem byte_ofNat {n : Nat} (h : n < 256) : (UInt8.ofNat n).toNat = n := by simp; omega

theorem byteN_0 (a : UInt8) (t : List UInt8) : byteN (a :: t) 0 = a.toNat := rfl
theorem byteN_1 (a b : UInt8) (t : List UInt8) : byteN (a :: b :: t) 1 = b.toNat := rfl
theorem byteN_2 (a b c : UInt8) (t : List UInt8) : byteN (a :: b :: c :: t) 2 = c.toNat := rfl
theorem byteN_3 (a b c d : UInt8) (t : List UInt8) : byteN (a :: b :: c :: d :: t) 3 = d.toNat := rfl

theorem decodeN_2 {n b0 b1 b2 b3 : Nat} (h0 : b0 / 32 = 6) (h1 : 1 < n) (h2 : b1 / 64 = 2) (h3 : 128 ≤ b0 % 32 * 64 + b1 % 64) : Lib.decodeN n b0 b1 b2 b3 = (b0 % 32 * 64 + b1 % 64, 2) := by
  unfold Lib.decodeN
  rw [if_neg (by omega), if_pos ⟨h0, h1, h2⟩, if_pos h3]
theorem decodeN_3 {n b0 b1 b2 b3 : Nat} (h0 : b0 / 16 = 14) (hn : 2 < n) (h1 : b1 / 64 = 2) (h2 : b2 / 64 = 2) {r : Nat} (hr : r = b0 % 16 * 4096 + b1 % 64 * 64 + b2 % 64) (h3 : 2048 ≤ r) (hg : goodRune r = true) : Lib.decodeN n b0 b1 b2 b3 = (r, 3) := by
  simp only [goodRune, Bool.or_eq_true, Bool.and_eq_true, decide_eq_true_eq] at hg
  unfold Lib.decodeN
  rw [← hr]
  rw [if_neg (by omega), if_neg (by omega), if_pos ⟨h0, ⟨by omega, h1⟩, hn, h2⟩, if_pos ⟨h3, hg⟩]
theorem decodeN_4 {n b0 b1 b2 b3 : Nat} (h0 : b0 / 8 = 30) (hn : 3 < n) (h1 : b1 / 64 = 2) (h2 : b2 / 64 = 2) (h4 : b3 / 64 = 2) {r : Nat} (hr : r = b0 % 8 * 262144 + b1 % 64 * 4096 + b2 % 64 * 64 + b3 % 64) (h3 : 65536 ≤ r) (hg : goodRune r = true) : Lib.decodeN n b0 b1 b2 b3 = (r, 4) := by
  simp only [goodRune, Bool.or_eq_true, Bool.and_eq_true, decide_eq_true_eq] at hg
  unfold Lib.decodeN
  rw [← hr]
  rw [if_neg (by omega), if_neg (by omega), if_neg (by omega), if_pos ⟨h0, ⟨by omega, h1⟩, ⟨by omega, h2⟩, hn, h4⟩, if_pos ⟨h3, hg⟩]

/-- A rune's bytes are read as that rune, whatever stands behind. -/
theorem dec_enc (r : Nat) (hg : goodRune r = true) (t : List UInt8) : dec (enc r ++ t) = (r, (enc r).length) := by
  have hg' := hg
  simp only [goodRune, Bool.or_eq_true, Bool.and_eq_true, decide_eq_true_eq] at hg'
  by_cases a1 : r < 128
  · rw [enc_1 a1, List.singleton_append, dec, byteN_0, byte_ofNat (by omega)]
    unfold Lib.decodeN; rw [if_pos a1]; rfl
  by_cases a2 : r < 2048
  · rw [enc_2 a1 a2, List.cons_append, List.singleton_append, dec, byteN_0, byteN_1, byte_ofNat (by omega), byte_ofNat (by omega), decodeN_2 (by omega) (by simp) (by omega) (by omega)]
    simp only [List.length_cons, List.length_nil, Prod.mk.injEq, and_true]
    omega
  by_cases a3 : r < 65536
  · rw [enc_3 hg a2 a3]
    simp only [List.cons_append, List.nil_append]
    rw [dec, byteN_0, byteN_1, byteN_2, byte_ofNat (by omega), byte_ofNat (by omega), byte_ofNat (by omega), decodeN_3 (r := r) (by omega) (by simp) (by omega) (by omega) (by omega) (by omega) hg]
    rfl
  · rw [enc_4 hg a3]
    simp only [List.cons_append, List.nil_append]
    rw [dec, byteN_0, byteN_1, byteN_2, byteN_3, byte_ofNat (by omega), byte_ofNat (by omega), byte_ofNat (by omega), byte_ofNat (by omega), decodeN_4 (r := r) (by omega) (by simp) (by omega) (by omega) (by omega) (by omega) (by omega) hg]
    rfl

end Go.Proofs.YthcjjekkjbidlaaGreatDoor.Nm
/-
  The contracts of the reference's Rune, runes, Check, Runes, Less.
-/
namespace Go.Proofs.YthcjjekkjbidlaaGreatDoor.Nm
open Go.RowKit

/-- The tables of unicode/utf8 as their initialisers lay them. -/
abbrev Tabs (w : World) : Prop := Lib.Utf8Tabs 1 2 w

theorem Tabs.below {w w' : World} (h : Tabs w) (hb : Below w.heap.size w w') : Tabs w' := by
  obtain ⟨h1, h2⟩ := h
  have k1 := World.block_lt_of_cell? _ _ (h1 0 (by omega))
  have k2 := World.block_lt_of_cell? _ _ (h2 0 (by omega)).1
  refine ⟨fun c hc => ?_, fun i hi => ⟨?_, ?_⟩⟩
  · rw [hb.cell (p := ⟨1, c, none⟩) k1]; exact h1 c hc
  · rw [hb.cell (p := ⟨2, 2 * i, none⟩) k2]; exact (h2 i hi).1
  · rw [hb.cell (p := ⟨2, 2 * i + 1, none⟩) k2]; exact (h2 i hi).2

def rv (r : Nat) : Value := .int .i32 (r : Int)
end Go.Proofs.YthcjjekkjbidlaaGreatDoor.Nm
/-
  The contract of the reference's Split: it answers what the program's Split answers.
-/
namespace Go.Proofs.YthcjjekkjbidlaaGreatDoor.Nm
open Go.RowKit

theorem infoStr : (Tryz.prog.info? 9).map (fun i => (i.zero, i.size, i.bytes)) = some (some (.string ByteArray.empty), 1, 16) := by kernel_rfl

end Go.Proofs.YthcjjekkjbidlaaGreatDoor.Nm
