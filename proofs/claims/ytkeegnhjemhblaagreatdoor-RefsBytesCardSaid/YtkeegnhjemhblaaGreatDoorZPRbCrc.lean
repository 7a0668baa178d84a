import Derived.Test.YtkeegnhjemhblaaGreatDoorZPRfFrame
import Derived.Laws.BitsAllLaws
import Derived.Test.YtkeegnhjemhblaaGreatDoorZPRfBack
import Derived.Test.YtkeegnhjemhblaaGreatDoorZPRfFixed
import Derived.Test.YtkeegnhjemhblaaGreatDoorZPRbKit
import Derived.BigQuiet
import Derived.Deep.QuietTactic
set_option linter.unusedSimpArgs false
set_option linter.unusedVariables false
/-
  The contracts of the reference's checksum.
-/
namespace Go.Proofs.YtkeegnhjemhblaaGreatDoor.Rb
open Go.RowKit Go.Maps Go.WideMaps Go.Proofs.YtkeegnhjemhblaaGreatDoor.Rf

theorem and_one {c : Int} (h0 : 0 ≤ c) (h1 : c < 4294967296) : bits .and .u32 c 1 = c % 2 := by
  rw [u32_and c 1 h0 h1 (by decide) (by decide)]
  rw [show (1 : Int).toNat = 1 from rfl, Nat.and_one_is_mod]; omega
theorem xor_zero {c : Int} (h0 : 0 ≤ c) (h1 : c < 4294967296) : bits .xor .u32 c 0 = c := by
  rw [u32_xor c 0 h0 h1 (by decide) (by decide)]
  rw [show (0 : Int).toNat = 0 from rfl, Nat.xor_zero]; omega
theorem crcBit_eq {c : Int} (h0 : 0 ≤ c) (h1 : c < 4294967296) : crcBit c = if c % 2 = 1 then bits .xor .u32 (c / 2) 3988292384 else c / 2 := by
  rw [crcBit, and_one h0 h1]
  split
  · next h => rw [h]; congr 1
  · next h =>
    have : c % 2 = 0 := by omega
    rw [this]
    have e : bits .and .u32 3988292384 (-0 % 4294967296) = 0 := by decide +kernel
    rw [e, xor_zero (by omega) (by omega)]
theorem bits_u32 (op : BinOp) (a b : Int) : 0 ≤ bits op .u32 a b ∧ bits op .u32 a b < 4294967296 := by
  have := bits_within op .u32 a b
  refine ⟨this.1, ?_⟩
  have h2 := this.2
  have : IntKind.u32.max = 4294967295 := by decide
  omega
theorem crcI_in (i : Nat) {c : Int} (h0 : 0 ≤ c) (h1 : c < 4294967296) : 0 ≤ crcI i c ∧ crcI i c < 4294967296 := by
  cases i with
  | zero => exact ⟨h0, h1⟩
  | succ i =>
    rw [crcI, crcBit]
    exact bits_u32 _ _ _
set_option linter.unusedSimpArgs false in
set_option maxHeartbeats 4000000 in
set_option maxRecDepth 100000 in
theorem rstep_any (w : World) (c : Int) (b : UInt8) :
    Calls Tryz.prog 170 #[.int .u32 c, .int .u8 (b.toNat : Int)] w fun e w' => e = .returned (.int .u32 (crcB c b)) ∧ w' = w := by
  obtain ⟨c0, hc0⟩ : ∃ c0, c0 = bits .xor .u32 c ((b.toNat : Int) % 4294967296) := ⟨_, rfl⟩
  have HC : Hid (crcB c b = crcI 8 c0) := Lib.hid (by rw [crcB, hc0])
  have HIN : Hid (∀ i, 0 ≤ crcI i c0 ∧ crcI i c0 < 4294967296) := Lib.hid (fun i => crcI_in i (by rw [hc0]; exact (bits_u32 _ _ _).1) (by rw [hc0]; exact (bits_u32 _ _ _).2))
  go_enter Tryz.func170, Tryz.ntmps170
  go_wp2
  rw [← hc0]
  clear hc0
  go_loopw [0, 5] (fun v0 v5 wr => ∃ i : Nat, i ≤ 8 ∧ v5 = .int .i64 (i : Int) ∧ v0 = .int .u32 (crcI i c0) ∧ wr = w) (fun _ v5 _ => 8 - (RowKit.intOf v5).toNat)
  case atStart => exact ⟨0, by omega, rfl, rfl, rfl⟩
  case round =>
    obtain ⟨i, hi, rfl, rfl, rfl⟩ := hrel
    by_cases hi8 : (i : Int) < 8
    · obtain ⟨h0, h1⟩ := HIN.out i
      have hbit : crcI (i + 1) c0 = crcBit (crcI i c0) := rfl
      rw [crcBit_eq h0 h1] at hbit
      have HBIT := Lib.hid hbit
      clear hbit
      generalize crcI i c0 = cc at *
      by_cases hodd : cc % 2 = 1
      · have q1 : cc.tmod 2 = 1 := by rw [Int.tmod_eq_emod_of_nonneg h0]; exact hodd
        have q2 : cc.tdiv 2 = cc / 2 := Int.tdiv_eq_ediv_of_nonneg h0
        have HB2 : Hid (bits .xor .u32 (cc / 2) 3988292384 = crcI (i + 1) c0) := Lib.hid (by rw [HBIT.out, if_pos hodd])
        go_wp2
        go_roundw
        case rel => exact ⟨i + 1, by omega, by go_num, by rw [← HB2.out], trivial⟩
        case measure => simp [RowKit.intOf]; omega
      · have q1 : cc.tmod 2 = 0 := by rw [Int.tmod_eq_emod_of_nonneg h0]; omega
        have q2 : cc.tdiv 2 = cc / 2 := Int.tdiv_eq_ediv_of_nonneg h0
        have HB2 : Hid (cc / 2 = crcI (i + 1) c0) := Lib.hid (by rw [HBIT.out, if_neg hodd])
        go_wp2
        go_roundw
        case rel => exact ⟨i + 1, by omega, by go_num, by rw [← HB2.out], trivial⟩
        case measure => simp [RowKit.intOf]; omega
    · obtain rfl : i = 8 := by omega
      go_wp2
      go_ret
      rw [HC.out]
      exact ⟨rfl, rfl⟩
set_option linter.unusedSimpArgs false in
set_option maxHeartbeats 4000000 in
set_option maxRecDepth 100000 in
theorem ron_any (w : World) (c : Int) (s : List UInt8) (hs : s.length ≤ maxLen) :
    Calls Tryz.prog 145 #[.int .u32 c, .string ⟨s.toArray⟩] w fun e w' => e = .returned (.int .u32 (onN c s)) ∧ w' = w := by
  unfold maxLen at hs
  have hsz : (⟨s.toArray⟩ : ByteArray).size = s.length := rfl
  have HE : Hid (onN c s = crcNot (crcOn (crcNot c) s)) := Lib.hid rfl
  have ST := Lib.hid (fun (w' : World) (c : Int) (b : UInt8) => rstep_any w' c b)
  go_enter Tryz.func145, Tryz.ntmps145
  go_wp2
  obtain ⟨c1, hc1⟩ : ∃ c1, c1 = crcNot c := ⟨_, rfl⟩
  have HC1 := Lib.hid hc1
  clear hc1
  go_loopw [5, 6] (fun v5 v6 wr => ∃ i : Nat, i ≤ s.length ∧ v6 = .int .i64 (i : Int) ∧ v5 = .int .u32 (crcOn c1 (s.take i)) ∧ wr = w) (fun _ v6 _ => s.length - (RowKit.intOf v6).toNat)
  case atStart => exact ⟨0, by omega, rfl, by rw [HC1.out]; rfl, rfl⟩
  case round =>
    obtain ⟨i, hi, rfl, rfl, rfl⟩ := hrel
    by_cases hil : (i : Int) < (s.length : Int)
    · have hi2 : i < s.length := by omega
      have h0 : (0 : Int) ≤ (i : Int) := by omega
      obtain ⟨b, hb⟩ : ∃ b, b = s[i] := ⟨_, rfl⟩
      have HN : Hid (crcOn c1 (s.take (i + 1)) = crcB (crcOn c1 (s.take i)) b) := Lib.hid (by rw [List.take_succ_eq_append_getElem hi2, crcOn, List.foldl_append, hb]; rfl)
      have SA := Lib.hid (ST.out wr (crcOn c1 (s.take i)) b)
      have hidx : (⟨s.toArray⟩ : ByteArray)[i]'(by rw [hsz]; omega) = b := by rw [hb]; rfl
      clear hb
      generalize crcOn c1 (s.take i) = cc at *
      go_wp2_with fail
      refine SA.out.mono ?_
      rintro ex w2 ⟨rfl, rfl⟩
      go_wp2
      go_roundw
      case rel => exact ⟨i + 1, by omega, by go_num, by rw [HN.out], trivial⟩
      case measure => simp [RowKit.intOf]; omega
    · obtain rfl : i = s.length := by omega
      rw [List.take_length]
      go_wp2
      go_ret
      rw [HE.out, ← HC1.out]
      exact ⟨rfl, rfl⟩
set_option maxHeartbeats 4000000 in
set_option maxRecDepth 100000 in
theorem rcrc_any (w : World) (s : List UInt8) (hs : s.length ≤ maxLen) :
    Calls Tryz.prog 102 #[.string ⟨s.toArray⟩] w fun e w' => e = .returned (.int .u32 (onN 0 s)) ∧ w' = w := by
  have ON := Lib.hid (ron_any w 0 s hs)
  go_enter Tryz.func102, Tryz.ntmps102
  go_wp2_with fail
  refine ON.out.mono ?_
  rintro ex w2 ⟨rfl, rfl⟩
  go_wp2
  go_ret
  exact ⟨rfl, rfl⟩
end Go.Proofs.YtkeegnhjemhblaaGreatDoor.Rb
/-
  The contracts of the reference's short numbers and texts.
-/
namespace Go.Proofs.YtkeegnhjemhblaaGreatDoor.Rb
open Go.RowKit Go.Maps Go.WideMaps Go.Proofs.YtkeegnhjemhblaaGreatDoor.Rf

theorem conv_val {w : World} {x : Nat} {b : UInt8} {n : Int} (hn : n = (b.toNat : Int)) (h : w.heap[x]? = some (.cells #[.int .u8 n] 5)) : (convert 82 9 (.slice (some ⟨x, 0, none⟩) 1 1)).run Tryz.prog w = .ok (.string ⟨[b].toArray⟩) w := by
  subst hn
  refine conv_row [b] (fun j v hv => ?_)
  rw [Nat.zero_add, cell_of_heap h]
  cases j with
  | zero => exact hv
  | succ j => simp [Lib.byteCells] at hv
set_option maxHeartbeats 4000000 in
set_option maxRecDepth 100000 in
theorem ref_put (w : World) (l : List UInt8) (n : Nat) (hn : n < 18446744073709551616) (hl : l.length ≤ 1099511627776) :
    Calls Tryz.prog 106 #[.string ⟨l.toArray⟩, .int .u64 (n : Int)] w fun e w' => e = .returned (.string ⟨(l ++ sh n).toArray⟩) ∧ Below w.heap.size w w' := by
  go_enter Tryz.func106, Tryz.ntmps106
  go_wp2
  go_loopw [0, 1] (fun vs vn w' => ∃ (k m : Nat) (pre : List UInt8), k ≤ 9 ∧ vn = .int .u64 (m : Int) ∧ vs = .string ⟨(l ++ pre).toArray⟩ ∧ Below w.heap.size w w' ∧ Hid (pre.length = k ∧ sh n = pre ++ shF (9 - k) m ∧ m < 2 ^ (64 - 7 * k) ∧ (0 < k → 0 < m))) (fun _ vn _ => (RowKit.intOf vn).toNat)
  case atStart => exact ⟨0, n, [], by omega, rfl, by simp, Below.refl _ _, Lib.hid ⟨rfl, rfl, by simpa using hn, by omega⟩⟩
  case round =>
    obtain ⟨k, m, pre, hk, rfl, rfl, hb, hid⟩ := hrel
    have HB := Lib.hid hb
    have hpl : l.length + pre.length + 1 ≤ 9223372036854775807 := by rw [hid.out.1]; omega
    have hm64 : m < 18446744073709551616 := Nat.lt_of_lt_of_le hid.out.2.2.1 (show 2 ^ (64 - 7 * k) ≤ 2 ^ 64 from Nat.pow_le_pow_right (by decide) (by omega))
    by_cases h128 : (128 : Int) ≤ (m : Int)
    · have hk9 : k < 9 := by
        have := hid.out.2.2.1
        by_cases e : k = 9
        · subst e; simp at this; omega
        · omega
      obtain ⟨d, hd⟩ : ∃ d, d = UInt8.ofNat (m % 128 + 128) := ⟨_, rfl⟩
      have hv : (m : Int) % 128 + 128 = (d.toNat : Int) := by rw [hd]; simp; omega
      have hcv := conv_val hv (MapKept.heap_alloc wr (.cells #[.int .u8 ((m : Int) % 128 + 128)] 5)).1
      have HC : Hid ((⟨(l ++ pre).toArray⟩ : ByteArray) ++ ⟨[d].toArray⟩ = ⟨(l ++ (pre ++ [d])).toArray⟩) := Lib.hid (by rw [cat_list, ba_data, List.append_assoc])
      have HB2 := Lib.hid (hb.alloc hb.size (.cells #[.int .u8 ((m : Int) % 128 + 128)] 5))
      have HD := Lib.hid hd
      clear hb hv hd
      go_wp2
      go_roundw
      case rel =>
        refine ⟨k + 1, m / 128, pre ++ [d], by omega, by simp, by rw [HC.out], HB2.out, Lib.hid ?_⟩
        obtain ⟨a1, a2, a3, a4⟩ := hid.out
        refine ⟨by simp [a1], ?_, ?_, fun _ => by omega⟩
        · rw [a2, HD.out, List.append_assoc]
          have e : 9 - k = (9 - (k + 1)) + 1 := by omega
          rw [e, shF_step (by omega)]; rfl
        · rw [Nat.div_lt_iff_lt_mul (by decide)]
          have e : 64 - 7 * k = (64 - 7 * (k + 1)) + 7 := by omega
          rw [e, Nat.pow_add] at a3
          exact a3
      case measure => simp [RowKit.intOf]; omega
    · obtain ⟨d, hd⟩ : ∃ d, d = UInt8.ofNat m := ⟨_, rfl⟩
      have hv : (m : Int) = (d.toNat : Int) := by rw [hd]; simp; omega
      have hcv := conv_val hv (MapKept.heap_alloc wr (.cells #[.int .u8 (m : Int)] 5)).1
      have HC : Hid ((⟨(l ++ pre).toArray⟩ : ByteArray) ++ ⟨[d].toArray⟩ = ⟨(l ++ (pre ++ [d])).toArray⟩) := Lib.hid (by rw [cat_list, ba_data, List.append_assoc])
      have HB2 := Lib.hid (hb.alloc hb.size (.cells #[.int .u8 (m : Int)] 5))
      have HE : Hid (sh n = pre ++ [d]) := Lib.hid (by rw [hid.out.2.1, shF_small (by omega), hd])
      clear hb hv hd
      go_wp2
      go_ret
      rw [HE.out, HC.out]
      exact ⟨rfl, HB2.out⟩
set_option maxHeartbeats 4000000 in
set_option maxRecDepth 100000 in
theorem ref_putText (w : World) (l t : List UInt8) (hl : l.length ≤ 1099511627776) (ht : t.length ≤ 1099511627776) :
    Calls Tryz.prog 107 #[.string ⟨l.toArray⟩, .string ⟨t.toArray⟩] w fun e w' => e = .returned (.string ⟨(l ++ putText t).toArray⟩) ∧ Below w.heap.size w w' := by
  have hts : (⟨t.toArray⟩ : ByteArray).size = t.length := rfl
  have PU := Lib.hid (ref_put w l t.length (by omega) hl)
  have hsl : l.length + (sh t.length).length + t.length ≤ 9223372036854775807 := by have := sh_length t.length; omega
  have HC : Hid ((⟨(l ++ sh t.length).toArray⟩ : ByteArray) ++ ⟨t.toArray⟩ = ⟨(l ++ putText t).toArray⟩) := Lib.hid (by rw [cat_list, ba_data, putText, List.append_assoc])
  go_enter Tryz.func107, Tryz.ntmps107
  go_wp2_with fail
  refine PU.out.mono ?_
  rintro ex w1 ⟨rfl, hb1⟩
  have HB1 := Lib.hid hb1
  clear hb1
  go_wp2
  go_ret
  rw [HC.out]
  exact ⟨rfl, HB1.out⟩
end Go.Proofs.YtkeegnhjemhblaaGreatDoor.Rb
/-
  The contracts of the reference's numbers in four bytes and of its frame.
-/
namespace Go.Proofs.YtkeegnhjemhblaaGreatDoor.Rb
open Go.RowKit Go.Maps Go.WideMaps Go.Proofs.YtkeegnhjemhblaaGreatDoor.Rf

def beQ (n i : Nat) : UInt8 := UInt8.ofNat (n / 256 ^ (3 - i))
theorem be4_take (n j : Nat) (h : j < 4) : (be4 n).take (j + 1) = (be4 n).take j ++ [beQ n j] := by
  match j, h with
  | 0, _ => rfl
  | 1, _ => rfl
  | 2, _ => simp [be4, beQ]
  | 3, _ => simp [be4, beQ]
theorem shr_byte (n i : Nat) : (((n : Int) / 2 ^ (8 * i)) % 256) = ((UInt8.ofNat (n / 256 ^ i)).toNat : Int) := by
  have e : (2 : Int) ^ (8 * i) = ((256 ^ i : Nat) : Int) := by rw [show (256 : Nat) = 2 ^ 8 from rfl, ← Nat.pow_mul]; simp
  rw [e, UInt8.toNat_ofNat', ← Int.natCast_ediv]
  generalize n / 256 ^ i = m
  simp
set_option maxRecDepth 100000 in
theorem fits4 (w : World) (n : Nat) (hn : n < 4294967296) :
    Calls Tryz.prog 201 #[.int .u64 (n : Int), .int .i64 4] w fun e w' => e = .returned (.bool true) ∧ Below w.heap.size w w' := by
  have h : (n : Int) < 4294967296 := by omega
  go_enter Tryz.func201, Tryz.ntmps201
  go_wp2
  try go_quiet (fail)
  try go_wp2
  go_ret
  first | exact ⟨rfl, Below.refl _ _⟩ | exact ⟨rfl, (⟨rfl, rfl, rfl, Nat.le_refl _, fun _ _ => rfl⟩ : Below _ _ _)⟩
set_option maxHeartbeats 4000000 in
set_option maxRecDepth 100000 in
theorem ref_fixed4 (w : World) (n : Nat) (hn : n < 4294967296) :
    Calls Tryz.prog 172 #[.string ⟨#[]⟩, .int .u64 (n : Int), .int .i64 4] w fun e w' => e = .returned (.tuple #[.string ⟨(be4 n).toArray⟩, .int .i64 0]) ∧ Below w.heap.size w w' := by
  have FI := Lib.hid (fits4 w n hn)
  have HE : Hid ((be4 n).take 4 = be4 n) := Lib.hid rfl
  have HB4 : Hid (∀ j, j < 4 → (be4 n).take (j + 1) = (be4 n).take j ++ [beQ n j]) := Lib.hid (be4_take n)
  have HL4 : Hid ((be4 n).length = 4) := Lib.hid rfl
  obtain ⟨bn, hbn⟩ : ∃ bn, bn = be4 n := ⟨_, rfl⟩
  rw [← hbn] at HE HB4 HL4 ⊢
  clear hbn
  go_enter Tryz.func172, Tryz.ntmps172
  go_wp2_with fail
  refine FI.out.mono ?_
  rintro e wx ⟨rfl, hwx⟩
  have HX := Lib.hid hwx
  clear hwx
  go_wp2
  go_loopw [0, 8] (fun vs vi w' => ∃ j : Nat, j ≤ 4 ∧ vs = .string ⟨(bn.take j).toArray⟩ ∧ vi = .int .i64 (3 - (j : Int)) ∧ Hid (Below w.heap.size w w')) (fun _ vi _ => (RowKit.intOf vi + 1).toNat)
  case atStart => exact ⟨0, by omega, by simp, rfl, HX⟩
  case round =>
    obtain ⟨j, hj, rfl, rfl, HB⟩ := hrel
    obtain ⟨i, hi⟩ : ∃ i : Int, i = 3 - (j : Int) := ⟨_, rfl⟩
    rw [← hi]
    by_cases hlt : (0 : Int) ≤ i
    · have hj8 : j < 4 := by omega
      obtain ⟨k, hk⟩ : ∃ k : Nat, i = (k : Int) := ⟨3 - j, by omega⟩
      subst hk
      have hk7 : k ≤ 3 := by omega
      have hjk : 3 - j = k := by omega
      obtain ⟨d, hd⟩ : ∃ d, d = UInt8.ofNat (n / 256 ^ k) := ⟨_, rfl⟩
      have hv : (n : Int) / 2 ^ (8 * k) % 256 = (d.toNat : Int) := by rw [hd]; exact shr_byte n k
      have hcv := conv_val hv (MapKept.heap_alloc wr (.cells #[.int .u8 ((n : Int) / 2 ^ (8 * k) % 256)] 5)).1
      have HC : Hid ((⟨(bn.take j).toArray⟩ : ByteArray) ++ ⟨[d].toArray⟩ = ⟨(bn.take (j + 1)).toArray⟩) := Lib.hid (by rw [cat_list, ba_data, HB4.out j hj8, beQ, hjk, hd])
      have HB2 := Lib.hid (HB.out.alloc HB.out.size (.cells #[.int .u8 ((n : Int) / 2 ^ (8 * k) % 256)] 5))
      have HK := Lib.hid hi
      have hpl : (bn.take j).length + 1 ≤ 9223372036854775807 := by rw [List.length_take, HL4.out]; omega
      clear hv hd hi hjk HB
      go_wp2
      go_roundw
      case rel => exact ⟨j + 1, by omega, congrArg Value.string HC.out, congrArg (Value.int .i64) (by have := HK.out; omega), HB2⟩
      case measure => simp [RowKit.intOf]
    · obtain rfl : j = 4 := by omega
      clear hi
      go_wp2
      go_ret2
      rw [HE.out]
      exact ⟨rfl, HB.out⟩
set_option maxRecDepth 100000 in
theorem ref_Fixed4 (w : World) (n : Nat) (hn : n < 4294967296) :
    Calls Tryz.prog 147 #[.int .u64 (n : Int), .int .i64 4] w fun e w' => e = .returned (.string ⟨(be4 n).toArray⟩) ∧ Below w.heap.size w w' := by
  have FI := Lib.hid (ref_fixed4 w n hn)
  go_enter Tryz.func147, Tryz.ntmps147
  go_wp2_with fail
  refine FI.out.mono ?_
  rintro e wx ⟨rfl, hwx⟩
  go_wp2
  go_ret
  exact ⟨rfl, hwx⟩

theorem not_not {c : Int} (h0 : 0 ≤ c) (h1 : c < 4294967296) : crcNot (crcNot c) = c := by
  have hm : IntKind.u32.max = 4294967295 := by decide
  rw [crcNot, crcNot, hm]
  have hb := bits_u32 .xor 4294967295 c
  rw [u32_xor _ _ (by decide) (by decide) hb.1 hb.2, u32_xor _ _ (by decide) (by decide) h0 h1, Int.toNat_natCast, ← Nat.xor_assoc, Nat.xor_self, Nat.zero_xor]
  omega
theorem crcOn_in {c : Int} (h0 : 0 ≤ c) (h1 : c < 4294967296) (s : List UInt8) : 0 ≤ crcOn c s ∧ crcOn c s < 4294967296 := by
  induction s generalizing c with
  | nil => exact ⟨h0, h1⟩
  | cons b r ih =>
    rw [crcOn, List.foldl_cons]
    have := crcI_in 8 (bits_u32 .xor c ((b.toNat : Int) % 4294967296)).1 (bits_u32 .xor c ((b.toNat : Int) % 4294967296)).2
    exact ih this.1 this.2
theorem onN_append (a b : List UInt8) : onN (onN 0 a) b = onN 0 (a ++ b) := by
  have h0 := crcOn_in (bits_u32 .xor IntKind.u32.max 0).1 (bits_u32 .xor IntKind.u32.max 0).2 a
  have e : crcNot (onN 0 a) = crcOn (crcNot 0) a := not_not h0.1 h0.2
  rw [onN, e, onN, crcOn, crcOn, crcOn, List.foldl_append]
set_option linter.unusedSimpArgs false in
set_option maxHeartbeats 4000000 in
set_option maxRecDepth 100000 in
theorem rlaid_any (w : World) (s : List UInt8) (hs : s.length ≤ 67108864) :
    Calls Tryz.prog 108 #[.string ⟨s.toArray⟩] w fun e w' => e = .returned (.string ⟨(frameN s).toArray⟩) ∧ Below w.heap.size w w' := by
  have F1 := Lib.hid (ref_Fixed4 w s.length (by omega))
  have hsz : (⟨s.toArray⟩ : ByteArray).size = s.length := rfl
  obtain ⟨b1, hb1⟩ : ∃ b1, b1 = be4 s.length := ⟨_, rfl⟩
  rw [← hb1] at F1
  have hbl : b1.length = 4 := by rw [hb1]; rfl
  have CR := Lib.hid (fun w' : World => rcrc_any w' (b1 ++ s) (by rw [List.length_append, hbl]; unfold maxLen; omega))
  have HN : Hid (onN 0 (b1 ++ s) = ((crcN s : Nat) : Int) ∧ crcN s < 4294967296) := Lib.hid (by
    have hr := onN_range 0 (b1 ++ s)
    rw [crcN, ← hb1, onN_append]
    omega)
  have hr := HN.out
  rw [hr.1] at CR
  have F2 := Lib.hid (fun w' : World => ref_Fixed4 w' (crcN s) hr.2)
  have HE : Hid (frameN s = b1 ++ be4 (crcN s) ++ s) := Lib.hid (by rw [frameN, hb1])
  obtain ⟨b2, hb2⟩ : ∃ b2, b2 = be4 (crcN s) := ⟨_, rfl⟩
  have hbl2 : b2.length = 4 := by rw [hb2]; rfl
  rw [← hb2] at F2 HE
  obtain ⟨cn, hcn⟩ : ∃ cn, cn = crcN s := ⟨_, rfl⟩
  rw [← hcn] at F2 CR hr
  have hc2 := hr.2
  obtain ⟨FN, hFN⟩ : ∃ FN, FN = frameN s := ⟨_, rfl⟩
  rw [← hFN] at HE ⊢
  have HC1 : Hid ((⟨b1.toArray⟩ : ByteArray) ++ ⟨s.toArray⟩ = ⟨(b1 ++ s).toArray⟩) := Lib.hid (by rw [cat_list, ba_data])
  have HC2 : Hid ((⟨b1.toArray⟩ : ByteArray) ++ ⟨b2.toArray⟩ = ⟨(b1 ++ b2).toArray⟩) := Lib.hid (by rw [cat_list, ba_data])
  have HC3 : Hid ((⟨(b1 ++ b2).toArray⟩ : ByteArray) ++ ⟨s.toArray⟩ = ⟨FN.toArray⟩) := Lib.hid (by rw [cat_list, ba_data, HE.out])
  have hl1 : (⟨b1.toArray⟩ : ByteArray).size = 4 := hbl
  have hl2 : (⟨b2.toArray⟩ : ByteArray).size = 4 := hbl2
  clear hb1 hr hb2 hcn hFN hbl hbl2
  go_enter Tryz.func108, Tryz.ntmps108
  go_wp2_with fail
  refine F1.out.mono ?_
  rintro ex w1 ⟨rfl, hw1⟩
  have HB1 := Lib.hid hw1
  clear hw1
  have C1 := Lib.hid (CR.out w1)
  rw [← HC1.out] at C1
  go_wp2_with fail
  refine C1.out.mono ?_
  rintro ex w2 ⟨rfl, rfl⟩
  have F3 := Lib.hid (F2.out w2)
  go_wp2_with fail
  refine F3.out.mono ?_
  rintro ex w3 ⟨rfl, hw3⟩
  have HB3 := Lib.hid (HB1.out.trans (hw3.mono HB1.out.size))
  clear hw3
  go_wp2
  go_ret
  rw [HC2.out, HC3.out]
  exact ⟨rfl, HB3.out⟩
end Go.Proofs.YtkeegnhjemhblaaGreatDoor.Rb
/-
  The contract of the reference's Unframe, at any bytes. Printed by genrunf.py.
-/
set_option linter.unusedSimpArgs false
namespace Go.Proofs.YtkeegnhjemhblaaGreatDoor.Rd
open Go.RowKit Go.Maps Go.WideMaps Go.Proofs.YtkeegnhjemhblaaGreatDoor.Rf

theorem rfixed4_any (w : World) (q : Nat) (L : List UInt8) (h : RReaderAt w q L) :
    Calls Tryz.prog 101 #[ptr q, .int .i64 4] w fun e w' => e = .returned (.tuple #[.int .u64 (fxN L : Int), .int .i64 (fxE L)]) ∧ RReaderAt w' q (fxR L) ∧ Turn [q] w w' := by
  by_cases hL : 4 ≤ L.length
  · rw [fxN, fxE, fxR, if_pos hL, if_pos hL, if_pos hL]
    exact rfixed4_yes w q L hL h
  · rw [fxN, fxE, fxR, if_neg hL, if_neg hL, if_neg hL]
    refine (rfixed4_no w q L (by omega) h).mono ?_
    rintro e w' ⟨rfl, rfl⟩
    exact ⟨rfl, h, Turn.refl _ _⟩
set_option maxHeartbeats 8000000 in
set_option maxRecDepth 100000 in
theorem runframe_any (w : World) (S : List UInt8) (hS : S.length ≤ 140737488355328) :
    Calls Tryz.prog 40 #[.string ⟨S.toArray⟩] w fun e w' => e = .returned (.tuple #[.string ⟨(unP S).toArray⟩, .string ⟨(unR S).toArray⟩, .int .i64 (unC S)]) ∧ Below w.heap.size w w' := by
  obtain ⟨W, hW⟩ : ∃ W, W = w.alloc (.cells #[.string ⟨S.toArray⟩] RRdT) := ⟨_, rfl⟩
  have hr0 : RReaderAt W w.heap.size S := by rw [hW]; exact (MapKept.heap_alloc w _).1
  have hb0 : Below w.heap.size w W := by rw [hW]; exact (Below.refl _ _).alloc (Nat.le_refl _) _
  have F1 := Lib.hid (rfixed4_any W w.heap.size S hr0)
  have F2 : Hid (∀ w1, RReaderAt w1 w.heap.size (fxR S) → Calls Tryz.prog 101 #[ptr w.heap.size, .int .i64 4] w1 fun e w' => e = .returned (.tuple #[.int .u64 (fxN (fxR S) : Int), .int .i64 (fxE (fxR S))]) ∧ RReaderAt w' w.heap.size (fxR (fxR S)) ∧ Turn [w.heap.size] w1 w') := Lib.hid (fun w1 h1 => rfixed4_any w1 w.heap.size (fxR S) h1)
  have hs : (⟨S.toArray⟩ : ByteArray).size = S.length := rfl
  have HB0 := Lib.hid hb0; have HWW := Lib.hid hW
  clear hW hr0 hb0
  by_cases hl4 : S.length < 4
  · have HU := Lib.hid (un_none (s := S) (by rw [unfr, if_pos (by omega)]))
    have e1 : fxE S = 4 := by rw [fxE, if_neg (by omega)]
    rw [e1] at F1
    clear hl4 e1
    generalize fxN S = n1 at *
    generalize fxN (fxR S) = n2 at *
    generalize fxE (fxR S) = e2 at *
    unfold ptr at *
    go_enter Tryz.func40, Tryz.ntmps40
    go_wp2_with fail
    rw [← HWW.out]
    refine F1.out.mono ?_
    rintro e w1 ⟨rfl, h1, t1⟩
    have FF := Lib.hid (F2.out w1 h1)
    have T1 := Lib.hid t1
    clear h1 t1 F1 F2
    go_wp2_with fail
    refine FF.out.mono ?_
    rintro e w2 ⟨rfl, h2, t2⟩
    have T2 := Lib.hid t2
    clear h2 t2 FF
    go_wp2
    go_ret3
    rw [HU.out.1, HU.out.2.1, HU.out.2.2]
    exact ⟨rfl, HB0.out.trans ((T1.out.trans T2.out (by simp)).below (by simp) HB0.out.size)⟩
  by_cases hl : S.length < 8
  · have HU := Lib.hid (un_none (s := S) (by rw [unfr, if_pos hl]))
    have e1 : fxE S = 0 := by rw [fxE, if_pos (by omega)]
    have e1r : fxR S = S.drop 4 := by rw [fxR, if_pos (by omega)]
    have e2 : fxE (S.drop 4) = 4 := by rw [fxE, if_neg (by rw [List.length_drop]; omega)]
    rw [e1] at F1
    rw [e1r] at F1 F2
    rw [e2] at F2
    clear hl4 hl e1 e2 e1r
    generalize fxN S = n1 at *
    generalize fxN (S.drop 4) = n2 at *
    unfold ptr at *
    go_enter Tryz.func40, Tryz.ntmps40
    go_wp2_with fail
    rw [← HWW.out]
    refine F1.out.mono ?_
    rintro e w1 ⟨rfl, h1, t1⟩
    have FF := Lib.hid (F2.out w1 h1)
    have T1 := Lib.hid t1
    clear h1 t1 F1 F2
    go_wp2_with fail
    refine FF.out.mono ?_
    rintro e w2 ⟨rfl, h2, t2⟩
    have T2 := Lib.hid t2
    clear h2 t2 FF
    go_wp2
    go_ret3
    rw [HU.out.1, HU.out.2.1, HU.out.2.2]
    exact ⟨rfl, HB0.out.trans ((T1.out.trans T2.out (by simp)).below (by simp) HB0.out.size)⟩
  · have e1 : fxR S = S.drop 4 := by rw [fxR, if_pos (by omega)]
    have e2 : fxN S = unI S 4 := by rw [fxN, if_pos (by omega)]
    have e3 : fxN (S.drop 4) = unI (S.drop 4) 4 := by rw [fxN, if_pos (by rw [List.length_drop]; omega)]
    have e4 : fxR (S.drop 4) = S.drop 8 := by rw [fxR, if_pos (by rw [List.length_drop]; omega), List.drop_drop]
    have e5 : fxE S = 0 := by rw [fxE, if_pos (by omega)]
    have e6 : fxE (S.drop 4) = 0 := by rw [fxE, if_pos (by rw [List.length_drop]; omega)]
    rw [e2, e5] at F1
    rw [e1] at F1 F2
    rw [e3, e4, e6] at F2
    obtain ⟨n, hn⟩ : ∃ n, n = unI S 4 := ⟨_, rfl⟩
    obtain ⟨c, hc⟩ : ∃ c, c = unI (S.drop 4) 4 := ⟨_, rfl⟩
    have hnl : n < 4294967296 := by rw [hn]; exact unI_lt S 4
    have hcl : c < 4294967296 := by rw [hc]; exact unI_lt _ 4
    rw [← hn] at F1
    rw [← hc] at F2
    have HL8 : Hid (¬ S.length < 8) := Lib.hid hl
    have HN := Lib.hid hn; have HC := Lib.hid hc
    clear e1 e2 e3 e4 e5 e6 hl4 hl hn hc
    by_cases hbig : 67108864 < n
    · have HU := Lib.hid (un_none (s := S) (by rw [unfr, if_neg HL8.out, if_pos (by rw [← HN.out]; exact hbig)]))
      have hb2 : (67108864 : Int) < (n : Int) := by omega
      clear hbig
      unfold ptr at *
      go_enter Tryz.func40, Tryz.ntmps40
      go_wp2_with fail
      rw [← HWW.out]
      refine F1.out.mono ?_
      rintro e w1 ⟨rfl, h1, t1⟩
      have FF := Lib.hid (F2.out w1 h1)
      have T1 := Lib.hid t1
      clear h1 t1 F1 F2
      go_wp2_with fail
      refine FF.out.mono ?_
      rintro e w2 ⟨rfl, h2, t2⟩
      have T2 := Lib.hid t2
      clear h2 t2 FF
      go_wp2
      go_ret3
      rw [HU.out.1, HU.out.2.1, HU.out.2.2]
      exact ⟨rfl, HB0.out.trans ((T1.out.trans T2.out (by simp)).below (by simp) HB0.out.size)⟩
    have hb2 : ¬ (67108864 : Int) < (n : Int) := by omega
    have hd8 : (⟨(S.drop 8).toArray⟩ : ByteArray).size = S.length - 8 := by show (S.drop 8).length = _; rw [List.length_drop]
    have hwl : IntKind.u64.wrap ((S.length - 8 : Nat) : Int) = ((S.length - 8 : Nat) : Int) := by rw [IntKind.wrap_u64]; omega
    by_cases hlong : S.length - 8 < n
    · have HU := Lib.hid (un_none (s := S) (by rw [unfr, if_neg HL8.out, if_neg (by rw [← HN.out]; exact hbig), if_pos (by rw [← HN.out]; exact hlong)]))
      have hlg : ((S.length - 8 : Nat) : Int) < (n : Int) := by omega
      clear hbig hlong
      unfold ptr at *
      go_enter Tryz.func40, Tryz.ntmps40
      go_wp2_with fail
      rw [← HWW.out]
      refine F1.out.mono ?_
      rintro e w1 ⟨rfl, h1, t1⟩
      have FF := Lib.hid (F2.out w1 h1)
      have T1 := Lib.hid t1
      clear h1 t1 F1 F2
      go_wp2_with fail
      refine FF.out.mono ?_
      rintro e w2 ⟨rfl, h2, t2⟩
      have kr : w2.cell? ⟨w.heap.size, 0, none⟩ = some (.string ⟨(S.drop 8).toArray⟩) := cell_of_heap h2
      have T2 := Lib.hid t2
      clear h2 t2 FF
      go_wp2
      go_ret3
      rw [HU.out.1, HU.out.2.1, HU.out.2.2]
      exact ⟨rfl, HB0.out.trans ((T1.out.trans T2.out (by simp)).below (by simp) HB0.out.size)⟩
    have HU0 : Hid (unfr S = if crcU (S.take 4) ((S.drop 8).take n) = c then some ((S.drop 8).take n, S.drop (8 + n)) else none) := Lib.hid (by
      rw [unfr, if_neg HL8.out, if_neg (by rw [← HN.out]; exact hbig), if_neg (by rw [← HN.out]; exact hlong), ← HN.out, ← HC.out])
    have hlg : ¬ ((S.length - 8 : Nat) : Int) < (n : Int) := by omega
    obtain ⟨p, hp⟩ : ∃ p, p = (S.drop 8).take n := ⟨_, rfl⟩
    have hpl : p.length = n := by rw [hp, List.length_take, List.length_drop]; omega
    rw [← hp] at HU0
    have CR : Hid (∀ w3, Calls Tryz.prog 102 #[.string ⟨(S.take 4 ++ p).toArray⟩] w3 fun e w' => e = .returned (.int .u32 ((crcU (S.take 4) p : Nat) : Int)) ∧ w' = w3) := Lib.hid (fun w3 => by
      have := Rb.rcrc_any w3 (S.take 4 ++ p) (by rw [List.length_append, List.length_take]; unfold maxLen; omega)
      rwa [← Rb.onN_append, ← crcU_eq] at this)
    have hul := crcU_lt (S.take 4) p
    have hx4 : (⟨S.toArray⟩ : ByteArray).extract 0 4 = ⟨(S.take 4).toArray⟩ := by rw [extract_list, List.drop_zero]
    have hxp : (⟨(S.drop 8).toArray⟩ : ByteArray).extract 0 n = ⟨p.toArray⟩ := by rw [extract_list, List.drop_zero, hp]; rfl
    have EX : Hid ((⟨(S.drop 8).toArray⟩ : ByteArray).extract n (S.length - 8) = ⟨(S.drop (8 + n)).toArray⟩) := Lib.hid (by rw [extract_rest _ _ _ (by rw [List.length_drop]; exact Nat.le_refl _), List.drop_drop])
    have hcat := cat_list ⟨(S.take 4).toArray⟩ p
    have h4s : (⟨(S.take 4).toArray⟩ : ByteArray).size = 4 := by show (S.take 4).length = _; rw [List.length_take]; have := HL8.out; omega
    have hps : (⟨p.toArray⟩ : ByteArray).size = n := hpl
    generalize crcU (S.take 4) p = u at *
    have h4l : (4 : Int) ≤ (S.length : Int) := by have := HL8.out; omega
    have hn8 : (n : Int) ≤ ((S.length - 8 : Nat) : Int) := by omega
    have hn0 : (0 : Int) ≤ (n : Int) := by omega
    have hwu : IntKind.u64.wrap (u : Int) = (u : Int) := by rw [IntKind.wrap_u64]; omega
    clear hbig hlong hp hpl
    by_cases huc : u = c
    · have HU := Lib.hid (un_some (s := S) (by rw [HU0.out, if_pos huc]))
      subst huc
      unfold ptr at *
      go_enter Tryz.func40, Tryz.ntmps40
      go_wp2_with fail
      rw [← HWW.out]
      refine F1.out.mono ?_
      rintro e w1 ⟨rfl, h1, t1⟩
      have FF := Lib.hid (F2.out w1 h1)
      have T1 := Lib.hid t1
      clear h1 t1 F1 F2
      go_wp2_with fail
      refine FF.out.mono ?_
      rintro e w2 ⟨rfl, h2, t2⟩
      have kr : w2.cell? ⟨w.heap.size, 0, none⟩ = some (.string ⟨(S.drop 8).toArray⟩) := cell_of_heap h2
      have T2 := Lib.hid t2
      clear h2 t2 FF
      go_wp2_with fail
      refine (CR.out _).mono ?_
      rintro e w3 ⟨rfl, rfl⟩
      go_wp2
      go_region
      go_wp2
      go_ret3
      rw [EX.out, HU.out.1, HU.out.2.1, HU.out.2.2]
      exact ⟨rfl, (HB0.out.trans ((T1.out.trans T2.out (by simp)).below (by simp) HB0.out.size)).drew⟩
    · have HU := Lib.hid (un_none (s := S) (by rw [HU0.out, if_neg huc]))
      have hnb : ((u : Int) == (c : Int)) = false := by simp; omega
      have hne : ¬ (u : Int) = (c : Int) := by omega
      clear huc
      unfold ptr at *
      go_enter Tryz.func40, Tryz.ntmps40
      go_wp2_with fail
      rw [← HWW.out]
      refine F1.out.mono ?_
      rintro e w1 ⟨rfl, h1, t1⟩
      have FF := Lib.hid (F2.out w1 h1)
      have T1 := Lib.hid t1
      clear h1 t1 F1 F2
      go_wp2_with fail
      refine FF.out.mono ?_
      rintro e w2 ⟨rfl, h2, t2⟩
      have kr : w2.cell? ⟨w.heap.size, 0, none⟩ = some (.string ⟨(S.drop 8).toArray⟩) := cell_of_heap h2
      have T2 := Lib.hid t2
      clear h2 t2 FF
      go_wp2_with fail
      refine (CR.out _).mono ?_
      rintro e w3 ⟨rfl, rfl⟩
      go_wp2
      go_ret3
      rw [HU.out.1, HU.out.2.1, HU.out.2.2]
      exact ⟨rfl, HB0.out.trans ((T1.out.trans T2.out (by simp)).below (by simp) HB0.out.size)⟩
end Go.Proofs.YtkeegnhjemhblaaGreatDoor.Rd
/-
  The contract of the reference's at: a branch's place.
-/
namespace Go.Proofs.YtkeegnhjemhblaaGreatDoor.Rb
open Go.RowKit Go.Maps Go.WideMaps Go.Proofs.YtkeegnhjemhblaaGreatDoor.Rf

def atI {α : Type} (K : MV α) (k : List UInt8) : Int := match atN K k with
  | some i => (i : Int)
  | none => -1
theorem at_hit {α : Type} {K : MV α} {k : List UInt8} {i : Nat} {p} (hp : K[i]? = some p) (hk : p.1 = k) (hn : ∀ x ∈ K.take i, x.1 ≠ k) : atI K k = (i : Int) := by
  obtain ⟨hi, rfl⟩ := List.getElem?_eq_some_iff.1 hp
  have : atN K k = some i := List.findIdx?_eq_some_iff_getElem.2 ⟨hi, by simpa using hk, fun j hj => by
    have := hn K[j] (List.mem_take_iff_getElem.2 ⟨j, by omega, rfl⟩)
    simpa using this⟩
  rw [atI, this]
theorem at_miss {α : Type} {K : MV α} {k : List UInt8} (hn : ∀ x ∈ K, x.1 ≠ k) : atI K k = -1 := by
  have : atN K k = none := List.findIdx?_eq_none_iff.2 (fun x hx => by simpa using hn x hx)
  rw [atI, this]
theorem RBk.cells {B : Nat} {w : World} {r : Nat} {v : Value} {Z : BM} (h : RBk B w r v Z) (hn : Z.length ≠ 0) : ∃ g cap, v = .slice (some ⟨g, 0, none⟩) Z.length cap ∧ g < w.heap.size ∧ ∀ (i : Nat) p, Z[i]? = some p → w.cell? ⟨g, i * 2, none⟩ = some (.string ⟨p.1.toArray⟩) ∧ w.cell? ⟨g, i * 2 + 1, none⟩ = some p.2.1 := by
  obtain ⟨g, cap, hv, hg, _, hc⟩ := rowS_form h.row hn
  exact ⟨g, cap, hv, hg, fun i p hp => ⟨hc _ _ (bcells_at hp).1, hc _ _ (bcells_at hp).2⟩⟩
set_option linter.unusedSimpArgs false in
set_option maxHeartbeats 4000000 in
set_option maxRecDepth 100000 in
theorem rat_any (B : Nat) (w : World) (r : Nat) (v : Value) (Z : BM) (k : List UInt8) (hn : Z.length ≤ 1000) (h : RBk B w r v Z) :
    Calls Tryz.prog 43 #[ptr r, .string ⟨k.toArray⟩] w fun e w' => e = .returned (.int .i64 (atI Z k)) ∧ Below w.heap.size w w' := by
  obtain ⟨va, vc, hv⟩ := rowS_slice h.row
  have H := Lib.hid h
  have KC : Hid (∀ w' : World, Below w.heap.size w w' → w'.cell? ⟨r, 0, none⟩ = some (.slice va Z.length vc)) := Lib.hid (fun w' hb => by rw [← hv]; exact cell_of_heap (h.below hb).book)
  have HV := Lib.hid hv
  clear h hv
  unfold ptr
  go_enter Tryz.func43, Tryz.ntmps43
  go_wp2
  go_loopw [5] (fun v5 wr => ∃ i : Nat, i ≤ Z.length ∧ v5 = .int .i64 (i : Int) ∧ Hid (∀ x ∈ Z.take i, x.1 ≠ k) ∧ Hid (Below w.heap.size w wr)) (fun v5 _ => Z.length - (RowKit.intOf v5).toNat)
  case atStart => exact ⟨0, Nat.zero_le _, rfl, Lib.hid (fun x hx => by simp at hx), Lib.hid (Below.refl _ _)⟩
  case round =>
    obtain ⟨i, hi, rfl, HM, HB⟩ := hrel
    have k0 := KC.out wr HB.out
    by_cases hil : (i : Int) < (Z.length : Int)
    · have hi2 : i < Z.length := by omega
      have h0 : (0 : Int) ≤ (i : Int) := by omega
      obtain ⟨p, hp⟩ : ∃ p, Z[i]? = some p := ⟨_, List.getElem?_eq_getElem hi2⟩
      obtain ⟨g, cap, hv, _, hc⟩ := (H.out.below HB.out).cells (by omega)
      rw [HV.out] at hv
      injection hv with e1 _ e3
      subst e1 e3
      have c0 := (hc i p hp).1
      have HP := Lib.hid hp
      clear hc hp
      by_cases hk : p.1 = k
      · have q1 : (p.1 == k) = true := by simpa using hk
        have HR : Hid (atI Z k = (i : Int)) := Lib.hid (at_hit HP.out hk HM.out)
        clear hk
        go_wp2
        go_ret
        exact ⟨(by rw [HR.out]; rfl), HB.out⟩
      · have q1 : (p.1 == k) = false := by simpa using hk
        have HM2 : Hid (∀ x ∈ Z.take (i + 1), x.1 ≠ k) := Lib.hid (fun x hx => by
          rw [List.take_add_one, HP.out] at hx
          rcases List.mem_append.1 hx with hx | hx
          · exact HM.out x hx
          · obtain rfl := List.mem_singleton.1 hx; exact hk)
        clear hk
        go_wp2
        go_roundw
        case rel => exact ⟨i + 1, by omega, by go_num, HM2, HB⟩
        case measure => simp [RowKit.intOf]; omega
    · obtain rfl : i = Z.length := by omega
      have HR : Hid (atI Z k = -1) := Lib.hid (at_miss (fun x hx => HM.out x (by rw [List.take_length]; exact hx)))
      go_wp2
      go_ret
      exact ⟨(by rw [HR.out]; rfl), HB.out⟩
end Go.Proofs.YtkeegnhjemhblaaGreatDoor.Rb
/-
  The contracts of the reference's Log and Branches.
-/
namespace Go.Proofs.YtkeegnhjemhblaaGreatDoor.Rb
open Go.RowKit Go.Maps Go.WideMaps Go.Proofs.YtkeegnhjemhblaaGreatDoor.Rf

theorem logV_none {Z : BM} {k : List UInt8} (h : atN Z k = none) : logV Z k = (.slice none 0 0, 6) ∧ atI Z k = -1 := by
  rw [logV, (at_none h).1, atI, h]; exact ⟨rfl, rfl⟩
theorem logV_some {Z : BM} {k : List UInt8} {i : Nat} {n} (h : atN Z k = some i) (hn : getM Z k = some n) : logV Z k = (n.1, 0) ∧ atI Z k = (i : Int) := by
  rw [logV, hn, atI, h]; exact ⟨rfl, rfl⟩
set_option linter.unusedSimpArgs false in
set_option maxHeartbeats 4000000 in
set_option maxRecDepth 100000 in
theorem rlog_any (B : Nat) (w : World) (r : Nat) (v : Value) (Z : BM) (k : List UInt8) (hn : Z.length ≤ 1000) (h : RBk B w r v Z) :
    Calls Tryz.prog 52 #[ptr r, .string ⟨k.toArray⟩] w fun e w' => e = .returned (.tuple #[(logV Z k).1, .int .i64 (logV Z k).2]) ∧ Below w.heap.size w w' := by
  have AT := rat_any B w r v Z k hn h
  unfold ptr at *
  cases ha : atN Z k with
  | none =>
    obtain ⟨e1, e2⟩ := logV_none ha
    rw [e1]
    rw [e2] at AT
    have AT := Lib.hid AT
    clear h ha e1 e2
    go_enter Tryz.func52, Tryz.ntmps52
    go_wp2_with fail
    refine AT.out.mono ?_
    rintro ex w1 ⟨rfl, hb⟩
    go_wp2
    go_ret2
    exact ⟨rfl, hb⟩
  | some i =>
    obtain ⟨n, hz, hg⟩ := at_some ha
    obtain ⟨e1, e2⟩ := logV_some ha hg
    rw [e1]
    rw [e2] at AT
    have AT := Lib.hid AT
    have hil : i < Z.length := (List.getElem?_eq_some_iff.1 hz).1
    have KC : Hid (∀ w' : World, Below w.heap.size w w' → ∃ g c, w'.cell? ⟨r, 0, none⟩ = some (.slice (some ⟨g, 0, none⟩) Z.length c) ∧ w'.cell? ⟨g, i * 2 + 1, none⟩ = some n.1) := Lib.hid (fun w' hb => by
      obtain ⟨g, c, hv, _, hc⟩ := (h.below hb).cells (by omega)
      exact ⟨g, c, by rw [← hv]; exact cell_of_heap (h.below hb).book, (hc i _ hz).2⟩)
    have h0 : (0 : Int) ≤ (i : Int) := by omega
    have hi2 : (i : Int) < (Z.length : Int) := by omega
    have hge : ¬ (i : Int) < 0 := by omega
    clear h ha e1 e2 hz hg
    go_enter Tryz.func52, Tryz.ntmps52
    go_wp2_with fail
    refine AT.out.mono ?_
    rintro ex w1 ⟨rfl, hb⟩
    obtain ⟨g, c, c0, c1⟩ := KC.out w1 hb
    have HB := Lib.hid hb
    clear hb AT
    go_wp2
    go_ret2
    exact ⟨rfl, HB.out⟩
theorem bytes_lt : ∀ {a b : List UInt8}, bytesBefore a b = true → a < b
  | [], [], h => by cases h
  | [], _ :: _, _ => List.nil_lt_cons _ _
  | _ :: _, [], h => by cases h
  | a :: r, b :: s, h => by
    have h2 : (decide (a < b) || (a == b && bytesBefore r s)) = true := h
    rw [Bool.or_eq_true, decide_eq_true_eq, Bool.and_eq_true, beq_iff_eq] at h2
    rw [List.cons_lt_cons_iff]
    exact h2.imp id (fun h => ⟨h.1, bytes_lt h.2⟩)
theorem infoSt : (Tryz.prog.info? 9).map (fun i => (i.zero, i.size, i.bytes)) = some (some (.string ⟨#[]⟩), 1, 16) := by kernel_rfl
theorem info_parts {T : TypeId} {z : Value} {s b : Nat} (h : (Tryz.prog.info? T).map (fun i => (i.zero, i.size, i.bytes)) = some (some z, s, b)) : ∃ i, Tryz.prog.info? T = some i ∧ i.zero = some z ∧ i.size = s ∧ i.bytes = b := by
  obtain ⟨i, hi, e⟩ := Option.map_eq_some_iff.1 h
  injection e with e1 e2
  injection e2 with e2 e3
  exact ⟨i, hi, e1, e2, e3⟩
theorem hold_new {w : World} {c : Value} {T : TypeId} : HoldN (w.alloc (.cells #[c] T)) (.slice (some ⟨w.heap.size, 0, none⟩) 1 1) 1 [c] := .inl ⟨⟨w.heap.size, 0, none⟩, 1, rfl, fun j u hj => by
  rw [Addr.add_lit, Nat.zero_add, cell_of_heap (MapKept.heap_alloc w _).1]
  cases j with
  | zero => exact hj
  | succ j => simp at hj⟩
theorem names_srt {α : Type} {K : MV α} (h : SrtM K) : names K = K.map (·.1) := by
  rw [names]
  refine List.mergeSort_of_pairwise ?_
  rw [List.pairwise_map]
  refine List.Pairwise.imp ?_ h
  intro a b hab
  have h3 : a.1 < b.1 := bytes_lt hab
  simpa using Std.le_of_lt h3
set_option linter.unusedSimpArgs false in
set_option maxHeartbeats 4000000 in
set_option maxRecDepth 100000 in
theorem rbranches_any (B : Nat) (w : World) (r : Nat) (v : Value) (Z : BM) (hn : Z.length ≤ 1000) (h : RBk B w r v Z) :
    Calls Tryz.prog 48 #[ptr r] w fun e w' => ∃ v', e = .returned v' ∧ w'.ownsRow w.heap.size 9 1 v' Z.length (Z.map fun p => Value.string ⟨p.1.toArray⟩) ∧ Below w.heap.size w w' := by
  obtain ⟨i0, hi0, hz0, hz1, hz2⟩ := info_parts infoSt
  have hz3 : (Value.string ⟨#[]⟩).cells.size = 1 := by kernel_rfl
  obtain ⟨va, vc, hv⟩ := rowS_slice h.row
  have H := Lib.hid h
  have KC : Hid (∀ w' : World, Below w.heap.size w w' → w'.cell? ⟨r, 0, none⟩ = some (.slice va Z.length vc)) := Lib.hid (fun w' hb => by rw [← hv]; exact cell_of_heap (h.below hb).book)
  have HV := Lib.hid hv
  clear h hv
  unfold ptr
  go_enter Tryz.func48, Tryz.ntmps48
  go_wp2
  go_loopw [3, 4] (fun v3 v4 wr => ∃ i : Nat, i ≤ Z.length ∧ v4 = .int .i64 (i : Int) ∧ Hid (wr.ownsRow w.heap.size 9 1 v3 i ((Z.take i).map fun p => Value.string ⟨p.1.toArray⟩)) ∧ Hid (Below w.heap.size w wr)) (fun _ v4 _ => Z.length - (RowKit.intOf v4).toNat)
  case atStart => exact ⟨0, Nat.zero_le _, rfl, Lib.hid (World.ownsRow_nil _ _ _ _), Lib.hid (Below.refl _ _)⟩
  case round =>
    obtain ⟨i, hi, rfl, HO, HB⟩ := hrel
    have k0 := KC.out wr HB.out
    by_cases hil : (i : Int) < (Z.length : Int)
    · have hi2 : i < Z.length := by omega
      have h0 : (0 : Int) ≤ (i : Int) := by omega
      obtain ⟨p, hp⟩ : ∃ p, Z[i]? = some p := ⟨_, List.getElem?_eq_getElem hi2⟩
      obtain ⟨g, cap, hv, _, hc⟩ := (H.out.below HB.out).cells (by omega)
      rw [HV.out] at hv
      injection hv with e1 _ e3
      subst e1 e3
      have c0 := (hc i p hp).1
      have HTK : Hid ((Z.take (i + 1)).map (fun p => Value.string ⟨p.1.toArray⟩) = (Z.take i).map (fun p => Value.string ⟨p.1.toArray⟩) ++ [Value.string ⟨p.1.toArray⟩]) := Lib.hid (by rw [List.take_add_one, hp]; simp)
      have HSZ : Hid (w.heap.size ≤ wr.heap.size) := Lib.hid HB.out.size
      clear hc hp
      have HAL : Hid (Below wr.heap.size wr (wr.alloc (.cells #[.string ⟨p.1.toArray⟩] 9))) := Lib.hid ((Below.refl _ _).alloc (Nat.le_refl _) _)
      go_wp2_with (first
        | (at_builtin; refine wpList_appendN 1 (by decide) rfl _ _ 92 rfl w.heap.size 9 i0 _ 16 Tryz.underlying92 hi0 hz0 hz1 hz2 hz3 _ i ((Z.take i).map fun p => Value.string ⟨p.1.toArray⟩) rfl (rowS_kept HO.out (fun b _ hl => HAL.out.block b hl)) _ 1 [.string ⟨p.1.toArray⟩] rfl hold_new rfl (by intro u hu; rw [List.mem_singleton] at hu; subst hu; rfl) (by unfold maxLen; omega) (by omega) (Nat.le_trans HSZ.out HAL.out.size) ?_
           intro vb wb ho2 hg2 hv2
           have HOB := Lib.hid ho2
           have HB2 : Hid (Below w.heap.size w wb) := Lib.hid ((HB.out.trans (HAL.out.mono HSZ.out)).grown hg2 (Nat.le_trans HSZ.out HAL.out.size) (fun k hk => rowS_ge HO.out k (by simp [ob]; exact hk)))
           clear ho2 hg2 hv2)
        | fail)
      go_roundw
      case rel => exact ⟨i + 1, by omega, by go_num, Lib.hid (by rw [HTK.out]; exact HOB.out), HB2⟩
      case measure => simp [RowKit.intOf]; omega
    · obtain rfl : i = Z.length := by omega
      go_wp2
      go_ret
      refine ⟨_, rfl, ?_, HB.out⟩
      have := HO.out
      rw [List.take_length] at this
      exact this
end Go.Proofs.YtkeegnhjemhblaaGreatDoor.Rb
