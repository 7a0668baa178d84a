import Derived.Test.YtkeegnhjemhblaaGreatDoorZPRfFrame
import Derived.Laws.BitsAllLaws
import Derived.Test.YtkeegnhjemhblaaGreatDoorZPRfBack
set_option linter.unusedSimpArgs false
set_option linter.unusedVariables false
/-
  The contracts of the reference's checksum.
-/
namespace Go.Proofs.YtkeegnhjemhblaaGreatDoor.Rb
open Go.RowKit Go.Maps Go.WideMaps Go.Proofs.YtkeegnhjemhblaaGreatDoor.Rf

theorem and_one {c : Int} (h0 : 0 ≤ c) (h1 : c < 4294967296) : bits .and .u32 c 1 = c % 2 := by
  rw [u32_and c 1 h0 h1 (by decide) (by decide)]
  rw [show (1 : Int).toNat = 1 from rfl, Nat.and_one_is_mod]; omega
theorem xor_zero {c : Int} (h0 : 0 ≤ c) (h1 : c < 4294967296) : bits .xor .u32 c 0 = c := by
  rw [u32_xor c 0 h0 h1 (by decide) (by decide)]
  rw [show (0 : Int).toNat = 0 from rfl, Nat.xor_zero]; omega
theorem crcBit_eq {c : Int} (h0 : 0 ≤ c) (h1 : c < 4294967296) : crcBit c = if c % 2 = 1 then bits .xor .u32 (c / 2) 3988292384 else c / 2 := by
  rw [crcBit, and_one h0 h1]
  split
  · next h => rw [h]; congr 1
  · next h =>
    have : c % 2 = 0 := by omega
    rw [this]
    have e : bits .and .u32 3988292384 (-0 % 4294967296) = 0 := by decide +kernel
    rw [e, xor_zero (by omega) (by omega)]
theorem bits_u32 (op : BinOp) (a b : Int) : 0 ≤ bits op .u32 a b ∧ bits op .u32 a b < 4294967296 := by
  have := bits_within op .u32 a b
  refine ⟨this.1, ?_⟩
  have h2 := this.2
  have : IntKind.u32.max = 4294967295 := by decide
  omega
theorem crcI_in (i : Nat) {c : Int} (h0 : 0 ≤ c) (h1 : c < 4294967296) : 0 ≤ crcI i c ∧ crcI i c < 4294967296 := by
  cases i with
  | zero => exact ⟨h0, h1⟩
  | succ i =>
    rw [crcI, crcBit]
    exact bits_u32 _ _ _
set_option linter.unusedSimpArgs false in
set_option maxHeartbeats 4000000 in
set_option maxRecDepth 100000 in
theorem rstep_any (w : World) (c : Int) (b : UInt8) :
    Calls Tryz.prog 170 #[.int .u32 c, .int .u8 (b.toNat : Int)] w fun e w' => e = .returned (.int .u32 (crcB c b)) ∧ w' = w := by
  obtain ⟨c0, hc0⟩ : ∃ c0, c0 = bits .xor .u32 c ((b.toNat : Int) % 4294967296) := ⟨_, rfl⟩
  have HC : Hid (crcB c b = crcI 8 c0) := Lib.hid (by rw [crcB, hc0])
  have HIN : Hid (∀ i, 0 ≤ crcI i c0 ∧ crcI i c0 < 4294967296) := Lib.hid (fun i => crcI_in i (by rw [hc0]; exact (bits_u32 _ _ _).1) (by rw [hc0]; exact (bits_u32 _ _ _).2))
  go_enter Tryz.func170, Tryz.ntmps170
  go_wp2
  rw [← hc0]
  clear hc0
  go_loopw [0, 5] (fun v0 v5 wr => ∃ i : Nat, i ≤ 8 ∧ v5 = .int .i64 (i : Int) ∧ v0 = .int .u32 (crcI i c0) ∧ wr = w) (fun _ v5 _ => 8 - (RowKit.intOf v5).toNat)
  case atStart => exact ⟨0, by omega, rfl, rfl, rfl⟩
  case round =>
    obtain ⟨i, hi, rfl, rfl, rfl⟩ := hrel
    by_cases hi8 : (i : Int) < 8
    · obtain ⟨h0, h1⟩ := HIN.out i
      have hbit : crcI (i + 1) c0 = crcBit (crcI i c0) := rfl
      rw [crcBit_eq h0 h1] at hbit
      have HBIT := Lib.hid hbit
      clear hbit
      generalize crcI i c0 = cc at *
      by_cases hodd : cc % 2 = 1
      · have q1 : cc.tmod 2 = 1 := by rw [Int.tmod_eq_emod_of_nonneg h0]; exact hodd
        have q2 : cc.tdiv 2 = cc / 2 := Int.tdiv_eq_ediv_of_nonneg h0
        have HB2 : Hid (bits .xor .u32 (cc / 2) 3988292384 = crcI (i + 1) c0) := Lib.hid (by rw [HBIT.out, if_pos hodd])
        go_wp2
        go_roundw
        case rel => exact ⟨i + 1, by omega, by go_num, by rw [← HB2.out], trivial⟩
        case measure => simp [RowKit.intOf]; omega
      · have q1 : cc.tmod 2 = 0 := by rw [Int.tmod_eq_emod_of_nonneg h0]; omega
        have q2 : cc.tdiv 2 = cc / 2 := Int.tdiv_eq_ediv_of_nonneg h0
        have HB2 : Hid (cc / 2 = crcI (i + 1) c0) := Lib.hid (by rw [HBIT.out, if_neg hodd])
        go_wp2
        go_roundw
        case rel => exact ⟨i + 1, by omega, by go_num, by rw [← HB2.out], trivial⟩
        case measure => simp [RowKit.intOf]; omega
    · obtain rfl : i = 8 := by omega
      go_wp2
      go_ret
      rw [HC.out]
      exact ⟨rfl, rfl⟩
set_option linter.unusedSimpArgs false in
set_option maxHeartbeats 4000000 in
set_option maxRecDepth 100000 in
theorem ron_any (w : World) (c : Int) (s : List UInt8) (hs : s.length ≤ maxLen) :
    Calls Tryz.prog 145 #[.int .u32 c, .string ⟨s.toArray⟩] w fun e w' => e = .returned (.int .u32 (onN c s)) ∧ w' = w := by
  unfold maxLen at hs
  have hsz : (⟨s.toArray⟩ : ByteArray).size = s.length := rfl
  have HE : Hid (onN c s = crcNot (crcOn (crcNot c) s)) := Lib.hid rfl
  have ST := Lib.hid (fun (w' : World) (c : Int) (b : UInt8) => rstep_any w' c b)
  go_enter Tryz.func145, Tryz.ntmps145
  go_wp2
  obtain ⟨c1, hc1⟩ : ∃ c1, c1 = crcNot c := ⟨_, rfl⟩
  have HC1 := Lib.hid hc1
  clear hc1
  go_loopw [5, 6] (fun v5 v6 wr => ∃ i : Nat, i ≤ s.length ∧ v6 = .int .i64 (i : Int) ∧ v5 = .int .u32 (crcOn c1 (s.take i)) ∧ wr = w) (fun _ v6 _ => s.length - (RowKit.intOf v6).toNat)
  case atStart => exact ⟨0, by omega, rfl, by rw [HC1.out]; rfl, rfl⟩
  case round =>
    obtain ⟨i, hi, rfl, rfl, rfl⟩ := hrel
    by_cases hil : (i : Int) < (s.length : Int)
    · have hi2 : i < s.length := by omega
      have h0 : (0 : Int) ≤ (i : Int) := by omega
      obtain ⟨b, hb⟩ : ∃ b, b = s[i] := ⟨_, rfl⟩
      have HN : Hid (crcOn c1 (s.take (i + 1)) = crcB (crcOn c1 (s.take i)) b) := Lib.hid (by rw [List.take_succ_eq_append_getElem hi2, crcOn, List.foldl_append, hb]; rfl)
      have SA := Lib.hid (ST.out wr (crcOn c1 (s.take i)) b)
      have hidx : (⟨s.toArray⟩ : ByteArray)[i]'(by rw [hsz]; omega) = b := by rw [hb]; rfl
      clear hb
      generalize crcOn c1 (s.take i) = cc at *
      go_wp2_with fail
      refine SA.out.mono ?_
      rintro ex w2 ⟨rfl, rfl⟩
      go_wp2
      go_roundw
      case rel => exact ⟨i + 1, by omega, by go_num, by rw [HN.out], trivial⟩
      case measure => simp [RowKit.intOf]; omega
    · obtain rfl : i = s.length := by omega
      rw [List.take_length]
      go_wp2
      go_ret
      rw [HE.out, ← HC1.out]
      exact ⟨rfl, rfl⟩
set_option maxHeartbeats 4000000 in
set_option maxRecDepth 100000 in
theorem rcrc_any (w : World) (s : List UInt8) (hs : s.length ≤ maxLen) :
    Calls Tryz.prog 102 #[.string ⟨s.toArray⟩] w fun e w' => e = .returned (.int .u32 (onN 0 s)) ∧ w' = w := by
  have ON := Lib.hid (ron_any w 0 s hs)
  go_enter Tryz.func102, Tryz.ntmps102
  go_wp2_with fail
  refine ON.out.mono ?_
  rintro ex w2 ⟨rfl, rfl⟩
  go_wp2
  go_ret
  exact ⟨rfl, rfl⟩
end Go.Proofs.YtkeegnhjemhblaaGreatDoor.Rb
/-
  The contracts of the reference's short numbers and texts.
-/
namespace Go.Proofs.YtkeegnhjemhblaaGreatDoor.Rb
open Go.RowKit Go.Maps Go.WideMaps Go.Proofs.YtkeegnhjemhblaaGreatDoor.Rf

theorem conv_val {w : World} {x : Nat} {b : UInt8} {n : Int} (hn : n = (b.toNat : Int)) (h : w.heap[x]? = some (.cells #[.int .u8 n] 5)) : (convert 82 9 (.slice (some ⟨x, 0, none⟩) 1 1)).run Tryz.prog w = .ok (.string ⟨[b].toArray⟩) w := by
  subst hn
  refine conv_row [b] (fun j v hv => ?_)
  rw [Nat.zero_add, cell_of_heap h]
  cases j with
  | zero => exact hv
  | succ j => simp [Lib.byteCells] at hv
set_option maxHeartbeats 4000000 in
set_option maxRecDepth 100000 in
theorem ref_put (w : World) (l : List UInt8) (n : Nat) (hn : n < 18446744073709551616) (hl : l.length ≤ 1099511627776) :
    Calls Tryz.prog 106 #[.string ⟨l.toArray⟩, .int .u64 (n : Int)] w fun e w' => e = .returned (.string ⟨(l ++ sh n).toArray⟩) ∧ Below w.heap.size w w' := by
  go_enter Tryz.func106, Tryz.ntmps106
  go_wp2
  go_loopw [0, 1] (fun vs vn w' => ∃ (k m : Nat) (pre : List UInt8), k ≤ 9 ∧ vn = .int .u64 (m : Int) ∧ vs = .string ⟨(l ++ pre).toArray⟩ ∧ Below w.heap.size w w' ∧ Hid (pre.length = k ∧ sh n = pre ++ shF (9 - k) m ∧ m < 2 ^ (64 - 7 * k) ∧ (0 < k → 0 < m))) (fun _ vn _ => (RowKit.intOf vn).toNat)
  case atStart => exact ⟨0, n, [], by omega, rfl, by simp, Below.refl _ _, Lib.hid ⟨rfl, rfl, by simpa using hn, by omega⟩⟩
  case round =>
    obtain ⟨k, m, pre, hk, rfl, rfl, hb, hid⟩ := hrel
    have HB := Lib.hid hb
    have hpl : l.length + pre.length + 1 ≤ 9223372036854775807 := by rw [hid.out.1]; omega
    have hm64 : m < 18446744073709551616 := Nat.lt_of_lt_of_le hid.out.2.2.1 (show 2 ^ (64 - 7 * k) ≤ 2 ^ 64 from Nat.pow_le_pow_right (by decide) (by omega))
    by_cases h128 : (128 : Int) ≤ (m : Int)
    · have hk9 : k < 9 := by
        have := hid.out.2.2.1
        by_cases e : k = 9
        · subst e; simp at this; omega
        · omega
      obtain ⟨d, hd⟩ : ∃ d, d = UInt8.ofNat (m % 128 + 128) := ⟨_, rfl⟩
      have hv : (m : Int) % 128 + 128 = (d.toNat : Int) := by rw [hd]; simp; omega
      have hcv := conv_val hv (MapKept.heap_alloc wr (.cells #[.int .u8 ((m : Int) % 128 + 128)] 5)).1
      have HC : Hid ((⟨(l ++ pre).toArray⟩ : ByteArray) ++ ⟨[d].toArray⟩ = ⟨(l ++ (pre ++ [d])).toArray⟩) := Lib.hid (by rw [cat_list, ba_data, List.append_assoc])
      have HB2 := Lib.hid (hb.alloc hb.size (.cells #[.int .u8 ((m : Int) % 128 + 128)] 5))
      have HD := Lib.hid hd
      clear hb hv hd
      go_wp2
      go_roundw
      case rel =>
        refine ⟨k + 1, m / 128, pre ++ [d], by omega, by simp, by rw [HC.out], HB2.out, Lib.hid ?_⟩
        obtain ⟨a1, a2, a3, a4⟩ := hid.out
        refine ⟨by simp [a1], ?_, ?_, fun _ => by omega⟩
        · rw [a2, HD.out, List.append_assoc]
          have e : 9 - k = (9 - (k + 1)) + 1 := by omega
          rw [e, shF_step (by omega)]; rfl
        · rw [Nat.div_lt_iff_lt_mul (by decide)]
          have e : 64 - 7 * k = (64 - 7 * (k + 1)) + 7 := by omega
          rw [e, Nat.pow_add] at a3
          exact a3
      case measure => simp [RowKit.intOf]; omega
    · obtain ⟨d, hd⟩ : ∃ d, d = UInt8.ofNat m := ⟨_, rfl⟩
      have hv : (m : Int) = (d.toNat : Int) := by rw [hd]; simp; omega
      have hcv := conv_val hv (MapKept.heap_alloc wr (.cells #[.int .u8 (m : Int)] 5)).1
      have HC : Hid ((⟨(l ++ pre).toArray⟩ : ByteArray) ++ ⟨[d].toArray⟩ = ⟨(l ++ (pre ++ [d])).toArray⟩) := Lib.hid (by rw [cat_list, ba_data, List.append_assoc])
      have HB2 := Lib.hid (hb.alloc hb.size (.cells #[.int .u8 (m : Int)] 5))
      have HE : Hid (sh n = pre ++ [d]) := Lib.hid (by rw [hid.out.2.1, shF_small (by omega), hd])
      clear hb hv hd
      go_wp2
      go_ret
      rw [HE.out, HC.out]
      exact ⟨rfl, HB2.out⟩
set_option maxHeartbeats 4000000 in
set_option maxRecDepth 100000 in
theorem ref_putText (w : World) (l t : List UInt8) (hl : l.length ≤ 1099511627776) (ht : t.length ≤ 1099511627776) :
    Calls Tryz.prog 107 #[.string ⟨l.toArray⟩, .string ⟨t.toArray⟩] w fun e w' => e = .returned (.string ⟨(l ++ putText t).toArray⟩) ∧ Below w.heap.size w w' := by
  have hts : (⟨t.toArray⟩ : ByteArray).size = t.length := rfl
  have PU := Lib.hid (ref_put w l t.length (by omega) hl)
  have hsl : l.length + (sh t.length).length + t.length ≤ 9223372036854775807 := by have := sh_length t.length; omega
  have HC : Hid ((⟨(l ++ sh t.length).toArray⟩ : ByteArray) ++ ⟨t.toArray⟩ = ⟨(l ++ putText t).toArray⟩) := Lib.hid (by rw [cat_list, ba_data, putText, List.append_assoc])
  go_enter Tryz.func107, Tryz.ntmps107
  go_wp2_with fail
  refine PU.out.mono ?_
  rintro ex w1 ⟨rfl, hb1⟩
  have HB1 := Lib.hid hb1
  clear hb1
  go_wp2
  go_ret
  rw [HC.out]
  exact ⟨rfl, HB1.out⟩
end Go.Proofs.YtkeegnhjemhblaaGreatDoor.Rb
/-
  The contracts of the reference's numbers in four bytes and of its frame.
-/
namespace Go.Proofs.YtkeegnhjemhblaaGreatDoor.Rb
open Go.RowKit Go.Maps Go.WideMaps Go.Proofs.YtkeegnhjemhblaaGreatDoor.Rf

def beQ (n i : Nat) : UInt8 := UInt8.ofNat (n / 256 ^ (3 - i))
theorem be4_take (n j : Nat) (h : j < 4) : (be4 n).take (j + 1) = (be4 n).take j ++ [beQ n j] := by
  match j, h with
  | 0, _ => rfl
  | 1, _ => rfl
  | 2, _ => simp [be4, beQ]
  | 3, _ => simp [be4, beQ]
theorem shr_byte (n i : Nat) : (((n : Int) / 2 ^ (8 * i)) % 256) = ((UInt8.ofNat (n / 256 ^ i)).toNat : Int) := by
  have e : (2 : Int) ^ (8 * i) = ((256 ^ i : Nat) : Int) := by rw [show (256 : Nat) = 2 ^ 8 from rfl, ← Nat.pow_mul]; simp
  rw [e, UInt8.toNat_ofNat', ← Int.natCast_ediv]
  generalize n / 256 ^ i = m
  simp
set_option maxRecDepth 100000 in
theorem fits4 (w : World) (n : Nat) (hn : n < 4294967296) :
    Calls Tryz.prog 201 #[.int .u64 (n : Int), .int .i64 4] w fun e w' => e = .returned (.bool true) ∧ Below w.heap.size w w' := by
  have h : (n : Int) < 4294967296 := by omega
  go_enter Tryz.func201, Tryz.ntmps201
  go_wp2
  try go_quiet (fail)
  try go_wp2
  go_ret
  first | exact ⟨rfl, Below.refl _ _⟩ | exact ⟨rfl, (⟨rfl, rfl, rfl, Nat.le_refl _, fun _ _ => rfl⟩ : Below _ _ _)⟩
set_option maxHeartbeats 4000000 in
set_option maxRecDepth 100000 in
theorem ref_fixed4 (w : World) (n : Nat) (hn : n < 4294967296) :
    Calls Tryz.prog 172 #[.string ⟨#[]⟩, .int .u64 (n : Int), .int .i64 4] w fun e w' => e = .returned (.tuple #[.string ⟨(be4 n).toArray⟩, .int .i64 0]) ∧ Below w.heap.size w w' := by
  have FI := Lib.hid (fits4 w n hn)
  have HE : Hid ((be4 n).take 4 = be4 n) := Lib.hid rfl
  have HB4 : Hid (∀ j, j < 4 → (be4 n).take (j + 1) = (be4 n).take j ++ [beQ n j]) := Lib.hid (be4_take n)
  have HL4 : Hid ((be4 n).length = 4) := Lib.hid rfl
  obtain ⟨bn, hbn⟩ : ∃ bn, bn = be4 n := ⟨_, rfl⟩
  rw [← hbn] at HE HB4 HL4 ⊢
  clear hbn
  go_enter Tryz.func172, Tryz.ntmps172
  go_wp2_with fail
  refine FI.out.mono ?_
  rintro e wx ⟨rfl, hwx⟩
  have HX := Lib.hid hwx
  clear hwx
  go_wp2
  go_loopw [0, 8] (fun vs vi w' => ∃ j : Nat, j ≤ 4 ∧ vs = .string ⟨(bn.take j).toArray⟩ ∧ vi = .int .i64 (3 - (j : Int)) ∧ Hid (Below w.heap.size w w')) (fun _ vi _ => (RowKit.intOf vi + 1).toNat)
  case atStart => exact ⟨0, by omega, by simp, rfl, HX⟩
  case round =>
    obtain ⟨j, hj, rfl, rfl, HB⟩ := hrel
    obtain ⟨i, hi⟩ : ∃ i : Int, i = 3 - (j : Int) := ⟨_, rfl⟩
    rw [← hi]
    by_cases hlt : (0 : Int) ≤ i
    · have hj8 : j < 4 := by omega
      obtain ⟨k, hk⟩ : ∃ k : Nat, i = (k : Int) := ⟨3 - j, by omega⟩
      subst hk
      have hk7 : k ≤ 3 := by omega
      have hjk : 3 - j = k := by omega
      obtain ⟨d, hd⟩ : ∃ d, d = UInt8.ofNat (n / 256 ^ k) := ⟨_, rfl⟩
      have hv : (n : Int) / 2 ^ (8 * k) % 256 = (d.toNat : Int) := by rw [hd]; exact shr_byte n k
      have hcv := conv_val hv (MapKept.heap_alloc wr (.cells #[.int .u8 ((n : Int) / 2 ^ (8 * k) % 256)] 5)).1
      have HC : Hid ((⟨(bn.take j).toArray⟩ : ByteArray) ++ ⟨[d].toArray⟩ = ⟨(bn.take (j + 1)).toArray⟩) := Lib.hid (by rw [cat_list, ba_data, HB4.out j hj8, beQ, hjk, hd])
      have HB2 := Lib.hid (HB.out.alloc HB.out.size (.cells #[.int .u8 ((n : Int) / 2 ^ (8 * k) % 256)] 5))
      have HK := Lib.hid hi
      have hpl : (bn.take j).length + 1 ≤ 9223372036854775807 := by rw [List.length_take, HL4.out]; omega
      clear hv hd hi hjk HB
      go_wp2
      go_roundw
      case rel => exact ⟨j + 1, by omega, congrArg Value.string HC.out, congrArg (Value.int .i64) (by have := HK.out; omega), HB2⟩
      case measure => simp [RowKit.intOf]
    · obtain rfl : j = 4 := by omega
      clear hi
      go_wp2
      go_ret2
      rw [HE.out]
      exact ⟨rfl, HB.out⟩
set_option maxRecDepth 100000 in
theorem ref_Fixed4 (w : World) (n : Nat) (hn : n < 4294967296) :
    Calls Tryz.prog 147 #[.int .u64 (n : Int), .int .i64 4] w fun e w' => e = .returned (.string ⟨(be4 n).toArray⟩) ∧ Below w.heap.size w w' := by
  have FI := Lib.hid (ref_fixed4 w n hn)
  go_enter Tryz.func147, Tryz.ntmps147
  go_wp2_with fail
  refine FI.out.mono ?_
  rintro e wx ⟨rfl, hwx⟩
  go_wp2
  go_ret
  exact ⟨rfl, hwx⟩

theorem not_not {c : Int} (h0 : 0 ≤ c) (h1 : c < 4294967296) : crcNot (crcNot c) = c := by
  have hm : IntKind.u32.max = 4294967295 := by decide
  rw [crcNot, crcNot, hm]
  have hb := bits_u32 .xor 4294967295 c
  rw [u32_xor _ _ (by decide) (by decide) hb.1 hb.2, u32_xor _ _ (by decide) (by decide) h0 h1, Int.toNat_natCast, ← Nat.xor_assoc, Nat.xor_self, Nat.zero_xor]
  omega
theorem crcOn_in {c : Int} (h0 : 0 ≤ c) (h1 : c < 4294967296) (s : List UInt8) : 0 ≤ crcOn c s ∧ crcOn c s < 4294967296 := by
  induction s generalizing c with
  | nil => exact ⟨h0, h1⟩
  | cons b r ih =>
    rw [crcOn, List.foldl_cons]
    have := crcI_in 8 (bits_u32 .xor c ((b.toNat : Int) % 4294967296)).1 (bits_u32 .xor c ((b.toNat : Int) % 4294967296)).2
    exact ih this.1 this.2
theorem onN_append (a b : List UInt8) : onN (onN 0 a) b = onN 0 (a ++ b) := by
  have h0 := crcOn_in (bits_u32 .xor IntKind.u32.max 0).1 (bits_u32 .xor IntKind.u32.max 0).2 a
  have e : crcNot (onN 0 a) = crcOn (crcNot 0) a := not_not h0.1 h0.2
  rw [onN, e, onN, crcOn, crcOn, crcOn, List.foldl_append]
set_option linter.unusedSimpArgs false in
set_option maxHeartbeats 4000000 in
set_option maxRecDepth 100000 in
theorem rlaid_any (w : World) (s : List UInt8) (hs : s.length ≤ 67108864) :
    Calls Tryz.prog 108 #[.string ⟨s.toArray⟩] w fun e w' => e = .returned (.string ⟨(frameN s).toArray⟩) ∧ Below w.heap.size w w' := by
  have F1 := Lib.hid (ref_Fixed4 w s.length (by omega))
  have hsz : (⟨s.toArray⟩ : ByteArray).size = s.length := rfl
  obtain ⟨b1, hb1⟩ : ∃ b1, b1 = be4 s.length := ⟨_, rfl⟩
  rw [← hb1] at F1
  have hbl : b1.length = 4 := by rw [hb1]; rfl
  have CR := Lib.hid (fun w' : World => rcrc_any w' (b1 ++ s) (by rw [List.length_append, hbl]; unfold maxLen; omega))
  have HN : Hid (onN 0 (b1 ++ s) = ((crcN s : Nat) : Int) ∧ crcN s < 4294967296) := Lib.hid (by
    have hr := onN_range 0 (b1 ++ s)
    rw [crcN, ← hb1, onN_append]
    omega)
  have hr := HN.out
  rw [hr.1] at CR
  have F2 := Lib.hid (fun w' : World => ref_Fixed4 w' (crcN s) hr.2)
  have HE : Hid (frameN s = b1 ++ be4 (crcN s) ++ s) := Lib.hid (by rw [frameN, hb1])
  obtain ⟨b2, hb2⟩ : ∃ b2, b2 = be4 (crcN s) := ⟨_, rfl⟩
  have hbl2 : b2.length = 4 := by rw [hb2]; rfl
  rw [← hb2] at F2 HE
  obtain ⟨cn, hcn⟩ : ∃ cn, cn = crcN s := ⟨_, rfl⟩
  rw [← hcn] at F2 CR hr
  have hc2 := hr.2
  obtain ⟨FN, hFN⟩ : ∃ FN, FN = frameN s := ⟨_, rfl⟩
  rw [← hFN] at HE ⊢
  have HC1 : Hid ((⟨b1.toArray⟩ : ByteArray) ++ ⟨s.toArray⟩ = ⟨(b1 ++ s).toArray⟩) := Lib.hid (by rw [cat_list, ba_data])
  have HC2 : Hid ((⟨b1.toArray⟩ : ByteArray) ++ ⟨b2.toArray⟩ = ⟨(b1 ++ b2).toArray⟩) := Lib.hid (by rw [cat_list, ba_data])
  have HC3 : Hid ((⟨(b1 ++ b2).toArray⟩ : ByteArray) ++ ⟨s.toArray⟩ = ⟨FN.toArray⟩) := Lib.hid (by rw [cat_list, ba_data, HE.out])
  have hl1 : (⟨b1.toArray⟩ : ByteArray).size = 4 := hbl
  have hl2 : (⟨b2.toArray⟩ : ByteArray).size = 4 := hbl2
  clear hb1 hr hb2 hcn hFN hbl hbl2
  go_enter Tryz.func108, Tryz.ntmps108
  go_wp2_with fail
  refine F1.out.mono ?_
  rintro ex w1 ⟨rfl, hw1⟩
  have HB1 := Lib.hid hw1
  clear hw1
  have C1 := Lib.hid (CR.out w1)
  rw [← HC1.out] at C1
  go_wp2_with fail
  refine C1.out.mono ?_
  rintro ex w2 ⟨rfl, rfl⟩
  have F3 := Lib.hid (F2.out w2)
  go_wp2_with fail
  refine F3.out.mono ?_
  rintro ex w3 ⟨rfl, hw3⟩
  have HB3 := Lib.hid (HB1.out.trans (hw3.mono HB1.out.size))
  clear hw3
  go_wp2
  go_ret
  rw [HC2.out, HC3.out]
  exact ⟨rfl, HB3.out⟩
end Go.Proofs.YtkeegnhjemhblaaGreatDoor.Rb
