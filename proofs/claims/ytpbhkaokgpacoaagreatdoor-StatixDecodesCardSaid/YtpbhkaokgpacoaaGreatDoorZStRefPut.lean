import Derived.Test.YtpbhkaokgpacoaaGreatDoorZStEncode
set_option linter.unusedSimpArgs false
set_option linter.unusedVariables false
/-
  The contracts of the reference's Put and PutText.
-/
namespace Go.Proofs.YtpbhkaokgpacoaaGreatDoor.St
open Go.RowKit Go.Maps Go.WideMaps Go.Proofs.YtpbhkaokgpacoaaGreatDoor.Rf Go.Proofs.YtpbhkaokgpacoaaGreatDoor.Rd

theorem conv_val {w : World} {x : Nat} {b : UInt8} {n : Int} (hn : n = (b.toNat : Int)) (h : w.heap[x]? = some (.cells #[.int .u8 n] 5)) : (convert 87 9 (.slice (some ⟨x, 0, none⟩) 1 1)).run Tryz.prog w = .ok (.string ⟨[b].toArray⟩) w := by
  subst hn; exact conv_at h

set_option maxHeartbeats 4000000 in
set_option maxRecDepth 100000 in
theorem ref_put (w : World) (l : List UInt8) (n : Nat) (hn : n < 18446744073709551616) (hl : l.length ≤ 1099511627776) :
    Calls Tryz.prog 63 #[.string ⟨l.toArray⟩, .int .u64 (n : Int)] w fun e w' => e = .returned (.string ⟨(l ++ sh n).toArray⟩) ∧ Below w.heap.size w w' := by
  go_enter Tryz.func63, Tryz.ntmps63
  go_wp2
  go_loopw [0, 1] (fun vs vn w' => ∃ (k m : Nat) (pre : List UInt8), k ≤ 9 ∧ vn = .int .u64 (m : Int) ∧ vs = .string ⟨(l ++ pre).toArray⟩ ∧ Below w.heap.size w w' ∧ Hid (pre.length = k ∧ sh n = pre ++ shF (9 - k) m ∧ m < 2 ^ (64 - 7 * k) ∧ (0 < k → 0 < m))) (fun _ vn _ => (RowKit.intOf vn).toNat)
  case atStart => exact ⟨0, n, [], by omega, rfl, by simp, Below.refl _ _, Lib.hid ⟨rfl, rfl, by simpa using hn, by omega⟩⟩
  case round =>
    obtain ⟨k, m, pre, hk, rfl, rfl, hb, hid⟩ := hrel
    have HB := Lib.hid hb
    have hpl : l.length + pre.length + 1 ≤ 9223372036854775807 := by rw [hid.out.1]; omega
    have hm64 : m < 18446744073709551616 := Nat.lt_of_lt_of_le hid.out.2.2.1 (show 2 ^ (64 - 7 * k) ≤ 2 ^ 64 from Nat.pow_le_pow_right (by decide) (by omega))
    by_cases h128 : (128 : Int) ≤ (m : Int)
    · have hk9 : k < 9 := by
        have := hid.out.2.2.1
        by_cases e : k = 9
        · subst e; simp at this; omega
        · omega
      obtain ⟨d, hd⟩ : ∃ d, d = UInt8.ofNat (m % 128 + 128) := ⟨_, rfl⟩
      have hv : (m : Int) % 128 + 128 = (d.toNat : Int) := by rw [hd]; simp; omega
      have hcv := conv_val hv (MapKept.heap_alloc wr (.cells #[.int .u8 ((m : Int) % 128 + 128)] 5)).1
      have HC : Hid ((⟨(l ++ pre).toArray⟩ : ByteArray) ++ ⟨[d].toArray⟩ = ⟨(l ++ (pre ++ [d])).toArray⟩) := Lib.hid (by rw [cat_list, ba_data, List.append_assoc])
      have HB2 := Lib.hid (hb.alloc hb.size (.cells #[.int .u8 ((m : Int) % 128 + 128)] 5))
      have HD := Lib.hid hd
      clear hb hv hd
      go_wp2
      go_roundw
      case rel =>
        refine ⟨k + 1, m / 128, pre ++ [d], by omega, by simp, by rw [HC.out], HB2.out, Lib.hid ?_⟩
        obtain ⟨a1, a2, a3, a4⟩ := hid.out
        refine ⟨by simp [a1], ?_, ?_, fun _ => by omega⟩
        · rw [a2, HD.out, List.append_assoc]
          have e : 9 - k = (9 - (k + 1)) + 1 := by omega
          rw [e, shF_step (by omega)]; rfl
        · rw [Nat.div_lt_iff_lt_mul (by decide)]
          have e : 64 - 7 * k = (64 - 7 * (k + 1)) + 7 := by omega
          rw [e, Nat.pow_add] at a3
          exact a3
      case measure => simp [RowKit.intOf]; omega
    · obtain ⟨d, hd⟩ : ∃ d, d = UInt8.ofNat m := ⟨_, rfl⟩
      have hv : (m : Int) = (d.toNat : Int) := by rw [hd]; simp; omega
      have hcv := conv_val hv (MapKept.heap_alloc wr (.cells #[.int .u8 (m : Int)] 5)).1
      have HC : Hid ((⟨(l ++ pre).toArray⟩ : ByteArray) ++ ⟨[d].toArray⟩ = ⟨(l ++ (pre ++ [d])).toArray⟩) := Lib.hid (by rw [cat_list, ba_data, List.append_assoc])
      have HB2 := Lib.hid (hb.alloc hb.size (.cells #[.int .u8 (m : Int)] 5))
      have HE : Hid (sh n = pre ++ [d]) := Lib.hid (by rw [hid.out.2.1, shF_small (by omega), hd])
      clear hb hv hd
      go_wp2
      go_ret
      rw [HE.out, HC.out]
      exact ⟨rfl, HB2.out⟩
set_option maxHeartbeats 4000000 in
set_option maxRecDepth 100000 in
theorem ref_putText (w : World) (l t : List UInt8) (hl : l.length ≤ 1099511627776) (ht : t.length ≤ 1099511627776) :
    Calls Tryz.prog 64 #[.string ⟨l.toArray⟩, .string ⟨t.toArray⟩] w fun e w' => e = .returned (.string ⟨(l ++ putText t).toArray⟩) ∧ Below w.heap.size w w' := by
  have hts : (⟨t.toArray⟩ : ByteArray).size = t.length := rfl
  have PU := Lib.hid (ref_put w l t.length (by omega) hl)
  have hsl : l.length + (sh t.length).length + t.length ≤ 9223372036854775807 := by have := sh_length t.length; omega
  have HC : Hid ((⟨(l ++ sh t.length).toArray⟩ : ByteArray) ++ ⟨t.toArray⟩ = ⟨(l ++ putText t).toArray⟩) := Lib.hid (by rw [cat_list, ba_data, putText, List.append_assoc])
  go_enter Tryz.func64, Tryz.ntmps64
  go_wp2_with fail
  refine PU.out.mono ?_
  rintro ex w1 ⟨rfl, hb1⟩
  have HB1 := Lib.hid hb1
  clear hb1
  go_wp2
  go_ret
  rw [HC.out]
  exact ⟨rfl, HB1.out⟩
end Go.Proofs.YtpbhkaokgpacoaaGreatDoor.St
