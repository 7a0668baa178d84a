import Derived.Test.YtkeegnhjemhblaaGreatDoorZPRdRead1
set_option linter.unusedSimpArgs false
set_option linter.unusedVariables false
/-
  The contracts of the reference's reader at any bytes: short.
-/
namespace Go.Proofs.YtkeegnhjemhblaaGreatDoor.Rd
open Go.RowKit Go.Maps Go.WideMaps Go.Proofs.YtkeegnhjemhblaaGreatDoor.Rf

/-- How many bytes the short number has; 0: there is none. -/
def rsK (L : List UInt8) : Nat := match rd0 L with | some p => p.2 | none => 0
theorem shl7 (n : Nat) (b : UInt8) (i : Nat) (hn : n < 18446744073709551616) (h : n < 128 ^ i) (hi : i ≤ 9) (h9 : i = 9 → b.toNat ≤ 1) :
    IntKind.u64.wrap ((n : Int) + IntKind.u64.wrap (Int.tmod (b.toNat : Int) 128 * 2 ^ (7 * i))) = ((n + b.toNat % 128 * 128 ^ i : Nat) : Int) := by
  have hs7 := shift7 b i hi h9
  have e : (2 : Int) ^ (7 * i) = ((128 ^ i : Nat) : Int) := by rw [show (128 : Nat) = 2 ^ 7 from rfl, ← Nat.pow_mul]; simp
  have e2 : ((b.toNat % 128 : Nat) : Int) * ((128 ^ i : Nat) : Int) = ((b.toNat % 128 * 128 ^ i : Nat) : Int) := (Int.natCast_mul _ _).symm
  have e0 : Int.tmod (b.toNat : Int) 128 = ((b.toNat % 128 : Nat) : Int) := rfl
  have e4 : ((b.toNat % 128 * 128 ^ i : Nat) : Int) % 18446744073709551616 = ((b.toNat % 128 * 128 ^ i : Nat) : Int) := by omega
  have ha := (add7 n b i hi h h9).2
  rw [IntKind.wrap_u64, IntKind.wrap_u64, e0, e, e2, e4]
  omega

set_option maxHeartbeats 4000000 in
set_option maxRecDepth 100000 in
theorem rshort_any (w : World) (L : List UInt8) (hl : L.length ≤ 140737488355328) :
    Calls Tryz.prog 103 #[.string ⟨L.toArray⟩] w fun e w' => e = .returned (.tuple #[.int .u64 (shN L : Int), .int .i64 ((rsK L : Nat) : Int)]) ∧ w' = w := by
  have hs : (⟨L.toArray⟩ : ByteArray).size = L.length := rfl
  go_enter Tryz.func103, Tryz.ntmps103
  go_wp2
  go_loopw [4, 5] (fun v4 v5 wr => ∃ (i n : Nat), i ≤ L.length ∧ i ≤ 10 ∧ v4 = .int .u64 (n : Int) ∧ v5 = .int .i64 (i : Int) ∧ wr = w ∧ n < 18446744073709551616 ∧ Hid (n < 128 ^ i ∧ rd0 L = Rf.rd i n (L.drop i))) (fun _ v5 _ => 10 - (RowKit.intOf v5).toNat)
  case atStart => exact ⟨0, 0, by omega, by omega, rfl, rfl, rfl, by omega, Lib.hid ⟨by decide, rfl⟩⟩
  case round =>
    obtain ⟨i, n, hiM, hi, rfl, rfl, rfl, hn, HR⟩ := hrel
    by_cases hlt : (i : Int) < (L.length : Int)
    · by_cases hlt2 : (i : Int) < 10
      · have hil : i < L.length := by omega
        obtain ⟨b, hb⟩ : ∃ b, b = L[i] := ⟨_, rfl⟩
        have hidx : (⟨L.toArray⟩ : ByteArray)[i]'(by rw [hs]; omega) = b := by rw [hb]; rfl
        have hd : Hid (L.drop i = b :: L.drop (i + 1)) := Lib.hid (by rw [hb]; exact List.drop_eq_getElem_cons hil)
        have hbb := UInt8.toNat_lt b
        have hrd : Hid (rd0 L = Rf.rd i n (b :: L.drop (i + 1))) := Lib.hid (by rw [HR.out.2, hd.out])
        clear hb
        by_cases h9 : i = 9 ∧ 1 < b.toNat
        · obtain ⟨rfl, hb1⟩ := h9
          have hz : Hid (rd0 L = none) := Lib.hid (by rw [hrd.out, Rf.rd, if_neg (by omega), if_pos (.inl ⟨rfl, hb1⟩)])
          have e1 : Hid (shN L = 0 ∧ rsK L = 0) := Lib.hid ⟨by rw [shN, hz.out], by rw [rsK, hz.out]⟩
          have hb2 : (1 : Int) < (b.toNat : Int) := by omega
          go_wp2
          go_ret2
          rw [e1.out.1, e1.out.2]
          exact ⟨rfl, rfl⟩
        · have hsh := Lib.hid (shl7 n b i hn HR.out.1 (by omega) (by omega))
          have hadd := Lib.hid (add7 n b i (by omega) HR.out.1 (by omega))
          have F9 : Hid (i = 9 → ¬ (1 : Int) < (b.toNat : Int)) := Lib.hid (fun e h => h9 ⟨e, by omega⟩)
          by_cases hi9 : i = 9
          · subst hi9
            have hb1 : ¬ (1 : Int) < (b.toNat : Int) := F9.out rfl
            have hb2 : (b.toNat : Int) < 128 := by omega
            have hsh := Lib.hid (show IntKind.u64.wrap ((n : Int) + (b.toNat : Int) % 128 * 9223372036854775808) = ((n + b.toNat % 128 * 128 ^ 9 : Nat) : Int) by
              have p9 : (128 : Nat) ^ 9 = 9223372036854775808 := by decide
              have hn9 := HR.out.1
              rw [p9] at hn9 ⊢
              rw [IntKind.wrap_u64]
              omega)
            have H9 := Lib.hid h9
            clear h9 F9
            by_cases h0 : b.toNat = 0
            · have hz : Hid (rd0 L = none) := Lib.hid (by rw [hrd.out, Rf.rd, if_neg (by omega), if_pos (.inr ⟨by omega, h0⟩)])
              have e1 : Hid (shN L = 0 ∧ rsK L = 0) := Lib.hid ⟨by rw [shN, hz.out], by rw [rsK, hz.out]⟩
              have hb0 : ((b.toNat : Int) == 0) = true := by rw [beq_iff_eq]; omega
              clear h0
              go_wp2
              go_ret2
              rw [e1.out.1, e1.out.2]
              exact ⟨rfl, rfl⟩
            · have hz : Hid (rd0 L = some (n + b.toNat % 128 * 128 ^ 9, 9 + 1)) := Lib.hid (by
                rw [hrd.out, Rf.rd, if_neg (by omega), if_neg (by omega), if_pos (by omega), Nat.mod_eq_of_lt (by omega)])
              have e1 : Hid (shN L = n + b.toNat % 128 * 128 ^ 9 ∧ rsK L = 9 + 1) := Lib.hid ⟨by rw [shN, hz.out], by rw [rsK, hz.out]⟩
              have hb4 : ((b.toNat : Int) == 0) = false := by rw [beq_eq_false_iff_ne]; omega
              clear h0
              go_wp2
              go_ret2
              rw [e1.out.1, e1.out.2]
              exact ⟨congrArg (fun z => Ending.returned (.tuple #[.int .u64 z, .int .i64 (((9 + 1 : Nat) : Int))])) hsh.out, rfl⟩
          · have h98 : ((i : Int) == 9) = false := by rw [beq_eq_false_iff_ne]; omega
            have H9 := Lib.hid h9
            clear h9
            by_cases hb2 : (b.toNat : Int) < 128
            · by_cases h0 : 0 < i ∧ b.toNat = 0
              · have hz : Hid (rd0 L = none) := Lib.hid (by rw [hrd.out, Rf.rd, if_neg (by omega), if_pos (.inr h0)])
                have e1 : Hid (shN L = 0 ∧ rsK L = 0) := Lib.hid ⟨by rw [shN, hz.out], by rw [rsK, hz.out]⟩
                have h00 : (0 : Int) < (i : Int) := by omega
                have hb0 : ((b.toNat : Int) == 0) = true := by rw [beq_iff_eq]; omega
                clear h0
                go_wp2
                go_ret2
                rw [e1.out.1, e1.out.2]
                exact ⟨rfl, rfl⟩
              · have hz : Hid (rd0 L = some (n + b.toNat % 128 * 128 ^ i, i + 1)) := Lib.hid (by
                  rw [hrd.out, Rf.rd, if_neg (by omega), if_neg (by omega), if_pos (by omega), Nat.mod_eq_of_lt (by omega)])
                have e1 : Hid (shN L = n + b.toNat % 128 * 128 ^ i ∧ rsK L = i + 1) := Lib.hid ⟨by rw [shN, hz.out], by rw [rsK, hz.out]⟩
                have H0 := Lib.hid h0
                clear h0
                by_cases hb3 : ((b.toNat : Int) == 0) = true
                · have h00 : ¬ (0 : Int) < (i : Int) := fun h => H0.out ⟨by omega, by rw [beq_iff_eq] at hb3; omega⟩
                  go_wp2
                  go_ret2
                  rw [e1.out.1, e1.out.2]
                  exact ⟨congrArg (fun z => Ending.returned (.tuple #[.int .u64 z, .int .i64 (((i + 1 : Nat) : Int))])) hsh.out, rfl⟩
                · have hb4 : ((b.toNat : Int) == 0) = false := by simpa using hb3
                  clear hb3
                  go_wp2
                  go_ret2
                  rw [e1.out.1, e1.out.2]
                  exact ⟨congrArg (fun z => Ending.returned (.tuple #[.int .u64 z, .int .i64 (((i + 1 : Nat) : Int))])) hsh.out, rfl⟩
            · have hz : Hid (rd0 L = Rf.rd (i + 1) (n + b.toNat % 128 * 128 ^ i) (L.drop (i + 1))) := Lib.hid (by
                rw [hrd.out, Rf.rd, if_neg (by omega), if_neg (by omega), if_neg (by omega), show b.toNat - 128 = b.toNat % 128 by omega])
              have hn2 := hadd.out
              go_wp2
              go_roundw
              case rel => exact ⟨i + 1, n + b.toNat % 128 * 128 ^ i, by omega, by omega, congrArg (Value.int .u64) hsh.out, by go_num, trivial, hn2.2, Lib.hid ⟨hn2.1, hz.out⟩⟩
              case measure => simp [RowKit.intOf]; omega
      · obtain rfl : i = 10 := by omega
        have hz : Hid (rd0 L = none) := Lib.hid (by rw [HR.out.2]; exact rd_ten _ _)
        have e1 : Hid (shN L = 0 ∧ rsK L = 0) := Lib.hid ⟨by rw [shN, hz.out], by rw [rsK, hz.out]⟩
        clear hlt2
        go_wp2
        go_ret2
        rw [e1.out.1, e1.out.2]
        exact ⟨rfl, rfl⟩
    · have hz : Hid (rd0 L = none) := Lib.hid (by
        rw [HR.out.2]
        rw [List.drop_eq_nil_of_le (by omega)]; rfl)
      have e1 : Hid (shN L = 0 ∧ rsK L = 0) := Lib.hid ⟨by rw [shN, hz.out], by rw [rsK, hz.out]⟩
      go_wp2
      go_ret2
      rw [e1.out.1, e1.out.2]
      exact ⟨rfl, rfl⟩
end Go.Proofs.YtkeegnhjemhblaaGreatDoor.Rd
