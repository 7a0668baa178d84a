import Derived.Test.YtkeegnhjemhblaaGreatDoorZPRdRead
set_option linter.unusedSimpArgs false
set_option linter.unusedVariables false
/-
  The contracts of the reader at any bytes: short.
-/
namespace Go.Proofs.YtkeegnhjemhblaaGreatDoor.Rd
open Go.RowKit Go.Maps Go.WideMaps Go.Proofs.YtkeegnhjemhblaaGreatDoor.Rf

theorem shift7 (b : UInt8) (i : Nat) (hi : i ≤ 9) (h9 : i = 9 → b.toNat ≤ 1) : b.toNat % 128 * 128 ^ i < 18446744073709551616 := by
  have p64 : 128 ^ 9 * 2 = 18446744073709551616 := by decide
  by_cases h : i = 9
  · subst h
    have := h9 rfl
    have : b.toNat % 128 * 128 ^ 9 ≤ 1 * 128 ^ 9 := Nat.mul_le_mul_right _ (by omega)
    omega
  · have e1 : b.toNat % 128 * 128 ^ i ≤ 127 * 128 ^ i := Nat.mul_le_mul_right _ (by omega)
    have e2 : 128 ^ (i + 1) ≤ 128 ^ 9 := Nat.pow_le_pow_right (by decide) (by omega)
    rw [Nat.pow_succ] at e2
    omega
theorem or7 (n : Nat) (b : UInt8) (i : Nat) (hn : n < 18446744073709551616) (h : n < 128 ^ i) (hi : i ≤ 9) (h9 : i = 9 → b.toNat ≤ 1) :
    bits .or .u64 (n : Int) (IntKind.u64.wrap (IntKind.u64.wrap (bits .and .u8 (b.toNat : Int) 127) * 2 ^ (7 * i))) = ((n + b.toNat % 128 * 128 ^ i : Nat) : Int) := by
  have hs7 := shift7 b i hi h9
  have e : (2 : Int) ^ (7 * i) = ((128 ^ i : Nat) : Int) := by rw [show (128 : Nat) = 2 ^ 7 from rfl, ← Nat.pow_mul]; simp
  have e2 : ((b.toNat % 128 : Nat) : Int) * ((128 ^ i : Nat) : Int) = ((b.toNat % 128 * 128 ^ i : Nat) : Int) := (Int.natCast_mul _ _).symm
  have e3 : ((b.toNat % 128 : Nat) : Int) % 18446744073709551616 = ((b.toNat % 128 : Nat) : Int) := by omega
  have e4 : ((b.toNat % 128 * 128 ^ i : Nat) : Int) % 18446744073709551616 = ((b.toNat % 128 * 128 ^ i : Nat) : Int) := by omega
  rw [and127, IntKind.wrap_u64, IntKind.wrap_u64, e3, e, e2, e4, bits_or_u64_nat n _ hn hs7, or_add n _ i h]
theorem add7 (n : Nat) (b : UInt8) (i : Nat) (hi : i ≤ 9) (h : n < 128 ^ i) (h9 : i = 9 → b.toNat ≤ 1) : n + b.toNat % 128 * 128 ^ i < 128 ^ (i + 1) ∧ n + b.toNat % 128 * 128 ^ i < 18446744073709551616 := by
  have p64 : 128 ^ 9 * 2 = 18446744073709551616 := by decide
  have e1 : b.toNat % 128 * 128 ^ i ≤ 127 * 128 ^ i := Nat.mul_le_mul_right _ (by omega)
  refine ⟨by rw [Nat.pow_succ]; omega, ?_⟩
  by_cases h' : i = 9
  · subst h'
    have := h9 rfl
    have : b.toNat % 128 * 128 ^ 9 ≤ 1 * 128 ^ 9 := Nat.mul_le_mul_right _ (by omega)
    omega
  · have e2 : 128 ^ (i + 1) ≤ 128 ^ 9 := Nat.pow_le_pow_right (by decide) (by omega)
    rw [Nat.pow_succ] at e2
    omega
theorem rd_ten (n : Nat) (l : List UInt8) : Rf.rd 10 n l = none := by
  cases l with
  | nil => rfl
  | cons b r => rw [Rf.rd, if_pos (by decide)]

set_option maxHeartbeats 4000000 in
set_option maxRecDepth 100000 in
theorem short_any (w : World) (L : List UInt8) (hl : L.length ≤ 140737488355328) :
    Calls Tryz.prog 96 #[.string ⟨L.toArray⟩] w fun e w' => e = .returned (.tuple #[.int .u64 (shN L : Int), .int .i64 (shK L)]) ∧ w' = w := by
  have hs : (⟨L.toArray⟩ : ByteArray).size = L.length := rfl
  by_cases h10 : (L.length : Int) ≤ 10
  · have hL : L.length ≤ 10 := by omega
    go_enter Tryz.func96, Tryz.ntmps96
    go_wp2
    go_loopw [2, 9] (fun v2 v9 wr => ∃ (i n : Nat), i ≤ L.length ∧ v2 = .int .u64 (n : Int) ∧ v9 = .int .i64 (i : Int) ∧ wr = w ∧ n < 18446744073709551616 ∧ Hid (n < 128 ^ i ∧ rd0 L = Rf.rd i n (L.drop i))) (fun _ v9 _ => L.length - (RowKit.intOf v9).toNat)
    case atStart => exact ⟨0, 0, by omega, rfl, rfl, rfl, by omega, Lib.hid ⟨by decide, rfl⟩⟩
    case round =>
      obtain ⟨i, n, hiM, rfl, rfl, rfl, hn, HR⟩ := hrel
      have hi : i ≤ 10 := by omega
      by_cases hlt : (i : Int) < (L.length : Int)
      · have hil : i < L.length := by omega
        obtain ⟨b, hb⟩ : ∃ b, b = L[i] := ⟨_, rfl⟩
        have hidx : (⟨L.toArray⟩ : ByteArray)[i]'(by rw [hs]; omega) = b := by rw [hb]; rfl
        have hd : Hid (L.drop i = b :: L.drop (i + 1)) := Lib.hid (by rw [hb]; exact List.drop_eq_getElem_cons hil)
        have hbb := UInt8.toNat_lt b
        have hrd : Hid (rd0 L = Rf.rd i n (b :: L.drop (i + 1))) := Lib.hid (by rw [HR.out.2, hd.out])
        clear hb
        by_cases hbad : (i = 9 ∧ 1 < b.toNat) ∨ (0 < i ∧ b.toNat = 0)
        · have hz : Hid (rd0 L = none) := Lib.hid (by rw [hrd.out, Rf.rd, if_neg (by omega), if_pos hbad])
          have e1 : Hid (shN L = 0 ∧ shK L = -1) := Lib.hid ⟨by rw [shN, hz.out], by rw [shK, hz.out]⟩
          by_cases h9 : i = 9 ∧ 1 < b.toNat
          · obtain ⟨rfl, hb1⟩ := h9
            have hb2 : (1 : Int) < (b.toNat : Int) := by omega
            clear hbad
            go_wp2
            go_ret2
            rw [e1.out.1, e1.out.2]
            exact ⟨rfl, rfl⟩
          · have h0 : (0 : Int) < (i : Int) := by omega
            have hb0 : ((b.toNat : Int) == 0) = true := by rw [beq_iff_eq]; omega
            by_cases h99 : i = 9
            · subst h99
              have hb2 : ¬ (1 : Int) < (b.toNat : Int) := by omega
              clear hbad h9
              go_wp2
              go_ret2
              rw [e1.out.1, e1.out.2]
              exact ⟨rfl, rfl⟩
            · have h98 : ((i : Int) == 9) = false := by rw [beq_eq_false_iff_ne]; omega
              clear hbad h9 h99
              go_wp2
              go_ret2
              rw [e1.out.1, e1.out.2]
              exact ⟨rfl, rfl⟩
        · have hgood : Hid (¬ ((i = 9 ∧ 1 < b.toNat) ∨ (0 < i ∧ b.toNat = 0))) := Lib.hid hbad
          have hor := Lib.hid (or7 n b i hn HR.out.1 (by omega) (by omega))
          have hadd := Lib.hid (add7 n b i (by omega) HR.out.1 (by omega))
          by_cases h9 : i = 9
          · subst h9
            have hgood2 : Hid (¬ (((9 : Nat) = 9 ∧ 1 < b.toNat) ∨ (0 < 9 ∧ b.toNat = 0))) := hgood
            clear hgood
            have hgood := hgood2
            have hb1 : ¬ (1 : Int) < (b.toNat : Int) := by omega
            have hb0 : ((b.toNat : Int) == 0) = false := by rw [beq_eq_false_iff_ne]; omega
            have hb2 : (b.toNat : Int) < 128 := by omega
            have hz : Hid (rd0 L = some (n + b.toNat % 128 * 128 ^ 9, 10)) := Lib.hid (by
              rw [hrd.out, Rf.rd, if_neg (by omega), if_neg hgood.out, if_pos (by omega), Nat.mod_eq_of_lt (by omega)])
            have e1 : Hid (shN L = n + b.toNat % 128 * 128 ^ 9 ∧ shK L = ((10 : Nat) : Int)) := Lib.hid ⟨by rw [shN, hz.out], by rw [shK, hz.out]⟩
            clear hbad hgood2
            go_wp2
            go_ret2
            rw [e1.out.1, e1.out.2]
            exact ⟨congrArg (fun z => Ending.returned (.tuple #[.int .u64 z, .int .i64 ((10 : Nat) : Int)])) hor.out, rfl⟩
          · have h98 : ((i : Int) == 9) = false := by rw [beq_eq_false_iff_ne]; omega
            by_cases h0 : i = 0
            · have h00 : ¬ (0 : Int) < (i : Int) := by omega
              by_cases hb2 : (b.toNat : Int) < 128
              · have hz : Hid (rd0 L = some (n + b.toNat % 128 * 128 ^ i, i + 1)) := Lib.hid (by
                  rw [hrd.out, Rf.rd, if_neg (by omega), if_neg hgood.out, if_pos (by omega), Nat.mod_eq_of_lt (by omega)])
                have e1 : Hid (shN L = n + b.toNat % 128 * 128 ^ i ∧ shK L = ((i + 1 : Nat) : Int)) := Lib.hid ⟨by rw [shN, hz.out], by rw [shK, hz.out]⟩
                clear hbad h0 h9
                go_wp2
                go_ret2
                rw [e1.out.1, e1.out.2]
                exact ⟨congrArg (fun z => Ending.returned (.tuple #[.int .u64 z, .int .i64 (((i + 1 : Nat) : Int))])) hor.out, rfl⟩
              · have hz : Hid (rd0 L = Rf.rd (i + 1) (n + b.toNat % 128 * 128 ^ i) (L.drop (i + 1))) := Lib.hid (by
                  rw [hrd.out, Rf.rd, if_neg (by omega), if_neg hgood.out, if_neg (by omega), show b.toNat - 128 = b.toNat % 128 by omega])
                have hn2 := hadd.out
                clear hbad h0 h9
                go_wp2
                go_roundw
                case rel => exact ⟨i + 1, n + b.toNat % 128 * 128 ^ i, by omega, congrArg (Value.int .u64) hor.out, by simp, trivial, hn2.2, Lib.hid ⟨hn2.1, hz.out⟩⟩
                case measure => simp [RowKit.intOf]; omega
            · have h00 : (0 : Int) < (i : Int) := by omega
              have hb0 : ((b.toNat : Int) == 0) = false := by rw [beq_eq_false_iff_ne]; omega
              by_cases hb2 : (b.toNat : Int) < 128
              · have hz : Hid (rd0 L = some (n + b.toNat % 128 * 128 ^ i, i + 1)) := Lib.hid (by
                  rw [hrd.out, Rf.rd, if_neg (by omega), if_neg hgood.out, if_pos (by omega), Nat.mod_eq_of_lt (by omega)])
                have e1 : Hid (shN L = n + b.toNat % 128 * 128 ^ i ∧ shK L = ((i + 1 : Nat) : Int)) := Lib.hid ⟨by rw [shN, hz.out], by rw [shK, hz.out]⟩
                clear hbad h0 h9
                go_wp2
                go_ret2
                rw [e1.out.1, e1.out.2]
                exact ⟨congrArg (fun z => Ending.returned (.tuple #[.int .u64 z, .int .i64 (((i + 1 : Nat) : Int))])) hor.out, rfl⟩
              · have hz : Hid (rd0 L = Rf.rd (i + 1) (n + b.toNat % 128 * 128 ^ i) (L.drop (i + 1))) := Lib.hid (by
                  rw [hrd.out, Rf.rd, if_neg (by omega), if_neg hgood.out, if_neg (by omega), show b.toNat - 128 = b.toNat % 128 by omega])
                have hn2 := hadd.out
                clear hbad h0 h9
                go_wp2
                go_roundw
                case rel => exact ⟨i + 1, n + b.toNat % 128 * 128 ^ i, by omega, congrArg (Value.int .u64) hor.out, by simp, trivial, hn2.2, Lib.hid ⟨hn2.1, hz.out⟩⟩
                case measure => simp [RowKit.intOf]; omega
      · have hz : Hid (rd0 L = none) := Lib.hid (by
          rw [HR.out.2]
          rw [List.drop_eq_nil_of_le (by omega)]; rfl)
        have e1 : Hid (shN L = 0 ∧ shK L = -1) := Lib.hid ⟨by rw [shN, hz.out], by rw [shK, hz.out]⟩
        go_wp2
        go_ret2
        rw [e1.out.1, e1.out.2]
        exact ⟨rfl, rfl⟩
  · have hL : 10 < (L.length : Int) := by omega
    go_enter Tryz.func96, Tryz.ntmps96
    go_wp2
    go_loopw [2, 9] (fun v2 v9 wr => ∃ (i n : Nat), i ≤ 10 ∧ v2 = .int .u64 (n : Int) ∧ v9 = .int .i64 (i : Int) ∧ wr = w ∧ n < 18446744073709551616 ∧ Hid (n < 128 ^ i ∧ rd0 L = Rf.rd i n (L.drop i))) (fun _ v9 _ => 10 - (RowKit.intOf v9).toNat)
    case atStart => exact ⟨0, 0, by omega, rfl, rfl, rfl, by omega, Lib.hid ⟨by decide, rfl⟩⟩
    case round =>
      obtain ⟨i, n, hiM, rfl, rfl, rfl, hn, HR⟩ := hrel
      have hi : i ≤ 10 := by omega
      by_cases hlt : (i : Int) < 10
      · have hil : i < L.length := by omega
        obtain ⟨b, hb⟩ : ∃ b, b = L[i] := ⟨_, rfl⟩
        have hidx : (⟨L.toArray⟩ : ByteArray)[i]'(by rw [hs]; omega) = b := by rw [hb]; rfl
        have hd : Hid (L.drop i = b :: L.drop (i + 1)) := Lib.hid (by rw [hb]; exact List.drop_eq_getElem_cons hil)
        have hbb := UInt8.toNat_lt b
        have hrd : Hid (rd0 L = Rf.rd i n (b :: L.drop (i + 1))) := Lib.hid (by rw [HR.out.2, hd.out])
        clear hb
        by_cases hbad : (i = 9 ∧ 1 < b.toNat) ∨ (0 < i ∧ b.toNat = 0)
        · have hz : Hid (rd0 L = none) := Lib.hid (by rw [hrd.out, Rf.rd, if_neg (by omega), if_pos hbad])
          have e1 : Hid (shN L = 0 ∧ shK L = -1) := Lib.hid ⟨by rw [shN, hz.out], by rw [shK, hz.out]⟩
          by_cases h9 : i = 9 ∧ 1 < b.toNat
          · obtain ⟨rfl, hb1⟩ := h9
            have hb2 : (1 : Int) < (b.toNat : Int) := by omega
            clear hbad
            go_wp2
            go_ret2
            rw [e1.out.1, e1.out.2]
            exact ⟨rfl, rfl⟩
          · have h0 : (0 : Int) < (i : Int) := by omega
            have hb0 : ((b.toNat : Int) == 0) = true := by rw [beq_iff_eq]; omega
            by_cases h99 : i = 9
            · subst h99
              have hb2 : ¬ (1 : Int) < (b.toNat : Int) := by omega
              clear hbad h9
              go_wp2
              go_ret2
              rw [e1.out.1, e1.out.2]
              exact ⟨rfl, rfl⟩
            · have h98 : ((i : Int) == 9) = false := by rw [beq_eq_false_iff_ne]; omega
              clear hbad h9 h99
              go_wp2
              go_ret2
              rw [e1.out.1, e1.out.2]
              exact ⟨rfl, rfl⟩
        · have hgood : Hid (¬ ((i = 9 ∧ 1 < b.toNat) ∨ (0 < i ∧ b.toNat = 0))) := Lib.hid hbad
          have hor := Lib.hid (or7 n b i hn HR.out.1 (by omega) (by omega))
          have hadd := Lib.hid (add7 n b i (by omega) HR.out.1 (by omega))
          by_cases h9 : i = 9
          · subst h9
            have hgood2 : Hid (¬ (((9 : Nat) = 9 ∧ 1 < b.toNat) ∨ (0 < 9 ∧ b.toNat = 0))) := hgood
            clear hgood
            have hgood := hgood2
            have hb1 : ¬ (1 : Int) < (b.toNat : Int) := by omega
            have hb0 : ((b.toNat : Int) == 0) = false := by rw [beq_eq_false_iff_ne]; omega
            have hb2 : (b.toNat : Int) < 128 := by omega
            have hz : Hid (rd0 L = some (n + b.toNat % 128 * 128 ^ 9, 10)) := Lib.hid (by
              rw [hrd.out, Rf.rd, if_neg (by omega), if_neg hgood.out, if_pos (by omega), Nat.mod_eq_of_lt (by omega)])
            have e1 : Hid (shN L = n + b.toNat % 128 * 128 ^ 9 ∧ shK L = ((10 : Nat) : Int)) := Lib.hid ⟨by rw [shN, hz.out], by rw [shK, hz.out]⟩
            clear hbad hgood2
            go_wp2
            go_ret2
            rw [e1.out.1, e1.out.2]
            exact ⟨congrArg (fun z => Ending.returned (.tuple #[.int .u64 z, .int .i64 ((10 : Nat) : Int)])) hor.out, rfl⟩
          · have h98 : ((i : Int) == 9) = false := by rw [beq_eq_false_iff_ne]; omega
            by_cases h0 : i = 0
            · have h00 : ¬ (0 : Int) < (i : Int) := by omega
              by_cases hb2 : (b.toNat : Int) < 128
              · have hz : Hid (rd0 L = some (n + b.toNat % 128 * 128 ^ i, i + 1)) := Lib.hid (by
                  rw [hrd.out, Rf.rd, if_neg (by omega), if_neg hgood.out, if_pos (by omega), Nat.mod_eq_of_lt (by omega)])
                have e1 : Hid (shN L = n + b.toNat % 128 * 128 ^ i ∧ shK L = ((i + 1 : Nat) : Int)) := Lib.hid ⟨by rw [shN, hz.out], by rw [shK, hz.out]⟩
                clear hbad h0 h9
                go_wp2
                go_ret2
                rw [e1.out.1, e1.out.2]
                exact ⟨congrArg (fun z => Ending.returned (.tuple #[.int .u64 z, .int .i64 (((i + 1 : Nat) : Int))])) hor.out, rfl⟩
              · have hz : Hid (rd0 L = Rf.rd (i + 1) (n + b.toNat % 128 * 128 ^ i) (L.drop (i + 1))) := Lib.hid (by
                  rw [hrd.out, Rf.rd, if_neg (by omega), if_neg hgood.out, if_neg (by omega), show b.toNat - 128 = b.toNat % 128 by omega])
                have hn2 := hadd.out
                clear hbad h0 h9
                go_wp2
                go_roundw
                case rel => exact ⟨i + 1, n + b.toNat % 128 * 128 ^ i, by omega, congrArg (Value.int .u64) hor.out, by simp, trivial, hn2.2, Lib.hid ⟨hn2.1, hz.out⟩⟩
                case measure => simp [RowKit.intOf]; omega
            · have h00 : (0 : Int) < (i : Int) := by omega
              have hb0 : ((b.toNat : Int) == 0) = false := by rw [beq_eq_false_iff_ne]; omega
              by_cases hb2 : (b.toNat : Int) < 128
              · have hz : Hid (rd0 L = some (n + b.toNat % 128 * 128 ^ i, i + 1)) := Lib.hid (by
                  rw [hrd.out, Rf.rd, if_neg (by omega), if_neg hgood.out, if_pos (by omega), Nat.mod_eq_of_lt (by omega)])
                have e1 : Hid (shN L = n + b.toNat % 128 * 128 ^ i ∧ shK L = ((i + 1 : Nat) : Int)) := Lib.hid ⟨by rw [shN, hz.out], by rw [shK, hz.out]⟩
                clear hbad h0 h9
                go_wp2
                go_ret2
                rw [e1.out.1, e1.out.2]
                exact ⟨congrArg (fun z => Ending.returned (.tuple #[.int .u64 z, .int .i64 (((i + 1 : Nat) : Int))])) hor.out, rfl⟩
              · have hz : Hid (rd0 L = Rf.rd (i + 1) (n + b.toNat % 128 * 128 ^ i) (L.drop (i + 1))) := Lib.hid (by
                  rw [hrd.out, Rf.rd, if_neg (by omega), if_neg hgood.out, if_neg (by omega), show b.toNat - 128 = b.toNat % 128 by omega])
                have hn2 := hadd.out
                clear hbad h0 h9
                go_wp2
                go_roundw
                case rel => exact ⟨i + 1, n + b.toNat % 128 * 128 ^ i, by omega, congrArg (Value.int .u64) hor.out, by simp, trivial, hn2.2, Lib.hid ⟨hn2.1, hz.out⟩⟩
                case measure => simp [RowKit.intOf]; omega
      · have hz : Hid (rd0 L = none) := Lib.hid (by
          rw [HR.out.2]
          obtain rfl : i = 10 := by omega
          exact rd_ten _ _)
        have e1 : Hid (shN L = 0 ∧ shK L = -1) := Lib.hid ⟨by rw [shN, hz.out], by rw [shK, hz.out]⟩
        go_wp2
        go_ret2
        rw [e1.out.1, e1.out.2]
        exact ⟨rfl, rfl⟩
end Go.Proofs.YtkeegnhjemhblaaGreatDoor.Rd
