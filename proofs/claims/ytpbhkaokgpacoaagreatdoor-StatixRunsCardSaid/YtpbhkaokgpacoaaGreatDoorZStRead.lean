import Derived.Test.YtpbhkaokgpacoaaGreatDoorZStKit
import Derived.Laws.Bits64b
/-
  The contracts of the reader at any bytes: short, Uint, Take, Text, End.
-/
namespace Go.Proofs.YtpbhkaokgpacoaaGreatDoor.Rd
open Go.RowKit Go.Maps Go.WideMaps Go.Proofs.YtpbhkaokgpacoaaGreatDoor.Rf

theorem ba_ext {A B : ByteArray} (h : A.data.toList = B.data.toList) : A = B := by
  cases A; cases B
  congr 1
  exact Array.toList_inj.1 h
theorem ba_data (l : List UInt8) : (⟨l.toArray⟩ : ByteArray).data.toList = l := by simp
theorem ba_mk (s : ByteArray) : (⟨s.data.toList.toArray⟩ : ByteArray) = s := ba_ext (by simp)
/-- A piece of a text. -/
theorem extract_list (L : List UInt8) (i j : Nat) : (⟨L.toArray⟩ : ByteArray).extract i j = ⟨((L.drop i).take (j - i)).toArray⟩ := by
  apply ba_ext
  rw [Lib.extract_data]
theorem extract_rest (L : List UInt8) (i j : Nat) (h : L.length ≤ j) : (⟨L.toArray⟩ : ByteArray).extract i j = ⟨(L.drop i).toArray⟩ := by
  rw [extract_list, List.take_of_length_le (by rw [List.length_drop]; omega)]
theorem one_size (w : World) (A : Obj) : (w.alloc A).heap.size = w.heap.size + 1 := by show (w.heap.push _).size = _; simp

/-- What the front of bytes says as a short number. -/
def shN (L : List UInt8) : Nat := match rd0 L with | some p => p.1 | none => 0
def shK (L : List UInt8) : Int := match rd0 L with | some p => (p.2 : Int) | none => -1

theorem rd_lt : ∀ (s : List UInt8) (i n m k : Nat), i ≤ 9 → n < 128 ^ i → Rf.rd i n s = some (m, k) → m < 18446744073709551616
  | [], _, _, _, _, _, _, h => by simp [Rf.rd] at h
  | b :: r, i, n, m, k, hi, hn, h => by
    have hb := UInt8.toNat_lt b
    have p64 : 128 ^ 9 * 2 = 18446744073709551616 := by decide
    simp only [Rf.rd] at h
    split at h
    · cases h
    split at h
    · cases h
    · next h2 =>
      have hbig : n + b.toNat * 128 ^ i < 18446744073709551616 ∨ ¬ b.toNat < 128 := by
        by_cases h9 : i = 9
        · left
          subst h9
          have : b.toNat ≤ 1 := by omega
          have : b.toNat * 128 ^ 9 ≤ 1 * 128 ^ 9 := Nat.mul_le_mul_right _ this
          omega
        · by_cases h128 : b.toNat < 128
          · left
            have e1 : b.toNat * 128 ^ i ≤ 127 * 128 ^ i := Nat.mul_le_mul_right _ (by omega)
            have e2 : 128 ^ (i + 1) ≤ 128 ^ 9 := Nat.pow_le_pow_right (by decide) (by omega)
            rw [Nat.pow_succ] at e2
            omega
          · exact .inr h128
      split at h
      · next h3 =>
        obtain ⟨rfl, rfl⟩ := Prod.mk.inj (Option.some.inj h)
        exact hbig.resolve_right (by omega)
      · next h3 =>
        by_cases h9 : i = 9
        · subst h9
          omega
        · refine rd_lt r (i + 1) _ m k (by omega) ?_ h
          have e1 : (b.toNat - 128) * 128 ^ i ≤ 127 * 128 ^ i := Nat.mul_le_mul_right _ (by omega)
          rw [Nat.pow_succ]; omega
theorem shN_lt (L : List UInt8) : shN L < 18446744073709551616 := by
  unfold shN
  cases h : rd0 L with
  | none => decide
  | some p => exact rd_lt L 0 0 p.1 p.2 (by omega) (by decide) h
theorem shK_le (L : List UInt8) : -1 ≤ shK L ∧ shK L ≤ L.length ∧ shK L ≤ 10 := by
  unfold shK
  cases h : rd0 L with
  | none => simp
  | some p =>
    have := rd_size L 0 0 p.1 p.2 h
    dsimp only
    omega

theorem or_add (n b i : Nat) (hn : n < 128 ^ i) : n ||| (b * 128 ^ i) = n + b * 128 ^ i := by
  have e : (128 : Nat) ^ i = 2 ^ (7 * i) := by rw [show (128 : Nat) = 2 ^ 7 from rfl, ← Nat.pow_mul]
  rw [e] at hn ⊢
  have := Nat.two_pow_add_eq_or_of_lt hn b
  rw [Nat.or_comm, Nat.mul_comm b, ← this, Nat.add_comm]
theorem and127 (b : UInt8) : bits .and .u8 (b.toNat : Int) 127 = ((b.toNat % 128 : Nat) : Int) := by
  have h1 := u8_and_nat b.toNat 127 (UInt8.toNat_lt b) (by decide)
  rw [show (127 : Nat) = 2 ^ 7 - 1 from rfl, Nat.and_two_pow_sub_one_eq_mod] at h1
  exact h1
end Go.Proofs.YtpbhkaokgpacoaaGreatDoor.Rd
/-
  The contracts of the reader at any bytes: short.
-/
namespace Go.Proofs.YtpbhkaokgpacoaaGreatDoor.Rd
open Go.RowKit Go.Maps Go.WideMaps Go.Proofs.YtpbhkaokgpacoaaGreatDoor.Rf

theorem shift7 (b : UInt8) (i : Nat) (hi : i ≤ 9) (h9 : i = 9 → b.toNat ≤ 1) : b.toNat % 128 * 128 ^ i < 18446744073709551616 := by
  have p64 : 128 ^ 9 * 2 = 18446744073709551616 := by decide
  by_cases h : i = 9
  · subst h
    have := h9 rfl
    have : b.toNat % 128 * 128 ^ 9 ≤ 1 * 128 ^ 9 := Nat.mul_le_mul_right _ (by omega)
    omega
  · have e1 : b.toNat % 128 * 128 ^ i ≤ 127 * 128 ^ i := Nat.mul_le_mul_right _ (by omega)
    have e2 : 128 ^ (i + 1) ≤ 128 ^ 9 := Nat.pow_le_pow_right (by decide) (by omega)
    rw [Nat.pow_succ] at e2
    omega
theorem or7 (n : Nat) (b : UInt8) (i : Nat) (hn : n < 18446744073709551616) (h : n < 128 ^ i) (hi : i ≤ 9) (h9 : i = 9 → b.toNat ≤ 1) :
    bits .or .u64 (n : Int) (IntKind.u64.wrap (IntKind.u64.wrap (bits .and .u8 (b.toNat : Int) 127) * 2 ^ (7 * i))) = ((n + b.toNat % 128 * 128 ^ i : Nat) : Int) := by
  have hs7 := shift7 b i hi h9
  have e : (2 : Int) ^ (7 * i) = ((128 ^ i : Nat) : Int) := by rw [show (128 : Nat) = 2 ^ 7 from rfl, ← Nat.pow_mul]; simp
  have e2 : ((b.toNat % 128 : Nat) : Int) * ((128 ^ i : Nat) : Int) = ((b.toNat % 128 * 128 ^ i : Nat) : Int) := (Int.natCast_mul _ _).symm
  have e3 : ((b.toNat % 128 : Nat) : Int) % 18446744073709551616 = ((b.toNat % 128 : Nat) : Int) := by omega
  have e4 : ((b.toNat % 128 * 128 ^ i : Nat) : Int) % 18446744073709551616 = ((b.toNat % 128 * 128 ^ i : Nat) : Int) := by omega
  rw [and127, IntKind.wrap_u64, IntKind.wrap_u64, e3, e, e2, e4, bits_or_u64_nat n _ hn hs7, or_add n _ i h]
theorem add7 (n : Nat) (b : UInt8) (i : Nat) (hi : i ≤ 9) (h : n < 128 ^ i) (h9 : i = 9 → b.toNat ≤ 1) : n + b.toNat % 128 * 128 ^ i < 128 ^ (i + 1) ∧ n + b.toNat % 128 * 128 ^ i < 18446744073709551616 := by
  have p64 : 128 ^ 9 * 2 = 18446744073709551616 := by decide
  have e1 : b.toNat % 128 * 128 ^ i ≤ 127 * 128 ^ i := Nat.mul_le_mul_right _ (by omega)
  refine ⟨by rw [Nat.pow_succ]; omega, ?_⟩
  by_cases h' : i = 9
  · subst h'
    have := h9 rfl
    have : b.toNat % 128 * 128 ^ 9 ≤ 1 * 128 ^ 9 := Nat.mul_le_mul_right _ (by omega)
    omega
  · have e2 : 128 ^ (i + 1) ≤ 128 ^ 9 := Nat.pow_le_pow_right (by decide) (by omega)
    rw [Nat.pow_succ] at e2
    omega
theorem rd_ten (n : Nat) (l : List UInt8) : Rf.rd 10 n l = none := by
  cases l with
  | nil => rfl
  | cons b r => rw [Rf.rd, if_pos (by decide)]

set_option maxHeartbeats 4000000 in
set_option maxRecDepth 100000 in
theorem short_any (w : World) (L : List UInt8) (hl : L.length ≤ 140737488355328) :
    Calls Tryz.prog 82 #[.string ⟨L.toArray⟩] w fun e w' => e = .returned (.tuple #[.int .u64 (shN L : Int), .int .i64 (shK L)]) ∧ w' = w := by
  have hs : (⟨L.toArray⟩ : ByteArray).size = L.length := rfl
  by_cases h10 : (L.length : Int) ≤ 10
  · have hL : L.length ≤ 10 := by omega
    go_enter Tryz.func82, Tryz.ntmps82
    go_wp2
    go_loopw [2, 9] (fun v2 v9 wr => ∃ (i n : Nat), i ≤ L.length ∧ v2 = .int .u64 (n : Int) ∧ v9 = .int .i64 (i : Int) ∧ wr = w ∧ n < 18446744073709551616 ∧ Hid (n < 128 ^ i ∧ rd0 L = Rf.rd i n (L.drop i))) (fun _ v9 _ => L.length - (RowKit.intOf v9).toNat)
    case atStart => exact ⟨0, 0, by omega, rfl, rfl, rfl, by omega, Lib.hid ⟨by decide, rfl⟩⟩
    case round =>
      obtain ⟨i, n, hiM, rfl, rfl, rfl, hn, HR⟩ := hrel
      have hi : i ≤ 10 := by omega
      by_cases hlt : (i : Int) < (L.length : Int)
      · have hil : i < L.length := by omega
        obtain ⟨b, hb⟩ : ∃ b, b = L[i] := ⟨_, rfl⟩
        have hidx : (⟨L.toArray⟩ : ByteArray)[i]'(by rw [hs]; omega) = b := by rw [hb]; rfl
        have hd : Hid (L.drop i = b :: L.drop (i + 1)) := Lib.hid (by rw [hb]; exact List.drop_eq_getElem_cons hil)
        have hbb := UInt8.toNat_lt b
        have hrd : Hid (rd0 L = Rf.rd i n (b :: L.drop (i + 1))) := Lib.hid (by rw [HR.out.2, hd.out])
        clear hb
        by_cases hbad : (i = 9 ∧ 1 < b.toNat) ∨ (0 < i ∧ b.toNat = 0)
        · have hz : Hid (rd0 L = none) := Lib.hid (by rw [hrd.out, Rf.rd, if_neg (by omega), if_pos hbad])
          have e1 : Hid (shN L = 0 ∧ shK L = -1) := Lib.hid ⟨by rw [shN, hz.out], by rw [shK, hz.out]⟩
          by_cases h9 : i = 9 ∧ 1 < b.toNat
          · obtain ⟨rfl, hb1⟩ := h9
            have hb2 : (1 : Int) < (b.toNat : Int) := by omega
            clear hbad
            go_wp2
            go_ret2
            rw [e1.out.1, e1.out.2]
            exact ⟨rfl, rfl⟩
          · have h0 : (0 : Int) < (i : Int) := by omega
            have hb0 : ((b.toNat : Int) == 0) = true := by rw [beq_iff_eq]; omega
            by_cases h99 : i = 9
            · subst h99
              have hb2 : ¬ (1 : Int) < (b.toNat : Int) := by omega
              clear hbad h9
              go_wp2
              go_ret2
              rw [e1.out.1, e1.out.2]
              exact ⟨rfl, rfl⟩
            · have h98 : ((i : Int) == 9) = false := by rw [beq_eq_false_iff_ne]; omega
              clear hbad h9 h99
              go_wp2
              go_ret2
              rw [e1.out.1, e1.out.2]
              exact ⟨rfl, rfl⟩
        · have hgood : Hid (¬ ((i = 9 ∧ 1 < b.toNat) ∨ (0 < i ∧ b.toNat = 0))) := Lib.hid hbad
          have hor := Lib.hid (or7 n b i hn HR.out.1 (by omega) (by omega))
          have hadd := Lib.hid (add7 n b i (by omega) HR.out.1 (by omega))
          by_cases h9 : i = 9
          · subst h9
            have hgood2 : Hid (¬ (((9 : Nat) = 9 ∧ 1 < b.toNat) ∨ (0 < 9 ∧ b.toNat = 0))) := hgood
            clear hgood
            have hgood := hgood2
            have hb1 : ¬ (1 : Int) < (b.toNat : Int) := by omega
            have hb0 : ((b.toNat : Int) == 0) = false := by rw [beq_eq_false_iff_ne]; omega
            have hb2 : (b.toNat : Int) < 128 := by omega
            have hz : Hid (rd0 L = some (n + b.toNat % 128 * 128 ^ 9, 10)) := Lib.hid (by
              rw [hrd.out, Rf.rd, if_neg (by omega), if_neg hgood.out, if_pos (by omega), Nat.mod_eq_of_lt (by omega)])
            have e1 : Hid (shN L = n + b.toNat % 128 * 128 ^ 9 ∧ shK L = ((10 : Nat) : Int)) := Lib.hid ⟨by rw [shN, hz.out], by rw [shK, hz.out]⟩
            clear hbad hgood2
            go_wp2
            go_ret2
            rw [e1.out.1, e1.out.2]
            exact ⟨congrArg (fun z => Ending.returned (.tuple #[.int .u64 z, .int .i64 ((10 : Nat) : Int)])) hor.out, rfl⟩
          · have h98 : ((i : Int) == 9) = false := by rw [beq_eq_false_iff_ne]; omega
            by_cases h0 : i = 0
            · have h00 : ¬ (0 : Int) < (i : Int) := by omega
              by_cases hb2 : (b.toNat : Int) < 128
              · have hz : Hid (rd0 L = some (n + b.toNat % 128 * 128 ^ i, i + 1)) := Lib.hid (by
                  rw [hrd.out, Rf.rd, if_neg (by omega), if_neg hgood.out, if_pos (by omega), Nat.mod_eq_of_lt (by omega)])
                have e1 : Hid (shN L = n + b.toNat % 128 * 128 ^ i ∧ shK L = ((i + 1 : Nat) : Int)) := Lib.hid ⟨by rw [shN, hz.out], by rw [shK, hz.out]⟩
                clear hbad h0 h9
                go_wp2
                go_ret2
                rw [e1.out.1, e1.out.2]
                exact ⟨congrArg (fun z => Ending.returned (.tuple #[.int .u64 z, .int .i64 (((i + 1 : Nat) : Int))])) hor.out, rfl⟩
              · have hz : Hid (rd0 L = Rf.rd (i + 1) (n + b.toNat % 128 * 128 ^ i) (L.drop (i + 1))) := Lib.hid (by
                  rw [hrd.out, Rf.rd, if_neg (by omega), if_neg hgood.out, if_neg (by omega), show b.toNat - 128 = b.toNat % 128 by omega])
                have hn2 := hadd.out
                clear hbad h0 h9
                go_wp2
                go_roundw
                case rel => exact ⟨i + 1, n + b.toNat % 128 * 128 ^ i, by omega, congrArg (Value.int .u64) hor.out, by simp, trivial, hn2.2, Lib.hid ⟨hn2.1, hz.out⟩⟩
                case measure => simp [RowKit.intOf]; omega
            · have h00 : (0 : Int) < (i : Int) := by omega
              have hb0 : ((b.toNat : Int) == 0) = false := by rw [beq_eq_false_iff_ne]; omega
              by_cases hb2 : (b.toNat : Int) < 128
              · have hz : Hid (rd0 L = some (n + b.toNat % 128 * 128 ^ i, i + 1)) := Lib.hid (by
                  rw [hrd.out, Rf.rd, if_neg (by omega), if_neg hgood.out, if_pos (by omega), Nat.mod_eq_of_lt (by omega)])
                have e1 : Hid (shN L = n + b.toNat % 128 * 128 ^ i ∧ shK L = ((i + 1 : Nat) : Int)) := Lib.hid ⟨by rw [shN, hz.out], by rw [shK, hz.out]⟩
                clear hbad h0 h9
                go_wp2
                go_ret2
                rw [e1.out.1, e1.out.2]
                exact ⟨congrArg (fun z => Ending.returned (.tuple #[.int .u64 z, .int .i64 (((i + 1 : Nat) : Int))])) hor.out, rfl⟩
              · have hz : Hid (rd0 L = Rf.rd (i + 1) (n + b.toNat % 128 * 128 ^ i) (L.drop (i + 1))) := Lib.hid (by
                  rw [hrd.out, Rf.rd, if_neg (by omega), if_neg hgood.out, if_neg (by omega), show b.toNat - 128 = b.toNat % 128 by omega])
                have hn2 := hadd.out
                clear hbad h0 h9
                go_wp2
                go_roundw
                case rel => exact ⟨i + 1, n + b.toNat % 128 * 128 ^ i, by omega, congrArg (Value.int .u64) hor.out, by simp, trivial, hn2.2, Lib.hid ⟨hn2.1, hz.out⟩⟩
                case measure => simp [RowKit.intOf]; omega
      · have hz : Hid (rd0 L = none) := Lib.hid (by
          rw [HR.out.2]
          rw [List.drop_eq_nil_of_le (by omega)]; rfl)
        have e1 : Hid (shN L = 0 ∧ shK L = -1) := Lib.hid ⟨by rw [shN, hz.out], by rw [shK, hz.out]⟩
        go_wp2
        go_ret2
        rw [e1.out.1, e1.out.2]
        exact ⟨rfl, rfl⟩
  · have hL : 10 < (L.length : Int) := by omega
    go_enter Tryz.func82, Tryz.ntmps82
    go_wp2
    go_loopw [2, 9] (fun v2 v9 wr => ∃ (i n : Nat), i ≤ 10 ∧ v2 = .int .u64 (n : Int) ∧ v9 = .int .i64 (i : Int) ∧ wr = w ∧ n < 18446744073709551616 ∧ Hid (n < 128 ^ i ∧ rd0 L = Rf.rd i n (L.drop i))) (fun _ v9 _ => 10 - (RowKit.intOf v9).toNat)
    case atStart => exact ⟨0, 0, by omega, rfl, rfl, rfl, by omega, Lib.hid ⟨by decide, rfl⟩⟩
    case round =>
      obtain ⟨i, n, hiM, rfl, rfl, rfl, hn, HR⟩ := hrel
      have hi : i ≤ 10 := by omega
      by_cases hlt : (i : Int) < 10
      · have hil : i < L.length := by omega
        obtain ⟨b, hb⟩ : ∃ b, b = L[i] := ⟨_, rfl⟩
        have hidx : (⟨L.toArray⟩ : ByteArray)[i]'(by rw [hs]; omega) = b := by rw [hb]; rfl
        have hd : Hid (L.drop i = b :: L.drop (i + 1)) := Lib.hid (by rw [hb]; exact List.drop_eq_getElem_cons hil)
        have hbb := UInt8.toNat_lt b
        have hrd : Hid (rd0 L = Rf.rd i n (b :: L.drop (i + 1))) := Lib.hid (by rw [HR.out.2, hd.out])
        clear hb
        by_cases hbad : (i = 9 ∧ 1 < b.toNat) ∨ (0 < i ∧ b.toNat = 0)
        · have hz : Hid (rd0 L = none) := Lib.hid (by rw [hrd.out, Rf.rd, if_neg (by omega), if_pos hbad])
          have e1 : Hid (shN L = 0 ∧ shK L = -1) := Lib.hid ⟨by rw [shN, hz.out], by rw [shK, hz.out]⟩
          by_cases h9 : i = 9 ∧ 1 < b.toNat
          · obtain ⟨rfl, hb1⟩ := h9
            have hb2 : (1 : Int) < (b.toNat : Int) := by omega
            clear hbad
            go_wp2
            go_ret2
            rw [e1.out.1, e1.out.2]
            exact ⟨rfl, rfl⟩
          · have h0 : (0 : Int) < (i : Int) := by omega
            have hb0 : ((b.toNat : Int) == 0) = true := by rw [beq_iff_eq]; omega
            by_cases h99 : i = 9
            · subst h99
              have hb2 : ¬ (1 : Int) < (b.toNat : Int) := by omega
              clear hbad h9
              go_wp2
              go_ret2
              rw [e1.out.1, e1.out.2]
              exact ⟨rfl, rfl⟩
            · have h98 : ((i : Int) == 9) = false := by rw [beq_eq_false_iff_ne]; omega
              clear hbad h9 h99
              go_wp2
              go_ret2
              rw [e1.out.1, e1.out.2]
              exact ⟨rfl, rfl⟩
        · have hgood : Hid (¬ ((i = 9 ∧ 1 < b.toNat) ∨ (0 < i ∧ b.toNat = 0))) := Lib.hid hbad
          have hor := Lib.hid (or7 n b i hn HR.out.1 (by omega) (by omega))
          have hadd := Lib.hid (add7 n b i (by omega) HR.out.1 (by omega))
          by_cases h9 : i = 9
          · subst h9
            have hgood2 : Hid (¬ (((9 : Nat) = 9 ∧ 1 < b.toNat) ∨ (0 < 9 ∧ b.toNat = 0))) := hgood
            clear hgood
            have hgood := hgood2
            have hb1 : ¬ (1 : Int) < (b.toNat : Int) := by omega
            have hb0 : ((b.toNat : Int) == 0) = false := by rw [beq_eq_false_iff_ne]; omega
            have hb2 : (b.toNat : Int) < 128 := by omega
            have hz : Hid (rd0 L = some (n + b.toNat % 128 * 128 ^ 9, 10)) := Lib.hid (by
              rw [hrd.out, Rf.rd, if_neg (by omega), if_neg hgood.out, if_pos (by omega), Nat.mod_eq_of_lt (by omega)])
            have e1 : Hid (shN L = n + b.toNat % 128 * 128 ^ 9 ∧ shK L = ((10 : Nat) : Int)) := Lib.hid ⟨by rw [shN, hz.out], by rw [shK, hz.out]⟩
            clear hbad hgood2
            go_wp2
            go_ret2
            rw [e1.out.1, e1.out.2]
            exact ⟨congrArg (fun z => Ending.returned (.tuple #[.int .u64 z, .int .i64 ((10 : Nat) : Int)])) hor.out, rfl⟩
          · have h98 : ((i : Int) == 9) = false := by rw [beq_eq_false_iff_ne]; omega
            by_cases h0 : i = 0
            · have h00 : ¬ (0 : Int) < (i : Int) := by omega
              by_cases hb2 : (b.toNat : Int) < 128
              · have hz : Hid (rd0 L = some (n + b.toNat % 128 * 128 ^ i, i + 1)) := Lib.hid (by
                  rw [hrd.out, Rf.rd, if_neg (by omega), if_neg hgood.out, if_pos (by omega), Nat.mod_eq_of_lt (by omega)])
                have e1 : Hid (shN L = n + b.toNat % 128 * 128 ^ i ∧ shK L = ((i + 1 : Nat) : Int)) := Lib.hid ⟨by rw [shN, hz.out], by rw [shK, hz.out]⟩
                clear hbad h0 h9
                go_wp2
                go_ret2
                rw [e1.out.1, e1.out.2]
                exact ⟨congrArg (fun z => Ending.returned (.tuple #[.int .u64 z, .int .i64 (((i + 1 : Nat) : Int))])) hor.out, rfl⟩
              · have hz : Hid (rd0 L = Rf.rd (i + 1) (n + b.toNat % 128 * 128 ^ i) (L.drop (i + 1))) := Lib.hid (by
                  rw [hrd.out, Rf.rd, if_neg (by omega), if_neg hgood.out, if_neg (by omega), show b.toNat - 128 = b.toNat % 128 by omega])
                have hn2 := hadd.out
                clear hbad h0 h9
                go_wp2
                go_roundw
                case rel => exact ⟨i + 1, n + b.toNat % 128 * 128 ^ i, by omega, congrArg (Value.int .u64) hor.out, by simp, trivial, hn2.2, Lib.hid ⟨hn2.1, hz.out⟩⟩
                case measure => simp [RowKit.intOf]; omega
            · have h00 : (0 : Int) < (i : Int) := by omega
              have hb0 : ((b.toNat : Int) == 0) = false := by rw [beq_eq_false_iff_ne]; omega
              by_cases hb2 : (b.toNat : Int) < 128
              · have hz : Hid (rd0 L = some (n + b.toNat % 128 * 128 ^ i, i + 1)) := Lib.hid (by
                  rw [hrd.out, Rf.rd, if_neg (by omega), if_neg hgood.out, if_pos (by omega), Nat.mod_eq_of_lt (by omega)])
                have e1 : Hid (shN L = n + b.toNat % 128 * 128 ^ i ∧ shK L = ((i + 1 : Nat) : Int)) := Lib.hid ⟨by rw [shN, hz.out], by rw [shK, hz.out]⟩
                clear hbad h0 h9
                go_wp2
                go_ret2
                rw [e1.out.1, e1.out.2]
                exact ⟨congrArg (fun z => Ending.returned (.tuple #[.int .u64 z, .int .i64 (((i + 1 : Nat) : Int))])) hor.out, rfl⟩
              · have hz : Hid (rd0 L = Rf.rd (i + 1) (n + b.toNat % 128 * 128 ^ i) (L.drop (i + 1))) := Lib.hid (by
                  rw [hrd.out, Rf.rd, if_neg (by omega), if_neg hgood.out, if_neg (by omega), show b.toNat - 128 = b.toNat % 128 by omega])
                have hn2 := hadd.out
                clear hbad h0 h9
                go_wp2
                go_roundw
                case rel => exact ⟨i + 1, n + b.toNat % 128 * 128 ^ i, by omega, congrArg (Value.int .u64) hor.out, by simp, trivial, hn2.2, Lib.hid ⟨hn2.1, hz.out⟩⟩
                case measure => simp [RowKit.intOf]; omega
      · have hz : Hid (rd0 L = none) := Lib.hid (by
          rw [HR.out.2]
          obtain rfl : i = 10 := by omega
          exact rd_ten _ _)
        have e1 : Hid (shN L = 0 ∧ shK L = -1) := Lib.hid ⟨by rw [shN, hz.out], by rw [shK, hz.out]⟩
        go_wp2
        go_ret2
        rw [e1.out.1, e1.out.2]
        exact ⟨rfl, rfl⟩
end Go.Proofs.YtpbhkaokgpacoaaGreatDoor.Rd
/-
  The contracts of the reader at any bytes: Uint, Take, Text, End.
-/
namespace Go.Proofs.YtpbhkaokgpacoaaGreatDoor.Rd
open Go.RowKit Go.Maps Go.WideMaps Go.Proofs.YtpbhkaokgpacoaaGreatDoor.Rf

abbrev RdT : TypeId := 157
/-- A reader: what is left. -/
def ReaderAt (w : World) (q : Nat) (L : List UInt8) : Prop := w.heap[q]? = some (.cells #[.string ⟨L.toArray⟩] RdT)
/-- What is left behind a short number. -/
def shR (L : List UInt8) : List UInt8 := match rd0 L with | some p => L.drop p.2 | none => L
def shE (L : List UInt8) : Int := if (rd0 L).isSome then 0 else 4

/-- A reader went on, and new variables were made. -/
theorem reader_one {w : World} {q : Nat} {L R : List UInt8} (h : ReaderAt w q L) (A : Obj) : ReaderAt ((w.setCell ⟨q, 0, none⟩ (.string ⟨R.toArray⟩)).alloc A) q R ∧ Turn [q] w ((w.setCell ⟨q, 0, none⟩ (.string ⟨R.toArray⟩)).alloc A) := by
  have hq : q < w.heap.size := lt_of_heap h
  refine ⟨?_, ((Turn.refl [q] w).setCell (.inl (by simp)) _).alloc _⟩
  refine (Below.heap_alloc _ _ _ (by simpa [World.setCell] using hq)).trans ?_
  rw [setCell_heap _ _ _ _ _ _ h]; rfl
theorem reader_two {w : World} {q : Nat} {L R : List UInt8} (h : ReaderAt w q L) (A C : Obj) : ReaderAt (((w.setCell ⟨q, 0, none⟩ (.string ⟨R.toArray⟩)).alloc A).alloc C) q R ∧ Turn [q] w (((w.setCell ⟨q, 0, none⟩ (.string ⟨R.toArray⟩)).alloc A).alloc C) := by
  obtain ⟨a, b⟩ := reader_one (R := R) h A
  exact ⟨(Below.heap_alloc _ _ _ (lt_of_heap a)).trans a, b.alloc _⟩
theorem reader_stay1 {w : World} {q : Nat} {L : List UInt8} (h : ReaderAt w q L) (A : Obj) : ReaderAt (w.alloc A) q L ∧ Turn [q] w (w.alloc A) :=
  ⟨(Below.heap_alloc _ _ _ (lt_of_heap h)).trans h, (Turn.refl [q] w).alloc _⟩
theorem reader_stay2 {w : World} {q : Nat} {L : List UInt8} (h : ReaderAt w q L) (A C : Obj) : ReaderAt ((w.alloc A).alloc C) q L ∧ Turn [q] w ((w.alloc A).alloc C) :=
  ⟨(Below.heap_alloc _ _ _ (lt_of_heap (reader_stay1 h A).1)).trans (reader_stay1 h A).1, ((Turn.refl [q] w).alloc _).alloc _⟩

set_option maxHeartbeats 2000000 in
set_option maxRecDepth 100000 in
/-- A short number. -/
theorem uint_any (w : World) (q : Nat) (L : List UInt8) (hl : L.length ≤ 140737488355328) (h : ReaderAt w q L) :
    Calls Tryz.prog 50 #[ptr q] w fun e w' => e = .returned (.tuple #[.int .u64 (shN L : Int), .int .i64 (shE L)]) ∧ ReaderAt w' q (shR L) ∧ Turn [q] w w' := by
  have c0 : w.cell? ⟨q, 0, none⟩ = some (.string ⟨L.toArray⟩) := cell_of_heap h
  have f0 : w.frozen? ⟨q, 0, none⟩ = false := frozen_of_heap h
  have hq : q < w.heap.size := lt_of_heap h
  have SS := Lib.hid (fun w => short_any w L hl)
  have hs : (⟨L.toArray⟩ : ByteArray).size = L.length := rfl
  have hle := shK_le L
  have hN := Lib.hid (shN_lt L)
  unfold ptr
  cases h0 : rd0 L with
  | none =>
    have x1 : shE L = 4 := by rw [shE, h0]; rfl
    have x2 : shR L = L := by rw [shR, h0]
    rw [x1, x2]
    have e1 : shK L = -1 := by rw [shK, h0]
    have e2 : shN L = 0 := by rw [shN, h0]
    rw [e1, e2] at SS
    rw [e2]
    clear hle
    go_enter Tryz.func50, Tryz.ntmps50
    go_wp2_with (first
      | (go_at_call 82; refine (SS.out _).mono ?_; rintro e w1 ⟨rfl, rfl⟩)
      | go_in)
    go_ret2
    exact ⟨rfl, reader_stay1 h _⟩
  | some p =>
    obtain ⟨n, k⟩ := p
    have x1 : shE L = 0 := by rw [shE, h0]; rfl
    have x2 : shR L = L.drop k := by rw [shR, h0]
    rw [x1, x2]
    have e1 : shK L = (k : Int) := by rw [shK, h0]
    have e2 : shN L = n := by rw [shN, h0]
    rw [e1, e2] at SS
    rw [e2] at hN ⊢
    rw [e1] at hle
    have hk0 : ¬ (k : Int) < 0 := by omega
    have hk1 : ¬ (L.length : Int) < (k : Int) := by omega
    have hk2 : (k : Int) ≤ (L.length : Int) := by omega
    clear hle
    go_enter Tryz.func50, Tryz.ntmps50
    go_wp2_with (first
      | (go_at_call 82; refine (SS.out _).mono ?_; rintro e w1 ⟨rfl, rfl⟩)
      | go_in)
    go_ret2
    rw [extract_rest _ _ _ (Nat.le_refl _)]
    exact ⟨rfl, reader_one h _⟩

/-- Bytes taken; none if there are not so many. -/
def tkT (n : Nat) (L : List UInt8) : List UInt8 := if n ≤ L.length then L.take n else []
def tkR (n : Nat) (L : List UInt8) : List UInt8 := if n ≤ L.length then L.drop n else L
def tkE (n : Nat) (L : List UInt8) : Int := if n ≤ L.length then 0 else 4

set_option maxHeartbeats 4000000 in
set_option maxRecDepth 100000 in
theorem take_any (w : World) (q : Nat) (L : List UInt8) (n : Nat) (hn : n ≤ 140737488355328) (h : ReaderAt w q L) :
    Calls Tryz.prog 52 #[ptr q, .int .i64 n] w fun e w' => e = .returned (.tuple #[.string ⟨(tkT n L).toArray⟩, .int .i64 (tkE n L)]) ∧ ReaderAt w' q (tkR n L) ∧ Turn [q] w w' := by
  have c0 : w.cell? ⟨q, 0, none⟩ = some (.string ⟨L.toArray⟩) := cell_of_heap h
  have f0 : w.frozen? ⟨q, 0, none⟩ = false := frozen_of_heap h
  have hq : q < w.heap.size := lt_of_heap h
  have hs : (⟨L.toArray⟩ : ByteArray).size = L.length := rfl
  unfold ptr tkT tkE tkR
  by_cases hn' : n ≤ L.length
  · rw [if_pos hn', if_pos hn', if_pos hn']
    have hmin : min (n : Int) (L.length : Int) = (n : Int) := by omega
    have hn1 : (n : Int) ≤ (L.length : Int) := by omega
    have hn0 : ¬ (n : Int) < 0 := by omega
    have hn2 : ¬ (L.length : Int) < (n : Int) := by omega
    go_enter Tryz.func52, Tryz.ntmps52
    go_wp2
    go_ret2
    rw [extract_rest _ _ _ (Nat.le_refl _), extract_list]
    exact ⟨by simp, reader_two h _ _⟩
  · rw [if_neg hn', if_neg hn', if_neg hn']
    have hmin : min (n : Int) (L.length : Int) = (L.length : Int) := by omega
    have hn0 : ¬ (n : Int) < 0 := by omega
    have hn2 : (L.length : Int) < (n : Int) := by omega
    go_enter Tryz.func52, Tryz.ntmps52
    go_wp2
    go_ret2
    exact ⟨rfl, reader_stay2 h _ _⟩

/-- A text with its length ahead: the text and what is left. -/
def txt (most : Nat) (L : List UInt8) : Option (List UInt8 × List UInt8) :=
  match rd0 L with
  | none => none
  | some p => if p.1 ≤ most ∧ p.1 ≤ L.length - p.2 then some ((L.drop p.2).take p.1, (L.drop p.2).drop p.1) else none
def txT (most : Nat) (L : List UInt8) : List UInt8 := match txt most L with | some p => p.1 | none => []
def txR (most : Nat) (L : List UInt8) : List UInt8 := match txt most L with | some p => p.2 | none => L
def txE (most : Nat) (L : List UInt8) : Int := if (txt most L).isSome then 0 else 4

set_option maxHeartbeats 4000000 in
set_option maxRecDepth 400000 in
theorem text_any (w : World) (q : Nat) (L : List UInt8) (most : Nat) (hm : most ≤ 140737488355328) (hl : L.length ≤ 140737488355328) (h : ReaderAt w q L) :
    Calls Tryz.prog 53 #[ptr q, .int .i64 most] w fun e w' => e = .returned (.tuple #[.string ⟨(txT most L).toArray⟩, .int .i64 (txE most L)]) ∧ ReaderAt w' q (txR most L) ∧ Turn [q] w w' := by
  have c0 : w.cell? ⟨q, 0, none⟩ = some (.string ⟨L.toArray⟩) := cell_of_heap h
  have f0 : w.frozen? ⟨q, 0, none⟩ = false := frozen_of_heap h
  have hq : q < w.heap.size := lt_of_heap h
  have SS := Lib.hid (fun w => short_any w L hl)
  have hs : (⟨L.toArray⟩ : ByteArray).size = L.length := rfl
  have hle := shK_le L
  have hN := Lib.hid (shN_lt L)
  have hm0 : ¬ (most : Int) < 0 := by omega
  have hw : (most : Int) % 18446744073709551616 = (most : Int) := by omega
  unfold ptr
  cases h0 : rd0 L with
  | none =>
    have x0 : txt most L = none := by rw [txt, h0]
    have x1 : txT most L = [] := by rw [txT, x0]
    have x2 : txR most L = L := by rw [txR, x0]
    have x3 : txE most L = 4 := by rw [txE, x0]; rfl
    rw [x1, x2, x3]
    have e1 : shK L = -1 := by rw [shK, h0]
    have e2 : shN L = 0 := by rw [shN, h0]
    rw [e1, e2] at SS
    clear hle
    go_enter Tryz.func53, Tryz.ntmps53
    go_wp2_with (first
      | (go_at_call 82; refine (SS.out _).mono ?_; rintro e w1 ⟨rfl, rfl⟩)
      | go_in)
    go_ret2
    exact ⟨rfl, reader_stay2 h _ _⟩
  | some p =>
    obtain ⟨n, k⟩ := p
    have e1 : shK L = (k : Int) := by rw [shK, h0]
    have e2 : shN L = n := by rw [shN, h0]
    rw [e1, e2] at SS
    rw [e2] at hN
    rw [e1] at hle
    have hk0 : ¬ (k : Int) < 0 := by omega
    have hwk : ((L.length : Int) - (k : Int)) % 18446744073709551616 = (L.length : Int) - (k : Int) := by omega
    have hn64 := hN.out
    by_cases hA : n ≤ most
    · by_cases hB : n ≤ L.length - k
      · have x0 : txt most L = some ((L.drop k).take n, (L.drop k).drop n) := by rw [txt, h0]; exact if_pos ⟨hA, hB⟩
        have x1 : txT most L = (L.drop k).take n := by rw [txT, x0]
        have x2 : txR most L = (L.drop k).drop n := by rw [txR, x0]
        have x3 : txE most L = 0 := by rw [txE, x0]; rfl
        rw [x1, x2, x3]
        have a1 : ¬ (most : Int) < (n : Int) := by omega
        have a2 : ¬ ((L.length : Int) - (k : Int)) < (n : Int) := by omega
        have a3 : (k : Int) + (n : Int) ≤ (L.length : Int) := by omega
        have a4 : (n : Int) ≤ 140737488355328 := by omega
        have a5 : (k : Int) ≤ (L.length : Int) := by omega
        have hsl : ∀ w' : World, (Instr.slice 9 (.string ⟨L.toArray⟩) (some (.int .i64 (k : Int))) (some (.int .i64 ((k : Int) + (n : Int)))) none).run Tryz.prog w' = .ok (.string ⟨((L.drop k).take n).toArray⟩) w' := fun w' => by
          rw [run_slice_string _ 9 _ .i64 .i64 _ _ Tryz.underlying9 (by omega) (by omega) (by rw [hs]; omega), extract_list]
          rw [show (k : Int).toNat = k by omega, show ((k : Int) + (n : Int)).toNat = k + n by omega, show k + n - k = n by omega]
        have hsl2 : ∀ w' : World, (Instr.slice 9 (.string ⟨L.toArray⟩) (some (.int .i64 ((k : Int) + (n : Int)))) none none).run Tryz.prog w' = .ok (.string ⟨((L.drop k).drop n).toArray⟩) w' := fun w' => by
          rw [run_slice_string_l _ 9 _ Tryz.underlying9 .i64 _ (by omega) (by rw [hs]; omega), extract_rest _ _ _ (Nat.le_of_eq hs.symm), List.drop_drop]
          rw [show ((k : Int) + (n : Int)).toNat = k + n by omega]
        clear hle hn64 hA hB hwk hN
        have hwk : ((L.length : Int) - (k : Int)) % 18446744073709551616 = (L.length : Int) - (k : Int) := by omega
        go_enter Tryz.func53, Tryz.ntmps53
        go_wp2_with (first
          | (go_at_call 82; refine (SS.out _).mono ?_; rintro e w1 ⟨rfl, rfl⟩)
          | go_in)
        go_ret2
        rw [List.drop_drop]
        exact ⟨rfl, reader_two h _ _⟩
      · have x0 : txt most L = none := by rw [txt, h0]; exact if_neg (fun h => hB h.2)
        have x1 : txT most L = [] := by rw [txT, x0]
        have x2 : txR most L = L := by rw [txR, x0]
        have x3 : txE most L = 4 := by rw [txE, x0]; rfl
        rw [x1, x2, x3]
        have a1 : ¬ (most : Int) < (n : Int) := by omega
        have a2 : ((L.length : Int) - (k : Int)) < (n : Int) := by omega
        clear hle
        go_enter Tryz.func53, Tryz.ntmps53
        go_wp2_with (first
          | (go_at_call 82; refine (SS.out _).mono ?_; rintro e w1 ⟨rfl, rfl⟩)
          | go_in)
        go_ret2
        exact ⟨rfl, reader_stay2 h _ _⟩
    · have x0 : txt most L = none := by rw [txt, h0]; exact if_neg (fun h => hA h.1)
      have x1 : txT most L = [] := by rw [txT, x0]
      have x2 : txR most L = L := by rw [txR, x0]
      have x3 : txE most L = 4 := by rw [txE, x0]; rfl
      rw [x1, x2, x3]
      have a1 : (most : Int) < (n : Int) := by omega
      clear hle
      go_enter Tryz.func53, Tryz.ntmps53
      go_wp2_with (first
        | (go_at_call 82; refine (SS.out _).mono ?_; rintro e w1 ⟨rfl, rfl⟩)
        | go_in)
      go_ret2
      exact ⟨rfl, reader_stay2 h _ _⟩

set_option maxRecDepth 100000 in
theorem end_any (w : World) (q : Nat) (L : List UInt8) (h : ReaderAt w q L) :
    Calls Tryz.prog 54 #[ptr q] w fun e w' => e = .returned (.int .i64 (if L = [] then 0 else 4)) ∧ w' = w := by
  have c0 : w.cell? ⟨q, 0, none⟩ = some (.string ⟨L.toArray⟩) := cell_of_heap h
  unfold ptr
  cases L with
  | nil =>
    go_enter Tryz.func54, Tryz.ntmps54
    go_wp2
    go_ret
    exact ⟨rfl, rfl⟩
  | cons b r =>
    go_enter Tryz.func54, Tryz.ntmps54
    go_wp2
    go_ret
    exact ⟨rfl, rfl⟩

set_option maxRecDepth 100000 in
theorem reader_new (w : World) (L : List UInt8) :
    Calls Tryz.prog 47 #[.string ⟨L.toArray⟩] w fun e w' => e = .returned (ptr w.heap.size) ∧ w' = w.alloc (.cells #[.string ⟨L.toArray⟩] RdT) := by
  go_enter Tryz.func47, Tryz.ntmps47
  go_wp2
  go_ret
  exact ⟨rfl, rfl⟩
end Go.Proofs.YtpbhkaokgpacoaaGreatDoor.Rd
