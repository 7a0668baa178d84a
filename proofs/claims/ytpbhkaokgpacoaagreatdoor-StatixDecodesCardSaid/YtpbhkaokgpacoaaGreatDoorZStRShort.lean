import Derived.Test.YtpbhkaokgpacoaaGreatDoorZStReg
import Derived.Test.YtpbhkaokgpacoaaGreatDoorZStRead2
set_option linter.unusedSimpArgs false
set_option linter.unusedVariables false
/-
  The contracts of the reference's reader at any bytes: short.
-/
namespace Go.Proofs.YtpbhkaokgpacoaaGreatDoor.Rd
open Go.RowKit Go.Maps Go.WideMaps Go.Proofs.YtpbhkaokgpacoaaGreatDoor.Rf

/-- How many bytes the short number has; 0: there is none. -/
def rsK (L : List UInt8) : Nat := match rd0 L with | some p => p.2 | none => 0
theorem shl7 (n : Nat) (b : UInt8) (i : Nat) (hn : n < 18446744073709551616) (h : n < 128 ^ i) (hi : i ≤ 9) (h9 : i = 9 → b.toNat ≤ 1) :
    IntKind.u64.wrap ((n : Int) + IntKind.u64.wrap (Int.tmod (b.toNat : Int) 128 * 2 ^ (7 * i))) = ((n + b.toNat % 128 * 128 ^ i : Nat) : Int) := by
  have hs7 := shift7 b i hi h9
  have e : (2 : Int) ^ (7 * i) = ((128 ^ i : Nat) : Int) := by rw [show (128 : Nat) = 2 ^ 7 from rfl, ← Nat.pow_mul]; simp
  have e2 : ((b.toNat % 128 : Nat) : Int) * ((128 ^ i : Nat) : Int) = ((b.toNat % 128 * 128 ^ i : Nat) : Int) := (Int.natCast_mul _ _).symm
  have e0 : Int.tmod (b.toNat : Int) 128 = ((b.toNat % 128 : Nat) : Int) := rfl
  have e4 : ((b.toNat % 128 * 128 ^ i : Nat) : Int) % 18446744073709551616 = ((b.toNat % 128 * 128 ^ i : Nat) : Int) := by omega
  have ha := (add7 n b i hi h h9).2
  rw [IntKind.wrap_u64, IntKind.wrap_u64, e0, e, e2, e4]
  omega

set_option maxHeartbeats 4000000 in
set_option maxRecDepth 100000 in
theorem rshort_any (w : World) (L : List UInt8) (hl : L.length ≤ 140737488355328) :
    Calls Tryz.prog 85 #[.string ⟨L.toArray⟩] w fun e w' => e = .returned (.tuple #[.int .u64 (shN L : Int), .int .i64 ((rsK L : Nat) : Int)]) ∧ w' = w := by
  have hs : (⟨L.toArray⟩ : ByteArray).size = L.length := rfl
  go_enter Tryz.func85, Tryz.ntmps85
  go_wp2
  go_loopw [4, 5] (fun v4 v5 wr => ∃ (i n : Nat), i ≤ L.length ∧ i ≤ 10 ∧ v4 = .int .u64 (n : Int) ∧ v5 = .int .i64 (i : Int) ∧ wr = w ∧ n < 18446744073709551616 ∧ Hid (n < 128 ^ i ∧ rd0 L = Rf.rd i n (L.drop i))) (fun _ v5 _ => 10 - (RowKit.intOf v5).toNat)
  case atStart => exact ⟨0, 0, by omega, by omega, rfl, rfl, rfl, by omega, Lib.hid ⟨by decide, rfl⟩⟩
  case round =>
    obtain ⟨i, n, hiM, hi, rfl, rfl, rfl, hn, HR⟩ := hrel
    by_cases hlt : (i : Int) < (L.length : Int)
    · by_cases hlt2 : (i : Int) < 10
      · have hil : i < L.length := by omega
        obtain ⟨b, hb⟩ : ∃ b, b = L[i] := ⟨_, rfl⟩
        have hidx : (⟨L.toArray⟩ : ByteArray)[i]'(by rw [hs]; omega) = b := by rw [hb]; rfl
        have hd : Hid (L.drop i = b :: L.drop (i + 1)) := Lib.hid (by rw [hb]; exact List.drop_eq_getElem_cons hil)
        have hbb := UInt8.toNat_lt b
        have hrd : Hid (rd0 L = Rf.rd i n (b :: L.drop (i + 1))) := Lib.hid (by rw [HR.out.2, hd.out])
        clear hb
        by_cases h9 : i = 9 ∧ 1 < b.toNat
        · obtain ⟨rfl, hb1⟩ := h9
          have hz : Hid (rd0 L = none) := Lib.hid (by rw [hrd.out, Rf.rd, if_neg (by omega), if_pos (.inl ⟨rfl, hb1⟩)])
          have e1 : Hid (shN L = 0 ∧ rsK L = 0) := Lib.hid ⟨by rw [shN, hz.out], by rw [rsK, hz.out]⟩
          have hb2 : (1 : Int) < (b.toNat : Int) := by omega
          go_wp2
          go_ret2
          rw [e1.out.1, e1.out.2]
          exact ⟨rfl, rfl⟩
        · have hsh := Lib.hid (shl7 n b i hn HR.out.1 (by omega) (by omega))
          have hadd := Lib.hid (add7 n b i (by omega) HR.out.1 (by omega))
          have F9 : Hid (i = 9 → ¬ (1 : Int) < (b.toNat : Int)) := Lib.hid (fun e h => h9 ⟨e, by omega⟩)
          by_cases hi9 : i = 9
          · subst hi9
            have hb1 : ¬ (1 : Int) < (b.toNat : Int) := F9.out rfl
            have hb2 : (b.toNat : Int) < 128 := by omega
            have hsh := Lib.hid (show IntKind.u64.wrap ((n : Int) + (b.toNat : Int) % 128 * 9223372036854775808) = ((n + b.toNat % 128 * 128 ^ 9 : Nat) : Int) by
              have p9 : (128 : Nat) ^ 9 = 9223372036854775808 := by decide
              have hn9 := HR.out.1
              rw [p9] at hn9 ⊢
              rw [IntKind.wrap_u64]
              omega)
            have H9 := Lib.hid h9
            clear h9 F9
            by_cases h0 : b.toNat = 0
            · have hz : Hid (rd0 L = none) := Lib.hid (by rw [hrd.out, Rf.rd, if_neg (by omega), if_pos (.inr ⟨by omega, h0⟩)])
              have e1 : Hid (shN L = 0 ∧ rsK L = 0) := Lib.hid ⟨by rw [shN, hz.out], by rw [rsK, hz.out]⟩
              have hb0 : ((b.toNat : Int) == 0) = true := by rw [beq_iff_eq]; omega
              clear h0
              go_wp2
              go_ret2
              rw [e1.out.1, e1.out.2]
              exact ⟨rfl, rfl⟩
            · have hz : Hid (rd0 L = some (n + b.toNat % 128 * 128 ^ 9, 9 + 1)) := Lib.hid (by
                rw [hrd.out, Rf.rd, if_neg (by omega), if_neg (by omega), if_pos (by omega), Nat.mod_eq_of_lt (by omega)])
              have e1 : Hid (shN L = n + b.toNat % 128 * 128 ^ 9 ∧ rsK L = 9 + 1) := Lib.hid ⟨by rw [shN, hz.out], by rw [rsK, hz.out]⟩
              have hb4 : ((b.toNat : Int) == 0) = false := by rw [beq_eq_false_iff_ne]; omega
              clear h0
              go_wp2
              go_ret2
              rw [e1.out.1, e1.out.2]
              exact ⟨congrArg (fun z => Ending.returned (.tuple #[.int .u64 z, .int .i64 (((9 + 1 : Nat) : Int))])) hsh.out, rfl⟩
          · have h98 : ((i : Int) == 9) = false := by rw [beq_eq_false_iff_ne]; omega
            have H9 := Lib.hid h9
            clear h9
            by_cases hb2 : (b.toNat : Int) < 128
            · by_cases h0 : 0 < i ∧ b.toNat = 0
              · have hz : Hid (rd0 L = none) := Lib.hid (by rw [hrd.out, Rf.rd, if_neg (by omega), if_pos (.inr h0)])
                have e1 : Hid (shN L = 0 ∧ rsK L = 0) := Lib.hid ⟨by rw [shN, hz.out], by rw [rsK, hz.out]⟩
                have h00 : (0 : Int) < (i : Int) := by omega
                have hb0 : ((b.toNat : Int) == 0) = true := by rw [beq_iff_eq]; omega
                clear h0
                go_wp2
                go_ret2
                rw [e1.out.1, e1.out.2]
                exact ⟨rfl, rfl⟩
              · have hz : Hid (rd0 L = some (n + b.toNat % 128 * 128 ^ i, i + 1)) := Lib.hid (by
                  rw [hrd.out, Rf.rd, if_neg (by omega), if_neg (by omega), if_pos (by omega), Nat.mod_eq_of_lt (by omega)])
                have e1 : Hid (shN L = n + b.toNat % 128 * 128 ^ i ∧ rsK L = i + 1) := Lib.hid ⟨by rw [shN, hz.out], by rw [rsK, hz.out]⟩
                have H0 := Lib.hid h0
                clear h0
                by_cases hb3 : ((b.toNat : Int) == 0) = true
                · have h00 : ¬ (0 : Int) < (i : Int) := fun h => H0.out ⟨by omega, by rw [beq_iff_eq] at hb3; omega⟩
                  go_wp2
                  go_ret2
                  rw [e1.out.1, e1.out.2]
                  exact ⟨congrArg (fun z => Ending.returned (.tuple #[.int .u64 z, .int .i64 (((i + 1 : Nat) : Int))])) hsh.out, rfl⟩
                · have hb4 : ((b.toNat : Int) == 0) = false := by simpa using hb3
                  clear hb3
                  go_wp2
                  go_ret2
                  rw [e1.out.1, e1.out.2]
                  exact ⟨congrArg (fun z => Ending.returned (.tuple #[.int .u64 z, .int .i64 (((i + 1 : Nat) : Int))])) hsh.out, rfl⟩
            · have hz : Hid (rd0 L = Rf.rd (i + 1) (n + b.toNat % 128 * 128 ^ i) (L.drop (i + 1))) := Lib.hid (by
                rw [hrd.out, Rf.rd, if_neg (by omega), if_neg (by omega), if_neg (by omega), show b.toNat - 128 = b.toNat % 128 by omega])
              have hn2 := hadd.out
              go_wp2
              go_roundw
              case rel => exact ⟨i + 1, n + b.toNat % 128 * 128 ^ i, by omega, by omega, congrArg (Value.int .u64) hsh.out, by go_num, trivial, hn2.2, Lib.hid ⟨hn2.1, hz.out⟩⟩
              case measure => simp [RowKit.intOf]; omega
      · obtain rfl : i = 10 := by omega
        have hz : Hid (rd0 L = none) := Lib.hid (by rw [HR.out.2]; exact rd_ten _ _)
        have e1 : Hid (shN L = 0 ∧ rsK L = 0) := Lib.hid ⟨by rw [shN, hz.out], by rw [rsK, hz.out]⟩
        clear hlt2
        go_wp2
        go_ret2
        rw [e1.out.1, e1.out.2]
        exact ⟨rfl, rfl⟩
    · have hz : Hid (rd0 L = none) := Lib.hid (by
        rw [HR.out.2]
        rw [List.drop_eq_nil_of_le (by omega)]; rfl)
      have e1 : Hid (shN L = 0 ∧ rsK L = 0) := Lib.hid ⟨by rw [shN, hz.out], by rw [rsK, hz.out]⟩
      go_wp2
      go_ret2
      rw [e1.out.1, e1.out.2]
      exact ⟨rfl, rfl⟩
end Go.Proofs.YtpbhkaokgpacoaaGreatDoor.Rd
/-
  The contracts of the reference's reader at any bytes: Uint, Take, Text.
-/
namespace Go.Proofs.YtpbhkaokgpacoaaGreatDoor.Rd
open Go.RowKit Go.Maps Go.WideMaps Go.Proofs.YtpbhkaokgpacoaaGreatDoor.Rf

abbrev RRdT : TypeId := 118
/-- A reader of the reference's: what is left. -/
def RReaderAt (w : World) (q : Nat) (L : List UInt8) : Prop := w.heap[q]? = some (.cells #[.string ⟨L.toArray⟩] RRdT)
theorem rreader_one {w : World} {q : Nat} {L R : List UInt8} (h : RReaderAt w q L) : RReaderAt (w.setCell ⟨q, 0, none⟩ (.string ⟨R.toArray⟩)) q R ∧ Turn [q] w (w.setCell ⟨q, 0, none⟩ (.string ⟨R.toArray⟩)) :=
  ⟨by rw [RReaderAt, setCell_heap _ _ _ _ _ _ h]; rfl, (Turn.refl [q] w).setCell (.inl (by simp)) _⟩
theorem rsK_some {L : List UInt8} {n k : Nat} (h : rd0 L = some (n, k)) : 0 < k ∧ k ≤ L.length := by
  have := rd_size L 0 0 n k h
  omega

set_option maxHeartbeats 2000000 in
set_option maxRecDepth 100000 in
/-- A short number. -/
theorem ruint_any (w : World) (q : Nat) (L : List UInt8) (hl : L.length ≤ 140737488355328) (h : RReaderAt w q L) :
    Calls Tryz.prog 55 #[ptr q] w fun e w' => e = .returned (.tuple #[.int .u64 (shN L : Int), .int .i64 (shE L)]) ∧ RReaderAt w' q (shR L) ∧ Turn [q] w w' := by
  have c0 : w.cell? ⟨q, 0, none⟩ = some (.string ⟨L.toArray⟩) := cell_of_heap h
  have f0 : w.frozen? ⟨q, 0, none⟩ = false := frozen_of_heap h
  have SS := Lib.hid (fun w => rshort_any w L hl)
  have hs : (⟨L.toArray⟩ : ByteArray).size = L.length := rfl
  unfold ptr
  cases h0 : rd0 L with
  | none =>
    have x1 : shE L = 4 := by rw [shE, h0]; rfl
    have x2 : shR L = L := by rw [shR, h0]
    rw [x1, x2]
    have e1 : rsK L = 0 := by rw [rsK, h0]
    have e2 : shN L = 0 := by rw [shN, h0]
    rw [e1, e2] at SS
    rw [e2]
    clear h0 x1 x2 e1 e2
    go_enter Tryz.func55, Tryz.ntmps55
    go_wp2_with (go_at_call 85; refine (SS.out _).mono ?_; rintro e w1 ⟨rfl, rfl⟩)
    go_ret2
    exact ⟨rfl, h, Turn.refl _ _⟩
  | some p =>
    obtain ⟨n, k⟩ := p
    obtain ⟨hk0, hk1⟩ := rsK_some h0
    have x1 : shE L = 0 := by rw [shE, h0]; rfl
    have x2 : shR L = L.drop k := by rw [shR, h0]
    rw [x1, x2]
    have e1 : rsK L = k := by rw [rsK, h0]
    have e2 : shN L = n := by rw [shN, h0]
    rw [e1, e2] at SS
    rw [e2]
    have hkz : ((k : Int) == 0) = false := by rw [beq_eq_false_iff_ne]; omega
    have hk2 : (k : Int) ≤ (L.length : Int) := by omega
    have hex : (⟨L.toArray⟩ : ByteArray).extract k L.length = ⟨(L.drop k).toArray⟩ := extract_rest _ _ _ (Nat.le_refl _)
    clear h0 x1 x2 e1 e2
    go_enter Tryz.func55, Tryz.ntmps55
    go_wp2_with (go_at_call 85; refine (SS.out _).mono ?_; rintro e w1 ⟨rfl, rfl⟩)
    go_ret2
    exact ⟨rfl, rreader_one h⟩

set_option maxHeartbeats 2000000 in
set_option maxRecDepth 100000 in
theorem rtake_any (w : World) (q : Nat) (L : List UInt8) (n : Nat) (hn : n ≤ 140737488355328) (h : RReaderAt w q L) :
    Calls Tryz.prog 87 #[ptr q, .int .i64 n] w fun e w' => e = .returned (.tuple #[.string ⟨(tkT n L).toArray⟩, .int .i64 (tkE n L)]) ∧ RReaderAt w' q (tkR n L) ∧ Turn [q] w w' := by
  have c0 : w.cell? ⟨q, 0, none⟩ = some (.string ⟨L.toArray⟩) := cell_of_heap h
  have f0 : w.frozen? ⟨q, 0, none⟩ = false := frozen_of_heap h
  have hs : (⟨L.toArray⟩ : ByteArray).size = L.length := rfl
  have hn0 : ¬ (n : Int) < 0 := by omega
  unfold ptr tkT tkE tkR
  by_cases hn' : n ≤ L.length
  · rw [if_pos hn', if_pos hn', if_pos hn']
    have hn1 : (n : Int) ≤ (L.length : Int) := by omega
    have hn2 : ¬ (L.length : Int) < (n : Int) := by omega
    have hex : (⟨L.toArray⟩ : ByteArray).extract n L.length = ⟨(L.drop n).toArray⟩ := extract_rest _ _ _ (Nat.le_refl _)
    have hex2 : (⟨L.toArray⟩ : ByteArray).extract 0 n = ⟨(L.take n).toArray⟩ := by rw [extract_list]; simp
    go_enter Tryz.func87, Tryz.ntmps87
    go_wp2
    go_ret2
    exact ⟨rfl, rreader_one h⟩
  · rw [if_neg hn', if_neg hn', if_neg hn']
    have hn2 : (L.length : Int) < (n : Int) := by omega
    go_enter Tryz.func87, Tryz.ntmps87
    go_wp2
    go_ret2
    exact ⟨rfl, h, Turn.refl _ _⟩

set_option maxHeartbeats 4000000 in
set_option maxRecDepth 400000 in
theorem rtext_any (w : World) (q : Nat) (L : List UInt8) (most : Nat) (hm : most ≤ 140737488355328) (hl : L.length ≤ 140737488355328) (h : RReaderAt w q L) :
    Calls Tryz.prog 86 #[ptr q, .int .i64 most] w fun e w' => e = .returned (.tuple #[.string ⟨(txT most L).toArray⟩, .int .i64 (txE most L)]) ∧ RReaderAt w' q (txR most L) ∧ Turn [q] w w' := by
  have c0 : w.cell? ⟨q, 0, none⟩ = some (.string ⟨L.toArray⟩) := cell_of_heap h
  have f0 : w.frozen? ⟨q, 0, none⟩ = false := frozen_of_heap h
  have SS := Lib.hid (fun w => rshort_any w L hl)
  have hs : (⟨L.toArray⟩ : ByteArray).size = L.length := rfl
  have hm0 : ¬ (most : Int) < 0 := by omega
  have hw : (most : Int) % 18446744073709551616 = (most : Int) := by omega
  unfold ptr
  have bad : txt most L = none → txT most L = [] ∧ txR most L = L ∧ txE most L = 4 := fun x0 => ⟨by rw [txT, x0], by rw [txR, x0], by rw [txE, x0]; rfl⟩
  cases h0 : rd0 L with
  | none =>
    obtain ⟨x1, x2, x3⟩ := bad (by rw [txt, h0])
    rw [x1, x2, x3]
    have e1 : rsK L = 0 := by rw [rsK, h0]
    have e2 : shN L = 0 := by rw [shN, h0]
    rw [e1, e2] at SS
    clear h0 x1 x2 x3 e1 e2 bad
    go_enter Tryz.func86, Tryz.ntmps86
    go_wp2_with (go_at_call 85; refine (SS.out _).mono ?_; rintro e w1 ⟨rfl, rfl⟩)
    go_ret2
    exact ⟨rfl, h, Turn.refl _ _⟩
  | some p =>
    obtain ⟨n, k⟩ := p
    obtain ⟨hk0, hk1⟩ := rsK_some h0
    have e1 : rsK L = k := by rw [rsK, h0]
    have e2 : shN L = n := by rw [shN, h0]
    have hn64 := shN_lt L
    rw [e2] at hn64
    rw [e1, e2] at SS
    have hkz : ((k : Int) == 0) = false := by rw [beq_eq_false_iff_ne]; omega
    obtain ⟨d, hd⟩ : ∃ d : Nat, d = L.length - k := ⟨_, rfl⟩
    have ed : (L.length : Int) - (k : Int) = (d : Int) := by omega
    have hwd : (d : Int) % 18446744073709551616 = (d : Int) := by omega
    by_cases hA : n ≤ most
    · by_cases hB : n ≤ d
      · have x0 : txt most L = some ((L.drop k).take n, (L.drop k).drop n) := by rw [txt, h0]; exact if_pos ⟨hA, by rw [← hd]; exact hB⟩
        have x1 : txT most L = (L.drop k).take n := by rw [txT, x0]
        have x2 : txR most L = (L.drop k).drop n := by rw [txR, x0]
        have x3 : txE most L = 0 := by rw [txE, x0]; rfl
        rw [x1, x2, x3]
        have a1 : ¬ (most : Int) < (n : Int) := by omega
        have a2 : ¬ (d : Int) < (n : Int) := by omega
        obtain ⟨m, hmk⟩ : ∃ m : Nat, m = k + n := ⟨_, rfl⟩
        have em : (k : Int) + (n : Int) = (m : Int) := by omega
        have b1 : (k : Int) ≤ (m : Int) := by omega
        have b2 : (m : Int) ≤ (L.length : Int) := by omega
        have hex : (⟨L.toArray⟩ : ByteArray).extract k m = ⟨((L.drop k).take n).toArray⟩ := by rw [extract_list, hmk, Nat.add_sub_cancel_left]
        have hex2 : (⟨L.toArray⟩ : ByteArray).extract m L.length = ⟨((L.drop k).drop n).toArray⟩ := by rw [extract_rest _ _ _ (Nat.le_refl _), hmk, List.drop_drop]
        have wn : IntKind.i64.wrap (n : Int) = (n : Int) := by rw [IntKind.wrap_i64]; omega
        clear h0 x0 x1 x2 x3 e1 e2 bad hd hmk
        go_enter Tryz.func86, Tryz.ntmps86
        go_wp2_with (go_at_call 85; refine (SS.out _).mono ?_; rintro e w1 ⟨rfl, rfl⟩)
        go_ret2
        rw [List.drop_drop]
        exact ⟨rfl, rreader_one h⟩
      · obtain ⟨x1, x2, x3⟩ := bad (by rw [txt, h0]; exact if_neg (fun h => hB (by rw [hd]; exact h.2)))
        rw [x1, x2, x3]
        have a1 : ¬ (most : Int) < (n : Int) := by omega
        have a2 : (d : Int) < (n : Int) := by omega
        clear h0 x1 x2 x3 e1 e2 bad hd
        go_enter Tryz.func86, Tryz.ntmps86
        go_wp2_with (go_at_call 85; refine (SS.out _).mono ?_; rintro e w1 ⟨rfl, rfl⟩)
        go_ret2
        exact ⟨rfl, h, Turn.refl _ _⟩
    · obtain ⟨x1, x2, x3⟩ := bad (by rw [txt, h0]; exact if_neg (fun h => hA h.1))
      rw [x1, x2, x3]
      have a1 : (most : Int) < (n : Int) := by omega
      clear h0 x1 x2 x3 e1 e2 bad hd ed hwd
      go_enter Tryz.func86, Tryz.ntmps86
      go_wp2_with (go_at_call 85; refine (SS.out _).mono ?_; rintro e w1 ⟨rfl, rfl⟩)
      go_ret2
      exact ⟨rfl, h, Turn.refl _ _⟩
end Go.Proofs.YtpbhkaokgpacoaaGreatDoor.Rd
