import Derived.Test.YtkeegnhjemhblaaGreatDoorZPRdRShort
import Derived.Test.YtkeegnhjemhblaaGreatDoorZPRdRead2
set_option linter.unusedSimpArgs false
set_option linter.unusedVariables false
/-
  The contracts of the reference's reader at any bytes: Uint, Take, Text.
-/
namespace Go.Proofs.YtkeegnhjemhblaaGreatDoor.Rd
open Go.RowKit Go.Maps Go.WideMaps Go.Proofs.YtkeegnhjemhblaaGreatDoor.Rf

abbrev RRdT : TypeId := 87
/-- A reader of the reference's: what is left. -/
def RReaderAt (w : World) (q : Nat) (L : List UInt8) : Prop := w.heap[q]? = some (.cells #[.string ⟨L.toArray⟩] RRdT)
theorem rreader_one {w : World} {q : Nat} {L R : List UInt8} (h : RReaderAt w q L) : RReaderAt (w.setCell ⟨q, 0, none⟩ (.string ⟨R.toArray⟩)) q R ∧ Turn [q] w (w.setCell ⟨q, 0, none⟩ (.string ⟨R.toArray⟩)) :=
  ⟨by rw [RReaderAt, setCell_heap _ _ _ _ _ _ h]; rfl, (Turn.refl [q] w).setCell (.inl (by simp)) _⟩
theorem rsK_some {L : List UInt8} {n k : Nat} (h : rd0 L = some (n, k)) : 0 < k ∧ k ≤ L.length := by
  have := rd_size L 0 0 n k h
  omega

set_option maxHeartbeats 2000000 in
set_option maxRecDepth 100000 in
/-- A short number. -/
theorem ruint_any (w : World) (q : Nat) (L : List UInt8) (hl : L.length ≤ 140737488355328) (h : RReaderAt w q L) :
    Calls Tryz.prog 41 #[ptr q] w fun e w' => e = .returned (.tuple #[.int .u64 (shN L : Int), .int .i64 (shE L)]) ∧ RReaderAt w' q (shR L) ∧ Turn [q] w w' := by
  have c0 : w.cell? ⟨q, 0, none⟩ = some (.string ⟨L.toArray⟩) := cell_of_heap h
  have f0 : w.frozen? ⟨q, 0, none⟩ = false := frozen_of_heap h
  have SS := Lib.hid (fun w => rshort_any w L hl)
  have hs : (⟨L.toArray⟩ : ByteArray).size = L.length := rfl
  unfold ptr
  cases h0 : rd0 L with
  | none =>
    have x1 : shE L = 4 := by rw [shE, h0]; rfl
    have x2 : shR L = L := by rw [shR, h0]
    rw [x1, x2]
    have e1 : rsK L = 0 := by rw [rsK, h0]
    have e2 : shN L = 0 := by rw [shN, h0]
    rw [e1, e2] at SS
    rw [e2]
    clear h0 x1 x2 e1 e2
    go_enter Tryz.func41, Tryz.ntmps41
    go_wp2_with (go_at_call 103; refine (SS.out _).mono ?_; rintro e w1 ⟨rfl, rfl⟩)
    go_ret2
    exact ⟨rfl, h, Turn.refl _ _⟩
  | some p =>
    obtain ⟨n, k⟩ := p
    obtain ⟨hk0, hk1⟩ := rsK_some h0
    have x1 : shE L = 0 := by rw [shE, h0]; rfl
    have x2 : shR L = L.drop k := by rw [shR, h0]
    rw [x1, x2]
    have e1 : rsK L = k := by rw [rsK, h0]
    have e2 : shN L = n := by rw [shN, h0]
    rw [e1, e2] at SS
    rw [e2]
    have hkz : ((k : Int) == 0) = false := by rw [beq_eq_false_iff_ne]; omega
    have hk2 : (k : Int) ≤ (L.length : Int) := by omega
    have hex : (⟨L.toArray⟩ : ByteArray).extract k L.length = ⟨(L.drop k).toArray⟩ := extract_rest _ _ _ (Nat.le_refl _)
    clear h0 x1 x2 e1 e2
    go_enter Tryz.func41, Tryz.ntmps41
    go_wp2_with (go_at_call 103; refine (SS.out _).mono ?_; rintro e w1 ⟨rfl, rfl⟩)
    go_ret2
    exact ⟨rfl, rreader_one h⟩

set_option maxHeartbeats 2000000 in
set_option maxRecDepth 100000 in
theorem rtake_any (w : World) (q : Nat) (L : List UInt8) (n : Nat) (hn : n ≤ 140737488355328) (h : RReaderAt w q L) :
    Calls Tryz.prog 44 #[ptr q, .int .i64 n] w fun e w' => e = .returned (.tuple #[.string ⟨(tkT n L).toArray⟩, .int .i64 (tkE n L)]) ∧ RReaderAt w' q (tkR n L) ∧ Turn [q] w w' := by
  have c0 : w.cell? ⟨q, 0, none⟩ = some (.string ⟨L.toArray⟩) := cell_of_heap h
  have f0 : w.frozen? ⟨q, 0, none⟩ = false := frozen_of_heap h
  have hs : (⟨L.toArray⟩ : ByteArray).size = L.length := rfl
  have hn0 : ¬ (n : Int) < 0 := by omega
  unfold ptr tkT tkE tkR
  by_cases hn' : n ≤ L.length
  · rw [if_pos hn', if_pos hn', if_pos hn']
    have hn1 : (n : Int) ≤ (L.length : Int) := by omega
    have hn2 : ¬ (L.length : Int) < (n : Int) := by omega
    have hex : (⟨L.toArray⟩ : ByteArray).extract n L.length = ⟨(L.drop n).toArray⟩ := extract_rest _ _ _ (Nat.le_refl _)
    have hex2 : (⟨L.toArray⟩ : ByteArray).extract 0 n = ⟨(L.take n).toArray⟩ := by rw [extract_list]; simp
    go_enter Tryz.func44, Tryz.ntmps44
    go_wp2
    go_ret2
    exact ⟨rfl, rreader_one h⟩
  · rw [if_neg hn', if_neg hn', if_neg hn']
    have hn2 : (L.length : Int) < (n : Int) := by omega
    go_enter Tryz.func44, Tryz.ntmps44
    go_wp2
    go_ret2
    exact ⟨rfl, h, Turn.refl _ _⟩

set_option maxHeartbeats 4000000 in
set_option maxRecDepth 400000 in
theorem rtext_any (w : World) (q : Nat) (L : List UInt8) (most : Nat) (hm : most ≤ 140737488355328) (hl : L.length ≤ 140737488355328) (h : RReaderAt w q L) :
    Calls Tryz.prog 42 #[ptr q, .int .i64 most] w fun e w' => e = .returned (.tuple #[.string ⟨(txT most L).toArray⟩, .int .i64 (txE most L)]) ∧ RReaderAt w' q (txR most L) ∧ Turn [q] w w' := by
  have c0 : w.cell? ⟨q, 0, none⟩ = some (.string ⟨L.toArray⟩) := cell_of_heap h
  have f0 : w.frozen? ⟨q, 0, none⟩ = false := frozen_of_heap h
  have SS := Lib.hid (fun w => rshort_any w L hl)
  have hs : (⟨L.toArray⟩ : ByteArray).size = L.length := rfl
  have hm0 : ¬ (most : Int) < 0 := by omega
  have hw : (most : Int) % 18446744073709551616 = (most : Int) := by omega
  unfold ptr
  have bad : txt most L = none → txT most L = [] ∧ txR most L = L ∧ txE most L = 4 := fun x0 => ⟨by rw [txT, x0], by rw [txR, x0], by rw [txE, x0]; rfl⟩
  cases h0 : rd0 L with
  | none =>
    obtain ⟨x1, x2, x3⟩ := bad (by rw [txt, h0])
    rw [x1, x2, x3]
    have e1 : rsK L = 0 := by rw [rsK, h0]
    have e2 : shN L = 0 := by rw [shN, h0]
    rw [e1, e2] at SS
    clear h0 x1 x2 x3 e1 e2 bad
    go_enter Tryz.func42, Tryz.ntmps42
    go_wp2_with (go_at_call 103; refine (SS.out _).mono ?_; rintro e w1 ⟨rfl, rfl⟩)
    go_ret2
    exact ⟨rfl, h, Turn.refl _ _⟩
  | some p =>
    obtain ⟨n, k⟩ := p
    obtain ⟨hk0, hk1⟩ := rsK_some h0
    have e1 : rsK L = k := by rw [rsK, h0]
    have e2 : shN L = n := by rw [shN, h0]
    have hn64 := shN_lt L
    rw [e2] at hn64
    rw [e1, e2] at SS
    have hkz : ((k : Int) == 0) = false := by rw [beq_eq_false_iff_ne]; omega
    obtain ⟨d, hd⟩ : ∃ d : Nat, d = L.length - k := ⟨_, rfl⟩
    have ed : (L.length : Int) - (k : Int) = (d : Int) := by omega
    have hwd : (d : Int) % 18446744073709551616 = (d : Int) := by omega
    by_cases hA : n ≤ most
    · by_cases hB : n ≤ d
      · have x0 : txt most L = some ((L.drop k).take n, (L.drop k).drop n) := by rw [txt, h0]; exact if_pos ⟨hA, by rw [← hd]; exact hB⟩
        have x1 : txT most L = (L.drop k).take n := by rw [txT, x0]
        have x2 : txR most L = (L.drop k).drop n := by rw [txR, x0]
        have x3 : txE most L = 0 := by rw [txE, x0]; rfl
        rw [x1, x2, x3]
        have a1 : ¬ (most : Int) < (n : Int) := by omega
        have a2 : ¬ (d : Int) < (n : Int) := by omega
        obtain ⟨m, hmk⟩ : ∃ m : Nat, m = k + n := ⟨_, rfl⟩
        have em : (k : Int) + (n : Int) = (m : Int) := by omega
        have b1 : (k : Int) ≤ (m : Int) := by omega
        have b2 : (m : Int) ≤ (L.length : Int) := by omega
        have hex : (⟨L.toArray⟩ : ByteArray).extract k m = ⟨((L.drop k).take n).toArray⟩ := by rw [extract_list, hmk, Nat.add_sub_cancel_left]
        have hex2 : (⟨L.toArray⟩ : ByteArray).extract m L.length = ⟨((L.drop k).drop n).toArray⟩ := by rw [extract_rest _ _ _ (Nat.le_refl _), hmk, List.drop_drop]
        have wn : IntKind.i64.wrap (n : Int) = (n : Int) := by rw [IntKind.wrap_i64]; omega
        clear h0 x0 x1 x2 x3 e1 e2 bad hd hmk
        go_enter Tryz.func42, Tryz.ntmps42
        go_wp2_with (go_at_call 103; refine (SS.out _).mono ?_; rintro e w1 ⟨rfl, rfl⟩)
        go_ret2
        rw [List.drop_drop]
        exact ⟨rfl, rreader_one h⟩
      · obtain ⟨x1, x2, x3⟩ := bad (by rw [txt, h0]; exact if_neg (fun h => hB (by rw [hd]; exact h.2)))
        rw [x1, x2, x3]
        have a1 : ¬ (most : Int) < (n : Int) := by omega
        have a2 : (d : Int) < (n : Int) := by omega
        clear h0 x1 x2 x3 e1 e2 bad hd
        go_enter Tryz.func42, Tryz.ntmps42
        go_wp2_with (go_at_call 103; refine (SS.out _).mono ?_; rintro e w1 ⟨rfl, rfl⟩)
        go_ret2
        exact ⟨rfl, h, Turn.refl _ _⟩
    · obtain ⟨x1, x2, x3⟩ := bad (by rw [txt, h0]; exact if_neg (fun h => hA h.1))
      rw [x1, x2, x3]
      have a1 : (most : Int) < (n : Int) := by omega
      clear h0 x1 x2 x3 e1 e2 bad hd ed hwd
      go_enter Tryz.func42, Tryz.ntmps42
      go_wp2_with (go_at_call 103; refine (SS.out _).mono ?_; rintro e w1 ⟨rfl, rfl⟩)
      go_ret2
      exact ⟨rfl, h, Turn.refl _ _⟩
end Go.Proofs.YtkeegnhjemhblaaGreatDoor.Rd
