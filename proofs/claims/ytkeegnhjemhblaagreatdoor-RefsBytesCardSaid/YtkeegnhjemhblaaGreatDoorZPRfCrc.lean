import Derived.Test.YtkeegnhjemhblaaGreatDoorZPRfKit
import Derived.Laws.Shifts
import Derived.Laws.Closers25b
import Derived.Lib.ConvBytes
import Derived.Laws.Bits64
import Derived.Laws.Bits64b
set_option linter.unusedSimpArgs false
set_option linter.unusedVariables false
/-
  The contracts of the checksum.
-/
namespace Go.Proofs.YtkeegnhjemhblaaGreatDoor.Rf
open Go.RowKit Go.Maps

/-- A bit's turn of the checksum. -/
def crcBit (c : Int) : Int := bits .xor .u32 (c / 2) (bits .and .u32 3988292384 (-bits .and .u32 c 1 % 4294967296))
def crcI : Nat → Int → Int
  | 0, c => c
  | i + 1, c => crcBit (crcI i c)
/-- A byte's turn. -/
def crcB (c : Int) (b : UInt8) : Int := crcI 8 (bits .xor .u32 c ((b.toNat : Int) % 4294967296))

set_option maxHeartbeats 2000000 in
set_option maxRecDepth 100000 in
theorem take_any (w : World) (q : Nat) (c : Int) (b : UInt8) (h : w.heap[q]? = some (.cells #[.int .u32 c] 167)) :
    Calls Tryz.prog 143 #[.int .u8 (b.toNat : Int), ptr q] w fun e w' => e = .returned (.tuple #[]) ∧ w'.heap[q]? = some (.cells #[.int .u32 (crcB c b)] 167) ∧ Turn [q] w w' := by
  have c1 : w.cell? ⟨q, 0, none⟩ = some (.int .u32 c) := cell_of_heap h
  have f1 := frozen_of_heap (j := 0) h
  obtain ⟨c0, hc0⟩ : ∃ c0, c0 = bits .xor .u32 c ((b.toNat : Int) % 4294967296) := ⟨_, rfl⟩
  have HC : Hid (crcB c b = crcI 8 c0) := Lib.hid (by rw [crcB, hc0])
  have hs0 : Hid ((w.setCell ⟨q, 0, none⟩ (.int .u32 c0)).heap[q]? = some (.cells #[.int .u32 c0] 167)) := Lib.hid (by rw [setCell_heap _ _ _ _ _ _ h]; rfl)
  have HT0 := Lib.hid (((Turn.refl [q] w).setCell (p := ⟨q, 0, none⟩) (.inl (by simp)) (.int .u32 c0)))
  clear h
  go_enter Tryz.func143, Tryz.ntmps143
  go_wp2
  rw [← hc0]
  clear hc0 c1 f1
  generalize w.setCell ⟨q, 0, none⟩ (.int .u32 c0) = w1 at *
  go_loopw [7] (fun n w' => ∃ i : Nat, i ≤ 8 ∧ n = .int .i64 i ∧ w'.heap[q]? = some (.cells #[.int .u32 (crcI i c0)] 167) ∧ Turn [q] w w') (fun n _ => 8 - (RowKit.intOf n).toNat)
  case atStart => exact ⟨0, by omega, rfl, hs0.out, HT0.out⟩
  case round =>
    obtain ⟨i, hi, rfl, h', ht⟩ := hrel
    have c2 := cell_of_heap (j := 0) h'
    have f2 := frozen_of_heap (j := 0) h'
    simp at c2
    by_cases hi8 : (i : Int) < 8
    · have h2 : Hid ((wr.setCell ⟨q, 0, none⟩ (.int .u32 (crcI (i + 1) c0))).heap[q]? = some (.cells #[.int .u32 (crcI (i + 1) c0)] 167)) := Lib.hid (by rw [setCell_heap _ _ _ _ _ _ h']; rfl)
      have h3 := Lib.hid (ht.setCell (p := ⟨q, 0, none⟩) (.inl (by simp)) (.int .u32 (crcI (i + 1) c0)))
      clear h' ht
      go_wp2
      go_roundw
      case rel => exact ⟨i + 1, by omega, by simp, h2.out, h3.out⟩
      case measure => simp [RowKit.intOf]; omega
    · obtain rfl : i = 8 := by omega
      rw [← HC.out] at h'
      go_wp2
      go_end0
      exact ⟨rfl, h', ht⟩

/-- The checksum, gone on with more bytes. -/
def crcOn (c : Int) (s : List UInt8) : Int := s.foldl crcB c

/-- A checksum's beginning and end: all its bits turned over. -/
def crcNot (c : Int) : Int := bits .xor .u32 IntKind.u32.max c
/-- What On answers. -/
def onN (c : Int) (s : List UInt8) : Int := crcNot (crcOn (crcNot c) s)

theorem bytesWorld_below (w : World) (e : TypeId) (s : ByteArray) : Below w.heap.size w (Lib.bytesWorld w e s) :=
  ⟨rfl, rfl, rfl, by rw [Lib.bytesWorld_size]; omega, fun k hk => Lib.bytesWorld_at_old w e s k hk⟩

set_option maxHeartbeats 2000000 in
set_option maxRecDepth 100000 in
theorem on_any (w : World) (c : Int) (S : ByteArray) (hS : S.size ≤ maxLen) :
    Calls Tryz.prog 92 #[.int .u32 c, .string S] w fun e w' => e = .returned (.int .u32 (onN c S.data.toList)) ∧ Below w.heap.size w w' := by
  unfold maxLen at hS
  obtain ⟨W0, hW0⟩ : ∃ W0, W0 = w.alloc (.cells #[.int .u32 (crcNot c)] 167) := ⟨_, rfl⟩
  have hs0 : W0.heap.size = w.heap.size + 1 := by rw [hW0]; show (w.heap.push _).size = _; simp
  have h0 : W0.heap[w.heap.size]? = some (.cells #[.int .u32 (crcNot c)] 167) := by rw [hW0]; exact (MapKept.heap_alloc w _).1
  have hb0 : Below w.heap.size w W0 := by rw [hW0]; exact (Below.refl _ _).alloc (Nat.le_refl _) _
  have hcv := Lib.run_convert_string_bytes (P := Tryz.prog) W0 9 82 5 S Tryz.underlying9 Tryz.underlying82 Tryz.underlying5
  have hB : ∀ j, j < S.size → (Lib.bytesWorld W0 5 S).cell? ⟨W0.heap.size, j, none⟩ = some (.int .u8 (S.data.toList.getD j 0).toNat) := fun j hj => Lib.bytesWorld_cell W0 5 S j hj
  have h1 : (Lib.bytesWorld W0 5 S).heap[w.heap.size]? = some (.cells #[.int .u32 (crcNot c)] 167) := (Lib.bytesWorld_at_old _ _ _ _ (by omega)).trans h0
  have hb1 : Below w.heap.size w (Lib.bytesWorld W0 5 S) := hb0.trans ((bytesWorld_below W0 _ S).mono (by omega))
  have hs1 := Lib.bytesWorld_size W0 5 S
  rw [hs0] at hB hcv hs1
  obtain ⟨W1, hW1⟩ : ∃ W1, W1 = Lib.bytesWorld W0 5 S := ⟨_, rfl⟩
  rw [← hW1] at hcv hB h1 hb1 hs1
  obtain ⟨L, hL⟩ : ∃ L, L = S.data.toList := ⟨_, rfl⟩
  have hLn : L.length = S.size := by rw [hL, Lib.size_eq]
  rw [← hL] at hB ⊢
  have HB := Lib.hid hB; have H1 := Lib.hid h1; have HB1 := Lib.hid hb1; have HLN := Lib.hid hLn; have HS1 := Lib.hid hs1
  clear hW1 hL hLn hB h1 hb1 hs0 h0 hb0 hs1
  go_enter Tryz.func92, Tryz.ntmps92
  have e1 : W0 = w.alloc (.cells #[.int .u32 (bits .xor .u32 IntKind.u32.max c)] 167) := hW0
  rw [e1] at hcv
  clear hW0 e1 W0
  go_wp2
  go_loopw [14] (fun n w' => ∃ i : Nat, i ≤ S.size ∧ n = .int .i64 i ∧ w'.heap[w.heap.size]? = some (.cells #[.int .u32 (crcOn (crcNot c) (L.take i))] 167) ∧ Turn [w.heap.size] W1 w') (fun n _ => S.size - (RowKit.intOf n).toNat)
  case atStart => exact ⟨0, by omega, rfl, H1.out, Turn.refl _ _⟩
  case round =>
    obtain ⟨i, hi, rfl, h', ht⟩ := hrel
    have H := Lib.hid h'; have HT := Lib.hid ht
    by_cases hlt : (i : Int) < (S.size : Int)
    · have hln := HLN.out
      have hc : wr.cell? ⟨w.heap.size + 1, i, none⟩ = some (.int .u8 ((L.getD i 0).toNat)) := by
        rw [← HB.out i (by omega)]
        exact World.cell?_of_block (a := ⟨w.heap.size + 1, i, none⟩) (ht.block _ (by show w.heap.size + 1 < _; rw [HS1.out]; omega) (by simp))
      have K := Lib.hid (take_any wr w.heap.size _ (L.getD i 0) h')
      have hstep : Hid (crcOn (crcNot c) (L.take (i + 1)) = crcB (crcOn (crcNot c) (L.take i)) (L.getD i 0)) := Lib.hid (by
        rw [crcOn, crcOn, List.take_add_one, List.foldl_append, List.getD, List.getElem?_eq_getElem (by omega)]; rfl)
      have hb : (L.getD i 0).toNat < 256 := (L.getD i 0).toNat_lt
      generalize L.getD i 0 = b at *
      clear h' ht hln
      unfold ptr at K
      go_wp2_with fail
      refine K.out.mono ?_
      rintro e w3 ⟨rfl, h3, t3⟩
      rw [← hstep.out] at h3
      have H3 := Lib.hid h3; have T3 := Lib.hid (HT.out.trans t3 (by simp))
      clear h3 t3
      go_wp2
      go_roundw
      case rel => exact ⟨i + 1, by omega, by simp, H3.out, T3.out⟩
      case measure => simp [RowKit.intOf]; omega
    · obtain rfl : i = S.size := by omega
      have hc := cell_of_heap (j := 0) h'
      simp at hc
      clear h' ht
      go_wp2
      go_ret
      refine ⟨?_, HB1.out.trans (HT.out.below (by simp) (by rw [HS1.out]; omega))⟩
      rw [← HLN.out, List.take_length]; rfl

theorem onN_range (c : Int) (s : List UInt8) : 0 ≤ onN c s ∧ onN c s ≤ 4294967295 := by
  unfold onN crcNot
  exact ⟨bits_lo_u32 _ _ _, bits_hi_u32 _ _ _⟩

set_option maxRecDepth 100000 in
theorem crc_any (w : World) (S : ByteArray) (hS : S.size ≤ maxLen) :
    Calls Tryz.prog 93 #[.string S] w fun e w' => e = .returned (.int .u32 (onN 0 S.data.toList)) ∧ Below w.heap.size w w' := by
  have K := Lib.hid (on_any w 0 S hS)
  go_enter Tryz.func93, Tryz.ntmps93
  go_wp2_with fail
  refine K.out.mono ?_
  rintro e w3 ⟨rfl, hb⟩
  have HB := Lib.hid hb
  clear hb
  go_wp2
  go_ret
  exact ⟨rfl, HB.out⟩
end Go.Proofs.YtkeegnhjemhblaaGreatDoor.Rf
