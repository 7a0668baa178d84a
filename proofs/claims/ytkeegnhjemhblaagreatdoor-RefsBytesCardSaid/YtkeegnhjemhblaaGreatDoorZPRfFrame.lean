import Derived.Test.YtkeegnhjemhblaaGreatDoorZPRfPut
set_option linter.unusedSimpArgs false
set_option linter.unusedVariables false
/-
  The contracts of PutFixed at the width 4, and of Frame.
-/
namespace Go.Proofs.YtkeegnhjemhblaaGreatDoor.Rf
open Go.RowKit Go.Maps

/-- The array behind i rounds. -/
def fix8 (n : Nat) (i : Nat) : Array Value := ((List.range 8).map fun j => Value.int .u8 (if 7 - j < i then (((n / 256 ^ (7 - j)) % 256 : Nat) : Int) else 0)).toArray

set_option maxHeartbeats 2000000 in
set_option maxRecDepth 100000 in
theorem putFixed_any (w : World) (S : ByteArray) (n : Nat) (hn : n < 4294967296) (hS : S.size ≤ 1099511627776) :
    Calls Tryz.prog 123 #[.string S, .int .u64 (n : Int), .int .i64 4] w fun e w' => e = .returned (.tuple #[.string ⟨(S.data.toList ++ be4 n).toArray⟩, .int .i64 0]) ∧ Below w.heap.size w w' := by
  have h1 : (n : Int) / 4294967296 = 0 := by omega
  go_enter Tryz.func123, Tryz.ntmps123
  go_wp2
  go_loopw [28] (fun vi w' => ∃ (k : Nat), k ≤ 8 ∧ vi = .int .i64 k ∧ w'.heap[w.heap.size]? = some (.cells (fix8 n k) 221) ∧ Below w.heap.size w w') (fun k _ => 8 - (RowKit.intOf k).toNat)
  case atStart => exact ⟨0, by omega, rfl, (MapKept.heap_alloc w _).1, (Below.refl _ _).alloc (Nat.le_refl _) _⟩
  case round =>
    obtain ⟨k, hk, rfl, hh, hb⟩ := hrel
    have HB := Lib.hid hb
    have hlt : w.heap.size < wr.heap.size := lt_of_heap hh
    have hfz : ∀ j, wr.frozen? ⟨w.heap.size, j, none⟩ = false := fun j => frozen_of_heap hh
    have hck : ∀ j, wr.cell? ⟨w.heap.size, j, none⟩ = (fix8 n k)[j]? := fun j => cell_of_heap hh
    by_cases h8 : k = 8
    · subst h8
      have HH := Lib.hid hh
      have hcv : (convert 82 9 (.slice (some ⟨w.heap.size, 4, none⟩) 4 4)).run Tryz.prog wr = .ok (.string ⟨(be4 n).toArray⟩) wr :=
        run_convert_bytes_back wr _ _ 5 ⟨w.heap.size, 4, none⟩ 4 (be4 n) Tryz.underlying82 Tryz.underlying5 Tryz.underlying9 (fun j hj => by
          rw [Addr.add_lit, hck]
          have : j = 0 ∨ j = 1 ∨ j = 2 ∨ j = 3 := by simp [be4] at hj; omega
          rcases this with rfl | rfl | rfl | rfl <;> simp [fix8, be4, List.range, List.range.loop]
          all_goals omega)
      have hcat := cat_list S (be4 n)
      have h4 : (⟨(be4 n).toArray⟩ : ByteArray).size = 4 := rfl
      obtain ⟨U, hU⟩ : ∃ U, U = (⟨(be4 n).toArray⟩ : ByteArray) := ⟨_, rfl⟩
      rw [← hU] at hcv hcat h4
      have HC := Lib.hid hcat
      clear hck hh hb hcat hU
      go_wp2
      go_ret2
      refine ⟨?_, HB.out⟩
      rw [← HC.out]
      rfl
    · have hc : k = 0 ∨ k = 1 ∨ k = 2 ∨ k = 3 ∨ k = 4 ∨ k = 5 ∨ k = 6 ∨ k = 7 := by omega
      rcases hc with rfl | rfl | rfl | rfl | rfl | rfl | rfl | rfl
      · have c0 := hck 0; have c1 := hck 1; have c2 := hck 2; have c3 := hck 3; have c4 := hck 4; have c5 := hck 5; have c6 := hck 6; have c7 := hck 7
        simp [fix8, List.range, List.range.loop] at c0 c1 c2 c3 c4 c5 c6 c7
        have HH := Lib.hid hh
        clear hck hh h8 hk hb
        go_wp2
        go_roundw
        case rel =>
          refine ⟨1, by omega, rfl, ?_, HB.out.setCell (Nat.le_refl _) _⟩
          rw [setCell_heap _ _ _ _ _ _ HH.out]
          simp [fix8, List.range, List.range.loop]
          try omega
        case measure => simp [RowKit.intOf]
      · have c0 := hck 0; have c1 := hck 1; have c2 := hck 2; have c3 := hck 3; have c4 := hck 4; have c5 := hck 5; have c6 := hck 6; have c7 := hck 7
        simp [fix8, List.range, List.range.loop] at c0 c1 c2 c3 c4 c5 c6 c7
        have HH := Lib.hid hh
        clear hck hh h8 hk hb
        go_wp2
        go_roundw
        case rel =>
          refine ⟨2, by omega, rfl, ?_, HB.out.setCell (Nat.le_refl _) _⟩
          rw [setCell_heap _ _ _ _ _ _ HH.out]
          simp [fix8, List.range, List.range.loop]
          try omega
        case measure => simp [RowKit.intOf]
      · have c0 := hck 0; have c1 := hck 1; have c2 := hck 2; have c3 := hck 3; have c4 := hck 4; have c5 := hck 5; have c6 := hck 6; have c7 := hck 7
        simp [fix8, List.range, List.range.loop] at c0 c1 c2 c3 c4 c5 c6 c7
        have HH := Lib.hid hh
        clear hck hh h8 hk hb
        go_wp2
        go_roundw
        case rel =>
          refine ⟨3, by omega, rfl, ?_, HB.out.setCell (Nat.le_refl _) _⟩
          rw [setCell_heap _ _ _ _ _ _ HH.out]
          simp [fix8, List.range, List.range.loop]
          try omega
        case measure => simp [RowKit.intOf]
      · have c0 := hck 0; have c1 := hck 1; have c2 := hck 2; have c3 := hck 3; have c4 := hck 4; have c5 := hck 5; have c6 := hck 6; have c7 := hck 7
        simp [fix8, List.range, List.range.loop] at c0 c1 c2 c3 c4 c5 c6 c7
        have HH := Lib.hid hh
        clear hck hh h8 hk hb
        go_wp2
        go_roundw
        case rel =>
          refine ⟨4, by omega, rfl, ?_, HB.out.setCell (Nat.le_refl _) _⟩
          rw [setCell_heap _ _ _ _ _ _ HH.out]
          simp [fix8, List.range, List.range.loop]
          try omega
        case measure => simp [RowKit.intOf]
      · have c0 := hck 0; have c1 := hck 1; have c2 := hck 2; have c3 := hck 3; have c4 := hck 4; have c5 := hck 5; have c6 := hck 6; have c7 := hck 7
        simp [fix8, List.range, List.range.loop] at c0 c1 c2 c3 c4 c5 c6 c7
        have HH := Lib.hid hh
        clear hck hh h8 hk hb
        go_wp2
        go_roundw
        case rel =>
          refine ⟨5, by omega, rfl, ?_, HB.out.setCell (Nat.le_refl _) _⟩
          rw [setCell_heap _ _ _ _ _ _ HH.out]
          simp [fix8, List.range, List.range.loop]
          try omega
        case measure => simp [RowKit.intOf]
      · have c0 := hck 0; have c1 := hck 1; have c2 := hck 2; have c3 := hck 3; have c4 := hck 4; have c5 := hck 5; have c6 := hck 6; have c7 := hck 7
        simp [fix8, List.range, List.range.loop] at c0 c1 c2 c3 c4 c5 c6 c7
        have HH := Lib.hid hh
        clear hck hh h8 hk hb
        go_wp2
        go_roundw
        case rel =>
          refine ⟨6, by omega, rfl, ?_, HB.out.setCell (Nat.le_refl _) _⟩
          rw [setCell_heap _ _ _ _ _ _ HH.out]
          simp [fix8, List.range, List.range.loop]
          try omega
        case measure => simp [RowKit.intOf]
      · have c0 := hck 0; have c1 := hck 1; have c2 := hck 2; have c3 := hck 3; have c4 := hck 4; have c5 := hck 5; have c6 := hck 6; have c7 := hck 7
        simp [fix8, List.range, List.range.loop] at c0 c1 c2 c3 c4 c5 c6 c7
        have HH := Lib.hid hh
        clear hck hh h8 hk hb
        go_wp2
        go_roundw
        case rel =>
          refine ⟨7, by omega, rfl, ?_, HB.out.setCell (Nat.le_refl _) _⟩
          rw [setCell_heap _ _ _ _ _ _ HH.out]
          simp [fix8, List.range, List.range.loop]
          try omega
        case measure => simp [RowKit.intOf]
      · have c0 := hck 0; have c1 := hck 1; have c2 := hck 2; have c3 := hck 3; have c4 := hck 4; have c5 := hck 5; have c6 := hck 6; have c7 := hck 7
        simp [fix8, List.range, List.range.loop] at c0 c1 c2 c3 c4 c5 c6 c7
        have HH := Lib.hid hh
        clear hck hh h8 hk hb
        go_wp2
        go_roundw
        case rel =>
          refine ⟨8, by omega, rfl, ?_, HB.out.setCell (Nat.le_refl _) _⟩
          rw [setCell_heap _ _ _ _ _ _ HH.out]
          simp [fix8, List.range, List.range.loop]
          try omega
        case measure => simp [RowKit.intOf]

/-- The checksum that a frame bears. -/
def crcN (s : List UInt8) : Nat := (onN (onN 0 (be4 s.length)) s).toNat
theorem crcN_lt (s : List UInt8) : crcN s < 4294967296 := by
  have := onN_range (onN 0 (be4 s.length)) s
  rw [crcN]; omega
theorem crcN_eq (s : List UInt8) : ((crcN s : Nat) : Int) = onN (onN 0 (be4 s.length)) s := by
  have := onN_range (onN 0 (be4 s.length)) s
  rw [crcN]; omega
/-- A payload in a frame. -/
def frameN (s : List UInt8) : List UInt8 := be4 s.length ++ be4 (crcN s) ++ s

theorem ba_data (l : List UInt8) : (⟨l.toArray⟩ : ByteArray).data.toList = l := by simp
theorem ba_size (l : List UInt8) : (⟨l.toArray⟩ : ByteArray).size = l.length := rfl

set_option maxHeartbeats 2000000 in
set_option maxRecDepth 100000 in
theorem frame_any (w : World) (S : ByteArray) (hS : S.size ≤ 67108864) :
    Calls Tryz.prog 67 #[.string S] w fun e w' => e = .returned (.tuple #[.string ⟨(frameN S.data.toList).toArray⟩, .int .i64 0]) ∧ Below w.heap.size w w' := by
  have hsz := Lib.size_eq S
  obtain ⟨H4, hH4⟩ : ∃ H4 : ByteArray, H4 = ⟨(be4 S.size).toArray⟩ := ⟨_, rfl⟩
  have h4s : H4.size = 4 := by rw [hH4]; rfl
  have h4d : H4.data.toList = be4 S.data.toList.length := by rw [hH4, ba_data, hsz]
  have K1 := Lib.hid (putFixed_any w ⟨#[]⟩ S.size (by omega) (by decide))
  simp only [List.nil_append] at K1
  rw [← hH4] at K1
  have K2 : Hid (∀ w, Calls Tryz.prog 93 #[.string H4] w fun e w' => e = .returned (.int .u32 (onN 0 H4.data.toList)) ∧ Below w.heap.size w w') := Lib.hid (fun w => crc_any w H4 (by rw [h4s]; decide))
  have K3 : Hid (∀ w, Calls Tryz.prog 92 #[.int .u32 (onN 0 H4.data.toList), .string S] w fun e w' => e = .returned (.int .u32 ((crcN S.data.toList : Nat) : Int)) ∧ Below w.heap.size w w') := Lib.hid (fun w => by
    have := on_any w (onN 0 H4.data.toList) S (by unfold maxLen; omega)
    rw [h4d, ← crcN_eq] at this
    rwa [h4d])
  have K4 : Hid (∀ w, Calls Tryz.prog 123 #[.string H4, .int .u64 ((crcN S.data.toList : Nat) : Int), .int .i64 4] w fun e w' => e = .returned (.tuple #[.string ⟨(H4.data.toList ++ be4 (crcN S.data.toList)).toArray⟩, .int .i64 0]) ∧ Below w.heap.size w w') := Lib.hid (fun w => putFixed_any w H4 _ (crcN_lt _) (by omega))
  have hcl := crcN_lt S.data.toList
  obtain ⟨U, hU⟩ : ∃ U : ByteArray, U = ⟨(H4.data.toList ++ be4 (crcN S.data.toList)).toArray⟩ := ⟨_, rfl⟩
  have hUs : U.size = 8 := by rw [hU, ba_size, h4d]; rfl
  have HF : Hid (U ++ S = ⟨(frameN S.data.toList).toArray⟩) := Lib.hid (by rw [cat, hU, ba_data, h4d, frameN])
  rw [← hU] at K4
  rw [← HF.out]
  generalize crcN S.data.toList = c at *
  generalize onN 0 H4.data.toList = c0 at *
  clear hU h4d hH4 hsz
  go_enter Tryz.func67, Tryz.ntmps67
  go_wp2_with fail
  refine K1.out.mono ?_
  rintro e w1 ⟨rfl, hb1⟩
  have HB1 := Lib.hid hb1
  clear hb1 K1
  go_wp2_with fail
  refine (K2.out _).mono ?_
  rintro e w2 ⟨rfl, hb2⟩
  have HB2 := Lib.hid (HB1.out.trans (hb2.mono HB1.out.size))
  clear hb2 K2
  go_wp2_with fail
  refine (K3.out _).mono ?_
  rintro e w3 ⟨rfl, hb3⟩
  have HB3 := Lib.hid (HB2.out.trans (hb3.mono HB2.out.size))
  clear hb3 K3
  go_wp2_with fail
  refine (K4.out _).mono ?_
  rintro e w4 ⟨rfl, hb4⟩
  have HB4 := Lib.hid (HB3.out.trans (hb4.mono HB3.out.size))
  clear hb4 K4
  go_wp2
  go_ret2
  exact ⟨rfl, HB4.out⟩
end Go.Proofs.YtkeegnhjemhblaaGreatDoor.Rf
