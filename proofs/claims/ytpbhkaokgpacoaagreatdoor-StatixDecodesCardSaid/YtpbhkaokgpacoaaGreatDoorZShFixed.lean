import Derived.Test.YtpbhkaokgpacoaaGreatDoorZRowKit
import Derived.Test.YtpbhkaokgpacoaaGreatDoorZStRefPut
set_option linter.unusedSimpArgs false
set_option linter.unusedVariables false
/-
  The contracts of a number in eight bytes: the reference's.
-/
namespace Go.Proofs.YtpbhkaokgpacoaaGreatDoor.Sh
open Go.RowKit Go.Maps Go.Proofs.YtpbhkaokgpacoaaGreatDoor.Rf Go.Proofs.YtpbhkaokgpacoaaGreatDoor.Rd Go.Proofs.YtpbhkaokgpacoaaGreatDoor.St

def beB (n i : Nat) : UInt8 := UInt8.ofNat (n / 256 ^ (7 - i))
theorem be8_take (n j : Nat) (h : j < 8) : (be8 n).take (j + 1) = (be8 n).take j ++ [beB n j] := by
  have hl : j < (be8 n).length := by simp [be8]; exact h
  rw [List.take_succ_eq_append_getElem hl]
  simp [be8, beB]
theorem be8_length (n : Nat) : (be8 n).length = 8 := by simp [be8]
theorem shr_byte (n i : Nat) : (((n : Int) / 2 ^ (8 * i)) % 256) = ((UInt8.ofNat (n / 256 ^ i)).toNat : Int) := by
  have e : (2 : Int) ^ (8 * i) = ((256 ^ i : Nat) : Int) := by rw [show (256 : Nat) = 2 ^ 8 from rfl, ← Nat.pow_mul]; simp
  rw [e, UInt8.toNat_ofNat', ← Int.natCast_ediv]
  generalize n / 256 ^ i = m
  simp

set_option maxRecDepth 100000 in
theorem fits8 (w : World) (n : Nat) :
    Calls Tryz.prog 150 #[.int .u64 (n : Int), .int .i64 8] w fun e w' => e = .returned (.bool true) ∧ w' = w := by
  go_enter Tryz.func150, Tryz.ntmps150
  go_wp2
  go_ret
  exact ⟨rfl, rfl⟩
set_option maxHeartbeats 4000000 in
set_option maxRecDepth 100000 in
theorem ref_fixed8 (w : World) (l : List UInt8) (n : Nat) (hl : l.length ≤ 140737488355328) :
    Calls Tryz.prog 128 #[.string ⟨l.toArray⟩, .int .u64 (n : Int), .int .i64 8] w fun e w' => e = .returned (.tuple #[.string ⟨(l ++ be8 n).toArray⟩, .int .i64 0]) ∧ Below w.heap.size w w' := by
  have FI := Lib.hid (fits8 w n)
  go_enter Tryz.func128, Tryz.ntmps128
  go_wp2_with fail
  refine FI.out.mono ?_
  rintro e wx ⟨rfl, hwx⟩
  obtain rfl : w = wx := hwx.symm
  go_wp2
  go_loopw [0, 8] (fun vs vi w' => ∃ j : Nat, j ≤ 8 ∧ vs = .string ⟨(l ++ (be8 n).take j).toArray⟩ ∧ vi = .int .i64 (7 - (j : Int)) ∧ Hid (Below w.heap.size w w')) (fun _ vi _ => (RowKit.intOf vi + 1).toNat)
  case atStart => exact ⟨0, by omega, by simp, rfl, Lib.hid (Below.refl _ _)⟩
  case round =>
    obtain ⟨j, hj, rfl, rfl, HB⟩ := hrel
    obtain ⟨i, hi⟩ : ∃ i : Int, i = 7 - (j : Int) := ⟨_, rfl⟩
    rw [← hi]
    by_cases hlt : (0 : Int) ≤ i
    · have hj8 : j < 8 := by omega
      obtain ⟨k, hk⟩ : ∃ k : Nat, i = (k : Int) := ⟨7 - j, by omega⟩
      subst hk
      have hk7 : k ≤ 7 := by omega
      have hjk : 7 - j = k := by omega
      obtain ⟨d, hd⟩ : ∃ d, d = UInt8.ofNat (n / 256 ^ k) := ⟨_, rfl⟩
      have hv : (n : Int) / 2 ^ (8 * k) % 256 = (d.toNat : Int) := by rw [hd]; exact shr_byte n k
      have hcv := conv_val hv (MapKept.heap_alloc wr (.cells #[.int .u8 ((n : Int) / 2 ^ (8 * k) % 256)] 5)).1
      have HC : Hid ((⟨(l ++ (be8 n).take j).toArray⟩ : ByteArray) ++ ⟨[d].toArray⟩ = ⟨(l ++ (be8 n).take (j + 1)).toArray⟩) := Lib.hid (by rw [cat_list, ba_data, List.append_assoc, be8_take n j hj8, beB, hjk, hd])
      have HB2 := Lib.hid (HB.out.alloc HB.out.size (.cells #[.int .u8 ((n : Int) / 2 ^ (8 * k) % 256)] 5))
      have HK := Lib.hid hi
      have hpl : l.length + ((be8 n).take j).length + 1 ≤ 9223372036854775807 := by rw [List.length_take]; omega
      clear hv hd hi hjk HB
      go_wp2
      go_roundw
      case rel => exact ⟨j + 1, by omega, congrArg Value.string HC.out, congrArg (Value.int .i64) (by have := HK.out; omega), HB2⟩
      case measure => simp [RowKit.intOf]
    · obtain rfl : j = 8 := by omega
      have HE : Hid ((be8 n).take 8 = be8 n) := Lib.hid (List.take_of_length_le (by rw [be8_length]; omega))
      clear hi
      go_wp2
      go_ret2
      rw [HE.out]
      exact ⟨rfl, HB.out⟩

set_option maxRecDepth 100000 in
/-- A number in eight bytes. -/
theorem ref_Fixed8 (w : World) (n : Nat) :
    Calls Tryz.prog 103 #[.int .u64 (n : Int), .int .i64 8] w fun e w' => e = .returned (.string ⟨(be8 n).toArray⟩) ∧ Below w.heap.size w w' := by
  have FI := Lib.hid (ref_fixed8 w [] n (by decide))
  go_enter Tryz.func103, Tryz.ntmps103
  go_wp2_with fail
  refine FI.out.mono ?_
  rintro e w1 ⟨rfl, hb⟩
  have HB := Lib.hid hb
  clear hb
  go_wp2
  go_ret
  exact ⟨rfl, HB.out⟩

/-! ### the program's -/
/-- The bytes written so far, from behind. -/
def lay8 (n i : Nat) : List UInt8 := (List.range 8).map fun j => if 8 - i ≤ j then beB n j else 0
theorem lay8_length (n i : Nat) : (lay8 n i).length = 8 := by simp [lay8]
theorem lay8_get (n i j : Nat) (hj : j < 8) : (lay8 n i)[j]? = some (if 8 - i ≤ j then beB n j else 0) := by simp [lay8, hj]
theorem lay8_zero (n : Nat) : Lib.byteCells (lay8 n 0) = [.int .u8 0, .int .u8 0, .int .u8 0, .int .u8 0, .int .u8 0, .int .u8 0, .int .u8 0, .int .u8 0] := rfl
theorem lay8_end (n : Nat) : lay8 n 8 = be8 n := by
  apply List.ext_getElem?
  intro j
  by_cases hj : j < 8
  · rw [lay8_get _ _ _ hj, if_pos (by omega)]
    simp [be8, beB, hj]
  · rw [List.getElem?_eq_none (by rw [lay8_length]; omega), List.getElem?_eq_none (by rw [be8_length]; omega)]
theorem lay8_step (n i : Nat) (hi : i < 8) : (lay8 n i).set (7 - i) (beB n (7 - i)) = lay8 n (i + 1) := by
  apply List.ext_getElem?
  intro j
  rw [List.getElem?_set]
  by_cases hj : j < 8
  · rw [lay8_get _ _ _ hj, lay8_get _ _ _ hj]
    by_cases e : 7 - i = j
    · subst e; rw [if_pos rfl, if_pos (by rw [lay8_length]; omega), if_pos (by omega)]
    · rw [if_neg e]
      by_cases h1 : 8 - i ≤ j
      · rw [if_pos h1, if_pos (by omega)]
      · rw [if_neg h1, if_neg (by omega)]
  · rw [if_neg (by omega), List.getElem?_eq_none (by rw [lay8_length]; omega), List.getElem?_eq_none (by rw [lay8_length]; omega)]
abbrev T8b : TypeId := 204
theorem bc_set (L : List UInt8) (j : Nat) (b : UInt8) : (Lib.byteCells L).toArray.setIfInBounds j (.int .u8 (b.toNat : Int)) = (Lib.byteCells (L.set j b)).toArray := by
  simp [Lib.byteCells]
theorem bc_get {L : List UInt8} {j : Nat} {b : UInt8} (h : L[j]? = some b) : (Lib.byteCells L).toArray[j]? = some (.int .u8 (b.toNat : Int)) := by
  simp [Lib.byteCells, h]
theorem bc_conv {w : World} {g c : Nat} {T : TypeId} {L : List UInt8} {n : Nat} (hn : n = L.length) (h : w.heap[g]? = some (.cells (Lib.byteCells L).toArray T)) :
    (convert 87 9 (.slice (some ⟨g, 0, none⟩) n c)).run Tryz.prog w = .ok (.string ⟨L.toArray⟩) w := by
  subst hn
  exact run_convert_bytes_back w _ _ 5 ⟨g, 0, none⟩ c L Tryz.underlying87 Tryz.underlying5 Tryz.underlying9 (fun j hj => by
    rw [Addr.add_lit, Nat.zero_add, cell_of_heap h, bc_get (List.getElem?_eq_getElem hj)])
set_option maxHeartbeats 4000000 in
set_option maxRecDepth 100000 in
theorem put_fixed8 (w : World) (l : List UInt8) (n : Nat) (hl : l.length ≤ 140737488355328) :
    Calls Tryz.prog 117 #[.string ⟨l.toArray⟩, .int .u64 (n : Int), .int .i64 8] w fun e w' => e = .returned (.tuple #[.string ⟨(l ++ be8 n).toArray⟩, .int .i64 0]) ∧ Below w.heap.size w w' := by
  have HB0 := Lib.hid ((Below.refl w.heap.size w).alloc (Nat.le_refl _) (.cells #[.int .u8 0, .int .u8 0, .int .u8 0, .int .u8 0, .int .u8 0, .int .u8 0, .int .u8 0, .int .u8 0] T8b))
  have HA0 : Hid ((w.alloc (.cells #[.int .u8 0, .int .u8 0, .int .u8 0, .int .u8 0, .int .u8 0, .int .u8 0, .int .u8 0, .int .u8 0] T8b)).heap[w.heap.size]? = some (.cells (Lib.byteCells (lay8 n 0)).toArray T8b)) := Lib.hid (by rw [lay8_zero]; exact at_new _ _)
  obtain ⟨a, ha⟩ : ∃ a, a = w.heap.size := ⟨_, rfl⟩
  go_enter Tryz.func117, Tryz.ntmps117
  go_wp2
  all_goals
    rw [← ha]
    rw [← ha] at HA0
    have HA := Lib.hid ha
    clear ha
    go_loopw [28] (fun v28 wr => ∃ i : Nat, i ≤ 8 ∧ v28 = .int .i64 (i : Int) ∧ Hid (wr.heap[a]? = some (.cells (Lib.byteCells (lay8 n i)).toArray T8b)) ∧ Hid (Below w.heap.size w wr)) (fun v28 _ => 8 - (RowKit.intOf v28).toNat)
    case atStart => exact ⟨0, by omega, rfl, HA0, HB0⟩
    case round =>
      obtain ⟨i, hi, rfl, HR, HB⟩ := hrel
      by_cases hlt : (i : Int) < 8
      · have hi8 : i < 8 := by omega
        obtain ⟨q, hq⟩ : ∃ q : Nat, q = 7 - i := ⟨_, rfl⟩
        have hq8 : (q : Int) < 8 := by omega
        have eq : IntKind.i64.wrap (7 - (i : Int)) = (q : Int) := by rw [IntKind.wrap_i64]; omega
        have eq2 : 7 - (i : Int) = (q : Int) := by omega
        obtain ⟨d, hd⟩ : ∃ d, d = beB n q := ⟨_, rfl⟩
        have hv : (n : Int) / 2 ^ (8 * i) % 256 = (d.toNat : Int) := by rw [hd, beB, show 7 - q = i by omega]; exact shr_byte n i
        have cq : wr.cell? ⟨a, q, none⟩ = some (.int .u8 ((if 8 - i ≤ q then beB n q else 0 : UInt8).toNat : Int)) := by rw [cell_of_heap HR.out, bc_get (lay8_get _ _ _ (by omega))]
        have fq : wr.frozen? ⟨a, q, none⟩ = false := frozen_of_heap HR.out
        have H2 : Hid ((wr.setCell ⟨a, q, none⟩ (.int .u8 (d.toNat : Int))).heap[a]? = some (.cells (Lib.byteCells (lay8 n (i + 1))).toArray T8b)) := Lib.hid (by
          rw [setCell_heap _ _ _ _ _ _ HR.out, bc_set, hd, ← lay8_step n i hi8, hq])
        have HB2 := Lib.hid (HB.out.setCell (p := ⟨a, q, none⟩) (by rw [HA.out]; exact Nat.le_refl _) (.int .u8 (d.toNat : Int)))
        clear hd hq HR HB
        go_wp2
        go_roundw
        case rel => exact ⟨i + 1, by omega, by go_num, H2, HB2⟩
        case measure => simp [RowKit.intOf]; omega
      · obtain rfl : i = 8 := by omega
        rw [lay8_end] at HR
        have hcv := fun c => bc_conv (w := wr) (g := a) (c := c) (n := 8) (L := be8 n) rfl HR.out
        clear hlt
        have HC : Hid ((⟨l.toArray⟩ : ByteArray) ++ ⟨(be8 n).toArray⟩ = ⟨(l ++ be8 n).toArray⟩) := Lib.hid (by rw [cat_list, ba_data])
        have hpl : l.length + (be8 n).length ≤ 9223372036854775807 := by rw [be8_length]; omega
        go_wp2
        go_ret2
        rw [HC.out]
        exact ⟨rfl, HB.out⟩
end Go.Proofs.YtpbhkaokgpacoaaGreatDoor.Sh
