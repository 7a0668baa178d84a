import Derived.Test.YtkeegnhjemhblaaGreatDoorZPRfCrc
import Derived.Test.YtkeegnhjemhblaaGreatDoorZPRfWire
import Derived.Lib.UnsafeStr
import Derived.Laws.BitsAllLaws
set_option linter.unusedSimpArgs false
set_option linter.unusedVariables false
/-
  The contracts of Put and PutText.
-/
namespace Go.Proofs.YtkeegnhjemhblaaGreatDoor.Rf
open Go.RowKit Go.Maps

/-- An array of N bytes whose first ones are written. -/
def buf (pre : List UInt8) (N : Nat) : Array Value := (Lib.byteCells pre ++ List.replicate (N - pre.length) (Value.int .u8 0)).toArray
theorem buf_get (pre : List UInt8) (N : Nat) (h : pre.length < N) : (buf pre N)[pre.length]? = some (.int .u8 0) := by
  rw [buf, List.getElem?_toArray, List.getElem?_append_right (by simp [Lib.byteCells_length]), Lib.byteCells_length, Nat.sub_self, List.getElem?_replicate, if_pos (by omega)]
theorem buf_set (pre : List UInt8) (N : Nat) (b : UInt8) (h : pre.length < N) : (buf pre N).setIfInBounds pre.length (.int .u8 b.toNat) = buf (pre ++ [b]) N := by
  unfold buf
  obtain ⟨d, hd⟩ : ∃ d, N - pre.length = d + 1 := ⟨N - pre.length - 1, by omega⟩
  have e : N - (pre ++ [b]).length = d := by simp; omega
  rw [e, hd, List.setIfInBounds_toArray, List.set_append_right _ _ (by simp [Lib.byteCells_length]), Lib.byteCells_length, Nat.sub_self, List.replicate_succ, List.set_cons_zero]
  simp [Lib.byteCells]
theorem buf_cell (pre : List UInt8) (N j : Nat) (h : j < pre.length) : (buf pre N)[j]? = some (.int .u8 (pre[j].toNat : Int)) := by
  rw [buf, List.getElem?_toArray, List.getElem?_append_left (by simpa [Lib.byteCells_length] using h), Lib.byteCells, List.getElem?_map, List.getElem?_eq_getElem h]; rfl

theorem conv_pre (w : World) (g c : Nat) (T : TypeId) (pre : List UInt8) (N : Nat) (h : w.heap[g]? = some (.cells (buf pre N) T)) :
    (convert 82 9 (.slice (some ⟨g, 0, none⟩) pre.length c)).run Tryz.prog w = .ok (.string ⟨pre.toArray⟩) w :=
  run_convert_bytes_back w _ _ 5 ⟨g, 0, none⟩ c pre Tryz.underlying82 Tryz.underlying5 Tryz.underlying9 (fun j hj => by
    rw [Addr.add_lit, Nat.zero_add, cell_of_heap h, buf_cell _ _ _ hj])

theorem arr10 : Tryz.prog.arrayLen 189 = 10 := by kernel_rfl
theorem und10 : Tryz.prog.underlying 189 = some (.array (Tryz.prog.arrayLen 189) (Tryz.prog.elem 189)) := by kernel_rfl
theorem elem10 : (Tryz.prog.info? (Tryz.prog.elem 189)).map (fun i => i.size) = some 1 := by kernel_rfl
theorem slice10 (w : World) (b j : Nat) (hj : j ≤ 10) :
    (Instr.sliceAt 189 (.pointer (some ⟨b, 0, none⟩)) none (some (.int .i64 (j : Int))) none).run Tryz.prog w = .ok (.slice (some ⟨b, 0, none⟩) j 10) w := by
  rw [run_sliceAt_array_h (P := Tryz.prog) w 189 ⟨b, 0, none⟩ und10 .i64 (j : Int) (by omega) (by rw [arr10]; omega)]
  obtain ⟨i, hi, hs⟩ := Option.map_eq_some_iff.1 elem10
  have hz : (sizeOf (Tryz.prog.elem 189)).run Tryz.prog w = .ok 1 w := by simp [sizeOf, typeInfo, hi, hs]
  rw [hz]
  simp only [Result.andThen, Int.toNat_natCast, arr10, slicedAt]
  rw [if_neg (by omega), Addr.add_lit]; simp

theorem cat_list (S : ByteArray) (l : List UInt8) : S ++ ⟨l.toArray⟩ = (⟨(S.data.toList ++ l).toArray⟩ : ByteArray) := by
  congr 1
theorem cat (S T : ByteArray) : S ++ T = (⟨(S.data.toList ++ T.data.toList).toArray⟩ : ByteArray) := by
  conv => lhs; rw [show T = ⟨T.data.toList.toArray⟩ by simp]
  exact cat_list S _
theorem or128 (m : Nat) : bits .or .u8 ((m : Int) % 256) 128 = ((UInt8.ofNat (m % 128 + 128)).toNat : Int) := by
  have h1 := u8_or_nat (m % 256) 128 (by omega) (by decide)
  have e : ((m % 256 : Nat) : Int) = (m : Int) % 256 := by omega
  rw [e] at h1
  rw [show (128 : Int) = ((128 : Nat) : Int) from rfl, h1]
  have h2 : ∀ x : Fin 256, x.val ||| 128 = x.val % 128 + 128 := by decide +kernel
  rw [h2 ⟨m % 256, by omega⟩]
  simp; omega

set_option maxHeartbeats 2000000 in
set_option maxRecDepth 100000 in
theorem put_any (w : World) (S : ByteArray) (n : Nat) (hn : n < 18446744073709551616) (hS : S.size ≤ 1099511627776) :
    Calls Tryz.prog 65 #[.string S, .int .u64 (n : Int)] w fun e w' => e = .returned (.string ⟨(S.data.toList ++ sh n).toArray⟩) ∧ Below w.heap.size w w' := by
  go_enter Tryz.func65, Tryz.ntmps65
  go_wp2
  go_loopw [1, 6] (fun vn vk w' => ∃ (k m : Nat) (pre : List UInt8), k ≤ 9 ∧ vn = .int .u64 (m : Int) ∧ vk = .int .i64 k ∧ w'.heap[w.heap.size]? = some (.cells (buf pre 10) 189) ∧ Below w.heap.size w w' ∧ Hid (pre.length = k ∧ sh n = pre ++ shF (9 - k) m ∧ m < 2 ^ (64 - 7 * k) ∧ (0 < k → 0 < m))) (fun _ k _ => 9 - (RowKit.intOf k).toNat)
  case atStart => exact ⟨0, n, [], by omega, rfl, rfl, (MapKept.heap_alloc w _).1, (Below.refl _ _).alloc (Nat.le_refl _) _, Lib.hid ⟨rfl, rfl, by simpa using hn, by omega⟩⟩
  case round =>
    obtain ⟨k, m, pre, hk, rfl, rfl, hh, hb, hid⟩ := hrel
    have HH := Lib.hid hh; have HB := Lib.hid hb
    have hlt : w.heap.size < wr.heap.size := lt_of_heap hh
    have hfz : ∀ j, wr.frozen? ⟨w.heap.size, j, none⟩ = false := fun j => frozen_of_heap hh
    have hck : wr.cell? ⟨w.heap.size, k, none⟩ = some (.int .u8 0) := by
      rw [cell_of_heap hh, ← hid.out.1]; exact buf_get _ _ (by have := hid.out.1; omega)
    by_cases h128 : (128 : Int) ≤ (m : Int)
    · have hk9 : k < 9 := by
        have := hid.out.2.2.1
        by_cases e : k = 9
        · subst e; simp at this; omega
        · omega
      have hm64 : m < 18446744073709551616 := Nat.lt_of_lt_of_le hid.out.2.2.1 (show 2 ^ (64 - 7 * k) ≤ 2 ^ 64 from Nat.pow_le_pow_right (by decide) (by omega))
      have HO := Lib.hid (or128 m)
      have HS : Hid ((wr.setCell ⟨w.heap.size, k, none⟩ (.int .u8 ((UInt8.ofNat (m % 128 + 128)).toNat : Int))).heap[w.heap.size]? = some (.cells (buf (pre ++ [UInt8.ofNat (m % 128 + 128)]) 10) 189)) :=
        Lib.hid (by rw [setCell_heap _ _ _ _ _ _ hh, ← hid.out.1, buf_set _ _ _ (by have := hid.out.1; omega)])
      have HB2 := Lib.hid (hb.setCell (Nat.le_refl _) (p := ⟨w.heap.size, k, none⟩) (.int .u8 ((UInt8.ofNat (m % 128 + 128)).toNat : Int)))
      clear hh hb
      go_wp2
      rw [HO.out]
      go_roundw
      case rel =>
        refine ⟨k + 1, m / 128, _, by omega, by simp, by simp, HS.out, HB2.out, Lib.hid ?_⟩
        obtain ⟨a1, a2, a3, a4⟩ := hid.out
        refine ⟨by simp [a1], ?_, ?_, fun _ => by omega⟩
        · rw [a2, List.append_assoc]
          have e : 9 - k = (9 - (k + 1)) + 1 := by omega
          rw [e, shF_step (by omega)]; rfl
        · rw [Nat.div_lt_iff_lt_mul (by decide)]
          have e : 64 - 7 * k = (64 - 7 * (k + 1)) + 7 := by omega
          rw [e, Nat.pow_add] at a3
          exact a3
      case measure => simp [RowKit.intOf]; omega
    · have HS : Hid ((wr.setCell ⟨w.heap.size, k, none⟩ (.int .u8 (m : Int))).heap[w.heap.size]? = some (.cells (buf (pre ++ [UInt8.ofNat m]) 10) 189)) :=
        Lib.hid (by
          rw [setCell_heap _ _ _ _ _ _ hh]
          have e : (m : Int) = ((UInt8.ofNat m).toNat : Int) := by simp; omega
          rw [e, ← hid.out.1, buf_set _ _ _ (by have := hid.out.1; omega)])
      have HB2 := Lib.hid (hb.setCell (Nat.le_refl _) (p := ⟨w.heap.size, k, none⟩) (.int .u8 (m : Int)))
      have hsl := slice10 (wr.setCell ⟨w.heap.size, k, none⟩ (.int .u8 (m : Int))) w.heap.size (k + 1) (by omega)
      have hcv := conv_pre _ _ 10 _ _ _ HS.out
      have hpl : (pre ++ [UInt8.ofNat m]).length = k + 1 := by simp [hid.out.1]
      rw [hpl] at hcv
      have e1 : ((k + 1 : Nat) : Int) = (k : Int) + 1 := by omega
      rw [e1] at hsl
      have HE : Hid (sh n = pre ++ [UInt8.ofNat m]) := Lib.hid (by rw [hid.out.2.1, shF_small (by omega)])
      have hpre : pre.length ≤ 9 := by rw [hid.out.1]; exact hk
      clear hh hb hpl
      go_wp2
      go_ret
      refine ⟨?_, HB2.out⟩
      rw [HE.out, cat_list]
      rfl

set_option maxRecDepth 100000 in
theorem putText_any (w : World) (S T : ByteArray) (hS : S.size ≤ 1099511627776) (hT : T.size ≤ 1099511627776) :
    Calls Tryz.prog 66 #[.string S, .string T] w fun e w' => e = .returned (.string ⟨(S.data.toList ++ putText T.data.toList).toArray⟩) ∧ Below w.heap.size w w' := by
  have hsz := Lib.size_eq T
  have K := Lib.hid (put_any w S T.size (by omega) hS)
  have hw : (T.size : Int) % 18446744073709551616 = (T.size : Int) := by omega
  have HW := Lib.hid hw
  have hln : ((⟨(S.data.toList ++ sh T.size).toArray⟩ : ByteArray)).size ≤ S.size + 10 := by
    rw [Lib.size_eq, Lib.size_eq]; simp; have := sh_length T.size; omega
  obtain ⟨U, hU⟩ : ∃ U, U = (⟨(S.data.toList ++ sh T.size).toArray⟩ : ByteArray) := ⟨_, rfl⟩
  rw [← hU] at hln K
  have HU : Hid (U.data.toList = S.data.toList ++ sh T.data.toList.length) := Lib.hid (by rw [hU, hsz])
  clear hw hU hsz
  go_enter Tryz.func66, Tryz.ntmps66
  go_wp2_with fail
  refine K.out.mono ?_
  rintro e w3 ⟨rfl, hb⟩
  have HB := Lib.hid hb
  clear hb
  go_wp2
  go_ret
  refine ⟨?_, HB.out⟩
  rw [cat, HU.out, putText, List.append_assoc]
  rfl
end Go.Proofs.YtkeegnhjemhblaaGreatDoor.Rf
