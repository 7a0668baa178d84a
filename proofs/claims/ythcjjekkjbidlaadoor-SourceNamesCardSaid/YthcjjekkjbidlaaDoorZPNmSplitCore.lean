import Derived.Test.YthcjjekkjbidlaaDoorZPNmWhole
import Derived.Deep.OwnRows
import Derived.Deep.LoopGhost
import Derived.Lib.Split
import Derived.Lib.SplitLaws
set_option linter.unusedSimpArgs false
set_option linter.unusedVariables false
/-
  The library's strings.Split at a separator of one byte, where it occurs at most a million times: at texts of whatever length.
-/
namespace Go.Proofs.YthcjjekkjbidlaaDoor.Nm
open Go.RowKit Go.Lib

theorem infoString : (Tryd.prog.info? 9).map (fun i => (i.zero, i.size, i.bytes)) = some (some (.string ByteArray.empty), 1, 16) := by kernel_rfl

theorem indexB_one (x : ByteArray) (c : UInt8) : Lib.indexB x ⟨#[c]⟩ = Lib.indexByte x.data.toList c := Lib.index_one x.data.toList c

set_option maxHeartbeats 4000000 in
set_option maxRecDepth 1000000 in
theorem genSplit_one (s : ByteArray) (c : UInt8) (w : World) (hs : s.size ≤ 4611686018427387904) (hcnt : s.data.toList.count c ≤ 1000000) :
    Calls Tryd.prog 93 #[.string s, .string ⟨#[c]⟩, .int .i64 0, .int .i64 (-1)] w fun e w' =>
      e = .returned (.slice (some ⟨w.heap.size, 0, none⟩) (Lib.splitB ⟨#[c]⟩ 0 (s.data.toList.count c) s).length (s.data.toList.count c + 1)) ∧ w' = w.alloc (.cells (Lib.cellsOf (Lib.splitB ⟨#[c]⟩ 0 (s.data.toList.count c) s) (s.data.toList.count c + 1)) 9) := by
  have hC := Tryd.strings_Count_one s c w
  have hI := fun (x : ByteArray) (w : World) => (Tryd.strings_Index_one x c w).mono (R' := fun e w' => e = .returned (.int .i64 (Lib.indexB x ⟨#[c]⟩)) ∧ w' = w) fun e w' h => by rw [indexB_one]; exact h
  have hcl : s.data.toList.count c ≤ s.size := by rw [Lib.size_eq]; exact List.count_le_length
  unfold Lib.countByte at hC
  have hN : s.data.toList.count c + 1 - 1 = s.data.toList.count c := by omega
  generalize s.data.toList.count c = cn at *
  have hmk := run_make_row' (P := Tryd.prog) 55 9 (.string ByteArray.empty) 16 Tryd.underlying55 infoString rfl .i64 .i64 (cn + 1) (by omega) (by omega)
  have ec : ((cn + 1 : Nat) : Int) = (cn : Int) + 1 := by omega
  rw [ec] at hmk
  have hmin : min ((cn : Int) + 1) ((s.size : Int) + 1) = (cn : Int) + 1 := by omega
  have HI := Lib.hid hI; clear hI ec hN
  go_enter Tryd.func93, Tryd.ntmps93
  go_wp2_with (go_at_call 76; refine hC.mono ?_; rintro e w' ⟨rfl, hw⟩; rw [hw])
  clear hmk hC hmin
  go_loopg [0, 10] cn (fun g s0 s10 wr => ∃ (done : List ByteArray) (rest : ByteArray), s0 = .string rest ∧ s10 = .int .i64 done.length ∧ done.length ≤ cn ∧ g = cn - done.length ∧ rest.size ≤ s.size ∧
      wr = w.alloc (.cells (Lib.cellsOf done (cn + 1)) 9) ∧ done ++ Lib.splitB ⟨#[c]⟩ 0 (cn - done.length) rest = Lib.splitB ⟨#[c]⟩ 0 cn s)
  case atStart => exact ⟨[], s, rfl, rfl, Nat.zero_le _, rfl, Nat.le_refl _, by rw [Lib.cellsOf_nil], rfl⟩
  case round =>
    obtain ⟨done, rest, rfl, rfl, hd, rfl, hrs, rfl, hsp⟩ := hrel
    have hnext : (Lib.cellsOf done (cn + 1))[done.length]? = some (.string ByteArray.empty) := Lib.cellsOf_next (by omega)
    have HS := Lib.hid hsp
    clear hsp
    have fin : Lib.splitB ⟨#[c]⟩ 0 (cn - done.length) rest = [rest] → (Lib.splitB ⟨#[c]⟩ 0 cn s).length = done.length + 1 ∧ (Lib.cellsOf done (cn + 1)).setIfInBounds done.length (.string rest) = Lib.cellsOf (Lib.splitB ⟨#[c]⟩ 0 cn s) (cn + 1) := fun h => by
      have e := HS.out
      rw [h] at e
      rw [← e]
      exact ⟨by simp, Lib.cellsOf_set (by omega) rest⟩
    by_cases hlt : done.length < cn
    · rcases Lib.indexB_cases rest ⟨#[c]⟩ with hix | ⟨i, hix, hroom⟩
      · have HF := Lib.hid fin; have HX := Lib.hid hix
        clear fin hix
        go_wp2_with (first | (go_at_call 92; refine (HI.out rest _).mono ?_; rintro e w' ⟨rfl, hw⟩; rw [hw, HX.out]))
        go_ret
        obtain ⟨f1, f2⟩ := HF.out (Lib.splitB_miss ⟨#[c]⟩ 0 _ rest HX.out)
        rw [f1, ← f2]
        exact ⟨by first | rfl | (congr 2 <;> omega), rfl⟩
      · have HF := Lib.hid fin; have HX := Lib.hid hix
        clear fin hix
        have hroom' : i + 1 ≤ rest.size := hroom
        clear hroom
        have c0 : ¬ ((i : Int) < 0) := by omega
        go_wp2_with (first | (go_at_call 92; refine (HI.out rest _).mono ?_; rintro e w' ⟨rfl, hw⟩; rw [hw, HX.out]))
        go_roundg (cn - (done.length + 1))
        case measure => omega
        case rel =>
          refine ⟨done ++ [rest.extract 0 (i + 0)], rest.extract (i + 1) rest.size, rfl, by simp, by simp; omega, by simp, by rw [ByteArray.size_extract]; omega, by rw [← Lib.cellsOf_set (by omega)]; rfl, ?_⟩
          have h := Lib.splitB_hit ⟨#[c]⟩ 0 (cn - (done.length + 1)) rest i HX.out
          rw [← HS.out, show cn - done.length = (cn - (done.length + 1)) + 1 by omega, h]
          simp
          rfl
    · have hltz : ¬ (((done.length : Nat) : Int) < (cn : Int)) := by omega
      have HF := Lib.hid fin
      clear fin
      go_wp2
      go_ret
      obtain ⟨f1, f2⟩ := HF.out (by rw [show cn - done.length = 0 by omega]; rfl)
      rw [f1, ← f2]
      exact ⟨by first | rfl | (congr 2 <;> omega), rfl⟩

set_option maxHeartbeats 1000000 in
theorem split_one (s : ByteArray) (c : UInt8) (w : World) (hs : s.size ≤ 4611686018427387904) (hcnt : s.data.toList.count c ≤ 1000000) :
    Calls Tryd.prog 77 #[.string s, .string ⟨#[c]⟩] w fun e w' =>
      e = .returned (.slice (some ⟨w.heap.size, 0, none⟩) (s.data.toList.count c + 1) (s.data.toList.count c + 1)) ∧ w' = w.alloc (.cells ((Lib.splitB ⟨#[c]⟩ 0 (s.data.toList.count c) s).map Value.string).toArray 9) := by
  have hlen := Lib.splitB_all ⟨#[c]⟩ (Nat.le_refl 1) 0 (s.data.toList.count c) s (Lib.count_one c s.data.toList)
  have hc := genSplit_one s c w hs hcnt
  have e2 : Lib.cellsOf (Lib.splitB ⟨#[c]⟩ 0 (s.data.toList.count c) s) (s.data.toList.count c + 1) = ((Lib.splitB ⟨#[c]⟩ 0 (s.data.toList.count c) s).map Value.string).toArray := by rw [← hlen]; exact Lib.cellsOf_full _
  rw [e2, hlen] at hc
  clear e2 hlen
  generalize s.data.toList.count c = cn at *
  have HC := Lib.hid hc; clear hc
  go_enter Tryd.func77, Tryd.ntmps77
  go_wp2_with fail
  refine HC.out.mono ?_
  rintro e w' ⟨rfl, hw⟩
  rw [hw]
  go_wp2
  go_ret
  exact ⟨rfl, rfl⟩
end Go.Proofs.YthcjjekkjbidlaaDoor.Nm
