import Derived.Test.YtkeegnhjemhblaaGreatDoorProg
import Derived.Test.YtkeegnhjemhblaaGreatDoorZShelf
import Derived.Test.YtkeegnhjemhblaaGreatDoorZPNmPlain
import Derived.WalkKit
import Derived.WalkSpells
import Derived.WalkLawsBesides
import Derived.Lib.Hide
set_option linter.unusedSimpArgs false
set_option linter.unusedVariables false
/-
  The contracts of the inner function that tells whether all bytes of a text are whole runes, and how many these are: at every text.
-/
namespace Go.Proofs.YtkeegnhjemhblaaGreatDoor.Nm
open Go.RowKit

def WholeRel (l : List UInt8) (pos k : Nat) : Prop := okB l = okB (l.drop pos) ∧ count l = k + count (l.drop pos)

theorem wholeRel_zero (l : List UInt8) : WholeRel l 0 0 := ⟨by simp, by simp⟩

theorem ne_of_lt {l : List UInt8} {pos : Nat} (h : pos < l.length) : l.drop pos ≠ [] := by
  intro e; have := congrArg List.length e; rw [List.length_drop] at this; simp at this; omega

theorem wholeRel_step {l : List UInt8} {pos k : Nat} (hp : pos < l.length) (h : WholeRel l pos k) (h1 : (dec (l.drop pos)).1 = 65533 → Lib.hasPrefix (l.drop pos) [239, 191, 189] = true) :
    WholeRel l (pos + (dec (l.drop pos)).2) (k + 1) := by
  have hne := ne_of_lt hp
  refine ⟨?_, ?_⟩
  · rw [h.1, okB_good _ hne h1, List.drop_drop]
  · rw [h.2, count_cons _ hne, List.drop_drop]; omega

theorem wholeRel_end {l : List UInt8} {pos k : Nat} (hp : ¬ pos < l.length) (h : WholeRel l pos k) : okB l = true ∧ count l = k := by
  have e : l.drop pos = [] := List.drop_eq_nil_of_le (by omega)
  obtain ⟨a, b⟩ := h
  rw [e] at a b
  exact ⟨a, by rw [b]; simp [count]⟩

theorem wholeRel_bad {l : List UInt8} {pos k : Nat} (hp : pos < l.length) (h : WholeRel l pos k) (h1 : (dec (l.drop pos)).1 = 65533) (h2 : Lib.hasPrefix (l.drop pos) [239, 191, 189] = false) : okB l = false := by
  rw [h.1, okB_bad _ (ne_of_lt hp) h1 h2]

theorem wholeRel_lt {l : List UInt8} {pos k : Nat} (hp : pos < l.length) (h : WholeRel l pos k) : k < l.length := by
  have := count_le l; have := h.2; have := count_cons _ (ne_of_lt hp); omega

set_option maxHeartbeats 1000000 in
set_option maxRecDepth 100000 in
theorem whole_any (s : ByteArray) (w : World) (hs : s.size ≤ maxLen) :
    Calls Tryz.prog 144 #[.string s] w fun e w' => e = .returned (.tuple #[.int .i64 (whN s.data.toList), .bool (okB s.data.toList)]) ∧ ∃ pos, w' = w.iter s pos := by
  unfold maxLen at hs
  have hsz := Lib.size_eq s
  go_enter Tryz.func144, Tryz.ntmps144
  go_wp2
  go_loopw [2] (fun n w' => ∃ (pos k : Nat), w' = w.iter s pos ∧ n = .int .i64 k ∧ WholeRel s.data.toList pos k) (fun _ w' => s.size - w'.iterPos w.heap.size)
  case atStart => exact ⟨0, 0, rfl, rfl, wholeRel_zero _⟩
  case round =>
    obtain ⟨pos, k, rfl, rfl, hrel⟩ := hrel
    by_cases hp : pos < s.size
    · have hk : k < s.size := by have := wholeRel_lt (hsz ▸ hp) hrel; omega
      have hnx : ∀ ty, (Instr.next (.pointer (some ⟨w.heap.size, 0, none⟩)) true ty).run Tryz.prog (w.iter s pos) = _ := fun ty => run_next_any w s pos ty hp
      have hw := dec_width _ (ne_of_lt (hsz ▸ hp))
      rw [decode_drop] at hnx
      have hext : (s.extract pos s.size).data.toList = s.data.toList.drop pos := by
        rw [Lib.extract_data]; exact List.take_of_length_le (by rw [List.length_drop]; omega)
      have hb := dec_bound (s.data.toList.drop pos)
      have HZ := Lib.hid hsz; clear hsz
      have HX := Lib.hid hext; clear hext
      have HR := Lib.hid hrel; clear hrel
      by_cases h1 : (dec (s.data.toList.drop pos)).1 = 65533
      · have H1 := Lib.hid h1
        have h1' : (((dec (s.data.toList.drop pos)).1 : Int) == 65533) = true := by rw [beq_iff_eq]; omega
        clear h1
        cases h2 : Lib.hasPrefix (s.data.toList.drop pos) [239, 191, 189] with
        | false =>
          have H2 := Lib.hid h2; clear h2
          go_wp2_with fail
          refine (Tryz.strings_HasPrefix _ _ _).mono ?_
          rintro e w1 ⟨rfl, rfl⟩
          rw [HX.out]
          have h2 := H2.out
          go_wp2
          go_ret2
          have hbad := wholeRel_bad (HZ.out ▸ hp) HR.out H1.out H2.out
          exact ⟨by rw [whN, hbad]; rfl, _, rfl⟩
        | true =>
          have H2 := Lib.hid h2; clear h2
          go_wp2_with fail
          refine (Tryz.strings_HasPrefix _ _ _).mono ?_
          rintro e w1 ⟨rfl, rfl⟩
          rw [HX.out]
          have h2 := H2.out
          go_wp2
          go_roundw
          case rel => exact ⟨_, k + 1, rfl, by go_num, wholeRel_step (HZ.out ▸ hp) HR.out (fun _ => H2.out)⟩
          case measure => simp; omega
      · have H1 := Lib.hid h1
        have h1' : (((dec (s.data.toList.drop pos)).1 : Int) == 65533) = false := by rw [beq_eq_false_iff_ne]; omega
        clear h1
        go_wp2
        go_roundw
        case rel => exact ⟨_, k + 1, rfl, by go_num, wholeRel_step (HZ.out ▸ hp) HR.out (fun h => absurd h H1.out)⟩
        case measure => simp; omega
    · have hnx : ∀ ty, (Instr.next (.pointer (some ⟨w.heap.size, 0, none⟩)) true ty).run Tryz.prog (w.iter s pos) = _ := fun ty => run_next_end w s pos ty hp
      obtain ⟨e1, e2⟩ := wholeRel_end (hsz ▸ hp) hrel
      go_wp2
      go_ret2
      exact ⟨by rw [whN, e1, e2]; rfl, _, rfl⟩
end Go.Proofs.YtkeegnhjemhblaaGreatDoor.Nm
