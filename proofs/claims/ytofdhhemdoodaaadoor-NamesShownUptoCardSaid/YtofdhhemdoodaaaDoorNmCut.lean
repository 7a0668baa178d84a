/-
  The contract of strings.Cut at one byte.
-/
import Derived.Test.YtofdhhemdoodaaaDoorShelf
import Derived.WalkKit
import Derived.WalkSmall
import Derived.Deep.QuietTactic
import Derived.BigQuiet
import Derived.OwnWalk
import Derived.BigCall
import Derived.BigGuard
import Derived.Lib.IndexBytes
import Derived.Lib.Strings
import Derived.Lib.IndexLaws
namespace Go.Proofs.YtofdhhemdoodaaaDoor.Nm
open Go.RowKit

/-- What lies before the first c, and what lies behind it. -/
def cutB (c : UInt8) : List UInt8 → Option (List UInt8 × List UInt8)
  | [] => none
  | x :: l => if x = c then some ([], l) else (cutB c l).map fun p => (x :: p.1, p.2)

theorem cutB_cases (c : UInt8) : ∀ l, (cutB c l = none ∧ Lib.indexByte l c = -1) ∨ ∃ a b, cutB c l = some (a, b) ∧ Lib.indexByte l c = a.length ∧ l = a ++ c :: b
  | [] => Or.inl ⟨rfl, rfl⟩
  | x :: l => by
    by_cases h : x = c
    · subst h
      refine Or.inr ⟨[], l, by simp [cutB], by simp [Lib.indexByte], rfl⟩
    · rcases cutB_cases c l with ⟨h1, h2⟩ | ⟨a, b, h1, h2, h3⟩
      · exact Or.inl ⟨by simp [cutB, h, h1], by simp [Lib.indexByte, h, h2]⟩
      · refine Or.inr ⟨x :: a, b, by simp [cutB, h, h1], ?_, by rw [h3]; rfl⟩
        have : ¬ (Lib.indexByte l c = -1) := by omega
        simp [Lib.indexByte, h, h2]

theorem cutB_of (c : UInt8) : ∀ (a b : List UInt8), c ∉ a → cutB c (a ++ c :: b) = some (a, b)
  | [], b, _ => by simp [cutB]
  | x :: a, b, h => by
    have h1 : ¬ x = c := fun e => h (by simp [e])
    have h2 : c ∉ a := fun e => h (by simp [e])
    rw [List.cons_append, cutB, if_neg h1, cutB_of c a b h2]; rfl

theorem cutB_none_of (c : UInt8) : ∀ (a : List UInt8), c ∉ a → cutB c a = none
  | [], _ => rfl
  | x :: a, h => by
    have h1 : ¬ x = c := fun e => h (by simp [e])
    have h2 : c ∉ a := fun e => h (by simp [e])
    rw [cutB, if_neg h1, cutB_none_of c a h2]; rfl

theorem cutB_len {c : UInt8} {l a b : List UInt8} (h : cutB c l = some (a, b)) : l = a ++ c :: b := by
  rcases cutB_cases c l with ⟨h1, _⟩ | ⟨a', b', h1, _, h3⟩
  · rw [h] at h1; exact absurd h1 (by simp)
  · rw [h] at h1
    simp at h1
    rw [h1.1, h1.2]; exact h3

/-- What strings.Cut answers. -/
def CutOut (c : UInt8) (s : ByteArray) (e : Ending) : Prop :=
  match cutB c s.data.toList with
  | none => e = .returned (.tuple #[.string s, .string ⟨#[]⟩, .bool false])
  | some p => ∃ A B : ByteArray, e = .returned (.tuple #[.string A, .string B, .bool true]) ∧ A.data.toList = p.1 ∧ B.data.toList = p.2

theorem cutOut_none {c : UInt8} {s : ByteArray} (h : cutB c s.data.toList = none) : CutOut c s (.returned (.tuple #[.string s, .string ⟨#[]⟩, .bool false])) := by
  rw [CutOut, h]
theorem cutOut_some {c : UInt8} {s : ByteArray} {a b : List UInt8} (h : cutB c s.data.toList = some (a, b)) (A B : ByteArray) (hA : A.data.toList = a) (hB : B.data.toList = b) : CutOut c s (.returned (.tuple #[.string A, .string B, .bool true])) := by
  rw [CutOut, h]; exact ⟨A, B, rfl, hA, hB⟩

set_option maxHeartbeats 4000000 in
set_option maxRecDepth 100000 in
theorem lite_cut (s : ByteArray) (c : UInt8) (hs : s.size < 4611686018427387904) (w : World) :
    Calls Tryd.prog 52 #[.string s, .string ⟨#[c]⟩] w fun e w' => CutOut c s e ∧ ∃ n, w' = w.drewN n := by
  have mixed : Tryd.prog.follows Departure.mixedOrders = true := by kernel_rfl
  have hsz := Lib.size_eq s
  go_enter Tryd.func52, Tryd.ntmps52
  rcases cutB_cases c s.data.toList with ⟨h1, h2⟩ | ⟨a, b, h1, h2, h3⟩
  · have hidx := fun w => Tryd.stringslite_Index_one s c w
    rw [h2] at hidx
    have H1 := Lib.hid h1; have HI := Lib.hid hidx
    clear h1 h2 hidx hsz
    go_wp2_with fail
    refine (HI.out _).mono ?_
    rintro e w1 ⟨rfl, rfl⟩
    go_wp2
    go_ret3
    exact ⟨cutOut_none H1.out, 0, rfl⟩
  · have hidx := fun w => Tryd.stringslite_Index_one s c w
    rw [h2] at hidx
    have hal : a.length + 1 + b.length = s.size := by rw [hsz, h3]; simp; omega
    have hA : (s.extract 0 a.length).data.toList = a := by
      rw [Lib.extract_data, h3]; simp
    have hB : (s.extract (a.length + 1) s.size).data.toList = b := by
      rw [Lib.extract_data, h3]
      have h4 : (a ++ c :: b).drop (a.length + 1) = b := by
        rw [← List.drop_drop, List.drop_left]; rfl
      rw [h4]
      exact List.take_of_length_le (by omega)
    have H1 := Lib.hid h1; have HI := Lib.hid hidx; have HA := Lib.hid hA; have HB := Lib.hid hB
    have hal1 : a.length + 1 ≤ s.size := by omega
    clear h1 h2 h3 hidx hsz hal hA hB
    generalize a.length = k at *
    go_wp2_with fail
    refine (HI.out _).mono ?_
    rintro e w1 ⟨rfl, rfl⟩
    go_wp2
    go_quiet (fail)
    go_wp2
    go_ret3
    exact ⟨cutOut_some H1.out _ _ HA.out HB.out, _, rfl⟩

set_option maxHeartbeats 4000000 in
set_option maxRecDepth 100000 in
theorem cut_any (s : ByteArray) (c : UInt8) (hs : s.size < 4611686018427387904) (w : World) :
    Calls Tryd.prog 34 #[.string s, .string ⟨#[c]⟩] w fun e w' => CutOut c s e ∧ ∃ n, w' = w.drewN n := by
  go_enter Tryd.func34, Tryd.ntmps34
  go_wp2_with fail
  refine (lite_cut s c hs w).mono ?_
  rintro e w1 ⟨he, n, rfl⟩
  rcases cutB_cases c s.data.toList with ⟨h1, _⟩ | ⟨a, b, h1, _, _⟩
  · rw [CutOut, h1] at he
    have he' : e = .returned (.tuple #[.string s, .string ⟨#[]⟩, .bool false]) := he
    subst he'
    have H1 := Lib.hid h1
    clear h1 he
    go_wp2
    go_ret3
    exact ⟨cutOut_none H1.out, _, rfl⟩
  · rw [CutOut, h1] at he
    obtain ⟨A, B, rfl, hA, hB⟩ := he
    have H1 := Lib.hid h1; have HA := Lib.hid hA; have HB := Lib.hid hB
    clear h1 hA hB
    go_wp2
    go_ret3
    exact ⟨cutOut_some H1.out _ _ HA.out HB.out, _, rfl⟩
end Go.Proofs.YtofdhhemdoodaaaDoor.Nm
