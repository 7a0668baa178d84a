import Derived.Test.YtpbhkaokgpacoaaGreatDoorZStDecPlain
import Derived.Test.YtpbhkaokgpacoaaGreatDoorZStRowM
set_option linter.unusedSimpArgs false
set_option linter.unusedVariables false
/-
  Decode's parts: the front cut off, what can't be read gives up, a number, some bytes.
-/
namespace Go.Proofs.YtpbhkaokgpacoaaGreatDoor.St
open Go.RowKit Go.Maps Go.WideMaps Go.Proofs.YtpbhkaokgpacoaaGreatDoor.Rf Go.Proofs.YtpbhkaokgpacoaaGreatDoor.Rd

def cutT (s p : List UInt8) : List UInt8 := if Lib.hasPrefix s p then s.drop p.length else s
theorem hasPrefix_len {s p : List UInt8} (h : Lib.hasPrefix s p = true) : p.length ≤ s.length := (List.isPrefixOf_iff_prefix.1 h).length_le

set_option maxRecDepth 100000 in
theorem lite_cut (s p : List UInt8) (w : World) (hs : s.length ≤ 140737488355328) :
    Calls Tryz.prog 79 #[.string ⟨s.toArray⟩, .string ⟨p.toArray⟩] w fun e w' => e = .returned (.tuple #[.string ⟨(cutT s p).toArray⟩, .bool (Lib.hasPrefix s p)]) ∧ w' = w := by
  have HP := Lib.hid (Tryz.stringslite_HasPrefix ⟨s.toArray⟩ ⟨p.toArray⟩ w)
  simp only [ba_data] at HP
  have HC : Hid (cutT s p = if Lib.hasPrefix s p then s.drop p.length else s) := Lib.hid rfl
  have hps : (⟨p.toArray⟩ : ByteArray).size = p.length := rfl
  have hss : (⟨s.toArray⟩ : ByteArray).size = s.length := rfl
  cases hb : Lib.hasPrefix s p with
  | false =>
    have hc : Hid (cutT s p = s) := Lib.hid (by rw [HC.out, hb]; rfl)
    rw [hb] at HP
    clear HC hb
    go_enter Tryz.func79, Tryz.ntmps79
    go_wp2_with fail
    refine HP.out.mono ?_
    rintro e w' ⟨rfl, rfl⟩
    go_wp2
    go_ret2
    rw [hc.out]; exact ⟨rfl, rfl⟩
  | true =>
    have hc : Hid (cutT s p = s.drop p.length) := Lib.hid (by rw [HC.out, hb]; rfl)
    have hpl := hasPrefix_len hb
    rw [hb] at HP
    have hex := extract_rest s p.length s.length (Nat.le_refl _)
    clear HC hb
    go_enter Tryz.func79, Tryz.ntmps79
    go_wp2_with fail
    refine HP.out.mono ?_
    rintro e w' ⟨rfl, rfl⟩
    go_wp2
    go_ret2
    rw [hc.out]; exact ⟨rfl, rfl⟩
set_option maxRecDepth 100000 in
theorem cut_any (s p : List UInt8) (w : World) (hs : s.length ≤ 140737488355328) :
    Calls Tryz.prog 46 #[.string ⟨s.toArray⟩, .string ⟨p.toArray⟩] w fun e w' => e = .returned (.tuple #[.string ⟨(cutT s p).toArray⟩, .bool (Lib.hasPrefix s p)]) ∧ w' = w := by
  have LC := Lib.hid (lite_cut s p w hs)
  generalize cutT s p = t at *
  generalize Lib.hasPrefix s p = b at *
  go_enter Tryz.func46, Tryz.ntmps46
  go_wp2_with fail
  refine LC.out.mono ?_
  rintro e w' ⟨rfl, rfl⟩
  go_wp2
  go_ret2
  exact ⟨rfl, rfl⟩

/-- Whether all went well so far. -/
def OkAt (W : World) (A : Nat) (ok : Bool) : Prop := W.heap[A]? = some (.cells #[.bool ok] 4)
theorem OkAt.set {W : World} {A : Nat} {ok : Bool} (h : OkAt W A ok) (b : Bool) : OkAt (W.setCell ⟨A, 0, none⟩ (.bool b)) A b := by
  rw [OkAt, setCell_heap _ _ _ _ _ _ h]; rfl
theorem OkAt.below {W W' : World} {A : Nat} {ok : Bool} (h : OkAt W A ok) (hb : Below W.heap.size W W') : OkAt W' A ok := (hb.block _ (lt_of_heap h)).trans h
def KeepPost (W : World) (A : Nat) (b : Bool) (e : Ending) (W' : World) : Prop := e = .returned (.tuple #[]) ∧ OkAt W' A b ∧ Turn [A] W W'

set_option maxRecDepth 100000 in
theorem keepc_any (W : World) (A : Nat) (ok : Bool) (c : Int) (h : OkAt W A ok) :
    Calls Tryz.prog 48 #[.int .i64 c, ptr A] W (KeepPost W A (ok && decide (c = 0))) := by
  have c0 : W.cell? ⟨A, 0, none⟩ = some (.bool ok) := cell_of_heap h
  have f0 : W.frozen? ⟨A, 0, none⟩ = false := frozen_of_heap h
  have H := Lib.hid h
  clear h
  unfold ptr
  cases ok with
  | false =>
    go_enter Tryz.func48, Tryz.ntmps48
    go_wp2
    go_end0
    exact ⟨rfl, H.out.set _, (Turn.refl _ _).setCell (.inl (by simp)) _⟩
  | true =>
    by_cases hc : c = 0
    · subst hc
      go_enter Tryz.func48, Tryz.ntmps48
      go_wp2
      go_end0
      exact ⟨rfl, H.out.set _, (Turn.refl _ _).setCell (.inl (by simp)) _⟩
    · have hcb : (c == 0) = false := by rw [beq_eq_false_iff_ne]; exact hc
      have hd : Hid (decide (c = 0) = false) := Lib.hid (by simpa using hc)
      clear hc
      go_enter Tryz.func48, Tryz.ntmps48
      go_wp2
      go_end0
      rw [hd.out]
      exact ⟨rfl, H.out.set _, (Turn.refl _ _).setCell (.inl (by simp)) _⟩
end Go.Proofs.YtpbhkaokgpacoaaGreatDoor.St
