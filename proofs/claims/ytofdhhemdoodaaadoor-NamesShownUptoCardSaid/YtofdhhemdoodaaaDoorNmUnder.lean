/-
  The contract of Under.
-/
import Derived.Test.YtofdhhemdoodaaaDoorNmJoin
namespace Go.Proofs.YtofdhhemdoodaaaDoor.Nm
open Go.RowKit

def underB (p a : List UInt8) : Bool := if splitL a = [] then !(splitL p == []) else Lib.hasPrefix p (a ++ [47])
def underR (p a : List UInt8) : Bool × Int := if (splitP p).isSome && (splitP a).isSome then (underB p a, 0) else (false, 10)

theorem len_of_owns {w : World} {base : Nat} {v : Value} {n : Nat} {xs : List Value} (h : w.ownsRow base 9 1 v n xs) : ∃ a c, v = .slice a n c := by
  obtain ⟨_, ⟨rfl, rfl⟩ | ⟨g, cap, cur, rfl, _⟩⟩ := h
  · exact ⟨_, _, rfl⟩
  · exact ⟨_, _, rfl⟩

set_option maxHeartbeats 1000000 in
set_option maxRecDepth 100000 in
theorem under_any (p a : ByteArray) (w : World) (hp : p.size ≤ 4611686018427387904) (ha : a.size ≤ 4611686018427387904) :
    Calls Tryd.prog 15 #[.string p, .string a] w fun e w' => e = .returned (.tuple #[.bool (underR p.data.toList a.data.toList).1, .int .i64 (underR p.data.toList a.data.toList).2]) ∧ Below w.heap.size w w' := by
  have h1 := split_any p w hp
  have h2 := fun w => split_any a w ha
  have h3 := fun w => Tryd.strings_HasPrefix p (a ++ ⟨#[47]⟩) w
  have e3 : (a ++ ⟨#[47]⟩ : ByteArray).data.toList = a.data.toList ++ [47] := by simp [ByteArray.data_append]
  rw [e3] at h3
  have H2 := Lib.hid h2
  have H3 := Lib.hid h3
  clear h2 h3 e3
  go_enter Tryd.func15, Tryd.ntmps15
  go_wp2_with fail
  refine h1.mono ?_
  rintro e w1 ⟨v1, rfl, ho1, hb1⟩
  obtain ⟨a1, c1, rfl⟩ := len_of_owns ho1
  go_wp2_with fail
  refine (H2.out _).mono ?_
  rintro e w2 ⟨v2, rfl, ho2, hb2⟩
  obtain ⟨a2, c2, rfl⟩ := len_of_owns ho2
  have hb := hb1.trans (hb2.mono hb1.size)
  clear ho1 ho2 h1 hb1 hb2 H2
  cases hs1 : splitP p.data.toList with
  | none =>
    have e1 : splitE p.data.toList = 10 := by rw [splitE, hs1]; rfl
    have HF : Hid (underR p.data.toList a.data.toList = (false, 10)) := Lib.hid (by rw [underR, hs1]; rfl)
    rw [e1]
    clear hs1 e1
    go_wp2
    go_ret2
    exact ⟨by rw [HF.out]; rfl, hb⟩
  | some ns =>
    have e1 : splitE p.data.toList = 0 := by rw [splitE, hs1]; rfl
    rw [e1]
    cases hs2 : splitP a.data.toList with
    | none =>
      have e2 : splitE a.data.toList = 10 := by rw [splitE, hs2]; rfl
      have HF : Hid (underR p.data.toList a.data.toList = (false, 10)) := Lib.hid (by rw [underR, hs1, hs2]; rfl)
      rw [e2]
      clear hs1 hs2 e1 e2
      go_wp2
      go_ret2
      exact ⟨by rw [HF.out]; rfl, hb⟩
    | some ms =>
      have e2 : splitE a.data.toList = 0 := by rw [splitE, hs2]; rfl
      have e3 : splitL p.data.toList = ns := by rw [splitL, hs1]; rfl
      have e4 : splitL a.data.toList = ms := by rw [splitL, hs2]; rfl
      rw [e2]
      have HF : Hid (underR p.data.toList a.data.toList = (if ms = [] then !(ns == []) else Lib.hasPrefix p.data.toList (a.data.toList ++ [47]), 0)) := Lib.hid (by rw [underR, hs1, hs2, underB, e3, e4]; rfl)
      rw [e3, e4]
      clear hs1 hs2 e1 e2 e3 e4
      cases ms with
      | nil =>
        cases ns with
        | nil =>
          go_wp2
          go_ret2
          exact ⟨by rw [HF.out]; rfl, hb⟩
        | cons n ns =>
          obtain ⟨q, hq⟩ : ∃ q, (n :: ns).length = q + 1 := ⟨ns.length, rfl⟩
          rw [hq]
          clear hq
          go_wp2
          go_ret2
          exact ⟨by rw [HF.out]; rfl, hb⟩
      | cons m ms =>
        have hl : (((m :: ms).length : Int) == 0) = false := by rw [beq_eq_false_iff_ne]; simp; omega
        generalize hq : (m :: ms).length = q at *
        have HQ := Lib.hid hq
        clear hq
        go_wp2_with fail
        refine (H3.out _).mono ?_
        rintro e w3 ⟨rfl, rfl⟩
        go_wp2
        go_ret2
        exact ⟨by rw [HF.out]; rfl, hb⟩
end Go.Proofs.YtofdhhemdoodaaaDoor.Nm
