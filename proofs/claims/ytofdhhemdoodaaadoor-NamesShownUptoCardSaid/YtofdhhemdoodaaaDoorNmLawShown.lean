/-
  The walk of the statement NamesShown.
-/
import Derived.Test.YtofdhhemdoodaaaDoorNmRefRead
import Derived.Test.YtofdhhemdoodaaaDoorNmRefMatch
import Derived.Test.YtofdhhemdoodaaaDoorNmAwake
namespace Go.Proofs.YtofdhhemdoodaaaDoor.Nm
open Go.RowKit

/-- What Read answers, as a text and a number. -/
def rdT (l : List UInt8) : ByteArray := match readR l with | none => ⟨#[]⟩ | some b => ⟨b.toArray⟩
def rdE (l : List UInt8) : Int := match readR l with | none => 4 | some _ => 0
theorem readOut_eq {t : ByteArray} {e : Ending} (h : ReadOut t e) : e = .returned (.tuple #[.string (rdT t.data.toList), .int .i64 (rdE t.data.toList)]) := by
  unfold ReadOut at h
  unfold rdT rdE
  cases hr : readR t.data.toList with
  | none => rw [hr] at h; exact h
  | some b => rw [hr] at h; exact h

set_option maxHeartbeats 4000000 in
set_option maxRecDepth 100000 in
theorem shown_law (s t p : ByteArray) (w : World) (hT : Tabs w) (hZ : Tz w) (hE : Errs w) (hs : s.size ≤ 1048576) (ht : t.size ≤ 1048576) (hp : p.size ≤ 1048576) :
    Calls Tryd.prog 5 #[.string s, .string t, .string p] w (TruePost w) := by
  have r1 := read_any t w hZ hE (by omega) (.inl (by omega))
  have R1 := Lib.hid r1
  obtain ⟨a, ha⟩ : ∃ a, a = rdT t.data.toList := ⟨_, rfl⟩
  obtain ⟨n, hn⟩ : ∃ n, n = rdE t.data.toList := ⟨_, rfl⟩
  obtain ⟨m, hm⟩ : ∃ m, m = matchR p.data.toList s.data.toList := ⟨_, rfl⟩
  have q1 : ∀ w, Tz w → Errs w → Calls Tryd.prog 23 #[.string t] w fun e w' => e = .returned (.tuple #[.string a, .int .i64 n]) ∧ Below w.heap.size w w' := fun w hZ hE =>
    (read_any t w hZ hE (by omega) (.inl (by omega))).mono fun e w' ⟨h1, h2⟩ => ⟨by rw [readOut_eq h1, ha, hn], h2⟩
  have q2 : ∀ w, Tabs w → Tz w → Calls Tryd.prog 24 #[.string t] w fun e w' => e = .returned (.tuple #[.string a, .int .i64 n]) ∧ Below w.heap.size w w' := fun w hT hZ =>
    (ref_read t w hT hZ (by omega)).mono fun e w' ⟨h1, h2⟩ => ⟨by rw [readOut_eq h1, ha, hn], h2⟩
  have q3 : ∀ w, Calls Tryd.prog 9 #[.string p, .string s] w fun e w' => e = .returned (.tuple #[.bool m.1, .int .i64 m.2]) ∧ Below w.heap.size w w' := fun w => by
    rw [hm]; exact match_any p s w (by unfold maxLen; omega) (by unfold maxLen; omega)
  have q4 : ∀ w, Tabs w → Calls Tryd.prog 25 #[.string p, .string s] w fun e w' => e = .returned (.tuple #[.bool m.1, .int .i64 m.2]) ∧ Below w.heap.size w w' := fun w hT => by
    rw [hm]; exact ref_match p s w hT (by omega) (by omega)
  obtain ⟨S1, hS1⟩ : ∃ S1 : ByteArray, S1 = ⟨(shown s.data.toList).toArray⟩ := ⟨_, rfl⟩
  obtain ⟨T1, hT1⟩ : ∃ T1 : ByteArray, T1 = ⟨(shown t.data.toList).toArray⟩ := ⟨_, rfl⟩
  have q5 : ∀ w, Tz w → Calls Tryd.prog 26 #[.string s] w fun e w' => e = .returned (.string S1) ∧ Below w.heap.size w w' := fun w hZ => by
    rw [hS1]; exact show_any s w hZ (by omega)
  have q6 : ∀ w, Tabs w → Tz w → Calls Tryd.prog 27 #[.string s] w fun e w' => e = .returned (.string S1) ∧ Below w.heap.size w w' := fun w hT hZ => by
    rw [hS1]; exact ref_show s w hT hZ (by omega)
  have q7 : ∀ w, Tz w → Calls Tryd.prog 26 #[.string t] w fun e w' => e = .returned (.string T1) ∧ Below w.heap.size w w' := fun w hZ => by
    rw [hT1]; exact show_any t w hZ (by omega)
  have q8 : ∀ w, Tabs w → Tz w → Calls Tryd.prog 27 #[.string t] w fun e w' => e = .returned (.string T1) ∧ Below w.heap.size w w' := fun w hT hZ => by
    rw [hT1]; exact ref_show t w hT hZ (by omega)
  obtain ⟨m1, m2⟩ := m
  have e1 : (a.toList == a.toList) = true := by simp
  have e2 : (S1.toList == S1.toList) = true := by simp
  have e3 : (T1.toList == T1.toList) = true := by simp
  have Q1 := Lib.hid q1; have Q2 := Lib.hid q2; have Q3 := Lib.hid q3; have Q4 := Lib.hid q4; have Q5 := Lib.hid q5; have Q6 := Lib.hid q6; have Q7 := Lib.hid q7; have Q8 := Lib.hid q8
  have HT := Lib.hid hT; have HZ := Lib.hid hZ; have HE := Lib.hid hE
  clear q1 q2 q3 q4 q5 q6 q7 q8 ha hn hm hS1 hT1 R1 r1 hT hZ hE hs ht hp
  go_enter Tryd.func5, Tryd.ntmps5
  go_wp2_with fail
  refine (Q1.out w HZ.out HE.out).mono ?_
  rintro e w1 ⟨rfl, hb⟩
  have HBK := Lib.hid hb
  clear hb
  go_wp2_with fail
  refine (Q2.out _ (HT.out.below HBK.out) (HZ.out.below HBK.out)).mono ?_
  rintro e w2 ⟨rfl, hb⟩
  replace HBK := Lib.hid (HBK.out.trans (hb.mono HBK.out.size))
  clear hb
  go_wp2_with fail
  refine (Q3.out _).mono ?_
  rintro e w3 ⟨rfl, hb⟩
  replace HBK := Lib.hid (HBK.out.trans (hb.mono HBK.out.size))
  clear hb
  go_wp2_with fail
  refine (Q4.out _ (HT.out.below HBK.out)).mono ?_
  rintro e w4 ⟨rfl, hb⟩
  replace HBK := Lib.hid (HBK.out.trans (hb.mono HBK.out.size))
  clear hb
  go_wp2_with fail
  refine (Q5.out _ (HZ.out.below HBK.out)).mono ?_
  rintro e w5 ⟨rfl, hb⟩
  replace HBK := Lib.hid (HBK.out.trans (hb.mono HBK.out.size))
  clear hb
  go_wp2_with fail
  refine (Q6.out _ (HT.out.below HBK.out) (HZ.out.below HBK.out)).mono ?_
  rintro e w6 ⟨rfl, hb⟩
  replace HBK := Lib.hid (HBK.out.trans (hb.mono HBK.out.size))
  clear hb
  go_wp2_with fail
  refine (Q7.out _ (HZ.out.below HBK.out)).mono ?_
  rintro e w7 ⟨rfl, hb⟩
  replace HBK := Lib.hid (HBK.out.trans (hb.mono HBK.out.size))
  clear hb
  go_wp2_with fail
  refine (Q8.out _ (HT.out.below HBK.out) (HZ.out.below HBK.out)).mono ?_
  rintro e w8 ⟨rfl, hb⟩
  replace HBK := Lib.hid (HBK.out.trans (hb.mono HBK.out.size))
  clear hb
  have e4 : (m1 == m1) = true := by simp
  have e5 : (m2 == m2) = true := by simp
  have e6 : (n == n) = true := by simp
  go_wp2_with fail
  refine (awake_any _).mono ?_
  rintro e w9 ⟨rfl, hb⟩
  have HBE := Lib.hid (HBK.out.trans (hb.mono HBK.out.size))
  clear hb
  go_wp2
  go_ret
  exact ⟨rfl, HBE.out⟩
end Go.Proofs.YtofdhhemdoodaaaDoor.Nm
