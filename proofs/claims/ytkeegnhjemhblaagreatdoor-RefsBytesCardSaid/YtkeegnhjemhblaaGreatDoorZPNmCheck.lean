import Derived.Test.YtkeegnhjemhblaaGreatDoorZPNmWhole
import Derived.Test.YtkeegnhjemhblaaGreatDoorZPNmPaths
set_option linter.unusedSimpArgs false
set_option linter.unusedVariables false
/-
  The contract of Check: at every text it tells whether a name may be.
-/
namespace Go.Proofs.YtkeegnhjemhblaaGreatDoor.Nm
open Go.RowKit

theorem runesFine_cons (l : List UInt8) (h : l ≠ []) : runesFine l = (fine (dec l).1 && runesFine (l.drop (dec l).2)) := by
  rw [runesFine, seg_cons l h, List.all_cons]; rfl

def chkN (l : List UInt8) : Int := if chk l then 0 else 10

set_option maxHeartbeats 1000000 in
set_option maxRecDepth 100000 in
theorem check_any (s : ByteArray) (w : World) (hs : s.size ≤ maxLen) :
    Calls Tryz.prog 100 #[.string s] w fun e w' => e = .returned (.int .i64 (chkN s.data.toList)) ∧ Below w.heap.size w w' := by
  have hwh := whole_any s w hs
  have hsz := Lib.size_eq s
  unfold maxLen at hs
  cases h1 : okB s.data.toList with
  | false => 
    rw [h1] at hwh
    have hfin : chkN s.data.toList = 10 := by simp [chkN, chk, lenFine, h1]
    have HF := Lib.hid hfin; clear hfin h1 hsz
    go_enter Tryz.func100, Tryz.ntmps100
    go_wp2_with fail
    refine hwh.mono ?_
    rintro e w1 ⟨rfl, pos, rfl⟩
    clear hwh
    go_wp2
    go_ret
    exact ⟨by rw [HF.out]; rfl, (Below.refl _ _).alloc (Nat.le_refl _) _⟩
  | true =>
    rw [h1] at hwh
    generalize hn : whN s.data.toList = n at *
    have hc : count s.data.toList = n := by rw [← hn, whN, h1]; rfl
    by_cases h2 : 1 ≤ n ∧ n ≤ 64
    · obtain ⟨h2, h3⟩ := h2
      by_cases h4 : s.size ≤ 255
      · cases h5 : s.toList == [46] with
        | true =>
          have hfin : chkN s.data.toList = 10 := by
            have e : s.data.toList = [46] := by rw [← Lib.toList_data]; simpa using h5
            rw [e]; decide
          have HF := Lib.hid hfin; clear hfin h1 hsz hc hn
          go_enter Tryz.func100, Tryz.ntmps100
          go_wp2_with fail
          refine hwh.mono ?_
          rintro e w1 ⟨rfl, pos, rfl⟩
          clear hwh
          go_wp2
          go_ret
          exact ⟨by rw [HF.out]; rfl, (Below.refl _ _).alloc (Nat.le_refl _) _⟩
        | false =>
        cases h6 : s.toList == [46, 46] with
        | true =>
          have hfin : chkN s.data.toList = 10 := by
            have e : s.data.toList = [46, 46] := by rw [← Lib.toList_data]; simpa using h6
            rw [e]; decide
          have HF := Lib.hid hfin; clear hfin h1 hsz hc hn
          go_enter Tryz.func100, Tryz.ntmps100
          go_wp2_with fail
          refine hwh.mono ?_
          rintro e w1 ⟨rfl, pos, rfl⟩
          clear hwh
          go_wp2
          go_ret
          exact ⟨by rw [HF.out]; rfl, (Below.refl _ _).alloc (Nat.le_refl _) _⟩
        | false =>
          have hlf : lenFine s.data.toList = true := by
            rw [Lib.toList_data] at h5 h6
            rw [lenFine, h1, hc, ← hsz, h5, h6]; simp; omega
          have HL := Lib.hid hlf; clear hlf hc hn h1
          have HZ := Lib.hid hsz; clear hsz
          go_enter Tryz.func100, Tryz.ntmps100
          go_wp2_with fail
          refine hwh.mono ?_
          rintro e w1 ⟨rfl, pos, hw1⟩
          have hb : Below w.heap.size w w1 := hw1 ▸ (Below.refl _ _).alloc (Nat.le_refl _) _
          clear hwh hw1
          go_wp2
          go_loopw [6] (fun _ w' => ∃ pos : Nat, w' = w1.iter s pos ∧ runesFine s.data.toList = runesFine (s.data.toList.drop pos)) (fun _ w' => s.size - w'.iterPos w1.heap.size)
          case atStart => exact ⟨0, rfl, by simp⟩
          case round =>
            obtain ⟨pos, rfl, hrel⟩ := hrel
            by_cases hp : pos < s.size
            · have hnx : ∀ ty, (Instr.next (.pointer (some ⟨w1.heap.size, 0, none⟩)) true ty).run Tryz.prog (w1.iter s pos) = _ := fun ty => run_next_any w1 s pos ty hp
              have hsz := HZ.out
              have hw := dec_width _ (ne_of_lt (hsz ▸ hp))
              have hcons := runesFine_cons _ (ne_of_lt (hsz ▸ hp))
              rw [decode_drop] at hnx
              have hd := dec_bound (s.data.toList.drop pos)
              rw [← hrel, List.drop_drop] at hcons
              generalize hr : (dec (s.data.toList.drop pos)).1 = r at *
              generalize (dec (s.data.toList.drop pos)).2 = wd at *
              have HC := Lib.hid hcons
              have HR := Lib.hid hrel
              clear hcons hrel hr hsz
              cases hf : fine r with
              | true =>
                have HF := Lib.hid hf
                have hn1 : ¬ r < 32 ∧ ¬ r = 127 ∧ ¬ r = 47 := by simpa [fine, and_assoc] using hf
                have t2 : ((r : Int) == 127) = false := by rw [beq_eq_false_iff_ne]; omega
                have t3 : ((r : Int) == 47) = false := by rw [beq_eq_false_iff_ne]; omega
                have t1 : 32 ≤ r := by omega
                clear hf hn1
                go_wp2
                go_roundw
                case rel => exact ⟨_, rfl, by rw [HC.out, HF.out]; rfl⟩
                case measure => simp; omega
              | false =>
                have hfin : chkN s.data.toList = 10 := by
                  rw [chkN, chk, HC.out, hf]; simp
                have HF := Lib.hid hfin; clear hfin
                have hn1 : r < 32 ∨ r = 127 ∨ r = 47 := by
                  by_cases a : r < 32 ∨ r = 127 ∨ r = 47
                  · exact a
                  · exfalso; have : fine r = true := by { simp [fine]; omega }
                    rw [this] at hf; cases hf
                clear hf
                rcases hn1 with t1 | rfl | rfl
                all_goals
                  go_wp2
                  go_ret
                  exact ⟨by rw [HF.out]; rfl, hb.trans (((Below.refl _ _).alloc (Nat.le_refl _) _).mono hb.size)⟩
            · have hnx : ∀ ty, (Instr.next (.pointer (some ⟨w1.heap.size, 0, none⟩)) true ty).run Tryz.prog (w1.iter s pos) = _ := fun ty => run_next_end w1 s pos ty hp
              have hsz := HZ.out
              have hfin : chkN s.data.toList = 0 := by
                have e : s.data.toList.drop pos = [] := List.drop_eq_nil_of_le (by omega)
                rw [e] at hrel
                rw [chkN, chk, HL.out, hrel]; rfl
              have HF := Lib.hid hfin; clear hfin hrel hsz
              go_wp2
              go_ret
              exact ⟨by rw [HF.out]; rfl, hb.trans (((Below.refl _ _).alloc (Nat.le_refl _) _).mono hb.size)⟩
      · have hfin : chkN s.data.toList = 10 := by
          simp only [chkN, chk, lenFine, ← hsz]
          rw [if_neg]; simp; omega
        have HF := Lib.hid hfin; clear hfin h1 hsz hc hn
        go_enter Tryz.func100, Tryz.ntmps100
        go_wp2_with fail
        refine hwh.mono ?_
        rintro e w1 ⟨rfl, pos, rfl⟩
        clear hwh
        go_wp2
        go_ret
        exact ⟨by rw [HF.out]; rfl, (Below.refl _ _).alloc (Nat.le_refl _) _⟩
    · have hfin : chkN s.data.toList = 10 := by
        simp only [chkN, chk, lenFine, h1, hc, Bool.true_and]
        rw [if_neg]; simp; omega
      have HF := Lib.hid hfin; clear hfin h1 hsz hc hn
      by_cases h4 : 1 ≤ n 
      · have h3 : 64 < n := by omega
        clear h2
        go_enter Tryz.func100, Tryz.ntmps100
        go_wp2_with fail
        refine hwh.mono ?_
        rintro e w1 ⟨rfl, pos, rfl⟩
        clear hwh
        go_wp2
        go_ret
        exact ⟨by rw [HF.out]; rfl, (Below.refl _ _).alloc (Nat.le_refl _) _⟩
      · have h3 : n < 1 := by omega
        clear h2
        go_enter Tryz.func100, Tryz.ntmps100
        go_wp2_with fail
        refine hwh.mono ?_
        rintro e w1 ⟨rfl, pos, rfl⟩
        clear hwh
        go_wp2
        go_ret
        exact ⟨by rw [HF.out]; rfl, (Below.refl _ _).alloc (Nat.le_refl _) _⟩
end Go.Proofs.YtkeegnhjemhblaaGreatDoor.Nm
