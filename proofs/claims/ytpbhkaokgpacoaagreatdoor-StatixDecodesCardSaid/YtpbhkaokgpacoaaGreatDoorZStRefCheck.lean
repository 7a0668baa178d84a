import Derived.Test.YtpbhkaokgpacoaaGreatDoorZStRef
set_option linter.unusedSimpArgs false
set_option linter.unusedVariables false
/-
  The contracts of the reference's Check, Runes and Less.
-/
namespace Go.Proofs.YtpbhkaokgpacoaaGreatDoor.Nm
open Go.RowKit

/-- A row of runes that the call owns, read in a later world. -/
theorem row_cells {w : World} {base : Nat} {v : Value} {rs : List Nat} (h : w.ownsRow base 21 1 v rs.length (rs.map rv)) (hne : rs ≠ []) :
    ∃ g cap, v = .slice (some ⟨g, 0, none⟩) rs.length cap ∧ g < w.heap.size ∧ ∀ (j r : Nat), rs[j]? = some r → w.cell? ⟨g, j, none⟩ = some (.int .i32 (r : Int)) := by
  obtain ⟨hl, ⟨rfl, h0⟩ | ⟨g, cap, cur, rfl, hg, hh, hn, hcap, hsz, ht⟩⟩ := h
  · exact absurd (List.eq_nil_of_length_eq_zero h0) hne
  · refine ⟨g, cap, rfl, (Array.getElem?_eq_some_iff.1 hh).1, fun j r hj => ?_⟩
    have hj' : j < rs.length := (List.getElem?_eq_some_iff.1 hj).1
    have e : cur[j]? = some (rv r) := by
      have := congrArg (fun l => l[j]?) ht
      simp only [List.getElem?_map, hj, Option.map_some] at this
      rw [List.getElem?_take_of_lt (by omega), Array.getElem?_toList] at this
      exact this
    unfold rv at e
    simp only [World.cell?, hh]
    simpa using e

theorem runesFine_runes (l : List UInt8) : runesFine l = (runes l).all fine := by
  simp only [runesFine, runes, List.all_map]; rfl

theorem chkN_no {l : List UInt8} (h : lenFine l = false) : chkN l = 10 := by rw [chkN, chk, h]; rfl

set_option maxHeartbeats 2000000 in
set_option maxRecDepth 100000 in
theorem ref_check (s : ByteArray) (w : World) (hT : Tabs w) :
    Calls Tryz.prog 77 #[.string s] w fun e w' => e = .returned (.int .i64 (chkN s.data.toList)) ∧ Below w.heap.size w w' := by
  have hsz := Lib.size_eq s
  by_cases h1 : s.size < 1
  · have HF : Hid (chkN s.data.toList = 10) := Lib.hid (chkN_no (by
      have : s.data.toList = [] := List.eq_nil_of_length_eq_zero (by omega)
      rw [this]; rfl))
    clear hsz
    go_enter Tryz.func77, Tryz.ntmps77
    go_wp2
    go_ret
    exact ⟨by rw [HF.out]; rfl, Below.refl _ _⟩
  by_cases h2 : 255 < s.size
  · have HF : Hid (chkN s.data.toList = 10) := Lib.hid (chkN_no (by
      have : decide (s.data.toList.length ≤ 255) = false := by simp only [decide_eq_false_iff_not]; omega
      rw [lenFine, this]; simp))
    have h1' : 1 ≤ s.size := by omega
    clear hsz h1
    go_enter Tryz.func77, Tryz.ntmps77
    go_wp2
    go_ret
    exact ⟨by rw [HF.out]; rfl, Below.refl _ _⟩
  have h1' : 1 ≤ s.size := by omega
  have h2' : s.size ≤ 255 := by omega
  clear h1 h2
  cases h3 : s.toList == [46] with
  | true =>
    have HF : Hid (chkN s.data.toList = 10) := Lib.hid (by
      have e : s.data.toList = [46] := by rw [← Lib.toList_data]; simpa using h3
      rw [e]; decide)
    clear hsz
    go_enter Tryz.func77, Tryz.ntmps77
    go_wp2
    go_ret
    exact ⟨by rw [HF.out]; rfl, Below.refl _ _⟩
  | false =>
  cases h4 : s.toList == [46, 46] with
  | true =>
    have HF : Hid (chkN s.data.toList = 10) := Lib.hid (by
      have e : s.data.toList = [46, 46] := by rw [← Lib.toList_data]; simpa using h4
      rw [e]; decide)
    clear hsz
    go_enter Tryz.func77, Tryz.ntmps77
    go_wp2
    go_ret
    exact ⟨by rw [HF.out]; rfl, Below.refl _ _⟩
  | false =>
  have hr := ref_runes s w hT (by omega)
  cases h5 : okB s.data.toList with
  | false =>
    have HF : Hid (chkN s.data.toList = 10) := Lib.hid (chkN_no (by rw [lenFine, h5]; rfl))
    unfold RunesPost at hr
    rw [h5] at hr
    have HR := Lib.hid hr
    clear hsz hr h5
    go_enter Tryz.func77, Tryz.ntmps77
    go_wp2_with fail
    refine HR.out.mono ?_
    rintro e w1 ⟨v, rfl, ho, hb⟩
    go_wp2
    go_ret
    exact ⟨by rw [HF.out]; rfl, hb⟩
  | true =>
    have hn1 : 1 ≤ (runes s.data.toList).length := by
      rw [runes_length, count_cons _ (by intro e; have := congrArg List.length e; rw [List.length_nil] at this; omega)]; omega
    have hn2 : (runes s.data.toList).length ≤ 255 := by rw [runes_length]; have := count_le s.data.toList; omega
    have hlf : lenFine s.data.toList = decide ((runes s.data.toList).length ≤ 64) := by
      rw [Lib.toList_data] at h3 h4
      rw [lenFine, h5, h3, h4, ← runes_length]
      have a1 : decide (1 ≤ (runes s.data.toList).length) = true := by simpa using hn1
      have a2 : decide (s.data.toList.length ≤ 255) = true := by simp; omega
      rw [a1, a2]; simp
    have hrf := runesFine_runes s.data.toList
    unfold RunesPost at hr
    rw [h5] at hr
    simp only [if_true] at hr
    generalize hrs : runes s.data.toList = rs at *
    have HR := Lib.hid hr; have HRF := Lib.hid hrf; have HLF := Lib.hid hlf
    clear hsz hr h5 hrs hrf hlf
    by_cases h6 : 64 < rs.length
    · have HF : Hid (chkN s.data.toList = 10) := Lib.hid (chkN_no (by rw [HLF.out]; simp; omega))
      go_enter Tryz.func77, Tryz.ntmps77
      go_wp2_with fail
      refine HR.out.mono ?_
      rintro e w1 ⟨v, rfl, ho, hb⟩
      obtain ⟨g, cap, rfl, hg, hcell⟩ := row_cells ho (by intro e; rw [e] at hn1; simp at hn1)
      clear ho hcell
      go_wp2
      go_ret
      exact ⟨by rw [HF.out]; rfl, hb⟩
    · have h6' : rs.length ≤ 64 := by omega
      clear h6
      go_enter Tryz.func77, Tryz.ntmps77
      go_wp2_with fail
      refine HR.out.mono ?_
      rintro e w1 ⟨v, rfl, ho, hb⟩
      obtain ⟨g, cap, rfl, hg, hcell⟩ := row_cells ho (by intro e; rw [e] at hn1; simp at hn1)
      have HC := Lib.hid hcell
      clear ho hcell
      go_wp2
      go_loop [5] (fun s5 => ∃ k : Nat, k ≤ rs.length ∧ s5 = .int .i64 k ∧ (∀ (j r : Nat), j < k → rs[j]? = some r → fine r = true)) (fun s5 => rs.length - (intOf s5).toNat)
      case atStart => exact ⟨0, by omega, rfl, fun j r h => by omega⟩
      case round =>
        obtain ⟨k, hk, rfl, hall⟩ := hrel
        have HA := Lib.hid hall
        clear hall
        by_cases hlt : k < rs.length
        · obtain ⟨r, hkr⟩ : ∃ r, rs[k]? = some r := ⟨rs[k], List.getElem?_eq_getElem hlt⟩
          have hc := HC.out k r hkr
          have HK := Lib.hid hkr
          clear hkr
          cases hf : fine r with
          | true =>
            have HFN := Lib.hid hf
            have hn1 : ¬ r < 32 ∧ ¬ r = 127 ∧ ¬ r = 47 := by simpa [fine, and_assoc] using hf
            have t2 : ((r : Int) == 127) = false := by rw [beq_eq_false_iff_ne]; omega
            have t3 : ((r : Int) == 47) = false := by rw [beq_eq_false_iff_ne]; omega
            have t1 : 32 ≤ r := by omega
            clear hf hn1
            go_wp2
            go_round
            case rel =>
              refine ⟨k + 1, by omega, by go_num, fun j x hj hjx => ?_⟩
              by_cases e : j = k
              · subst e; rw [HK.out] at hjx; cases hjx; exact HFN.out
              · exact HA.out j x (by omega) hjx
            case measure => simp [intOf]; omega
          | false =>
            have HF : Hid (chkN s.data.toList = 10) := Lib.hid (by
              have : rs.all fine = false := by
                rw [List.all_eq_false]; exact ⟨r, List.mem_of_getElem? HK.out, by simp [hf]⟩
              rw [chkN, chk, HRF.out, this]; simp)
            have hn1 : r < 32 ∨ r = 127 ∨ r = 47 := by
              by_cases a : r < 32 ∨ r = 127 ∨ r = 47
              · exact a
              · exfalso; have : fine r = true := by { simp [fine]; omega }
                rw [this] at hf; cases hf
            clear hf
            rcases hn1 with t1 | rfl | rfl
            all_goals
              go_wp2
              go_ret
              exact ⟨by rw [HF.out]; rfl, hb⟩
        · have HF : Hid (chkN s.data.toList = 0) := Lib.hid (by
            have : rs.all fine = true := by
              rw [List.all_eq_true]
              intro x hx
              obtain ⟨j, hj, e⟩ := List.getElem_of_mem hx
              exact HA.out j x (by omega) (by rw [List.getElem?_eq_getElem hj, e])
            have h64 : decide (rs.length ≤ 64) = true := by simpa using h6'
            rw [chkN, chk, HRF.out, HLF.out, this, h64]; rfl)
          go_wp2
          go_ret
          exact ⟨by rw [HF.out]; rfl, hb⟩
end Go.Proofs.YtpbhkaokgpacoaaGreatDoor.Nm
