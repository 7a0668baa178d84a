import Derived.Test.YtpbhkaokgpacoaaGreatDoorZShCheck
import Derived.Test.YtpbhkaokgpacoaaGreatDoorZStRDecode
set_option linter.unusedSimpArgs false
set_option linter.unusedVariables false
/-
  The contract of the reference's Check of a stat index's file.
-/
namespace Go.Proofs.YtpbhkaokgpacoaaGreatDoor.Sh
open Go.RowKit Go.Maps Go.Proofs.YtpbhkaokgpacoaaGreatDoor.Rf Go.Proofs.YtpbhkaokgpacoaaGreatDoor.Rd Go.Proofs.YtpbhkaokgpacoaaGreatDoor.St

set_option maxHeartbeats 4000000 in
set_option maxRecDepth 100000 in
theorem rcheck_any (w : World) (hT : Nm.Tabs w) (N s : List UInt8) (hs : s.length ≤ 140737488351232) :
    Calls Tryz.prog 30 #[.string ⟨N.toArray⟩, .string ⟨s.toArray⟩] w fun e w' => e = .returned (.int .i64 (chkE N s)) ∧ Below w.heap.size w w' := by
  have NA := Lib.hid (named_any w N)
  cases hb : namB N with
  | false =>
    rw [hb] at NA
    have HR : Hid (chkE N s = 10) := Lib.hid (by rw [chkE, if_neg (by rw [hb]; decide)])
    clear hb
    go_enter Tryz.func30, Tryz.ntmps30
    go_wp2_with fail
    refine NA.out.mono ?_
    rintro e wx ⟨rfl, hwx⟩
    obtain rfl : w = wx := hwx.symm
    go_wp2
    go_ret
    rw [HR.out]
    exact ⟨rfl, Below.refl _ _⟩
  | true =>
    rw [hb] at NA
    have NM := Lib.hid (ref_name w s hs)
    have DE := Lib.hid (fun w' (hb : Below w.heap.size w w') => rdecode_any w' (hT.below hb) s (by omega))
    have HCE : Hid (chkE N s = if nameL s = N then (if (decX s).isSome then 0 else 4) else 9) := Lib.hid (by rw [chkE, if_pos hb])
    clear hb
    obtain ⟨NL, hNL⟩ : ∃ NL : ByteArray, NL = ⟨(nameL s).toArray⟩ := ⟨_, rfl⟩
    obtain ⟨NN, hNN⟩ : ∃ NN : ByteArray, NN = ⟨N.toArray⟩ := ⟨_, rfl⟩
    have tl : NL.toList = nameL s := by rw [hNL, Lib.toList_data]
    have tn : NN.toList = N := by rw [hNN, Lib.toList_data]
    rw [← hNL] at NM
    rw [← hNN] at NA ⊢
    clear hNL hNN
    by_cases hne : nameL s = N
    · have heq : (NL.toList == NN.toList) = true := by rw [tl, tn, beq_iff_eq]; exact hne
      have HR : Hid (chkE N s = if (decX s).isSome then 0 else 4) := Lib.hid (by rw [HCE.out, if_pos hne])
      clear hne tl tn HCE
      go_enter Tryz.func30, Tryz.ntmps30
      go_wp2_with fail
      refine NA.out.mono ?_
      rintro e wx ⟨rfl, hwx⟩
      obtain rfl : w = wx := hwx.symm
      go_wp2_with fail
      refine NM.out.mono ?_
      rintro e w1 ⟨rfl, hb1⟩
      have HB1 := Lib.hid hb1
      have DE1 := Lib.hid (DE.out w1 HB1.out)
      clear hb1 DE NM NA
      unfold RDecPost at DE1
      cases hd : decX s with
      | none =>
        rw [hd] at DE1
        have HR2 : Hid (chkE N s = 4) := Lib.hid (by rw [HR.out, hd]; rfl)
        clear hd HR
        go_wp2_with fail
        refine DE1.out.mono ?_
        rintro e w4 ⟨rfl, hb4⟩
        have HB4 := Lib.hid (HB1.out.trans (hb4.mono HB1.out.size))
        clear hb4 DE1
        go_wp2
        go_ret
        rw [HR2.out]
        exact ⟨rfl, HB4.out⟩
      | some L =>
        rw [hd] at DE1
        have HR2 : Hid (chkE N s = 0) := Lib.hid (by rw [HR.out, hd]; rfl)
        clear hd HR
        go_wp2_with fail
        refine DE1.out.mono ?_
        rintro e w4 ⟨r, v, rfl, _, hb4⟩
        have HB4 := Lib.hid (HB1.out.trans (hb4.mono HB1.out.size))
        clear hb4 DE1
        go_wp2
        go_ret
        rw [HR2.out]
        exact ⟨rfl, HB4.out⟩
    · have heq : (NL.toList == NN.toList) = false := by rw [tl, tn, beq_eq_false_iff_ne]; exact hne
      have HR : Hid (chkE N s = 9) := Lib.hid (by rw [HCE.out, if_neg hne])
      clear hne tl tn HCE DE
      go_enter Tryz.func30, Tryz.ntmps30
      go_wp2_with fail
      refine NA.out.mono ?_
      rintro e wx ⟨rfl, hwx⟩
      obtain rfl : w = wx := hwx.symm
      go_wp2_with fail
      refine NM.out.mono ?_
      rintro e w1 ⟨rfl, hb1⟩
      have HB1 := Lib.hid hb1
      clear hb1 NM NA
      go_wp2
      go_ret
      rw [HR.out]
      exact ⟨rfl, HB1.out⟩
end Go.Proofs.YtpbhkaokgpacoaaGreatDoor.Sh
