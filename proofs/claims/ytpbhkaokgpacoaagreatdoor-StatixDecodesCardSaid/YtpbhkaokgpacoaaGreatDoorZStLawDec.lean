import Derived.Test.YtpbhkaokgpacoaaGreatDoorZStRCheck
import Derived.Test.YtpbhkaokgpacoaaGreatDoorZStTold
set_option linter.unusedSimpArgs false
set_option linter.unusedVariables false
/-
  The walk of the law: any bytes are read as the right stat index, or refused.
-/
namespace Go.Proofs.YtpbhkaokgpacoaaGreatDoor.St
open Go.RowKit Go.Maps Go.WideMaps Go.Proofs.YtpbhkaokgpacoaaGreatDoor.Rf Go.Proofs.YtpbhkaokgpacoaaGreatDoor.Rd

set_option linter.unusedSimpArgs false in
set_option maxHeartbeats 8000000 in
set_option maxRecDepth 100000 in
theorem decodes_law (w : World) (hT : Nm.Tabs w) (s N : List UInt8) (hs : s.length ≤ 140737488351232) (hN : N.length ≤ 140737488351232) :
    Calls Tryz.prog 4 #[.string ⟨s.toArray⟩, .string ⟨N.toArray⟩] w fun e w' => e = .returned (.bool true) ∧ Below w.heap.size w w' := by
  have RD := Lib.hid (rdecode_any w hT s (by omega))
  have PD := Lib.hid (fun w => decode_any w s (by omega))
  have PN := Lib.hid (fun w => Sh.name_any w s hs)
  have RN := Lib.hid (fun w => Sh.ref_name w s hs)
  have PC := Lib.hid (fun w => Sh.check_any w N s hN hs)
  have RC := Lib.hid (fun w' (hb : Below w.heap.size w w') => Sh.rcheck_any w' (hT.below hb) N s hs)
  have HBK := Lib.hid (fun L (h : decX s = some L) => decX_back (by omega) h)
  obtain ⟨c, hc⟩ : ∃ c, c = Sh.chkE N s := ⟨_, rfl⟩
  obtain ⟨nm, hnm⟩ : ∃ nm : ByteArray, nm = ⟨(Sh.nameL s).toArray⟩ := ⟨_, rfl⟩
  simp only [← hc] at PC RC
  simp only [← hnm] at PN RN
  clear hc hnm hs hN hT
  go_enter Tryz.func4, Tryz.ntmps4
  go_wp2_with fail
  refine RD.out.mono ?_
  rintro ex w1 hp1
  cases hd : decX s with
  | none =>
    rw [hd] at hp1
    obtain ⟨rfl, hb1⟩ := hp1
    have HB1 := Lib.hid hb1
    have PD1 := PD.out w1
    rw [hd] at PD1
    have PD1 := Lib.hid PD1
    clear hb1 PD RD hd HBK
    go_wp2_with fail
    refine PD1.out.mono ?_
    rintro ex w2 ⟨rfl, hb2⟩
    have HB2 := Lib.hid (HB1.out.trans (hb2.mono HB1.out.size))
    clear hb2 PD1
    go_wp2_with fail
    refine (PN.out w2).mono ?_
    rintro ex w3 ⟨rfl, hb3⟩
    have HB3 := Lib.hid (HB2.out.trans (hb3.mono HB2.out.size))
    clear hb3 PN
    go_wp2_with fail
    refine (RN.out w3).mono ?_
    rintro ex w4 ⟨rfl, hb4⟩
    have HB4 := Lib.hid (HB3.out.trans (hb4.mono HB3.out.size))
    clear hb4 RN
    go_wp2_with fail
    refine (PC.out w4).mono ?_
    rintro ex w5 ⟨rfl, hb5⟩
    have HB5 := Lib.hid (HB4.out.trans (hb5.mono HB4.out.size))
    clear hb5 PC
    go_wp2_with fail
    refine (RC.out w5 HB5.out).mono ?_
    rintro ex w6 ⟨rfl, hb6⟩
    have HB6 := Lib.hid (HB5.out.trans (hb6.mono HB5.out.size))
    clear hb6 RC
    go_wp2
    go_ret
    exact ⟨rfl, HB6.out⟩
  | some L =>
    rw [hd] at hp1
    obtain ⟨r, v, rfl, hr1, hb1⟩ := hp1
    have HR1 := Lib.hid hr1
    have HB1 := Lib.hid hb1
    have PD1 := PD.out w1
    rw [hd] at PD1
    have PD1 := Lib.hid PD1
    have HBL := Lib.hid (HBK.out L hd)
    clear hr1 hb1 PD RD hd HBK
    unfold ptr
    go_wp2_with fail
    refine PD1.out.mono ?_
    rintro ex w2 ⟨g, b, rfl, hi2, hb2⟩
    have HI2 := Lib.hid (hi2.mono HB1.out.size)
    have HR2 := Lib.hid (HR1.out.below hb2)
    have HB2 := Lib.hid (HB1.out.trans (hb2.mono HB1.out.size))
    clear hi2 hb2 PD1 HR1
    unfold ptr
    go_wp2_with fail
    refine (PN.out w2).mono ?_
    rintro ex w3 ⟨rfl, hb3⟩
    have HI3 := Lib.hid (HI2.out.below hb3)
    have HR3 := Lib.hid (HR2.out.below hb3)
    have HB3 := Lib.hid (HB2.out.trans (hb3.mono HB2.out.size))
    clear hb3 PN HI2 HR2
    go_wp2_with fail
    refine (RN.out w3).mono ?_
    rintro ex w4 ⟨rfl, hb4⟩
    have HI4 := Lib.hid (HI3.out.below hb4)
    have HR4 := Lib.hid (HR3.out.below hb4)
    have HB4 := Lib.hid (HB3.out.trans (hb4.mono HB3.out.size))
    clear hb4 RN HI3 HR3
    go_wp2_with fail
    refine (PC.out w4).mono ?_
    rintro ex w5 ⟨rfl, hb5⟩
    have HI5 := Lib.hid (HI4.out.below hb5)
    have HR5 := Lib.hid (HR4.out.below hb5)
    have HB5 := Lib.hid (HB4.out.trans (hb5.mono HB4.out.size))
    clear hb5 PC HI4 HR4
    go_wp2_with fail
    refine (RC.out w5 HB5.out).mono ?_
    rintro ex w6 ⟨rfl, hb6⟩
    have HI6 := Lib.hid (HI5.out.below hb6)
    have HR6 := Lib.hid (HR5.out.below hb6)
    have HB6 := Lib.hid (HB5.out.trans (hb6.mono HB5.out.size))
    clear hb6 RC HI5 HR5
    have TO := Lib.hid (told_any w.heap.size w6 g b r v L HI6.out HR6.out HBL.out.2.2.2.1)
    unfold ptr at TO
    go_wp2_with fail
    refine TO.out.mono ?_
    rintro ex w7 ⟨rfl, hb7⟩
    have HR7 := Lib.hid (HR6.out.below hb7)
    have HB7 := Lib.hid (HB6.out.trans (hb7.mono HB6.out.size))
    have EN := Lib.hid (ref_encode w.heap.size w7 r v L HR7.out HBL.out.2.2.2.1)
    unfold ptr REncPost at EN
    rw [HBL.out.1] at EN
    clear hb7 TO HI6 HR6
    go_wp2_with fail
    refine EN.out.mono ?_
    rintro ex w8 ⟨rfl, hb8⟩
    have HB8 := Lib.hid (HB7.out.trans (hb8.mono HB7.out.size))
    clear hb8 EN
    go_wp2
    go_ret
    exact ⟨rfl, HB8.out⟩
end Go.Proofs.YtpbhkaokgpacoaaGreatDoor.St
