import Derived.Test.YtpbhkaokgpacoaaGreatDoorZStNil
import Derived.Test.YtpbhkaokgpacoaaGreatDoorZStTabs
set_option linter.unusedSimpArgs false
set_option linter.unusedVariables false
/-
  The walk of the law: the chapter's numbers and refusals are as written.
-/
namespace Go.Proofs.YtpbhkaokgpacoaaGreatDoor.Sh
open Go.RowKit Go.Proofs.YtpbhkaokgpacoaaGreatDoor.Rf Go.Proofs.YtpbhkaokgpacoaaGreatDoor.Rd Go.Proofs.YtpbhkaokgpacoaaGreatDoor.St
theorem hexB_hx : ∀ n, n < 16 → hexB (hx n) = true := by decide
theorem hexs_all (l : List UInt8) : (hexs l).all hexB = true := by
  induction l with
  | nil => rfl
  | cons c l ih =>
    have := UInt8.toNat_lt c
    rw [hexs, List.flatMap_cons, List.all_append, ← hexs, ih, List.all_cons, List.all_cons, hexB_hx _ (by omega), hexB_hx _ (by omega)]
    rfl
theorem nameL_is (s : List UInt8) : namB (nameL s) = true := by
  rw [namB_iff]
  exact ⟨hexs (Sh.sum s), by rw [nameL, List.append_assoc]; rfl, (paB_iff _).2 ⟨by rw [hexs_length, sum_length], hexs_all _⟩⟩
/-- The bytes of an index of none. -/
def none0 : List UInt8 := [109, 115, 116, 49, 0]
theorem encX_none : encX [] = none0 := by decide
theorem decX_none : decX none0 = some [] := by rfl
theorem chk_x (s : List UInt8) : chkE [120] s = 10 := by rw [chkE, if_neg (by decide)]
theorem chk_own : chkE (nameL none0) none0 = 0 := by rw [chkE, if_pos (nameL_is _), if_pos rfl, decX_none]; rfl
end Go.Proofs.YtpbhkaokgpacoaaGreatDoor.Sh
namespace Go.Proofs.YtpbhkaokgpacoaaGreatDoor.St
open Go.RowKit Go.Maps Go.WideMaps Go.Proofs.YtpbhkaokgpacoaaGreatDoor.Rf Go.Proofs.YtpbhkaokgpacoaaGreatDoor.Rd

set_option linter.unusedSimpArgs false in
set_option maxHeartbeats 16000000 in
set_option maxRecDepth 100000 in
theorem names_law (w : World) :
    Calls Tryz.prog 5 #[] w fun e w' => e = .returned (.bool true) ∧ Below w.heap.size w w' := by
  have NW := Lib.hid (new_any w)
  have GE := Lib.hid (fun w => nil_get w ⟨#[47, 102]⟩)
  have SN := Lib.hid source_new
  have CH := Lib.hid (fun w a => nil_changed w (.pointer none) (.pointer a) (.inl rfl) ⟨_, rfl⟩ ⟨_, rfl⟩)
  have KE := Lib.hid (fun w => nil_keep w (.slice none 0 0))
  have EN := Lib.hid nil_encode
  have FR := Lib.hid (fun w => nil_fresh w ⟨#[47, 102]⟩ zeroS)
  have SE' := Lib.hid nil_set
  have DR := Lib.hid (fun w => nil_drop w ⟨#[47, 102]⟩)
  have LE := Lib.hid nil_len
  have AL := Lib.hid nil_all
  have PN := Lib.hid (fun w => Sh.name_any w Sh.none0 (by decide))
  have PX := Lib.hid (fun w => Sh.check_any w [120] Sh.none0 (by decide) (by decide))
  have PC := Lib.hid (fun w => Sh.check_any w (Sh.nameL Sh.none0) Sh.none0 (by rw [Sh.nameL, List.length_append, List.length_append, Sh.hexs_length, Sh.sum_length]; decide) (by decide))
  simp only [Sh.chk_x, Sh.chk_own] at PX PC
  obtain ⟨nm, hnm⟩ : ∃ nm : ByteArray, nm = ⟨(Sh.nameL Sh.none0).toArray⟩ := ⟨_, rfl⟩
  simp only [← hnm] at PN PC
  have ZOK := Lib.hid zero_fits.en
  clear hnm
  go_enter Tryz.func5, Tryz.ntmps5
  go_wp2_with fail
  refine NW.out.mono ?_
  rintro ex w1 ⟨g, b, rfl, hi1, hb1⟩
  have HI1 := Lib.hid hi1; have HB1 := Lib.hid hb1
  clear hi1 hb1 NW
  unfold ptr
  go_wp2_with fail
  refine (GE.out w1).mono ?_
  rintro ex w2 ⟨rfl, hb2⟩
  have HB2 := Lib.hid (HB1.out.trans (hb2.mono HB1.out.size)); have HI2 := Lib.hid (HI1.out.below hb2)
  clear hb2 GE HI1
  go_wp2_with (first
    | (refine wpList_store_new (by first | rfl | rw [one_size]) rfl _ _ _ rfl zeroS.cells.toArray rfl rfl ZOK.out.info ZOK.out.z ZOK.out.one ?_
       intro w3 hq3 hb3 hs3
       have HB3 := Lib.hid (HB2.out.trans (hb3.mono HB2.out.size)); have HI3 := Lib.hid (HI2.out.below hb3)
       clear hq3 hb3 hs3)
    | fail)
  refine (SN.out _).mono ?_
  rintro ex w4 ⟨⟨a, rfl⟩, hb4⟩
  have HB4 := Lib.hid (HB3.out.trans (hb4.mono HB3.out.size)); have HI4 := Lib.hid (HI3.out.below hb4)
  clear hb4 SN HI2 HI3
  go_wp2_with fail
  refine (CH.out w4 a).mono ?_
  rintro ex w5 ⟨rfl, hb5⟩
  have HB5 := Lib.hid (HB4.out.trans (hb5.mono HB4.out.size)); have HI5 := Lib.hid (HI4.out.below hb5)
  clear hb5 CH HI4
  go_wp2_with fail
  refine (nil_changed w5 (ptr g) (.pointer none) (.inr rfl) ⟨_, rfl⟩ ⟨_, rfl⟩).mono ?_
  rintro ex w6 ⟨rfl, hb6⟩
  have HB6 := Lib.hid (HB5.out.trans (hb6.mono HB5.out.size)); have HI6 := Lib.hid (HI5.out.below hb6)
  clear hb6 HI5
  go_wp2_with fail
  refine (KE.out w6).mono ?_
  rintro ex w7 ⟨rfl, hb7⟩
  have HB7 := Lib.hid (HB6.out.trans (hb7.mono HB6.out.size)); have HI7 := Lib.hid (HI6.out.below hb7)
  clear hb7 HI6 KE
  go_wp2_with fail
  refine (EN.out w7).mono ?_
  rintro ex w8 ⟨rfl, hb8⟩
  have HB8 := Lib.hid (HB7.out.trans (hb8.mono HB7.out.size)); have HI8 := Lib.hid (HI7.out.below hb8)
  clear hb8 HI7 EN
  go_wp2_with fail
  refine (FR.out w8).mono ?_
  rintro ex w9 ⟨rfl, hb9⟩
  have HB9 := Lib.hid (HB8.out.trans (hb9.mono HB8.out.size)); have HI9 := Lib.hid (HI8.out.below hb9)
  clear hb9 HI8 FR
  go_wp2_with (first
    | (refine wpList_store_new (by first | rfl | rw [one_size]) rfl _ _ _ rfl zeroS.cells.toArray rfl rfl ZOK.out.info ZOK.out.z ZOK.out.one ?_
       intro w10 hq10 hb10 hs10
       have HB10 := Lib.hid (HB9.out.trans (hb10.mono HB9.out.size)); have HI10 := Lib.hid (HI9.out.below hb10)
       clear hq10 hb10 hs10)
    | fail)
  have EC := encode_any _ w10 g b [] HI10.out (by simp)
  unfold EncPost at EC
  rw [Sh.encX_none] at EC
  have EC := Lib.hid EC
  unfold ptr at EC
  refine EC.out.mono ?_
  rintro ex w11 ⟨rfl, hb11⟩
  have HB11 := Lib.hid (HB10.out.trans (hb11.mono HB10.out.size))
  clear hb11 EC HI9 HI10
  go_wp2_with fail
  refine (SE'.out w11).mono ?_
  rintro ex w12 ⟨rfl, hb12⟩
  have HB12 := Lib.hid (HB11.out.trans (hb12.mono HB11.out.size))
  clear hb12 SE'
  go_wp2_with fail
  refine (DR.out w12).mono ?_
  rintro ex w13 ⟨rfl, hb13⟩
  have HB13 := Lib.hid (HB12.out.trans (hb13.mono HB12.out.size))
  clear hb13 DR
  go_wp2_with fail
  refine (LE.out w13).mono ?_
  rintro ex w14 ⟨rfl, hb14⟩
  have HB14 := Lib.hid (HB13.out.trans (hb14.mono HB13.out.size))
  clear hb14 LE
  go_wp2_with fail
  refine (AL.out w14).mono ?_
  rintro ex w15 ⟨rfl, hb15⟩
  have HB15 := Lib.hid (HB14.out.trans (hb15.mono HB14.out.size))
  clear hb15 AL
  go_wp2_with fail
  refine (PX.out w15).mono ?_
  rintro ex w16 ⟨rfl, hb16⟩
  have HB16 := Lib.hid (HB15.out.trans (hb16.mono HB15.out.size))
  clear hb16 PX
  go_wp2_with fail
  refine (PN.out w16).mono ?_
  rintro ex w17 ⟨rfl, hb17⟩
  have HB17 := Lib.hid (HB16.out.trans (hb17.mono HB16.out.size))
  clear hb17 PN
  go_wp2_with fail
  refine (PC.out w17).mono ?_
  rintro ex w18 ⟨rfl, hb18⟩
  have HB18 := Lib.hid (HB17.out.trans (hb18.mono HB17.out.size))
  clear hb18 PC
  go_wp2
  go_ret
  exact ⟨rfl, HB18.out⟩
end Go.Proofs.YtpbhkaokgpacoaaGreatDoor.St
