import Derived.Test.YthcjjekkjbidlaaGreatDoorZPStDec3
import Derived.Test.YthcjjekkjbidlaaGreatDoorZPStDecode
set_option linter.unusedSimpArgs false
set_option linter.unusedVariables false
/-
  The contract of the program's Check of a stat index's file.
-/
namespace Go.Proofs.YthcjjekkjbidlaaGreatDoor.Sh
open Go.RowKit Go.Maps Go.Proofs.YthcjjekkjbidlaaGreatDoor.Rf Go.Proofs.YthcjjekkjbidlaaGreatDoor.Rd Go.Proofs.YthcjjekkjbidlaaGreatDoor.St

theorem paB_iff (H : List UInt8) : paB H = true ↔ H.length = 64 ∧ H.all hexB = true := by
  rw [paB]
  have ha := unhx_all H
  constructor
  · intro h
    cases hu : unhx H with
    | none => rw [hu] at h; cases h
    | some m =>
      rw [hu] at h ha
      have hl := unhx_length H m hu
      have h32 : m.length = 32 := by simpa using h
      refine ⟨by omega, ?_⟩
      have : (decide (H.length % 2 = 0) && H.all fun c => decide (dg c < 16)) = true := ha.symm
      rw [Bool.and_eq_true] at this
      exact this.2
  · rintro ⟨h1, h2⟩
    have : (unhx H).isSome = true := by rw [ha, Bool.and_eq_true]; exact ⟨by rw [decide_eq_true_iff]; omega, h2⟩
    obtain ⟨m, hm⟩ := Option.isSome_iff_exists.1 this
    have hl := unhx_length H m hm
    rw [hm]
    show decide (m.length = 32) = true
    rw [decide_eq_true_iff]; omega
theorem namB_iff (N : List UInt8) : namB N = true ↔ ∃ H, N = preL ++ (H ++ sufL) ∧ paB H = true := by
  rw [namB, decide_eq_true_iff]
  constructor
  · rintro ⟨h1, h2, h3, h4⟩
    refine ⟨midL N, ?_, (paB_iff _).2 ⟨by rw [midL, List.length_take, List.length_drop, h1]; rfl, h4⟩⟩
    have e1 : N = N.take 5 ++ N.drop 5 := (List.take_append_drop 5 N).symm
    have e2 : N.drop 5 = (N.drop 5).take 64 ++ (N.drop 5).drop 64 := (List.take_append_drop 64 _).symm
    rw [List.drop_drop, h3] at e2
    rw [h2, e2] at e1
    exact e1
  · rintro ⟨H, rfl, h⟩
    obtain ⟨h1, h2⟩ := (paB_iff H).1 h
    have hp : preL.length = 5 := rfl
    have hz : sufL.length = 3 := rfl
    refine ⟨by rw [List.length_append, List.length_append, h1]; rfl, by rw [List.take_left' hp], ?_, ?_⟩
    · rw [← List.append_assoc, List.drop_left' (by rw [List.length_append, h1, hp])]
    · rw [midL, List.drop_left' hp, List.take_left' h1]; exact h2
/-- What the program's two cuts leave. -/
def cutN (N : List UInt8) : List UInt8 := Lib.trimSuffix (Lib.trimPrefix N preL) sufL
theorem named_cuts (N : List UInt8) : (Lib.hasPrefix N preL && (Lib.hasSuffix (Lib.trimPrefix N preL) sufL && paB (cutN N))) = namB N := by
  rw [Bool.eq_iff_iff, Bool.and_eq_true, Bool.and_eq_true, namB_iff]
  constructor
  · rintro ⟨h1, h2, h3⟩
    obtain ⟨R, hR⟩ := List.isPrefixOf_iff_prefix.1 h1
    have e1 : Lib.trimPrefix N preL = R := by rw [Lib.trimPrefix, if_pos h1, ← hR, List.drop_left' rfl]
    rw [e1] at h2
    obtain ⟨H, hH⟩ := List.isSuffixOf_iff_suffix.1 h2
    have e2 : cutN N = H := by
      rw [cutN, e1, Lib.trimSuffix, if_pos h2, ← hH]
      rw [List.length_append, Nat.add_sub_cancel, List.take_left' rfl]
    rw [e2] at h3
    exact ⟨H, by rw [hH, hR], h3⟩
  · rintro ⟨H, rfl, h⟩
    have h1 : Lib.hasPrefix (preL ++ (H ++ sufL)) preL = true := List.isPrefixOf_iff_prefix.2 ⟨_, rfl⟩
    have e1 : Lib.trimPrefix (preL ++ (H ++ sufL)) preL = H ++ sufL := by rw [Lib.trimPrefix, if_pos h1, List.drop_left' rfl]
    have h2 : Lib.hasSuffix (H ++ sufL) sufL = true := List.isSuffixOf_iff_suffix.2 ⟨_, rfl⟩
    have e2 : cutN (preL ++ (H ++ sufL)) = H := by
      rw [cutN, e1, Lib.trimSuffix, if_pos h2, List.length_append, Nat.add_sub_cancel, List.take_left' rfl]
    rw [e1, e2]
    exact ⟨h1, h2, h⟩
theorem trimPrefix_le (s p : List UInt8) : (Lib.trimPrefix s p).length ≤ s.length := by
  rw [Lib.trimPrefix]; split
  · rw [List.length_drop]; omega
  · exact Nat.le_refl _
theorem trimSuffix_le (s p : List UInt8) : (Lib.trimSuffix s p).length ≤ s.length := by
  rw [Lib.trimSuffix]; split
  · rw [List.length_take]; omega
  · exact Nat.le_refl _
/-- What Check answers. -/
def chkE (N s : List UInt8) : Int := if namB N then (if nameL s = N then (if (decX s).isSome then 0 else 4) else 9) else 10
set_option maxHeartbeats 4000000 in
set_option maxRecDepth 100000 in
theorem check_any (w : World) (N s : List UInt8) (hN : N.length ≤ 140737488351232) (hs : s.length ≤ 140737488351232) :
    Calls Tryz.prog 41 #[.string ⟨N.toArray⟩, .string ⟨s.toArray⟩] w fun e w' => e = .returned (.int .i64 (chkE N s)) ∧ Below w.heap.size w w' := by
  have hpl := trimPrefix_le N preL
  have hsl := trimSuffix_le (Lib.trimPrefix N preL) sufL
  have CP : Hid (Calls Tryz.prog 60 #[.string ⟨N.toArray⟩, .string ⟨#[115, 116, 97, 116, 45]⟩] w fun e w' => e = .returned (.tuple #[.string ⟨(Lib.trimPrefix N preL).toArray⟩, .bool (Lib.hasPrefix N preL)]) ∧ w' = w) := Lib.hid (Tryz.strings_CutPrefix ⟨N.toArray⟩ ⟨#[115, 116, 97, 116, 45]⟩ w)
  have CS : Hid (Calls Tryz.prog 90 #[.string ⟨(Lib.trimPrefix N preL).toArray⟩, .string ⟨#[46, 115, 120]⟩] w fun e w' => e = .returned (.tuple #[.string ⟨(cutN N).toArray⟩, .bool (Lib.hasSuffix (Lib.trimPrefix N preL) sufL)]) ∧ w' = w) := Lib.hid (Tryz.strings_CutSuffix ⟨(Lib.trimPrefix N preL).toArray⟩ ⟨#[46, 115, 120]⟩ w (by show (Lib.trimPrefix N preL).length ≤ _; omega))
  have PA := Lib.hid (parse_any w (cutN N) (by rw [cutN]; omega))
  have HC := Lib.hid (named_cuts N)
  obtain ⟨b3, hb3⟩ : ∃ b3, b3 = paB (cutN N) := ⟨_, rfl⟩
  obtain ⟨pe, hpe⟩ : ∃ pe, pe = paE (cutN N) := ⟨_, rfl⟩
  have hpe2 : pe = if b3 then 0 else 4 := by rw [hpe, hb3, paE]
  unfold PaPost at PA
  rw [← hb3] at HC
  rw [← hpe] at PA
  generalize Lib.hasPrefix N preL = b1 at *
  generalize Lib.hasSuffix (Lib.trimPrefix N preL) sufL = b2 at *
  generalize cutN N = T2 at *
  generalize Lib.trimPrefix N preL = T1 at *
  clear hpl hsl hb3 hpe
  by_cases hb : (b1 && (b2 && b3)) = true
  · obtain ⟨rfl, h23⟩ := Bool.and_eq_true_iff.1 hb
    obtain ⟨rfl, rfl⟩ := Bool.and_eq_true_iff.1 h23
    obtain rfl : pe = 0 := by simpa using hpe2
    have HNB : Hid (namB N = true) := Lib.hid HC.out.symm
    clear hb h23 hpe2 HC
    have NM := Lib.hid (fun w => name_any w s hs)
    have DE := Lib.hid (fun w => decode_any w s (by omega))
    have HCE : Hid (chkE N s = if nameL s = N then (if (decX s).isSome then 0 else 4) else 9) := Lib.hid (by rw [chkE, if_pos HNB.out])
    go_enter Tryz.func41, Tryz.ntmps41
    go_wp2_with fail
    refine CP.out.mono ?_
    rintro e wx ⟨rfl, hwx⟩
    obtain rfl : w = wx := hwx.symm
    go_wp2_with fail
    refine CS.out.mono ?_
    rintro e wx ⟨rfl, hwx⟩
    obtain rfl : w = wx := hwx.symm
    go_wp2_with fail
    refine PA.out.mono ?_
    rintro e w1 ⟨id, hid, rfl, hb1⟩
    have I32 := Lib.hid (infoId hid)
    have O32 := Lib.hid (oneId id)
    have Z32 : Hid (32 = (Lib.byteCells id).toArray.size) := Lib.hid (by rw [List.size_toArray, Lib.byteCells_length, hid])
    have HB1 := Lib.hid hb1
    clear hb1 hid
    go_wp2_with (first
      | (refine wpList_store_new rfl rfl IdT' (.tmp 8) (.tmp 25) rfl (Lib.byteCells id).toArray rfl rfl I32.out Z32.out O32.out ?_
         intro w2 hq2 hb2 hs2
         have HB2 : Hid (Below w.heap.size w w2) := Lib.hid (HB1.out.trans (hb2.mono HB1.out.size))
         clear hq2 hb2 hs2)
      | fail)
    have NM2 := Lib.hid (NM.out w2)
    obtain ⟨NL, hNL⟩ : ∃ NL : ByteArray, NL = ⟨(nameL s).toArray⟩ := ⟨_, rfl⟩
    obtain ⟨NN, hNN⟩ : ∃ NN : ByteArray, NN = ⟨N.toArray⟩ := ⟨_, rfl⟩
    have tl : NL.toList = nameL s := by rw [hNL, Lib.toList_data]
    have tn : NN.toList = N := by rw [hNN, Lib.toList_data]
    rw [← hNL] at NM2
    rw [← hNN]
    clear hNL hNN NM
    by_cases hne : nameL s = N
    · have heq : (NL.toList == NN.toList) = true := by rw [tl, tn, beq_iff_eq]; exact hne
      have HR : Hid (chkE N s = if (decX s).isSome then 0 else 4) := Lib.hid (by rw [HCE.out, if_pos hne])
      clear hne tl tn HCE
      go_wp2_with fail
      refine NM2.out.mono ?_
      rintro e w3 ⟨rfl, hb3⟩
      have HB3 := Lib.hid (HB2.out.trans (hb3.mono HB2.out.size))
      have DE3 := Lib.hid (DE.out w3)
      clear hb3 NM2 DE
      cases hd : decX s with
      | none =>
        rw [hd] at DE3
        have HR2 : Hid (chkE N s = 4) := Lib.hid (by rw [HR.out, hd]; rfl)
        clear hd HR
        go_wp2_with fail
        refine DE3.out.mono ?_
        rintro e w4 ⟨rfl, hb4⟩
        have HB4 := Lib.hid (HB3.out.trans (hb4.mono HB3.out.size))
        clear hb4 DE3
        go_wp2
        go_ret
        rw [HR2.out]
        exact ⟨rfl, HB4.out⟩
      | some L =>
        rw [hd] at DE3
        have HR2 : Hid (chkE N s = 0) := Lib.hid (by rw [HR.out, hd]; rfl)
        clear hd HR
        go_wp2_with fail
        refine DE3.out.mono ?_
        rintro e w4 ⟨g, b, rfl, _, hb4⟩
        have HB4 := Lib.hid (HB3.out.trans (hb4.mono HB3.out.size))
        clear hb4 DE3
        go_wp2
        go_ret
        rw [HR2.out]
        exact ⟨rfl, HB4.out⟩
    · have heq : (NL.toList == NN.toList) = false := by rw [tl, tn, beq_eq_false_iff_ne]; exact hne
      have HR : Hid (chkE N s = 9) := Lib.hid (by rw [HCE.out, if_neg hne])
      clear hne tl tn
      go_wp2_with fail
      refine NM2.out.mono ?_
      rintro e w3 ⟨rfl, hb3⟩
      have HB3 := Lib.hid (HB2.out.trans (hb3.mono HB2.out.size))
      clear hb3 NM2
      go_wp2
      go_ret
      rw [HR.out]
      exact ⟨rfl, HB3.out⟩
  · have HNB : Hid (namB N = false) := Lib.hid (by rw [← HC.out]; simpa using hb)
    have HR : Hid (chkE N s = 10) := Lib.hid (by rw [chkE, if_neg (by rw [HNB.out]; decide)])
    clear HC
    cases b1 with
    | false =>
      clear hb hpe2 HNB
      go_enter Tryz.func41, Tryz.ntmps41
      go_wp2_with fail
      refine CP.out.mono ?_
      rintro e wx ⟨rfl, hwx⟩
      obtain rfl : w = wx := hwx.symm
      go_wp2_with fail
      refine CS.out.mono ?_
      rintro e wx ⟨rfl, hwx⟩
      obtain rfl : w = wx := hwx.symm
      go_wp2_with fail
      refine PA.out.mono ?_
      rintro e w1 ⟨id, hid, rfl, hb1⟩
      have I32 := Lib.hid (infoId hid)
      have O32 := Lib.hid (oneId id)
      have Z32 : Hid (32 = (Lib.byteCells id).toArray.size) := Lib.hid (by rw [List.size_toArray, Lib.byteCells_length, hid])
      have HB1 := Lib.hid hb1
      clear hb1 hid
      go_wp2_with (first
        | (refine wpList_store_new rfl rfl IdT' (.tmp 8) (.tmp 25) rfl (Lib.byteCells id).toArray rfl rfl I32.out Z32.out O32.out ?_
           intro w2 hq2 hb2 hs2
           have HB2 : Hid (Below w.heap.size w w2) := Lib.hid (HB1.out.trans (hb2.mono HB1.out.size))
           clear hq2 hb2 hs2)
        | fail)
      go_ret
      rw [HR.out]
      exact ⟨rfl, HB2.out⟩
    | true =>
      cases b2 with
      | false =>
        clear hb hpe2 HNB
        go_enter Tryz.func41, Tryz.ntmps41
        go_wp2_with fail
        refine CP.out.mono ?_
        rintro e wx ⟨rfl, hwx⟩
        obtain rfl : w = wx := hwx.symm
        go_wp2_with fail
        refine CS.out.mono ?_
        rintro e wx ⟨rfl, hwx⟩
        obtain rfl : w = wx := hwx.symm
        go_wp2_with fail
        refine PA.out.mono ?_
        rintro e w1 ⟨id, hid, rfl, hb1⟩
        have I32 := Lib.hid (infoId hid)
        have O32 := Lib.hid (oneId id)
        have Z32 : Hid (32 = (Lib.byteCells id).toArray.size) := Lib.hid (by rw [List.size_toArray, Lib.byteCells_length, hid])
        have HB1 := Lib.hid hb1
        clear hb1 hid
        go_wp2_with (first
          | (refine wpList_store_new rfl rfl IdT' (.tmp 8) (.tmp 25) rfl (Lib.byteCells id).toArray rfl rfl I32.out Z32.out O32.out ?_
             intro w2 hq2 hb2 hs2
             have HB2 : Hid (Below w.heap.size w w2) := Lib.hid (HB1.out.trans (hb2.mono HB1.out.size))
             clear hq2 hb2 hs2)
          | fail)
        go_ret
        rw [HR.out]
        exact ⟨rfl, HB2.out⟩
      | true =>
        obtain rfl : b3 = false := by cases b3 with
          | false => rfl
          | true => exact absurd rfl hb
        obtain rfl : pe = 4 := by simpa using hpe2
        clear hb hpe2 HNB
        go_enter Tryz.func41, Tryz.ntmps41
        go_wp2_with fail
        refine CP.out.mono ?_
        rintro e wx ⟨rfl, hwx⟩
        obtain rfl : w = wx := hwx.symm
        go_wp2_with fail
        refine CS.out.mono ?_
        rintro e wx ⟨rfl, hwx⟩
        obtain rfl : w = wx := hwx.symm
        go_wp2_with fail
        refine PA.out.mono ?_
        rintro e w1 ⟨id, hid, rfl, hb1⟩
        have I32 := Lib.hid (infoId hid)
        have O32 := Lib.hid (oneId id)
        have Z32 : Hid (32 = (Lib.byteCells id).toArray.size) := Lib.hid (by rw [List.size_toArray, Lib.byteCells_length, hid])
        have HB1 := Lib.hid hb1
        clear hb1 hid
        go_wp2_with (first
          | (refine wpList_store_new rfl rfl IdT' (.tmp 8) (.tmp 25) rfl (Lib.byteCells id).toArray rfl rfl I32.out Z32.out O32.out ?_
             intro w2 hq2 hb2 hs2
             have HB2 : Hid (Below w.heap.size w w2) := Lib.hid (HB1.out.trans (hb2.mono HB1.out.size))
             clear hq2 hb2 hs2)
          | fail)
        go_ret
        rw [HR.out]
        exact ⟨rfl, HB2.out⟩
end Go.Proofs.YthcjjekkjbidlaaGreatDoor.Sh
