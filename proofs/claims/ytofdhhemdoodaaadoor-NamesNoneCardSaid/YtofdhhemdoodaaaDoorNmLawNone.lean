/-
  The walk of the statement NamesNone.
-/
import Derived.Test.YtofdhhemdoodaaaDoorNmBackPlain
import Derived.Test.YtofdhhemdoodaaaDoorNmRead
import Derived.Test.YtofdhhemdoodaaaDoorNmLawAre
import Derived.Laws.OwnMore
namespace Go.Proofs.YtofdhhemdoodaaaDoor.Nm
open Go.RowKit

/-- A text over and over. -/
def rep (c : List UInt8) : Nat → List UInt8
  | 0 => []
  | k + 1 => rep c k ++ c
theorem rep_len (c : List UInt8) : ∀ k, (rep c k).length = k * c.length
  | 0 => by simp [rep]
  | k + 1 => by rw [rep, List.length_append, rep_len c k, Nat.succ_mul]
theorem ba_append (P Q : ByteArray) : (P ++ Q).data.toList = P.data.toList ++ Q.data.toList := by simp [ByteArray.data_append]

theorem n1 : chkN (rep [195, 169] 64) = 0 := by decide +kernel
theorem n2 : chkN (rep [195, 169] 64 ++ [97]) = 10 := by decide +kernel
theorem n3 : chkN (rep [240, 159, 152, 128] 64) = 10 := by decide +kernel
theorem n4 : chkN ((rep [240, 159, 152, 128] 64).take 252) = 0 := by decide +kernel
theorem n5 : chkN [] = 10 := by decide +kernel
theorem n6 : chkN [255] = 10 := by decide +kernel
theorem n7 : chkN [239, 191, 189] = 0 := by decide +kernel
theorem n8 : chkN [97, 127] = 10 := by decide +kernel
theorem n9 : splitE (rep [47, 97] 16) = 0 := by decide +kernel
theorem n10 : splitE (rep [47, 97] 16 ++ [47, 97]) = 10 := by decide +kernel
theorem n11 : readR [92] = none := by decide +kernel
theorem n12 : readR [] = some [] := by decide +kernel
theorem n13 : joinE (List.replicate 17 []) = 10 := by decide +kernel
theorem n15 : (madeCells (Value.string ByteArray.empty).cells (17 * 1)).toList = (List.replicate 17 ([] : List UInt8)).map sv := by kernel_rfl
theorem n14 : joinE [] = 0 ∧ joinT [] = [47] := by decide +kernel

set_option maxHeartbeats 4000000 in
set_option maxRecDepth 100000 in
theorem none_any (w : World) (hZ : Tz w) (hE : Errs w) :
    Calls Tryd.prog 7 #[] w (TruePost w) := by
  go_enter Tryd.func7, Tryd.ntmps7
  go_wp2
  go_loop [1, 2] (fun vs vi => ∃ (k : Nat) (P : ByteArray), k ≤ 64 ∧ vs = .string P ∧ vi = .int .i64 k ∧ P.size = 2 * k ∧ Hid (P.data.toList = rep [195, 169] k)) (fun _ vi => 64 - (intOf vi).toNat)
  case atStart => exact ⟨0, ⟨#[]⟩, by omega, rfl, rfl, rfl, Lib.hid rfl⟩
  case round =>
    obtain ⟨k, P, hk, rfl, rfl, hP, HP⟩ := hrel
    by_cases hkn : k < 64
    · have ik : (k : Int) < 64 := by omega
      go_wp2
      go_round
      case rel => exact ⟨k + 1, P ++ ⟨#[195, 169]⟩, by omega, rfl, by go_num, by rw [ByteArray.size_append, hP]; show 2 * k + 2 = _; omega, Lib.hid (by rw [ba_append, HP.out]; rfl)⟩
      case measure => simp [intOf]; omega
    · obtain rfl : k = 64 := by omega
      obtain ⟨L, hL, HL⟩ : ∃ L : ByteArray, L = P ∧ L.size = 128 ∧ Hid (L.data.toList = rep [195, 169] 64) := ⟨P, rfl, by omega, HP⟩
      obtain ⟨hL1, HL⟩ := HL
      subst hL
      clear hP HP hk hkn
      go_wp2
      go_loop [3, 4] (fun vs vi => ∃ (k : Nat) (P : ByteArray), k ≤ 16 ∧ vs = .string P ∧ vi = .int .i64 k ∧ P.size = 2 * k ∧ Hid (P.data.toList = rep [47, 97] k)) (fun _ vi => 16 - (intOf vi).toNat)
      case atStart => exact ⟨0, ⟨#[]⟩, by omega, rfl, rfl, rfl, Lib.hid rfl⟩
      case round =>
        obtain ⟨k, P, hk, rfl, rfl, hP, HP⟩ := hrel
        by_cases hkn : k < 16
        · have ik : (k : Int) < 16 := by omega
          go_wp2
          go_round
          case rel => exact ⟨k + 1, P ++ ⟨#[47, 97]⟩, by omega, rfl, by go_num, by rw [ByteArray.size_append, hP]; show 2 * k + 2 = _; omega, Lib.hid (by rw [ba_append, HP.out]; rfl)⟩
          case measure => simp [intOf]; omega
        · obtain rfl : k = 16 := by omega
          obtain ⟨D, hD, hD1, HD⟩ : ∃ D : ByteArray, D = P ∧ D.size = 32 ∧ Hid (D.data.toList = rep [47, 97] 16) := ⟨P, rfl, by omega, HP⟩
          subst hD
          clear hP HP hk hkn
          have e9 : splitE D.data.toList = 0 := by rw [HD.out]; exact n9
          have e10 : splitE (D ++ ⟨#[47, 97]⟩).data.toList = 10 := by rw [ba_append, HD.out]; exact n10
          have hDz : (D ++ ⟨#[47, 97]⟩).size ≤ 34 := by rw [ByteArray.size_append, hD1]; decide
          have E9 := Lib.hid e9; have E10 := Lib.hid e10; have HDZ := Lib.hid hDz
          clear e9 e10 hDz
          go_wp2_with fail
          refine (split_any D w (by omega)).mono ?_
          rintro e w1 ⟨v1, rfl, _, hb1⟩
          rw [E9.out]
          have HBK := Lib.hid hb1
          go_wp2_with fail
          refine (split_any _ w1 (by have := HDZ.out; omega)).mono ?_
          rintro e w2 ⟨v2, rfl, _, hb2⟩
          rw [E10.out]
          replace HBK := Lib.hid (HBK.out.trans (hb2.mono HBK.out.size))
          clear E9 E10 hb1 hb2 HDZ
          obtain ⟨i0, hi, hz0, hz1, hz2⟩ := info_parts infoStr
          obtain ⟨w3, hmk, hown3, hg3⟩ := run_makeSlice_full (P := Tryd.prog) w2 w2.heap.size 29 9 i0 (.string ByteArray.empty) 1 Tryd.underlying29 hi hz0 hz1 .i64 .i64 17 (by omega) (by omega) (by unfold maxLen; omega) (Nat.le_refl _)
          have hb3 : Below w2.heap.size w2 w3 := (Below.refl _ _).grown hg3 (Nat.le_refl _) (by intro k hk; cases hk)
          have hcl := n15
          rw [hcl] at hown3
          have hmk2 : (Instr.makeSlice 29 (.int .i64 17) (.int .i64 17)).run Tryd.prog w2 = .ok (.slice (some ⟨w2.heap.size, 0, none⟩) 17 17) w3 := hmk
          clear hmk
          have HS3 := Lib.hid (StrsAt.of_owns (ns := List.replicate 17 []) hown3)
          replace HBK := Lib.hid (HBK.out.trans (hb3.mono HBK.out.size))
          clear hown3 hg3 hb3 hcl
          go_wp2_with fail
          refine (join_any _ _ w3 HS3.out (by intro x hx; rw [List.eq_of_mem_replicate hx]; unfold maxLen; simp)).mono ?_
          rintro e w4 ⟨rfl, hb4⟩
          rw [n13]
          replace HBK := Lib.hid (HBK.out.trans (hb4.mono HBK.out.size))
          clear hmk2 HS3 hb4
          generalize sv (joinT (List.replicate 17 [])) = j1
          go_wp2_with fail
          refine (join_any _ [] w4 (StrsAt.nil w4) (by simp)).mono ?_
          rintro e w5 ⟨rfl, hb5⟩
          rw [n14.1, n14.2]
          replace HBK := Lib.hid (HBK.out.trans (hb5.mono HBK.out.size))
          clear hb5
          rw [show sv [47] = .string ⟨#[47]⟩ from rfl]
          go_wp2_with fail
          refine (read_any ⟨#[92]⟩ w5 (hZ.below HBK.out) (hE.below HBK.out) (by decide) (.inl (by decide))).mono ?_
          rintro e w6 ⟨he, hb6⟩
          rw [ReadOut, show (⟨#[92]⟩ : ByteArray).data.toList = [92] from rfl, n11] at he
          have he' : e = .returned (.tuple #[.string ⟨#[]⟩, .int .i64 4]) := he
          subst he'
          replace HBK := Lib.hid (HBK.out.trans (hb6.mono HBK.out.size))
          clear hb6 he
          go_wp2_with fail
          refine (read_any ⟨#[]⟩ w6 (hZ.below HBK.out) (hE.below HBK.out) (by decide) (.inl (by decide))).mono ?_
          rintro e w7 ⟨he, hb7⟩
          rw [ReadOut, show (⟨#[]⟩ : ByteArray).data.toList = [] from rfl, n12] at he
          have he' : e = .returned (.tuple #[.string ⟨#[]⟩, .int .i64 0]) := he
          subst he'
          replace HBK := Lib.hid (HBK.out.trans (hb7.mono HBK.out.size))
          clear hb7 he
          go_wp2
          go_loop [17, 18] (fun vs vi => ∃ (k : Nat) (P : ByteArray), k ≤ 64 ∧ vs = .string P ∧ vi = .int .i64 k ∧ P.size = 4 * k ∧ Hid (P.data.toList = rep [240, 159, 152, 128] k)) (fun _ vi => 64 - (intOf vi).toNat)
          case atStart => exact ⟨0, ⟨#[]⟩, by omega, rfl, rfl, rfl, Lib.hid rfl⟩
          case round =>
            obtain ⟨k, P, hk, rfl, rfl, hP, HP⟩ := hrel
            by_cases hkn : k < 64
            · have ik : (k : Int) < 64 := by omega
              go_wp2
              go_round
              case rel => exact ⟨k + 1, P ++ ⟨#[240, 159, 152, 128]⟩, by omega, rfl, by go_num, by rw [ByteArray.size_append, hP]; show 4 * k + 4 = _; omega, Lib.hid (by rw [ba_append, HP.out]; rfl)⟩
              case measure => simp [intOf]; omega
            · obtain rfl : k = 64 := by omega
              have hW : P.size = 256 := by omega
              have HW : Hid (P.data.toList = rep [240, 159, 152, 128] 64) := HP
              clear hP HP hk hkn
              have c1 : ∀ w, Calls Tryd.prog 8 #[.string L] w fun e w' => e = .returned (.int .i64 0) ∧ Below w.heap.size w w' := fun w => by
                have := check_any L w (by unfold maxLen; omega)
                rw [HL.out, n1] at this; exact this
              have c2 : ∀ w, Calls Tryd.prog 8 #[.string (L ++ ⟨#[97]⟩)] w fun e w' => e = .returned (.int .i64 10) ∧ Below w.heap.size w w' := fun w => by
                have := check_any (L ++ ⟨#[97]⟩) w (by rw [ByteArray.size_append, hL1]; unfold maxLen; decide)
                rw [ba_append, HL.out, show (⟨#[97]⟩ : ByteArray).data.toList = [97] from rfl, n2] at this; exact this
              have c3 : ∀ w, Calls Tryd.prog 8 #[.string P] w fun e w' => e = .returned (.int .i64 10) ∧ Below w.heap.size w w' := fun w => by
                have := check_any P w (by unfold maxLen; omega)
                rw [HW.out, n3] at this; exact this
              have c4 : ∀ w, Calls Tryd.prog 8 #[.string (P.extract 0 252)] w fun e w' => e = .returned (.int .i64 0) ∧ Below w.heap.size w w' := fun w => by
                have := check_any (P.extract 0 252) w (by rw [ByteArray.size_extract]; unfold maxLen; omega)
                rw [Lib.extract_data, HW.out, List.drop_zero, n4] at this; exact this
              have c5 : ∀ w, Calls Tryd.prog 8 #[.string ⟨#[]⟩] w fun e w' => e = .returned (.int .i64 10) ∧ Below w.heap.size w w' := fun w => by
                have := check_any ⟨#[]⟩ w (by decide)
                rw [show (⟨#[]⟩ : ByteArray).data.toList = [] from rfl, n5] at this; exact this
              have c6 : ∀ w, Calls Tryd.prog 8 #[.string ⟨#[255]⟩] w fun e w' => e = .returned (.int .i64 10) ∧ Below w.heap.size w w' := fun w => by
                have := check_any ⟨#[255]⟩ w (by decide)
                rw [show (⟨#[255]⟩ : ByteArray).data.toList = [255] from rfl, n6] at this; exact this
              have c7 : ∀ w, Calls Tryd.prog 8 #[.string ⟨#[239, 191, 189]⟩] w fun e w' => e = .returned (.int .i64 0) ∧ Below w.heap.size w w' := fun w => by
                have := check_any ⟨#[239, 191, 189]⟩ w (by decide)
                rw [show (⟨#[239, 191, 189]⟩ : ByteArray).data.toList = [239, 191, 189] from rfl, n7] at this; exact this
              have c8 : ∀ w, Calls Tryd.prog 8 #[.string ⟨#[97, 127]⟩] w fun e w' => e = .returned (.int .i64 10) ∧ Below w.heap.size w w' := fun w => by
                have := check_any ⟨#[97, 127]⟩ w (by decide)
                rw [show (⟨#[97, 127]⟩ : ByteArray).data.toList = [97, 127] from rfl, n8] at this; exact this
              have C1 := Lib.hid c1; have C2 := Lib.hid c2; have C3 := Lib.hid c3; have C4 := Lib.hid c4; have C5 := Lib.hid c5; have C6 := Lib.hid c6; have C7 := Lib.hid c7; have C8 := Lib.hid c8
              clear c1 c2 c3 c4 c5 c6 c7 c8
              go_wp2_with fail
              refine (C1.out _).mono ?_
              rintro e w8 ⟨rfl, hb⟩
              replace HBK := Lib.hid (HBK.out.trans (hb.mono HBK.out.size))
              clear hb C1
              go_wp2_with fail
              refine (C2.out _).mono ?_
              rintro e w9 ⟨rfl, hb⟩
              replace HBK := Lib.hid (HBK.out.trans (hb.mono HBK.out.size))
              clear hb C2
              go_wp2_with fail
              refine (C3.out _).mono ?_
              rintro e w10 ⟨rfl, hb⟩
              replace HBK := Lib.hid (HBK.out.trans (hb.mono HBK.out.size))
              clear hb C3
              go_wp2_with fail
              refine (C4.out _).mono ?_
              rintro e w11 ⟨rfl, hb⟩
              replace HBK := Lib.hid (HBK.out.trans (hb.mono HBK.out.size))
              clear hb C4
              go_wp2_with fail
              refine (C5.out _).mono ?_
              rintro e w12 ⟨rfl, hb⟩
              replace HBK := Lib.hid (HBK.out.trans (hb.mono HBK.out.size))
              clear hb C5
              go_wp2_with fail
              refine (C6.out _).mono ?_
              rintro e w13 ⟨rfl, hb⟩
              replace HBK := Lib.hid (HBK.out.trans (hb.mono HBK.out.size))
              clear hb C6
              go_wp2_with fail
              refine (C7.out _).mono ?_
              rintro e w14 ⟨rfl, hb⟩
              replace HBK := Lib.hid (HBK.out.trans (hb.mono HBK.out.size))
              clear hb C7
              go_wp2_with fail
              refine (C8.out _).mono ?_
              rintro e w15 ⟨rfl, hb⟩
              replace HBK := Lib.hid (HBK.out.trans (hb.mono HBK.out.size))
              clear hb C8
              go_wp2_with fail
              refine (show_any ⟨#[]⟩ w15 (hZ.below HBK.out) (by decide)).mono ?_
              rintro e w16 ⟨rfl, hb⟩
              replace HBK := Lib.hid (HBK.out.trans (hb.mono HBK.out.size))
              rw [show (⟨#[]⟩ : ByteArray).data.toList = [] from rfl, shown_nil]
              clear hb
              go_wp2_with fail
              refine (awake_any _).mono ?_
              rintro e w17 ⟨rfl, hb⟩
              have HBE := Lib.hid (HBK.out.trans (hb.mono HBK.out.size))
              clear hb
              go_wp2
              go_ret
              exact ⟨rfl, HBE.out⟩
end Go.Proofs.YtofdhhemdoodaaaDoor.Nm
