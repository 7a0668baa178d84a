/-
  The walk of the statement NamesBack.
-/
import Derived.Test.YtofdhhemdoodaaaDoorNmBackPlain
import Derived.Test.YtofdhhemdoodaaaDoorNmRead
import Derived.Test.YtofdhhemdoodaaaDoorNmLawAre
namespace Go.Proofs.YtofdhhemdoodaaaDoor.Nm
open Go.RowKit

set_option maxHeartbeats 4000000 in
set_option maxRecDepth 100000 in
/-- The statement, whatever the list. -/
theorem back_any (s t : ByteArray) (v : Value) (ns : List (List UInt8)) (w : World) (hZ : Tz w) (hE : Errs w) (hs : s.size ≤ 140737488351232) (ht : t.size ≤ 140737488351232)
    (hns : ∀ x ∈ ns, x.length ≤ maxLen) (hv : StrsAt w v ns) :
    Calls Tryd.prog 6 #[.string s, .string t, v] w (TruePost w) := by
  go_enter Tryd.func6, Tryd.ntmps6
  have HV := Lib.hid hv
  clear hv
  have hS1 := shown_le s.data.toList
  rw [← Lib.size_eq] at hS1
  have hSP := shown_plain s.data.toList
  have hRS := (readR_iff (shown s.data.toList) s.data.toList).2 rfl
  have hRN := readN_shown s.data.toList
  generalize hT : shown s.data.toList = T at *
  have HT := Lib.hid hT; have HSP := Lib.hid hSP; have HRS := Lib.hid hRS; have HRN := Lib.hid hRN; have HS1 := Lib.hid hS1
  clear hS1 hSP hRS hRN
  go_wp2_with fail
  refine (show_any s w hZ (by omega)).mono ?_
  rintro e w1 ⟨rfl, hb1⟩
  rw [hT]
  clear hT
  have hz : (⟨T.toArray⟩ : ByteArray).size = T.length := by rw [Lib.size_eq]
  have hd : (⟨T.toArray⟩ : ByteArray).data.toList = T := by simp
  generalize hB : (⟨T.toArray⟩ : ByteArray) = B at *
  have HD := Lib.hid hd
  have hBz : B.size ≤ 14 * s.size := by rw [hz]; exact HS1.out
  clear hB hd hz
  go_wp2
  go_loop [8] (fun s8 => ∃ k : Nat, k ≤ B.size ∧ s8 = .int .i64 k) (fun s8 => B.size - (intOf s8).toNat)
  case atStart => exact ⟨0, by omega, rfl⟩
  case round =>
    obtain ⟨k, hk, rfl⟩ := hrel
    by_cases hkn : k < B.size
    · have hq := HSP.out (B[k]) (by rw [← HD.out]; exact List.getElem_mem (l := B.data.toList) (n := k) (by rw [← Lib.size_eq]; exact hkn))
      obtain ⟨q1, q2⟩ := hq
      have i1 : (32 : Int) ≤ (B[k].toNat : Int) := by omega
      have i2 : (B[k].toNat : Int) ≤ 126 := by omega
      clear q1 q2
      go_wp2
      go_round
      case rel => exact ⟨k + 1, by omega, by go_num⟩
      case measure => simp [intOf]; omega
    · obtain rfl : k = B.size := by omega
      have hz1 : Tz w1 := hZ.below hb1
      have he1 : Errs w1 := hE.below hb1
      have R1 := read_any B w1 hz1 he1 (by omega) (.inr ⟨s.data.toList, by rw [HD.out]; exact HRN.out, by rw [← Lib.size_eq]; exact hs⟩)
      have HR1 := Lib.hid R1
      clear R1 hk hkn

      go_wp2_with fail
      refine HR1.out.mono ?_
      rintro e w2 ⟨he, hb2⟩
      rw [ReadOut, HD.out, HRS.out] at he
      have he' : e = .returned (.tuple #[.string ⟨s.data.toList.toArray⟩, .int .i64 0]) := he
      rw [Lib.mk_data] at he'
      subst he'
      have b2 := hb1.trans (hb2.mono hb1.size)
      clear he HR1
      go_wp2_with fail
      have R2 := read_any t w2 (hz1.below hb2) (he1.below hb2) (by omega) (.inl ht)
      refine R2.mono ?_
      rintro e w3 ⟨he, hb3⟩
      have b3 := b2.trans (hb3.mono b2.size)
      have ess : (s.toList == s.toList) = true := by simp
      have HB3 := Lib.hid b3; have HBA := Lib.hid (hb2.trans (hb3.mono hb2.size))
      clear hb2 hb3 b2 b3 R2 hb1
      cases hr : readR t.data.toList with
      | none =>
        rw [ReadOut, hr] at he
        have he' : e = .returned (.tuple #[.string ⟨#[]⟩, .int .i64 4]) := he
        subst he'
        clear he hr
        have HBK := HB3
        have J1 := join_any v ns w3 (HV.out.below HBK.out) hns
        have HJ1 := Lib.hid J1
        clear J1
        go_wp2_with fail
        refine HJ1.out.mono ?_
        rintro e w5 ⟨rfl, hb5⟩
        have HV5 := Lib.hid (HV.out.below (HBK.out.trans (hb5.mono HBK.out.size)))
        replace HBK := Lib.hid (HBK.out.trans (hb5.mono HBK.out.size))
        clear HJ1 hb5
        cases hj : joinP ns with
        | none =>
          have hje : joinE ns = 10 := by rw [joinE, hj]; rfl
          rw [hje]
          clear hje hj

          go_wp2_with fail
          refine (split_any s _ (by omega)).mono ?_
          rintro e w7 ⟨vs, rfl, ho7, hb7⟩
          replace HBK := Lib.hid (HBK.out.trans (hb7.mono HBK.out.size))
          cases hsp : splitP s.data.toList with
          | none =>
            have hse : splitE s.data.toList = 10 := by rw [splitE, hsp]; rfl
            rw [hse]
            clear hse hsp ho7 hb7
            go_wp2_with fail
            refine (awake_any _).mono ?_
            rintro e w9 ⟨rfl, hb9⟩
            have HB9 := Lib.hid (HBK.out.trans (hb9.mono HBK.out.size))
            go_wp2
            go_ret
            exact ⟨rfl, HB9.out⟩
          | some ms =>
            have hse : splitE s.data.toList = 0 := by rw [splitE, hsp]; rfl
            have hsl : splitL s.data.toList = ms := by rw [splitL, hsp]; rfl
            have hjs := join_split hsp
            have hje : joinE ms = 0 := by rw [joinE, hjs]; rfl
            have hjt : joinT ms = s.data.toList := by rw [joinT, hjs]; rfl
            rw [hsl] at ho7
            have hms : ∀ x ∈ ms, x.length ≤ maxLen := by
              intro x hx
              have h1 : (joinP ms).isSome := by rw [hjs]; rfl
              unfold joinP at h1
              split at h1
              · rename_i hh
                simp only [Bool.and_eq_true, decide_eq_true_eq] at hh
                have := chk_len (List.all_eq_true.1 hh.2 x hx)
                unfold maxLen; omega
              · simp at h1
            have J2 := join_any vs ms w7 (StrsAt.of_owns ho7) hms
            rw [show JoinPost ms w7 = fun e w' => e = .returned (.tuple #[sv (joinT ms), .int .i64 (joinE ms)]) ∧ Below w7.heap.size w7 w' from rfl, hje, hjt, sv_data] at J2
            have HJ2 := Lib.hid J2
            rw [hse]
            clear hse hsl hjs hje hjt hms J2 ho7 hsp hb7
            go_wp2_with fail
            refine HJ2.out.mono ?_
            rintro e w8 ⟨rfl, hb8⟩
            replace HBK := Lib.hid (HBK.out.trans (hb8.mono HBK.out.size))
            clear hb8
            go_wp2_with fail
            refine (awake_any _).mono ?_
            rintro e w9 ⟨rfl, hb9⟩
            have HB9 := Lib.hid (HBK.out.trans (hb9.mono HBK.out.size))
            go_wp2
            go_ret
            exact ⟨rfl, HB9.out⟩
        | some p =>
          have hje : joinE ns = 0 := by rw [joinE, hj]; rfl
          have hjt : joinT ns = p := by rw [joinT, hj]; rfl
          have hsj := split_join hj
          have hpl := join_len hj
          rw [hje, hjt, sv]
          have hpd : (⟨p.toArray⟩ : ByteArray).data.toList = p := by simp
          have hps : (⟨p.toArray⟩ : ByteArray).size = p.length := by rw [Lib.size_eq]
          generalize hP : (⟨p.toArray⟩ : ByteArray) = P at *
          have hse : splitE P.data.toList = 0 := by rw [hpd, splitE, hsj]; rfl
          have hsl : splitL P.data.toList = ns := by rw [hpd, splitL, hsj]; rfl
          have hPS : P.size ≤ 4611686018427387904 := by omega
          have HSE := Lib.hid hse; have HSL := Lib.hid hsl
          clear hje hjt hj hsj hpl hpd hps hP hse hsl
          go_wp2_with fail
          refine (split_any P _ hPS).mono ?_
          rintro e w6 ⟨vm, rfl, ho6, hb6⟩
          rw [HSL.out] at ho6
          rw [HSE.out]
          have SA := StrsAt.of_owns ho6
          have SB := HV5.out.below hb6
          have HSA := Lib.hid SA; have HSB := Lib.hid SB
          have ens : (ns == ns) = true := by simp
          replace HBK := Lib.hid (HBK.out.trans (hb6.mono HBK.out.size))
          clear ho6 hb6 SA SB hPS
          go_wp2_with fail
          refine (same_any _ _ _ _ w6 HSA.out HSB.out).mono ?_
          rintro e w66 ⟨rfl, hb66⟩
          rw [ens]
          replace HBK := Lib.hid (HBK.out.trans (hb66.mono HBK.out.size))
          clear ens hb66

          go_wp2_with fail
          refine (split_any s _ (by omega)).mono ?_
          rintro e w7 ⟨vs, rfl, ho7, hb7⟩
          replace HBK := Lib.hid (HBK.out.trans (hb7.mono HBK.out.size))
          cases hsp : splitP s.data.toList with
          | none =>
            have hse : splitE s.data.toList = 10 := by rw [splitE, hsp]; rfl
            rw [hse]
            clear hse hsp ho7 hb7
            go_wp2_with fail
            refine (awake_any _).mono ?_
            rintro e w9 ⟨rfl, hb9⟩
            have HB9 := Lib.hid (HBK.out.trans (hb9.mono HBK.out.size))
            go_wp2
            go_ret
            exact ⟨rfl, HB9.out⟩
          | some ms =>
            have hse : splitE s.data.toList = 0 := by rw [splitE, hsp]; rfl
            have hsl : splitL s.data.toList = ms := by rw [splitL, hsp]; rfl
            have hjs := join_split hsp
            have hje : joinE ms = 0 := by rw [joinE, hjs]; rfl
            have hjt : joinT ms = s.data.toList := by rw [joinT, hjs]; rfl
            rw [hsl] at ho7
            have hms : ∀ x ∈ ms, x.length ≤ maxLen := by
              intro x hx
              have h1 : (joinP ms).isSome := by rw [hjs]; rfl
              unfold joinP at h1
              split at h1
              · rename_i hh
                simp only [Bool.and_eq_true, decide_eq_true_eq] at hh
                have := chk_len (List.all_eq_true.1 hh.2 x hx)
                unfold maxLen; omega
              · simp at h1
            have J2 := join_any vs ms w7 (StrsAt.of_owns ho7) hms
            rw [show JoinPost ms w7 = fun e w' => e = .returned (.tuple #[sv (joinT ms), .int .i64 (joinE ms)]) ∧ Below w7.heap.size w7 w' from rfl, hje, hjt, sv_data] at J2
            have HJ2 := Lib.hid J2
            rw [hse]
            clear hse hsl hjs hje hjt hms J2 ho7 hsp hb7
            go_wp2_with fail
            refine HJ2.out.mono ?_
            rintro e w8 ⟨rfl, hb8⟩
            replace HBK := Lib.hid (HBK.out.trans (hb8.mono HBK.out.size))
            clear hb8
            go_wp2_with fail
            refine (awake_any _).mono ?_
            rintro e w9 ⟨rfl, hb9⟩
            have HB9 := Lib.hid (HBK.out.trans (hb9.mono HBK.out.size))
            go_wp2
            go_ret
            exact ⟨rfl, HB9.out⟩
      | some b =>
        rw [ReadOut, hr] at he
        have he' : e = .returned (.tuple #[.string ⟨b.toArray⟩, .int .i64 0]) := he
        subst he'
        have hsb := (readR_iff _ _).1 hr
        have hbl := shown_ge b
        rw [hsb, ← Lib.size_eq] at hbl
        have hbz : (⟨b.toArray⟩ : ByteArray).size = b.length := by rw [Lib.size_eq]
        have hbd : (⟨b.toArray⟩ : ByteArray).data.toList = b := by simp
        generalize hB2 : (⟨b.toArray⟩ : ByteArray) = B2 at *
        have hss : (⟨(shown B2.data.toList).toArray⟩ : ByteArray) = t := by rw [hbd, hsb, Lib.mk_data]
        have hB47 : B2.size ≤ 140737488355328 := by omega
        have hz3 : Tz w3 := (hz1.below HBA.out)
        have S3 := show_any B2 w3 hz3 hB47
        rw [hss] at S3
        have HS3 := Lib.hid S3
        have ett : (t.toList == t.toList) = true := by simp
        clear he hr hsb hbl hbz hbd hB2 hss hB47 S3
        go_wp2_with fail
        refine HS3.out.mono ?_
        rintro e w4 ⟨rfl, hb4⟩
        have HBK := Lib.hid (HB3.out.trans (hb4.mono HB3.out.size))
        clear hb4 HS3 ett
        have J1 := join_any v ns w4 (HV.out.below HBK.out) hns
        have HJ1 := Lib.hid J1
        clear J1
        go_wp2_with fail
        refine HJ1.out.mono ?_
        rintro e w5 ⟨rfl, hb5⟩
        have HV5 := Lib.hid (HV.out.below (HBK.out.trans (hb5.mono HBK.out.size)))
        replace HBK := Lib.hid (HBK.out.trans (hb5.mono HBK.out.size))
        clear HJ1 hb5
        cases hj : joinP ns with
        | none =>
          have hje : joinE ns = 10 := by rw [joinE, hj]; rfl
          rw [hje]
          clear hje hj

          go_wp2_with fail
          refine (split_any s _ (by omega)).mono ?_
          rintro e w7 ⟨vs, rfl, ho7, hb7⟩
          replace HBK := Lib.hid (HBK.out.trans (hb7.mono HBK.out.size))
          cases hsp : splitP s.data.toList with
          | none =>
            have hse : splitE s.data.toList = 10 := by rw [splitE, hsp]; rfl
            rw [hse]
            clear hse hsp ho7 hb7
            go_wp2_with fail
            refine (awake_any _).mono ?_
            rintro e w9 ⟨rfl, hb9⟩
            have HB9 := Lib.hid (HBK.out.trans (hb9.mono HBK.out.size))
            go_wp2
            go_ret
            exact ⟨rfl, HB9.out⟩
          | some ms =>
            have hse : splitE s.data.toList = 0 := by rw [splitE, hsp]; rfl
            have hsl : splitL s.data.toList = ms := by rw [splitL, hsp]; rfl
            have hjs := join_split hsp
            have hje : joinE ms = 0 := by rw [joinE, hjs]; rfl
            have hjt : joinT ms = s.data.toList := by rw [joinT, hjs]; rfl
            rw [hsl] at ho7
            have hms : ∀ x ∈ ms, x.length ≤ maxLen := by
              intro x hx
              have h1 : (joinP ms).isSome := by rw [hjs]; rfl
              unfold joinP at h1
              split at h1
              · rename_i hh
                simp only [Bool.and_eq_true, decide_eq_true_eq] at hh
                have := chk_len (List.all_eq_true.1 hh.2 x hx)
                unfold maxLen; omega
              · simp at h1
            have J2 := join_any vs ms w7 (StrsAt.of_owns ho7) hms
            rw [show JoinPost ms w7 = fun e w' => e = .returned (.tuple #[sv (joinT ms), .int .i64 (joinE ms)]) ∧ Below w7.heap.size w7 w' from rfl, hje, hjt, sv_data] at J2
            have HJ2 := Lib.hid J2
            rw [hse]
            clear hse hsl hjs hje hjt hms J2 ho7 hsp hb7
            go_wp2_with fail
            refine HJ2.out.mono ?_
            rintro e w8 ⟨rfl, hb8⟩
            replace HBK := Lib.hid (HBK.out.trans (hb8.mono HBK.out.size))
            clear hb8
            go_wp2_with fail
            refine (awake_any _).mono ?_
            rintro e w9 ⟨rfl, hb9⟩
            have HB9 := Lib.hid (HBK.out.trans (hb9.mono HBK.out.size))
            go_wp2
            go_ret
            exact ⟨rfl, HB9.out⟩
        | some p =>
          have hje : joinE ns = 0 := by rw [joinE, hj]; rfl
          have hjt : joinT ns = p := by rw [joinT, hj]; rfl
          have hsj := split_join hj
          have hpl := join_len hj
          rw [hje, hjt, sv]
          have hpd : (⟨p.toArray⟩ : ByteArray).data.toList = p := by simp
          have hps : (⟨p.toArray⟩ : ByteArray).size = p.length := by rw [Lib.size_eq]
          generalize hP : (⟨p.toArray⟩ : ByteArray) = P at *
          have hse : splitE P.data.toList = 0 := by rw [hpd, splitE, hsj]; rfl
          have hsl : splitL P.data.toList = ns := by rw [hpd, splitL, hsj]; rfl
          have hPS : P.size ≤ 4611686018427387904 := by omega
          have HSE := Lib.hid hse; have HSL := Lib.hid hsl
          clear hje hjt hj hsj hpl hpd hps hP hse hsl
          go_wp2_with fail
          refine (split_any P _ hPS).mono ?_
          rintro e w6 ⟨vm, rfl, ho6, hb6⟩
          rw [HSL.out] at ho6
          rw [HSE.out]
          have SA := StrsAt.of_owns ho6
          have SB := HV5.out.below hb6
          have HSA := Lib.hid SA; have HSB := Lib.hid SB
          have ens : (ns == ns) = true := by simp
          replace HBK := Lib.hid (HBK.out.trans (hb6.mono HBK.out.size))
          clear ho6 hb6 SA SB hPS
          go_wp2_with fail
          refine (same_any _ _ _ _ w6 HSA.out HSB.out).mono ?_
          rintro e w66 ⟨rfl, hb66⟩
          rw [ens]
          replace HBK := Lib.hid (HBK.out.trans (hb66.mono HBK.out.size))
          clear ens hb66

          go_wp2_with fail
          refine (split_any s _ (by omega)).mono ?_
          rintro e w7 ⟨vs, rfl, ho7, hb7⟩
          replace HBK := Lib.hid (HBK.out.trans (hb7.mono HBK.out.size))
          cases hsp : splitP s.data.toList with
          | none =>
            have hse : splitE s.data.toList = 10 := by rw [splitE, hsp]; rfl
            rw [hse]
            clear hse hsp ho7 hb7
            go_wp2_with fail
            refine (awake_any _).mono ?_
            rintro e w9 ⟨rfl, hb9⟩
            have HB9 := Lib.hid (HBK.out.trans (hb9.mono HBK.out.size))
            go_wp2
            go_ret
            exact ⟨rfl, HB9.out⟩
          | some ms =>
            have hse : splitE s.data.toList = 0 := by rw [splitE, hsp]; rfl
            have hsl : splitL s.data.toList = ms := by rw [splitL, hsp]; rfl
            have hjs := join_split hsp
            have hje : joinE ms = 0 := by rw [joinE, hjs]; rfl
            have hjt : joinT ms = s.data.toList := by rw [joinT, hjs]; rfl
            rw [hsl] at ho7
            have hms : ∀ x ∈ ms, x.length ≤ maxLen := by
              intro x hx
              have h1 : (joinP ms).isSome := by rw [hjs]; rfl
              unfold joinP at h1
              split at h1
              · rename_i hh
                simp only [Bool.and_eq_true, decide_eq_true_eq] at hh
                have := chk_len (List.all_eq_true.1 hh.2 x hx)
                unfold maxLen; omega
              · simp at h1
            have J2 := join_any vs ms w7 (StrsAt.of_owns ho7) hms
            rw [show JoinPost ms w7 = fun e w' => e = .returned (.tuple #[sv (joinT ms), .int .i64 (joinE ms)]) ∧ Below w7.heap.size w7 w' from rfl, hje, hjt, sv_data] at J2
            have HJ2 := Lib.hid J2
            rw [hse]
            clear hse hsl hjs hje hjt hms J2 ho7 hsp hb7
            go_wp2_with fail
            refine HJ2.out.mono ?_
            rintro e w8 ⟨rfl, hb8⟩
            replace HBK := Lib.hid (HBK.out.trans (hb8.mono HBK.out.size))
            clear hb8
            go_wp2_with fail
            refine (awake_any _).mono ?_
            rintro e w9 ⟨rfl, hb9⟩
            have HB9 := Lib.hid (HBK.out.trans (hb9.mono HBK.out.size))
            go_wp2
            go_ret
            exact ⟨rfl, HB9.out⟩
end Go.Proofs.YtofdhhemdoodaaaDoor.Nm
