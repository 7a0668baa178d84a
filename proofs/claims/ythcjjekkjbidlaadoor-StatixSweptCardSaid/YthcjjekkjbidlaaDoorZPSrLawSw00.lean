import Derived.Test.YthcjjekkjbidlaaDoorZPStBackKit
import Derived.Test.YthcjjekkjbidlaaDoorZPSrHonSt
set_option linter.unusedSimpArgs false
set_option linter.unusedVariables false
/-
 The law of StatixSwept: what is told when entries go.
-/
namespace Go.Proofs.YthcjjekkjbidlaaDoor.Sr
open Go.RowKit Go.Maps Go.WideMaps Go.Proofs.YthcjjekkjbidlaaDoor.Rf Go.Proofs.YthcjjekkjbidlaaDoor.Nm Go.Proofs.YthcjjekkjbidlaaDoor.St

set_option linter.unusedSimpArgs false in
set_option maxHeartbeats 16000000 in
set_option maxRecDepth 100000 in
theorem swept_law00 (w : World) (v : Value) (l : List Chg) (hl : ChgsAt w v l) (v1 : Value) (its : List It) (hits : ItemsAt w v1 its) (which : Int) (hwh : -9223372036854775808 ≤ which ∧ which < 9223372036854775808) (hA : its.length ≤ 30) (hB : l.length ≤ 60) :
  Calls Tryd.prog 5 #[v, v1, .int .i64 which] w fun e w' => e = .returned (.bool true) ∧ Below w.heap.size w w' := by
 obtain ⟨a, cap, rfl, hlm, hcell, hfit⟩ := hl
 obtain ⟨a1, cap1, rfl, hlm1, hcell1, hfit1⟩ := hits
 have hmm := @run_makeMap Tryd.prog
 have AW := Lib.hid (awake_any w)
 have HC := Lib.hid hcell; have HF := Lib.hid hfit; have HC1 := Lib.hid hcell1; have HF1 := Lib.hid hfit1
 obtain ⟨i0, hi0, hz0, hz1, hz2⟩ := info_parts infoStr
 have hz3 : (Value.string ⟨#[]⟩).cells.size = 1 := by kernel_rfl
 have HZ : Hid (Tryd.prog.info? 9 = some i0 ∧ i0.zero = some (.string ⟨#[]⟩) ∧ i0.size = 1 ∧ i0.bytes = 16 ∧ (Value.string ⟨#[]⟩).cells.size = 1) := Lib.hid ⟨hi0, hz0, hz1, hz2, hz3⟩
 have HWH := Lib.hid hwh
 unfold maxLen at hlm hlm1
 clear hcell hfit hcell1 hfit1 hi0 hz0 hz1 hz2 hz3 hwh
 go_enter Tryd.func5, Tryd.ntmps5
 go_wp2_with fail
 refine AW.out.mono ?_
 rintro ex w1 ⟨rfl, hb1⟩
 have HB1 := Lib.hid hb1
 have TN := Lib.hid (tree_new w1)
 clear hb1 AW
 go_wp2_with fail
 refine TN.out.mono ?_
 rintro ex w2 ⟨r, p, m, rfl, ht2, hb2⟩
 have HT2 := Lib.hid ht2; have HB2 := Lib.hid hb2
 have NW := Lib.hid (new_any w2)
 clear ht2 hb2 TN
 unfold ptr
 go_wp2_with fail
 refine NW.out.mono ?_
 rintro ex w3 ⟨g, b, rfl, hi3, hb3⟩
 obtain ⟨hst, hlow⟩ := SwSt.start HB1.out HT2.out hi3 HB2.out hb3
 obtain ⟨db, hdb⟩ : ∃ db, db = w3.heap.size := ⟨_, rfl⟩
 obtain ⟨kb, hkb⟩ : ∃ kb, kb = w3.heap.size + 1 := ⟨_, rfl⟩
 rw [← hkb, ← hdb] at hst
 have HST := Lib.hid hst; have HLOW := Lib.hid hlow
 clear hi3 hb3 NW HT2 HB2 HB1 hst hlow
 unfold ptr
 go_wp2
 rw [← hkb, ← hdb]
 clear hdb hkb
 -- the others
 go_loopw [11] (fun v11 wr => ∃ i : Nat, i ≤ its.length ∧ i ≤ 30 ∧ v11 = .int .i64 (i : Int) ∧ ∃ X : List SE, Hid (SwSt w.heap.size wr r (newT p m) g b X db [] kb [] 0 0) ∧ Hid (Below w.heap.size w wr)) (fun v11 _ => its.length - (RowKit.intOf v11).toNat)
 case atStart => exact ⟨0, by omega, by omega, rfl, [], HST, HLOW⟩
 case round =>
  obtain ⟨i, hi, hi30, rfl, X, HS, HLW⟩ := hrel
  clear HST HLOW hmm
  by_cases hil : (i : Int) < (its.length : Int)
  ·by_cases hi6 : (i : Int) < 30
   ·have hi2 : i < its.length := by omega
    obtain ⟨x, hx⟩ : ∃ x, its[i]? = some x := ⟨_, List.getElem?_eq_getElem hi2⟩
    obtain ⟨ba, oa, rfl, hba, hca⟩ := HC1.out (fun h => by rw [h] at hi2; cases hi2)
    have hfx := HF1.out x (List.mem_of_getElem? hx)
    have hrg : wr.rangeAt ba (oa + i * 7) x.cells := fun j u hj => (HLW.out.cell (p := ⟨ba, oa + i * 7 + j, none⟩) hba).trans (hca i x hx j u hj)
    have HRG := Lib.hid hrg
    have IN := Lib.hid (in_any wr x hfx)
    have HFX := Lib.hid (It.fits hfx)
    clear hx hca hfx hrg
    go_wp2_with (first
     | (refine wpList_load_mid rfl _ _ rfl ba (oa + i * 7) rfl x.cells _ HRG.out Tryd.underlying68 rfl (infoIt x) ?_)
     | fail)
    refine IN.out.mono ?_
    rintro ex w4 ⟨rfl, hb4⟩
    have HS4 := Lib.hid (HS.out.below hb4)
    have HL4 : Hid (Below w.heap.size w w4) := Lib.hid (HLW.out.trans (hb4.mono HLW.out.size))
    have SE1 := set_any w.heap.size w4 g b X x.se HFX.out HS4.out.st.idx
    unfold ptr at SE1
    have SE1 := Lib.hid SE1
    clear hb4 IN HRG
    go_wp2_with fail
    refine SE1.out.mono ?_
    rintro ex w5 ⟨rfl, hi5, hu5⟩
    obtain ⟨hs5, hl5⟩ := HS4.out.set hi5 hu5
    have HS5 := Lib.hid hs5
    have HL5 : Hid (Below w.heap.size w w5) := Lib.hid (HL4.out.trans hl5)
    clear hi5 hu5 hs5 hl5 SE1
    go_wp2
    go_roundw
    case rel => exact ⟨i + 1, by omega, by omega, by go_num, _, HS5, HL5⟩
    case measure => simp [RowKit.intOf]; omega
   ·skip
    exfalso; omega
  ·skip
   obtain ⟨W0, hW0⟩ : ∃ W0, W0 = wr := ⟨_, rfl⟩
   go_wp2
   go_loopw [12] (fun v12 ws => ∃ i : Nat, i ≤ l.length ∧ i ≤ 60 ∧ v12 = .int .i64 (i : Int) ∧ ∃ (T : Tr) (X : List SE) (D : MV (List UInt8)) (K : MV (Nat × Int)), Hid (SwSt w.heap.size ws r T g b X db D kb K i i) ∧ Hid (Below w.heap.size w ws)) (fun v12 _ => l.length - (RowKit.intOf v12).toNat)
   case atStart => exact ⟨0, by omega, by omega, rfl, newT p m, X, [], [], HS, HLW⟩
   case round =>
    clear HS HLW hW0 W0 X
    rename World => wr
    obtain ⟨i, hi, hi60, rfl, T, X, D, K, HS, HLW⟩ := hrel
    by_cases hil : (i : Int) < (l.length : Int)
    ·by_cases hi6 : (i : Int) < 60
     ·skip
      have hi2 : i < l.length := by omega
      obtain ⟨x, hx⟩ : ∃ x, l[i]? = some x := ⟨_, List.getElem?_eq_getElem hi2⟩
      obtain ⟨ba, oa, rfl, hba, hca⟩ := HC.out (fun h => by rw [h] at hi2; cases hi2)
      have hfx := HF.out x (List.mem_of_getElem? hx)
      have hrg : wr.rangeAt ba (oa + i * 4) x.cells := fun j u hj => (HLW.out.cell (p := ⟨ba, oa + i * 4 + j, none⟩) hba).trans (hca i x hx j u hj)
      have HRG := Lib.hid hrg
      have HA := happens_any w.heap.size wr r T x.kind x.path x.more x.tick hfx.tick (by have := hfx.path; omega) (by have := hfx.more; omega) i (by omega) HS.out.good HS.out.st.size HS.out.st.tree
      unfold ptr at HA
      have HA := Lib.hid HA
      have KR : Hid (∀ w', Below w.heap.size w w' → w'.cell? ⟨ba, oa + i * 4, none⟩ = some (.int .i64 x.kind) ∧ w'.cell? ⟨ba, oa + i * 4 + 1, none⟩ = some (.string ⟨x.path.toArray⟩)) := Lib.hid (fun w' hb => ⟨(hb.cell (p := ⟨ba, oa + i * 4, none⟩) hba).trans (hca i x hx 0 _ rfl), (hb.cell (p := ⟨ba, oa + i * 4 + 1, none⟩) hba).trans (hca i x hx 1 _ rfl)⟩)
      have HPX := Lib.hid hfx.path
      have hcx : x.cells = [.int .i64 x.kind, .string ⟨x.path.toArray⟩, .string ⟨x.more.toArray⟩, .int .u32 (x.tick : Int)] := rfl
      clear hx hca hfx hrg
      go_wp2_with (first
       | (refine wpList_load_mid rfl _ _ rfl ba (oa + i * 4) rfl x.cells _ HRG.out Tryd.underlying53 rfl (infoChg x) ?_
          rw [hcx])
       | fail)
      refine HA.out.mono ?_
      rintro ex w4 ⟨rfl, T6, hct⟩
      have HS4 := Lib.hid (HS.out.call hct)
      have HL4 : Hid (Below w.heap.size w w4) := Lib.hid (HLW.out.trans (HS.out.callLow hct))
      clear hct HA hcx HRG
      obtain ⟨kx0, kx1⟩ := KR.out w4 HL4.out
      by_cases h6 : x.kind = 6
      ·rw [h6] at kx0
       have EN := enter_any w.heap.size w4 r T6 g b X db D kb K x.path HPX.out (i + 1) (by omega) HS4.out.good (by have := HS4.out.reads; omega) (by have := HS4.out.dl; omega) (by have := HS4.out.kl; omega) HS4.out.st
       unfold ptr at EN
       have EN := Lib.hid EN
       clear h6
       go_wp2_with fail
       refine EN.out.mono ?_
       rintro ex w6 hpost
       obtain ⟨rfl, T5, X6, D6, K6, hs6, hl6⟩ := HS4.out.enter hpost
       have HS6 := Lib.hid hs6
       have HL6 : Hid (Below w.heap.size w w6) := Lib.hid (HL4.out.trans hl6)
       clear hpost hs6 hl6 EN kx0 kx1
       go_wp2
       go_roundw
       case rel => exact ⟨i + 1, by omega, by omega, by go_num, T5, X6, D6, K6, HS6, HL6⟩
       case measure => simp [RowKit.intOf]; omega
      ·have hb6 : (x.kind == 6) = false := by rw [beq_eq_false_iff_ne]; exact h6
       have HS6 := Lib.hid (HS4.out.more (Nat.le_succ i))
       clear h6
       go_wp2
       go_roundw
       case rel => exact ⟨i + 1, by omega, by omega, by go_num, T6, X, D, K, HS6, HL4⟩
       case measure => simp [RowKit.intOf]; omega
     ·skip
      exfalso; omega
    ·skip
     have CH := changed_any w.heap.size wr g b X HS.out.st.idx w.heap.size r T (HS.out.good.fine (by omega)) (by have := HS.out.good.len; omega) HS.out.st.tree
     unfold ptr at CH
     have CH := Lib.hid CH
     go_wp2_with fail
     refine CH.out.mono ?_
     rintro ex wa ⟨vt, rfl, hoa, hba⟩
     have HSa := Lib.hid (HS.out.below hba)
     have HLa : Hid (Below w.heap.size w wa) := Lib.hid (HLW.out.trans (hba.mono HLW.out.size))
     obtain ⟨told, htold⟩ : ∃ told, told = chgL X T.L := ⟨_, rfl⟩
     rw [← htold] at hoa
     have HTO := Lib.hid htold
     have htl : told.length ≤ 61 := by rw [htold]; have h1 := chgL_len X T.L; have h2 := HS.out.good.len; omega
     have HPT : Hid (PathAt wr.heap.size wa vt told) := Lib.hid ⟨hoa, by rw [htold]; exact chg_lenS HS.out.good⟩
     have HGN : Hid (g < wr.heap.size ∧ b < wr.heap.size) := Lib.hid ⟨HS.out.st.idx.lt_g, HS.out.st.idx.lt_b⟩
     obtain ⟨N1, hN1⟩ : ∃ N1, N1 = wr.heap.size := ⟨_, rfl⟩
     have HNA : Hid (N1 ≤ wa.heap.size) := Lib.hid (by rw [hN1]; exact hba.size)
     rw [← hN1] at HPT HGN
     obtain ⟨vta, vtc, rfl⟩ := rowS_slice hoa
     have TV := treeval_any w.heap.size wa r T (HSa.out.good.fine (by omega)) (by have := HSa.out.good.len; omega) HSa.out.st.tree
     unfold ptr at TV
     have TV := Lib.hid TV
     clear hoa hba CH htold hN1 HS HLW
     go_wp2_with fail
     refine TV.out.mono ?_
     rintro ex wv ⟨vv, R, rfl, hm, ho, hbv⟩
     have HM := Lib.hid hm
     have hrl : R.length = T.L.length := by have := congrArg List.length hm; rw [List.length_map] at this; exact this
     have hrl2 : R.length ≤ 61 := by rw [hrl]; have := HSa.out.good.len; omega
     have HRL := Lib.hid hrl
     have HRV := Lib.hid ho.row
     have HSv := Lib.hid (HSa.out.below hbv)
     have HLv : Hid (Below w.heap.size w wv) := Lib.hid (HLa.out.trans (hbv.mono HLa.out.size))
     have HPTv : Hid (PathAt N1 wv (.slice vta told.length vtc) told) := Lib.hid (HPT.out.below hbv)
     have HNv : Hid (N1 ≤ wv.heap.size) := Lib.hid (by
      have h1 := HPT.out; have := hbv.size; have h2 := HGN.out; have := HSv.out.st.idx.lt_g
      exact Nat.le_trans HNA.out hbv.size)
     obtain ⟨va, vc, rfl⟩ := rowS_slice ho.row
     clear hm ho hbv TV hrl HSa HLa HPT
     go_wp2
     go_loopw [15, 17] (fun v15 v17 ws => ∃ (i2 : Nat) (vo : Value), i2 ≤ R.length ∧ v17 = .int .i64 (i2 : Int) ∧ v15 = vo ∧ Hid (ws.ownsRow wv.heap.size 9 1 vo (filT (T.L.take i2)).length ((filT (T.L.take i2)).map sv)) ∧ Hid (Below wv.heap.size wv ws)) (fun _ v17 _ => R.length - (RowKit.intOf v17).toNat)
     case atStart => exact ⟨0, _, by omega, rfl, rfl, Lib.hid (rowS_nil _ _ _ _), Lib.hid (Below.refl _ _)⟩
     case round =>
      rename World => ws
      obtain ⟨i2, vo, hi2, rfl, rfl, HOW, HB⟩ := hrel
      by_cases hil2 : (i2 : Int) < (R.length : Int)
      ·have hi3 : i2 < R.length := by omega
       obtain ⟨pp, hp⟩ : ∃ pp, R[i2]? = some pp := ⟨_, List.getElem?_eq_getElem hi3⟩
       obtain ⟨e, xv⟩ := pp
       have hei : T.L[i2]? = some e := by rw [← HM.out, List.getElem?_map, hp]; rfl
       obtain ⟨gr, capr, hrv, hgr, _, _, hrc⟩ := rowS_form HRV.out (by omega)
       obtain ⟨rfl, rfl⟩ : va = some ⟨gr, 0, none⟩ ∧ vc = capr := by injection hrv with e1 _ e3; exact ⟨e1, e3⟩
       obtain ⟨P, hP⟩ : ∃ P, P = pathN e.nm := ⟨_, rfl⟩
       have q0 : ws.cell? ⟨gr, i2 * 11, none⟩ = some (.string ⟨P.toArray⟩) := by rw [hP]; exact (HB.out.cell (p := ⟨gr, i2 * 11, none⟩) hgr).trans (hrc _ _ (vrows_at hp (j := 0) rfl))
       have q1 : ws.cell? ⟨gr, i2 * 11 + 1, none⟩ = some (.int .u8 (e.at_.node : Int)) := (HB.out.cell (p := ⟨gr, i2 * 11 + 1, none⟩) hgr).trans (hrc _ _ (vrows_at hp (j := 1) rfl))
       have HSN := Lib.hid (filT_snoc hei)
       rw [← hP] at HSN
       have hcl : (filT (T.L.take i2)).length ≤ 61 := by have h1 := filT_len (T.L.take i2); rw [List.length_take] at h1; omega
       obtain ⟨ua, uc, rfl⟩ := rowS_slice HOW.out
       clear hp hei hrv hrc hP
       by_cases h1 : e.at_.node = 1
       case neg =>
        have hb : (((e.at_.node : Nat) : Int) == 1) = false := by rw [beq_eq_false_iff_ne]; omega
        have HSX : Hid (filT (T.L.take (i2 + 1)) = filT (T.L.take i2)) := Lib.hid (by rw [HSN.out, if_neg h1, List.append_nil])
        clear h1
        go_wp2
        go_roundw
        case rel => exact ⟨i2 + 1, _, by omega, by go_num, rfl, Lib.hid (by rw [HSX.out]; exact HOW.out), HB⟩
        case measure => simp [RowKit.intOf]; omega
       have HSX : Hid (filT (T.L.take (i2 + 1)) = filT (T.L.take i2) ++ [P]) := Lib.hid (by rw [HSN.out, if_pos h1])
       rw [h1] at q1
       obtain ⟨hi0, hz0, hz1, hz2, hz3⟩ := HZ.out
       generalize filT (T.L.take i2) = C at *
       go_wp2_with (first
        | (at_builtin
           refine wpList_append_own_at _ rfl _ _ 55 rfl wv.heap.size 9 i0 _ 1 16 Tryd.underlying55 hi0 hz0 hz1 hz2 hz3 (by decide) (.slice ua C.length uc) C.length (C.map sv) rfl (rowS_kept HOW.out (fun x _ hl => Below.heap_alloc _ _ x hl)) ⟨ws.heap.size, 0, none⟩ 1 1 [.string ⟨P.toArray⟩] rfl rfl ?q1 (by intro u hu; rw [List.mem_singleton] at hu; subst hu; rfl) ?q2 ?q3 ?q4 ?_
           case q1 => exact cell_one_new _ _ _
           case q2 => unfold maxLen; omega
           case q3 => omega
           case q4 => rw [one_size]; have := HB.out.size; omega
           intro v6 w6 ho6 hg6 hn6 hx6
           have HO6 := Lib.hid ho6; have HG6 := Lib.hid hg6
           clear ho6 hg6 hn6 hx6)
        | fail)
       go_roundw
       case rel =>
        refine ⟨i2 + 1, v6, by omega, by go_num, rfl, Lib.hid ?_, Lib.hid ?_⟩
        ·rw [HSX.out, List.length_append, List.map_append]; exact HO6.out
        ·exact (HB.out.alloc HB.out.size _).grown HG6.out (by rw [one_size]; have := HB.out.size; omega) (fun k hk => rowS_ge HOW.out k (by unfold ob; rw [hk]; simp))
       case measure => simp [RowKit.intOf]; omega
      ·obtain rfl : i2 = R.length := by omega
       have HFN : Hid (T.L.take R.length = T.L) := Lib.hid (List.take_of_length_le (by rw [HRL.out]; exact Nat.le_refl _))
       have how := HOW.out
       rw [HFN.out] at how
       obtain ⟨F, hF⟩ : ∃ F, F = filT T.L := ⟨_, rfl⟩
       rw [← hF] at how
       have HFL := Lib.hid hF
       have hfl : F.length ≤ 61 := by rw [hF]; have h1 := filT_len T.L; rw [← HRL.out] at h1; omega
       obtain ⟨fa, fc, rfl⟩ := rowS_slice how
       have HPF : Hid (PathAt wv.heap.size ws (.slice fa F.length fc) F) := Lib.hid ⟨how, by
        rw [hF]
        intro x hx
        rw [filT, List.mem_map] at hx
        obtain ⟨y, hy, rfl⟩ := hx
        have h2 := ((HSv.out.good.fine (by omega)).names y (List.mem_filter.1 hy).1).1
        unfold maxLen
        rw [pathN]; split
        ·decide
        ·omega⟩
       have HS5 := Lib.hid (HSv.out.below HB.out)
       have HL5 : Hid (Below w.heap.size w ws) := Lib.hid (HLv.out.trans (HB.out.mono HLv.out.size))
       have HPT5 := Lib.hid (HPTv.out.below HB.out)
       clear how hF HOW HB HSv HLv HPTv HRV HM HFN
       have KP := keep_any w.heap.size ws g b X (.slice fa F.length fc) F HPF.out.strs HS5.out.st.idx
       unfold ptr at KP
       have KP := Lib.hid KP
       have HSX := Lib.hid (show Srt X from HS5.out.st.idx.srt)
       go_wp2_with fail
       refine KP.out.mono ?_
       rintro ex w6 ⟨b', rfl, hi6, hu6, hb6⟩
       obtain ⟨hs6, hl6⟩ := HS5.out.keep hi6 hu6 hb6
       have HS6 := Lib.hid hs6
       have HL6 : Hid (Below w.heap.size w w6) := Lib.hid (HL5.out.trans hl6)
       have HPT6 := Lib.hid (HPT5.out.kept (fun x hx => hu6.block x (rowS_lt HPT5.out.row x hx) (by
        have h1 := rowS_ge HPT5.out.row x hx; have h2 := HGN.out
        simp; omega)))
       have HPF6 := Lib.hid (HPF.out.kept (fun x hx => hu6.block x (rowS_lt HPF.out.row x hx) (by
        have h1 := rowS_ge HPF.out.row x hx; have h2 := HGN.out; have h3 := HNv.out
        simp; omega)))
       have HNB : Hid (ws.heap.size ≤ b' ∧ ∀ x ∈ ob (.slice vta told.length vtc), x < ws.heap.size) := Lib.hid ⟨hb6, fun x hx => rowS_lt HPT5.out.row x hx⟩
       have HNF : Hid (∀ x ∈ ob (.slice fa F.length fc), x < ws.heap.size) := Lib.hid (fun x hx => rowS_lt HPF.out.row x hx)
       have CH := changed_any w.heap.size w6 g b' (keepL F X) HS6.out.st.idx w.heap.size r T (HS6.out.good.fine (by omega)) (by have := HS6.out.good.len; omega) HS6.out.st.tree
       rw [show chgL (keepL F X) T.L = told by rw [HFL.out, chgL_keep HSX.out, ← HTO.out]] at CH
       unfold ptr at CH
       have CH := Lib.hid CH
       clear hi6 hu6 hb6 hs6 hl6 KP HS5 HL5 HPT5 HPF
       go_wp2_with fail
       refine CH.out.mono ?_
       rintro ex w7 ⟨vg, rfl, ho7, hb7⟩
       have HS7 := Lib.hid (HS6.out.below hb7)
       have HL7 : Hid (Below w.heap.size w w7) := Lib.hid (HL6.out.trans (hb7.mono HL6.out.size))
       have HPT7 := Lib.hid (HPT6.out.below hb7); have HPF7 := Lib.hid (HPF6.out.below hb7)
       have HRA := Lib.hid ho7
       obtain ⟨vga, vgc, rfl⟩ := rowS_slice ho7
       have LN := len_any w.heap.size w7 g b' (keepL F X) HS7.out.st.idx
       unfold ptr at LN
       have LN := Lib.hid LN
       have hkl := keep_len HSX.out F
       have hkli : ¬ ((F.length : Int) < ((keepL F X).length : Int)) := by omega
       clear ho7 hb7 CH HS6 HL6 HPT6 HPF6
       go_wp2_with fail
       refine LN.out.mono ?_
       rintro ex w8 ⟨rfl, hw8⟩
       obtain rfl : w7 = w8 := hw8.symm
       clear LN
       go_wp2
       clear hkl hkli
       go_loopw [22] (fun v22 wl => ∃ i3 : Nat, i3 ≤ told.length ∧ v22 = .int .i64 (i3 : Int) ∧ Hid (Below w7.heap.size w7 wl)) (fun v22 _ => told.length - (RowKit.intOf v22).toNat)
       case atStart => exact ⟨0, by omega, rfl, Lib.hid (Below.refl _ _)⟩
       case round =>
        rename World => wl
        obtain ⟨i3, hi3, rfl, HB⟩ := hrel
        by_cases hil3 : (i3 : Int) < (told.length : Int)
        ·have hi4 : i3 < told.length := by omega
         obtain ⟨s, hs⟩ : ∃ s, told[i3]? = some s := ⟨_, List.getElem?_eq_getElem hi4⟩
         obtain ⟨gt, ct, hve, hgt, _, _, hrt⟩ := rowS_form HPT7.out.row (by omega)
         obtain ⟨rfl, rfl⟩ : vta = some ⟨gt, 0, none⟩ ∧ vtc = ct := by injection hve with e1 _ e3; exact ⟨e1, e3⟩
         obtain ⟨ga, ca, hva, hga, _, _, hra⟩ := rowS_form HRA.out (by omega)
         obtain ⟨rfl, rfl⟩ : vga = some ⟨ga, 0, none⟩ ∧ vgc = ca := by injection hva with e1 _ e3; exact ⟨e1, e3⟩
         obtain ⟨sS, hsS⟩ : ∃ sS : ByteArray, sS = ⟨s.toArray⟩ := ⟨_, rfl⟩
         have KS : Hid (∀ w', Below w7.heap.size w7 w' → w'.cell? ⟨ga, i3, none⟩ = some (.string sS) ∧ w'.cell? ⟨gt, i3, none⟩ = some (.string sS)) := Lib.hid (fun w' hb => by
          rw [hsS]
          exact ⟨(hb.cell (p := ⟨ga, i3, none⟩) hga).trans (hra i3 _ (by rw [List.getElem?_map, hs]; rfl)), (hb.cell (p := ⟨gt, i3, none⟩) hgt).trans (hrt i3 _ (by rw [List.getElem?_map, hs]; rfl))⟩)
         clear hs hve hgt hrt hva hga hra hsS
         go_wp2
         refine wp_region_held_drew (S := (fun w' : World => w'.cell? ⟨ga, i3, none⟩ = some (.string sS) ∧ w'.cell? ⟨gt, i3, none⟩ = some (.string sS))) (by kernel_rfl) (KS.out _ HB.out.drew) (fun hHeld => ?_)
         refine wpAnyH_take (i := 0) (v := ?_) rfl (by kernel_rfl) (by kernel_rfl) (by kernel_rfl) (fun _ _ _ h => h) (Or.inl ⟨by rfl, ?kb0⟩) hHeld ?_
         case kb0 =>
          intro wS hSw
          obtain ⟨k0, k1⟩ := hSw
          go_simp
          try with_reducible rfl
         try simp only [Act.put, List.getElem_toArray, List.getElem_cons_zero, List.getElem_cons_succ, List.setIfInBounds_toArray, List.set_cons_zero, List.set_cons_succ]
         refine wpAnyH_take (i := 1) (v := ?_) rfl (by kernel_rfl) (by kernel_rfl) (by kernel_rfl) (fun _ _ _ h => h) (Or.inl ⟨by rfl, ?kb1⟩) hHeld ?_
         case kb1 =>
          intro wS hSw
          obtain ⟨k0, k1⟩ := hSw
          go_simp
          try with_reducible rfl
         try simp only [Act.put, List.getElem_toArray, List.getElem_cons_zero, List.getElem_cons_succ, List.setIfInBounds_toArray, List.set_cons_zero, List.set_cons_succ]
         refine wpAnyH_take (i := 2) (v := ?_) rfl (by kernel_rfl) (by kernel_rfl) (by kernel_rfl) (fun _ _ _ h => h) (Or.inl ⟨by rfl, ?kb2⟩) hHeld ?_
         case kb2 =>
          intro wS hSw
          obtain ⟨k0, k1⟩ := hSw
          go_simp
          try with_reducible rfl
         try simp only [Act.put, List.getElem_toArray, List.getElem_cons_zero, List.getElem_cons_succ, List.setIfInBounds_toArray, List.set_cons_zero, List.set_cons_succ]
         refine wpAnyH_take (i := 3) (v := ?_) rfl (by kernel_rfl) (by kernel_rfl) (by kernel_rfl) (fun _ _ _ h => h) (Or.inl ⟨by rfl, ?kb3⟩) hHeld ?_
         case kb3 =>
          intro wS hSw
          obtain ⟨k0, k1⟩ := hSw
          go_simp
          try with_reducible rfl
         try simp only [Act.put, List.getElem_toArray, List.getElem_cons_zero, List.getElem_cons_succ, List.setIfInBounds_toArray, List.set_cons_zero, List.set_cons_succ]
         refine wpAnyH_take (i := 4) (v := ?_) rfl (by kernel_rfl) (by kernel_rfl) (by kernel_rfl) (fun _ _ _ h => h) (Or.inl ⟨by rfl, ?kb4⟩) hHeld ?_
         case kb4 =>
          intro wS hSw
          obtain ⟨k0, k1⟩ := hSw
          go_simp
          try with_reducible rfl
         try simp only [Act.put, List.getElem_toArray, List.getElem_cons_zero, List.getElem_cons_succ, List.setIfInBounds_toArray, List.set_cons_zero, List.set_cons_succ]
         refine wpAnyH_take (i := 5) (v := ?_) rfl (by kernel_rfl) (by kernel_rfl) (by kernel_rfl) (fun _ _ _ h => h) (Or.inl ⟨by rfl, ?kb5⟩) hHeld ?_
         case kb5 =>
          intro wS hSw
          obtain ⟨k0, k1⟩ := hSw
          go_simp
          try with_reducible rfl
         try simp only [Act.put, List.getElem_toArray, List.getElem_cons_zero, List.getElem_cons_succ, List.setIfInBounds_toArray, List.set_cons_zero, List.set_cons_succ]
         refine wpAnyH_take (i := 6) (v := ?_) rfl (by kernel_rfl) (by kernel_rfl) (by kernel_rfl) (fun _ _ _ h => h) (Or.inl ⟨by rfl, ?kb6⟩) hHeld ?_
         case kb6 =>
          intro wS hSw
          obtain ⟨k0, k1⟩ := hSw
          go_simp
          try with_reducible rfl
         try simp only [Act.put, List.getElem_toArray, List.getElem_cons_zero, List.getElem_cons_succ, List.setIfInBounds_toArray, List.set_cons_zero, List.set_cons_succ]
         refine wpAnyH_take (i := 7) (v := ?_) rfl (by kernel_rfl) (by kernel_rfl) (by kernel_rfl) (fun _ _ _ h => h) (Or.inl ⟨by rfl, ?kb7⟩) hHeld ?_
         case kb7 =>
          intro wS hSw
          obtain ⟨k0, k1⟩ := hSw
          go_simp
          try with_reducible rfl
         try simp only [Act.put, List.getElem_toArray, List.getElem_cons_zero, List.getElem_cons_succ, List.setIfInBounds_toArray, List.set_cons_zero, List.set_cons_succ]
         refine wpAnyH_take (i := 8) (v := ?_) rfl (by kernel_rfl) (by kernel_rfl) (by kernel_rfl) (fun _ _ _ h => h) (Or.inl ⟨by rfl, ?kb8⟩) hHeld ?_
         case kb8 =>
          intro wS hSw
          obtain ⟨k0, k1⟩ := hSw
          go_simp
          try with_reducible rfl
         try simp only [Act.put, List.getElem_toArray, List.getElem_cons_zero, List.getElem_cons_succ, List.setIfInBounds_toArray, List.set_cons_zero, List.set_cons_succ]
         refine wpAnyH_done (by kernel_rfl) ?_ _
         clear hHeld
         try simp only [Act.put, List.getElem_toArray, List.getElem_cons_zero, List.getElem_cons_succ, List.setIfInBounds_toArray, List.set_cons_zero, List.set_cons_succ]
         go_wp2
         go_roundw
         case rel => exact ⟨i3 + 1, by omega, by go_num, Lib.hid HB.out.drew⟩
         case measure => simp [RowKit.intOf]; omega
        ·obtain rfl : i3 = told.length := by omega
         have HS9 := Lib.hid (HS7.out.below HB.out)
         have HL9 : Hid (Below w.heap.size w wl) := Lib.hid (HL7.out.trans (HB.out.mono HL7.out.size))
         have HPT9 := Lib.hid (HPT7.out.below HB.out); have HPF9 := Lib.hid (HPF7.out.below HB.out)
         have HSW : Hid (ws.heap.size ≤ wl.heap.size) := Lib.hid (by have h1 := HNB.out.1; have := HS9.out.st.idx.lt_b; omega)
         clear HS7 HL7 HPT7 HPF7 HRA HB
         by_cases hF0 : F = []
         ·have hz : F.length = 0 := by rw [hF0]; rfl
          rw [hz]
          clear hF0
          go_wp2
          go_ret
          exact ⟨rfl, HL9.out⟩
         have hfp : 0 < F.length := List.length_pos_iff.2 hF0
         have hfz : ((F.length : Int) == 0) = false := by rw [beq_eq_false_iff_ne]; omega
         obtain ⟨p2, hpl, hpe⟩ := at_ok which (F.length : Int) (by omega) (by omega)
         have hp2 : p2 < F.length := by omega
         obtain ⟨gf, cf, hvf, hgf, _, _, hrf⟩ := rowS_form HPF9.out.row (by omega)
         obtain ⟨rfl, rfl⟩ : fa = some ⟨gf, 0, none⟩ ∧ fc = cf := by injection hvf with e1 _ e3; exact ⟨e1, e3⟩
         obtain ⟨Q, hQ⟩ : ∃ Q, F[p2]? = some Q := ⟨_, List.getElem?_eq_getElem hp2⟩
         have cQ : wl.cell? ⟨gf, p2, none⟩ = some (.string ⟨Q.toArray⟩) := hrf p2 _ (by rw [List.getElem?_map, hQ]; rfl)
         have hwh := HWH.out
         have HQ := Lib.hid hQ
         have hn0 : ¬ (F.length : Int) = 0 := by omega
         clear hvf hgf hrf hQ hF0
         have HQL : Hid (Q.length ≤ maxLen) := Lib.hid (HPF9.out.len Q (List.mem_of_getElem? HQ.out))
         have DR := St.drop_any w.heap.size wl g b' (keepL F X) ⟨Q.toArray⟩ HQL.out HS9.out.st.idx
         rw [show (⟨Q.toArray⟩ : ByteArray).data.toList = Q from by simp] at DR
         unfold ptr at DR
         have DR := Lib.hid DR
         go_wp2_with fail
         refine DR.out.mono ?_
         rintro ex w10 ⟨rfl, hi10, hu10⟩
         obtain ⟨hs10, hl10⟩ := HS9.out.set hi10 hu10
         have HS10 := Lib.hid hs10
         have HL10 : Hid (Below w.heap.size w w10) := Lib.hid (HL9.out.trans hl10)
         have HPT10 := Lib.hid (HPT9.out.kept (fun x hx => hu10.block x (rowS_lt HPT9.out.row x hx) (by
          have h1 := HNB.out.2 x hx; have h2 := HNB.out.1
          simp; omega)))
         have HPF10 := Lib.hid (HPF9.out.kept (fun x hx => hu10.block x (rowS_lt HPF9.out.row x hx) (by
          have h1 := HNF.out x hx; have h2 := HNB.out.1
          simp; omega)))
         have CH := changed_any w.heap.size w10 g b' (remL Q (keepL F X)) HS10.out.st.idx w.heap.size r T (HS10.out.good.fine (by omega)) (by have := HS10.out.good.len; omega) HS10.out.st.tree
         obtain ⟨M, hM⟩ : ∃ M, M = chgL (remL Q (keepL F X)) T.L := ⟨_, rfl⟩
         rw [← hM] at CH
         unfold ptr at CH
         have CH := Lib.hid CH
         have HMM := Lib.hid hM
         have hml : M.length ≤ 61 := by rw [hM]; have h1 := chgL_len (remL Q (keepL F X)) T.L; have h2 := HS10.out.good.len; omega
         have HCD : Hid (∀ x ∈ T.L, c2B (keepL F X) Q x = (chgB X x || (decide (x.at_.node = 1) && decide (pathN x.nm = Q)))) := Lib.hid (fun x hx => by rw [c2B, HFL.out, chgB_keep HSX.out hx])
         have HM2 : Hid (M = ((filN T.L).filter (c2B (keepL F X) Q)).map fun x => pathN x.nm) := Lib.hid (by rw [hM, rem_fil (keepL_srt HSX.out)])
         have HFI : Hid (F = (filN T.L).map fun x => pathN x.nm) := Lib.hid HFL.out
         have HTI : Hid (told = ((filN T.L).filter (chgB X)).map fun x => pathN x.nm) := Lib.hid (by rw [HTO.out, chg_fil])
         have hM0 : M ≠ [] := by
          have hq := List.mem_of_getElem? HQ.out
          rw [HFI.out, List.mem_map] at hq
          obtain ⟨y, hy, hyq⟩ := hq
          have hyT := (List.mem_filter.1 hy).1
          have hyn := (List.mem_filter.1 hy).2
          intro h0
          have : pathN y.nm ∈ M := by
           rw [HM2.out]
           exact List.mem_map.2 ⟨y, List.mem_filter.2 ⟨hy, by rw [HCD.out y hyT, hyn, decide_eq_true hyq]; simp⟩, rfl⟩
          rw [h0] at this; cases this
         have hmp : 0 < M.length := List.length_pos_iff.2 hM0
         have HINJ : Hid (∀ a ∈ filN T.L, ∀ b ∈ filN T.L, pathN a.nm = pathN b.nm → a = b) := Lib.hid (fun a ha b hb h => srtT_inj HS10.out.st.tree.srt (List.mem_filter.1 ha).1 (List.mem_filter.1 hb).1 (HS10.out.good.path_inj (List.mem_filter.1 ha).1 (List.mem_filter.1 hb).1 h))
         have HNOD : Hid (filN T.L).Nodup := Lib.hid (List.Nodup.sublist List.filter_sublist (HS10.out.st.tree.srt.imp (fun {a b} h (e : a = b) => ahd_ne h (congrArg TE.nm e))))
         clear hi10 hu10 hs10 hl10 DR HS9 HL9 HPT9 HPF9 hM hM0 cQ hwh hpe hpl hp2 hn0 hfz hfp HS10
         go_wp2_with fail
         refine CH.out.mono ?_
         rintro ex w11 ⟨vm, rfl, ho11, hb11⟩
         have HL11 : Hid (Below w.heap.size w w11) := Lib.hid (HL10.out.trans (hb11.mono HL10.out.size))
         have HPT11 := Lib.hid (HPT10.out.below hb11); have HPF11 := Lib.hid (HPF10.out.below hb11)
         obtain ⟨gm, mc, hvm, hgm, _, hmc, hrm⟩ := rowS_form ho11 (by omega)
         obtain rfl := hvm
         have HRM := Lib.hid hrm; have HGM := Lib.hid hgm
         clear ho11 hb11 CH HL10 HPT10 HPF10 hrm hgm
         obtain ⟨QS, hQS⟩ : ∃ QS : ByteArray, QS = ⟨Q.toArray⟩ := ⟨_, rfl⟩
         rw [← hQS]
         have HQS := Lib.hid hQS
         clear hQS
         go_wp2
         go_loopw [24, 26, 27] (fun v24 v26 v27 wx => ∃ (i4 k q rm rc qa : Nat), i4 ≤ F.length ∧ v27 = .int .i64 (i4 : Int) ∧ v26 = .int .i64 (k : Int) ∧ v24 = .slice (some ⟨gm, qa, none⟩) rm rc ∧ (rm ≠ 0 → qa = q) ∧ q + rm = M.length ∧ rm ≤ rc ∧ rc ≤ mc ∧ k ≤ told.length ∧ Hid (SwAt (filN T.L) (chgB X) (c2B (keepL F X) Q) told M i4 k q) ∧ Hid (Below w11.heap.size w11 wx)) (fun _ _ v27 _ => F.length - (RowKit.intOf v27).toNat)
         case atStart => exact ⟨0, 0, 0, M.length, mc, 0, by omega, rfl, rfl, rfl, fun _ => rfl, by omega, hmc, Nat.le_refl _, by omega, Lib.hid (by rw [HTI.out, HM2.out]; exact SwAt.start), Lib.hid (Below.refl _ _)⟩
         case round =>
          rename World => wx
          obtain ⟨i4, k, q, rm, rc, qa, hi4, rfl, rfl, rfl, hqa, hqm, hrc, hrc2, hk, HSA, HB⟩ := hrel
          by_cases hil4 : (i4 : Int) < (F.length : Int)
          ·have hi5 : i4 < F.length := by omega
           obtain ⟨x, hx⟩ : ∃ x, (filN T.L)[i4]? = some x := ⟨_, List.getElem?_eq_getElem (by rw [HFI.out, List.length_map] at hi5; exact hi5)⟩
           have hxf : F[i4]? = some (pathN x.nm) := by rw [HFI.out, List.getElem?_map, hx]; rfl
           have hxT : x ∈ T.L := (List.mem_filter.1 (List.mem_of_getElem? hx)).1
           have hx1 : x.at_.node = 1 := by simpa using (List.mem_filter.1 (List.mem_of_getElem? hx)).2
           obtain ⟨gf2, cf2, hvf, hgf, _, _, hrf⟩ := rowS_form HPF11.out.row (by omega)
           obtain ⟨rfl, rfl⟩ : gf = gf2 ∧ fc = cf2 := by injection hvf with e1 _ e3; injection e1 with e1; injection e1 with e1; exact ⟨e1, e3⟩
           obtain ⟨FS, hFS⟩ : ∃ FS : ByteArray, FS = ⟨(pathN x.nm).toArray⟩ := ⟨_, rfl⟩
           have cf0 : w11.cell? ⟨gf, i4, none⟩ = some (.string FS) := by rw [hFS]; exact hrf i4 _ (by rw [List.getElem?_map, hxf]; rfl)
           have HCF : Hid (∀ w', Below w11.heap.size w11 w' → w'.cell? ⟨gf, i4, none⟩ = some (.string FS)) := Lib.hid (fun w' hb => (hb.cell (p := ⟨gf, i4, none⟩) hgf).trans cf0)
           have HFS := Lib.hid hFS
           have HMC : Hid (∀ w', Below w11.heap.size w11 w' → M[q]? = some (pathN x.nm) → w'.cell? ⟨gm, q, none⟩ = some (.string FS)) := Lib.hid (fun w' hb hq => by
            rw [HFS.out]
            exact (hb.cell (p := ⟨gm, q, none⟩) HGM.out).trans (HRM.out q _ (by rw [List.getElem?_map, hq]; rfl)))
           have HX := Lib.hid hx; have HXT := Lib.hid hxT; have HX1 := Lib.hid hx1
           clear hvf hgf hrf cf0 hFS hxf hx hxT hx1
           cases hc : chgB X x with
           | true =>
            have hd : c2B (keepL F X) Q x = true := by rw [HCD.out x HXT.out, hc]; rfl
            obtain ⟨⟨t1, t2⟩, ⟨m1, m2⟩, hsa⟩ := HSA.out.yes HX.out hc hd
            have HSB := Lib.hid hsa
            obtain ⟨tS, htS⟩ : ∃ tS : ByteArray, tS = FS := ⟨_, rfl⟩
            rw [HFS.out] at htS
            have heq : (tS.toList == FS.toList) = true := by rw [htS, HFS.out]; exact beq_self_eq_true _
            have hkl : (k : Int) < (told.length : Int) := by omega
            obtain ⟨gt, ct, hvt, hgt, _, _, hrt⟩ := rowS_form HPT11.out.row (by omega)
            obtain ⟨rfl, rfl⟩ : vta = some ⟨gt, 0, none⟩ ∧ vtc = ct := by injection hvt with e1 _ e3; exact ⟨e1, e3⟩
            have K43 : Hid (∀ w', Below w11.heap.size w11 w' → w'.cell? ⟨gt, k, none⟩ = some (.string tS) ∧ w'.cell? ⟨gf, i4, none⟩ = some (.string FS)) := Lib.hid (fun w' hb => ⟨(hb.cell (p := ⟨gt, k, none⟩) hgt).trans (by rw [htS]; exact hrt k _ (by rw [List.getElem?_map, t1]; rfl)), HCF.out w' hb⟩)
            clear hvt hgt hrt
            have HM1 := Lib.hid m1
            have hrm0 : 0 < rm := by omega
            obtain rfl : qa = q := hqa (by omega)
            have hrmz : ((rm : Int) == 0) = false := by rw [beq_eq_false_iff_ne]; omega
            have hrm1 : (1 : Int) ≤ (rm : Int) := by omega
            have hrc1 : (1 : Int) ≤ (rc : Int) := by omega
            have hrmc : (rm : Int) ≤ (rc : Int) := by omega
            clear hd t1 m1 m2 hsa hc htS
            go_wp2
            refine wp_region_held_drew (S := (fun w' : World => w'.cell? ⟨gt, k, none⟩ = some (.string tS) ∧ w'.cell? ⟨gf, i4, none⟩ = some (.string FS))) (by kernel_rfl) (K43.out _ HB.out.drew) (fun hHeld => ?_)
            refine wpAnyH_take (i := 0) (v := ?_) rfl (by kernel_rfl) (by kernel_rfl) (by kernel_rfl) (fun _ _ _ h => h) (Or.inl ⟨by rfl, ?yb0⟩) hHeld ?_
            case yb0 =>
             intro wS hSw
             obtain ⟨k0, k1⟩ := hSw
             go_simp
             try with_reducible rfl
            try simp only [Act.put, List.getElem_toArray, List.getElem_cons_zero, List.getElem_cons_succ, List.setIfInBounds_toArray, List.set_cons_zero, List.set_cons_succ]
            refine wpAnyH_take (i := 1) (v := ?_) rfl (by kernel_rfl) (by kernel_rfl) (by kernel_rfl) (fun _ _ _ h => h) (Or.inl ⟨by rfl, ?yb1⟩) hHeld ?_
            case yb1 =>
             intro wS hSw
             obtain ⟨k0, k1⟩ := hSw
             go_simp
             try with_reducible rfl
            try simp only [Act.put, List.getElem_toArray, List.getElem_cons_zero, List.getElem_cons_succ, List.setIfInBounds_toArray, List.set_cons_zero, List.set_cons_succ]
            refine wpAnyH_take (i := 2) (v := ?_) rfl (by kernel_rfl) (by kernel_rfl) (by kernel_rfl) (fun _ _ _ h => h) (Or.inl ⟨by rfl, ?yb2⟩) hHeld ?_
            case yb2 =>
             intro wS hSw
             obtain ⟨k0, k1⟩ := hSw
             go_simp
             try with_reducible rfl
            try simp only [Act.put, List.getElem_toArray, List.getElem_cons_zero, List.getElem_cons_succ, List.setIfInBounds_toArray, List.set_cons_zero, List.set_cons_succ]
            refine wpAnyH_take (i := 3) (v := ?_) rfl (by kernel_rfl) (by kernel_rfl) (by kernel_rfl) (fun _ _ _ h => h) (Or.inl ⟨by rfl, ?yb3⟩) hHeld ?_
            case yb3 =>
             intro wS hSw
             obtain ⟨k0, k1⟩ := hSw
             go_simp
             try with_reducible rfl
            try simp only [Act.put, List.getElem_toArray, List.getElem_cons_zero, List.getElem_cons_succ, List.setIfInBounds_toArray, List.set_cons_zero, List.set_cons_succ]
            refine wpAnyH_take (i := 4) (v := ?_) rfl (by kernel_rfl) (by kernel_rfl) (by kernel_rfl) (fun _ _ _ h => h) (Or.inl ⟨by rfl, ?yb4⟩) hHeld ?_
            case yb4 =>
             intro wS hSw
             obtain ⟨k0, k1⟩ := hSw
             go_simp
             try with_reducible rfl
            try simp only [Act.put, List.getElem_toArray, List.getElem_cons_zero, List.getElem_cons_succ, List.setIfInBounds_toArray, List.set_cons_zero, List.set_cons_succ]
            refine wpAnyH_take (i := 5) (v := ?_) rfl (by kernel_rfl) (by kernel_rfl) (by kernel_rfl) (fun _ _ _ h => h) (Or.inl ⟨by rfl, ?yb5⟩) hHeld ?_
            case yb5 =>
             intro wS hSw
             obtain ⟨k0, k1⟩ := hSw
             go_simp
             try with_reducible rfl
            try simp only [Act.put, List.getElem_toArray, List.getElem_cons_zero, List.getElem_cons_succ, List.setIfInBounds_toArray, List.set_cons_zero, List.set_cons_succ]
            refine wpAnyH_take (i := 6) (v := ?_) rfl (by kernel_rfl) (by kernel_rfl) (by kernel_rfl) (fun _ _ _ h => h) (Or.inl ⟨by rfl, ?yb6⟩) hHeld ?_
            case yb6 =>
             intro wS hSw
             obtain ⟨k0, k1⟩ := hSw
             go_simp
             try with_reducible rfl
            try simp only [Act.put, List.getElem_toArray, List.getElem_cons_zero, List.getElem_cons_succ, List.setIfInBounds_toArray, List.set_cons_zero, List.set_cons_succ]
            refine wpAnyH_take (i := 7) (v := ?_) rfl (by kernel_rfl) (by kernel_rfl) (by kernel_rfl) (fun _ _ _ h => h) (Or.inl ⟨by rfl, ?yb7⟩) hHeld ?_
            case yb7 =>
             intro wS hSw
             obtain ⟨k0, k1⟩ := hSw
             go_simp
             try with_reducible rfl
            try simp only [Act.put, List.getElem_toArray, List.getElem_cons_zero, List.getElem_cons_succ, List.setIfInBounds_toArray, List.set_cons_zero, List.set_cons_succ]
            refine wpAnyH_take (i := 8) (v := ?_) rfl (by kernel_rfl) (by kernel_rfl) (by kernel_rfl) (fun _ _ _ h => h) (Or.inl ⟨by rfl, ?yb8⟩) hHeld ?_
            case yb8 =>
             intro wS hSw
             obtain ⟨k0, k1⟩ := hSw
             go_simp
             try with_reducible rfl
            try simp only [Act.put, List.getElem_toArray, List.getElem_cons_zero, List.getElem_cons_succ, List.setIfInBounds_toArray, List.set_cons_zero, List.set_cons_succ]
            refine wpAnyH_take (i := 9) (v := ?_) rfl (by kernel_rfl) (by kernel_rfl) (by kernel_rfl) (fun _ _ _ h => h) (Or.inl ⟨by rfl, ?yb9⟩) hHeld ?_
            case yb9 =>
             intro wS hSw
             obtain ⟨k0, k1⟩ := hSw
             go_simp
             try with_reducible rfl
            try simp only [Act.put, List.getElem_toArray, List.getElem_cons_zero, List.getElem_cons_succ, List.setIfInBounds_toArray, List.set_cons_zero, List.set_cons_succ]
            refine wpAnyH_take (i := 10) (v := ?_) rfl (by kernel_rfl) (by kernel_rfl) (by kernel_rfl) (fun _ _ _ h => h) (Or.inl ⟨by rfl, ?yb10⟩) hHeld ?_
            case yb10 =>
             intro wS hSw
             obtain ⟨k0, k1⟩ := hSw
             go_simp
             try with_reducible rfl
            try simp only [Act.put, List.getElem_toArray, List.getElem_cons_zero, List.getElem_cons_succ, List.setIfInBounds_toArray, List.set_cons_zero, List.set_cons_succ]
            refine wpAnyH_take (i := 11) (v := ?_) rfl (by kernel_rfl) (by kernel_rfl) (by kernel_rfl) (fun _ _ _ h => h) (Or.inl ⟨by rfl, ?yb11⟩) hHeld ?_
            case yb11 =>
             intro wS hSw
             obtain ⟨k0, k1⟩ := hSw
             go_simp
             try with_reducible rfl
            try simp only [Act.put, List.getElem_toArray, List.getElem_cons_zero, List.getElem_cons_succ, List.setIfInBounds_toArray, List.set_cons_zero, List.set_cons_succ]
            refine wpAnyH_take (i := 12) (v := ?_) rfl (by kernel_rfl) (by kernel_rfl) (by kernel_rfl) (fun _ _ _ h => h) (Or.inl ⟨by rfl, ?yb12⟩) hHeld ?_
            case yb12 =>
             intro wS hSw
             obtain ⟨k0, k1⟩ := hSw
             go_simp
             try with_reducible rfl
            try simp only [Act.put, List.getElem_toArray, List.getElem_cons_zero, List.getElem_cons_succ, List.setIfInBounds_toArray, List.set_cons_zero, List.set_cons_succ]
            refine wpAnyH_take (i := 13) (v := ?_) rfl (by kernel_rfl) (by kernel_rfl) (by kernel_rfl) (fun _ _ _ h => h) (Or.inl ⟨by rfl, ?yb13⟩) hHeld ?_
            case yb13 =>
             intro wS hSw
             obtain ⟨k0, k1⟩ := hSw
             go_simp
             try with_reducible rfl
            try simp only [Act.put, List.getElem_toArray, List.getElem_cons_zero, List.getElem_cons_succ, List.setIfInBounds_toArray, List.set_cons_zero, List.set_cons_succ]
            refine wpAnyH_take (i := 14) (v := ?_) rfl (by kernel_rfl) (by kernel_rfl) (by kernel_rfl) (fun _ _ _ h => h) (Or.inl ⟨by rfl, ?yb14⟩) hHeld ?_
            case yb14 =>
             intro wS hSw
             obtain ⟨k0, k1⟩ := hSw
             go_simp
             try with_reducible rfl
            try simp only [Act.put, List.getElem_toArray, List.getElem_cons_zero, List.getElem_cons_succ, List.setIfInBounds_toArray, List.set_cons_zero, List.set_cons_succ]
            refine wpAnyH_take (i := 15) (v := ?_) rfl (by kernel_rfl) (by kernel_rfl) (by kernel_rfl) (fun _ _ _ h => h) (Or.inl ⟨by rfl, ?yb15⟩) hHeld ?_
            case yb15 =>
             intro wS hSw
             obtain ⟨k0, k1⟩ := hSw
             go_simp
             try with_reducible rfl
            try simp only [Act.put, List.getElem_toArray, List.getElem_cons_zero, List.getElem_cons_succ, List.setIfInBounds_toArray, List.set_cons_zero, List.set_cons_succ]
            refine wpAnyH_done (by kernel_rfl) ?_ _
            clear hHeld
            try simp only [Act.put, List.getElem_toArray, List.getElem_cons_zero, List.getElem_cons_succ, List.setIfInBounds_toArray, List.set_cons_zero, List.set_cons_succ]
            clear heq hkl
            go_wp2
            refine wp_region_held_drew (S := (fun w' : World => w'.cell? ⟨gm, qa, none⟩ = some (.string FS) ∧ w'.cell? ⟨gf, i4, none⟩ = some (.string FS))) (by kernel_rfl) ⟨HMC.out _ HB.out.drew.drew HM1.out, HCF.out _ HB.out.drew.drew⟩ (fun hHeld => ?_)
            refine wpAnyH_take (i := 0) (v := ?_) rfl (by kernel_rfl) (by kernel_rfl) (by kernel_rfl) (fun _ _ _ h => h) (Or.inl ⟨by rfl, ?myb0⟩) hHeld ?_
            case myb0 =>
             intro wS hSw
             obtain ⟨k0, k1⟩ := hSw
             go_simp
             try with_reducible rfl
            try simp only [Act.put, List.getElem_toArray, List.getElem_cons_zero, List.getElem_cons_succ, List.setIfInBounds_toArray, List.set_cons_zero, List.set_cons_succ]
            refine wpAnyH_take (i := 1) (v := ?_) rfl (by kernel_rfl) (by kernel_rfl) (by kernel_rfl) (fun _ _ _ h => h) (Or.inl ⟨by rfl, ?myb1⟩) hHeld ?_
            case myb1 =>
             intro wS hSw
             obtain ⟨k0, k1⟩ := hSw
             go_simp
             try with_reducible rfl
            try simp only [Act.put, List.getElem_toArray, List.getElem_cons_zero, List.getElem_cons_succ, List.setIfInBounds_toArray, List.set_cons_zero, List.set_cons_succ]
            refine wpAnyH_take (i := 2) (v := ?_) rfl (by kernel_rfl) (by kernel_rfl) (by kernel_rfl) (fun _ _ _ h => h) (Or.inl ⟨by rfl, ?myb2⟩) hHeld ?_
            case myb2 =>
             intro wS hSw
             obtain ⟨k0, k1⟩ := hSw
             go_simp
             try with_reducible rfl
            try simp only [Act.put, List.getElem_toArray, List.getElem_cons_zero, List.getElem_cons_succ, List.setIfInBounds_toArray, List.set_cons_zero, List.set_cons_succ]
            refine wpAnyH_take (i := 3) (v := ?_) rfl (by kernel_rfl) (by kernel_rfl) (by kernel_rfl) (fun _ _ _ h => h) (Or.inl ⟨by rfl, ?myb3⟩) hHeld ?_
            case myb3 =>
             intro wS hSw
             obtain ⟨k0, k1⟩ := hSw
             go_simp
             try with_reducible rfl
            try simp only [Act.put, List.getElem_toArray, List.getElem_cons_zero, List.getElem_cons_succ, List.setIfInBounds_toArray, List.set_cons_zero, List.set_cons_succ]
            refine wpAnyH_take (i := 4) (v := ?_) rfl (by kernel_rfl) (by kernel_rfl) (by kernel_rfl) (fun _ _ _ h => h) (Or.inl ⟨by rfl, ?myb4⟩) hHeld ?_
            case myb4 =>
             intro wS hSw
             obtain ⟨k0, k1⟩ := hSw
             go_simp
             try with_reducible rfl
            try simp only [Act.put, List.getElem_toArray, List.getElem_cons_zero, List.getElem_cons_succ, List.setIfInBounds_toArray, List.set_cons_zero, List.set_cons_succ]
            refine wpAnyH_take (i := 5) (v := ?_) rfl (by kernel_rfl) (by kernel_rfl) (by kernel_rfl) (fun _ _ _ h => h) (Or.inl ⟨by rfl, ?myb5⟩) hHeld ?_
            case myb5 =>
             intro wS hSw
             obtain ⟨k0, k1⟩ := hSw
             go_simp
             try with_reducible rfl
            try simp only [Act.put, List.getElem_toArray, List.getElem_cons_zero, List.getElem_cons_succ, List.setIfInBounds_toArray, List.set_cons_zero, List.set_cons_succ]
            refine wpAnyH_take (i := 6) (v := ?_) rfl (by kernel_rfl) (by kernel_rfl) (by kernel_rfl) (fun _ _ _ h => h) (Or.inl ⟨by rfl, ?myb6⟩) hHeld ?_
            case myb6 =>
             intro wS hSw
             obtain ⟨k0, k1⟩ := hSw
             go_simp
             try with_reducible rfl
            try simp only [Act.put, List.getElem_toArray, List.getElem_cons_zero, List.getElem_cons_succ, List.setIfInBounds_toArray, List.set_cons_zero, List.set_cons_succ]
            refine wpAnyH_take (i := 7) (v := ?_) rfl (by kernel_rfl) (by kernel_rfl) (by kernel_rfl) (fun _ _ _ h => h) (Or.inl ⟨by rfl, ?myb7⟩) hHeld ?_
            case myb7 =>
             intro wS hSw
             obtain ⟨k0, k1⟩ := hSw
             go_simp
             try with_reducible rfl
            try simp only [Act.put, List.getElem_toArray, List.getElem_cons_zero, List.getElem_cons_succ, List.setIfInBounds_toArray, List.set_cons_zero, List.set_cons_succ]
            refine wpAnyH_take (i := 8) (v := ?_) rfl (by kernel_rfl) (by kernel_rfl) (by kernel_rfl) (fun _ _ _ h => h) (Or.inl ⟨by rfl, ?myb8⟩) hHeld ?_
            case myb8 =>
             intro wS hSw
             obtain ⟨k0, k1⟩ := hSw
             go_simp
             try with_reducible rfl
            try simp only [Act.put, List.getElem_toArray, List.getElem_cons_zero, List.getElem_cons_succ, List.setIfInBounds_toArray, List.set_cons_zero, List.set_cons_succ]
            refine wpAnyH_take (i := 9) (v := ?_) rfl (by kernel_rfl) (by kernel_rfl) (by kernel_rfl) (fun _ _ _ h => h) (Or.inl ⟨by rfl, ?myb9⟩) hHeld ?_
            case myb9 =>
             intro wS hSw
             obtain ⟨k0, k1⟩ := hSw
             go_simp
             try with_reducible rfl
            try simp only [Act.put, List.getElem_toArray, List.getElem_cons_zero, List.getElem_cons_succ, List.setIfInBounds_toArray, List.set_cons_zero, List.set_cons_succ]
            refine wpAnyH_take (i := 10) (v := ?_) rfl (by kernel_rfl) (by kernel_rfl) (by kernel_rfl) (fun _ _ _ h => h) (Or.inl ⟨by rfl, ?myb10⟩) hHeld ?_
            case myb10 =>
             intro wS hSw
             obtain ⟨k0, k1⟩ := hSw
             go_simp
             try with_reducible rfl
            try simp only [Act.put, List.getElem_toArray, List.getElem_cons_zero, List.getElem_cons_succ, List.setIfInBounds_toArray, List.set_cons_zero, List.set_cons_succ]
            refine wpAnyH_take (i := 11) (v := ?_) rfl (by kernel_rfl) (by kernel_rfl) (by kernel_rfl) (fun _ _ _ h => h) (Or.inl ⟨by rfl, ?myb11⟩) hHeld ?_
            case myb11 =>
             intro wS hSw
             obtain ⟨k0, k1⟩ := hSw
             go_simp
             try with_reducible rfl
            try simp only [Act.put, List.getElem_toArray, List.getElem_cons_zero, List.getElem_cons_succ, List.setIfInBounds_toArray, List.set_cons_zero, List.set_cons_succ]
            refine wpAnyH_take (i := 12) (v := ?_) rfl (by kernel_rfl) (by kernel_rfl) (by kernel_rfl) (fun _ _ _ h => h) (Or.inl ⟨by rfl, ?myb12⟩) hHeld ?_
            case myb12 =>
             intro wS hSw
             obtain ⟨k0, k1⟩ := hSw
             go_simp
             try with_reducible rfl
            try simp only [Act.put, List.getElem_toArray, List.getElem_cons_zero, List.getElem_cons_succ, List.setIfInBounds_toArray, List.set_cons_zero, List.set_cons_succ]
            refine wpAnyH_done (by kernel_rfl) ?_ _
            clear hHeld
            try simp only [Act.put, List.getElem_toArray, List.getElem_cons_zero, List.getElem_cons_succ, List.setIfInBounds_toArray, List.set_cons_zero, List.set_cons_succ]
            go_wp2
            go_roundw
            case rel => exact ⟨i4 + 1, k + 1, qa + 1, rm - 1, rc - 1, if rc = 1 then qa else qa + 1, by omega, by go_num, by first | rfl | go_num, by split <;> rfl, fun h => if_neg (by omega), by omega, by omega, by omega, by omega, HSB, Lib.hid HB.out.drew.drew⟩
            case measure => simp [RowKit.intOf]; omega
           | false =>
            obtain ⟨hor, hdt⟩ := HSA.out.no HINJ.out HNOD.out HX.out hc
            by_cases hpq : pathN x.nm = Q
            ·skip
             have hd : c2B (keepL F X) Q x = true := by rw [HCD.out x HXT.out, HX1.out, hpq]; simp
             obtain ⟨⟨m1, m2⟩, hsa⟩ := HSA.out.drop hdt HX.out hd
             have HSB := Lib.hid hsa
             have hqe : (FS.toList == QS.toList) = true := by rw [HFS.out, HQS.out, hpq]; exact beq_self_eq_true _
             have HM1 := Lib.hid m1
             have hrm0 : 0 < rm := by omega
             obtain rfl : qa = q := hqa (by omega)
             have hrmz : ((rm : Int) == 0) = false := by rw [beq_eq_false_iff_ne]; omega
             have hrm1 : (1 : Int) ≤ (rm : Int) := by omega
             have hrc1 : (1 : Int) ≤ (rc : Int) := by omega
             have hrmc : (rm : Int) ≤ (rc : Int) := by omega
             clear hd m1 m2 hsa hpq
             have cfx : wx.cell? ⟨gf, i4, none⟩ = some (.string FS) := HCF.out _ HB.out
             rcases hor with hkl | ⟨s, t1, t2, hsn⟩
             ·have hkli : ¬ ((k : Int) < (told.length : Int)) := by omega
              have hklf : decide ((k : Int) < (told.length : Int)) = false := decide_eq_false hkli
              have hkll : (told.length : Int) ≤ (k : Int) := by omega
              have hkd : decide (k < told.length) = false := decide_eq_false hkl
              clear hdt hc
              go_wp2
              refine wp_region_held_drew (S := (fun w' : World => w'.cell? ⟨gf, i4, none⟩ = some (.string FS) ∧ True)) (by kernel_rfl) ⟨HCF.out _ HB.out.drew, trivial⟩ (fun hHeld => ?_)
              refine wpAnyH_take (i := 0) (v := ?_) rfl (by kernel_rfl) (by kernel_rfl) (by kernel_rfl) (fun _ _ _ h => h) (Or.inl ⟨by rfl, ?npb0⟩) hHeld ?_
              case npb0 =>
               intro wS hSw
               obtain ⟨k0, k1⟩ := hSw
               go_simp
               try with_reducible rfl
              try simp only [Act.put, List.getElem_toArray, List.getElem_cons_zero, List.getElem_cons_succ, List.setIfInBounds_toArray, List.set_cons_zero, List.set_cons_succ]
              refine wpAnyH_take (i := 1) (v := ?_) rfl (by kernel_rfl) (by kernel_rfl) (by kernel_rfl) (fun _ _ _ h => h) (Or.inl ⟨by rfl, ?npb1⟩) hHeld ?_
              case npb1 =>
               intro wS hSw
               obtain ⟨k0, k1⟩ := hSw
               go_simp
               try with_reducible rfl
              try simp only [Act.put, List.getElem_toArray, List.getElem_cons_zero, List.getElem_cons_succ, List.setIfInBounds_toArray, List.set_cons_zero, List.set_cons_succ]
              refine wpAnyH_take (i := 2) (v := ?_) rfl (by kernel_rfl) (by kernel_rfl) (by kernel_rfl) (fun _ _ _ h => h) (Or.inl ⟨by rfl, ?npb2⟩) hHeld ?_
              case npb2 =>
               intro wS hSw
               obtain ⟨k0, k1⟩ := hSw
               go_simp
               try with_reducible rfl
              try simp only [Act.put, List.getElem_toArray, List.getElem_cons_zero, List.getElem_cons_succ, List.setIfInBounds_toArray, List.set_cons_zero, List.set_cons_succ]
              refine wpAnyH_take (i := 3) (v := ?_) rfl (by kernel_rfl) (by kernel_rfl) (by kernel_rfl) (fun _ _ _ h => h) (Or.inl ⟨by rfl, ?npb3⟩) hHeld ?_
              case npb3 =>
               intro wS hSw
               obtain ⟨k0, k1⟩ := hSw
               go_simp
               try with_reducible rfl
              try simp only [Act.put, List.getElem_toArray, List.getElem_cons_zero, List.getElem_cons_succ, List.setIfInBounds_toArray, List.set_cons_zero, List.set_cons_succ]
              refine wpAnyH_take (i := 4) (v := ?_) rfl (by kernel_rfl) (by kernel_rfl) (by kernel_rfl) (fun _ _ _ h => h) (Or.inl ⟨by rfl, ?npb4⟩) hHeld ?_
              case npb4 =>
               intro wS hSw
               obtain ⟨k0, k1⟩ := hSw
               go_simp
               try with_reducible rfl
              try simp only [Act.put, List.getElem_toArray, List.getElem_cons_zero, List.getElem_cons_succ, List.setIfInBounds_toArray, List.set_cons_zero, List.set_cons_succ]
              refine wpAnyH_take (i := 5) (v := undef) rfl (by kernel_rfl) (by kernel_rfl) (by kernel_rfl) (fun _ _ _ h => h) (Or.inr ⟨by rfl, rfl⟩) hHeld ?_
              try simp only [Act.put, List.getElem_toArray, List.getElem_cons_zero, List.getElem_cons_succ, List.setIfInBounds_toArray, List.set_cons_zero, List.set_cons_succ]
              refine wpAnyH_take (i := 6) (v := undef) rfl (by kernel_rfl) (by kernel_rfl) (by kernel_rfl) (fun _ _ _ h => h) (Or.inr ⟨by rfl, rfl⟩) hHeld ?_
              try simp only [Act.put, List.getElem_toArray, List.getElem_cons_zero, List.getElem_cons_succ, List.setIfInBounds_toArray, List.set_cons_zero, List.set_cons_succ]
              refine wpAnyH_take (i := 7) (v := undef) rfl (by kernel_rfl) (by kernel_rfl) (by kernel_rfl) (fun _ _ _ h => h) (Or.inr ⟨by rfl, rfl⟩) hHeld ?_
              try simp only [Act.put, List.getElem_toArray, List.getElem_cons_zero, List.getElem_cons_succ, List.setIfInBounds_toArray, List.set_cons_zero, List.set_cons_succ]
              refine wpAnyH_take (i := 8) (v := undef) rfl (by kernel_rfl) (by kernel_rfl) (by kernel_rfl) (fun _ _ _ h => h) (Or.inr ⟨by rfl, rfl⟩) hHeld ?_
              try simp only [Act.put, List.getElem_toArray, List.getElem_cons_zero, List.getElem_cons_succ, List.setIfInBounds_toArray, List.set_cons_zero, List.set_cons_succ]
              refine wpAnyH_take (i := 9) (v := undef) rfl (by kernel_rfl) (by kernel_rfl) (by kernel_rfl) (fun _ _ _ h => h) (Or.inr ⟨by rfl, rfl⟩) hHeld ?_
              try simp only [Act.put, List.getElem_toArray, List.getElem_cons_zero, List.getElem_cons_succ, List.setIfInBounds_toArray, List.set_cons_zero, List.set_cons_succ]
              refine wpAnyH_take (i := 10) (v := undef) rfl (by kernel_rfl) (by kernel_rfl) (by kernel_rfl) (fun _ _ _ h => h) (Or.inr ⟨by rfl, rfl⟩) hHeld ?_
              try simp only [Act.put, List.getElem_toArray, List.getElem_cons_zero, List.getElem_cons_succ, List.setIfInBounds_toArray, List.set_cons_zero, List.set_cons_succ]
              refine wpAnyH_take (i := 11) (v := undef) rfl (by kernel_rfl) (by kernel_rfl) (by kernel_rfl) (fun _ _ _ h => h) (Or.inr ⟨by rfl, rfl⟩) hHeld ?_
              try simp only [Act.put, List.getElem_toArray, List.getElem_cons_zero, List.getElem_cons_succ, List.setIfInBounds_toArray, List.set_cons_zero, List.set_cons_succ]
              refine wpAnyH_take (i := 12) (v := undef) rfl (by kernel_rfl) (by kernel_rfl) (by kernel_rfl) (fun _ _ _ h => h) (Or.inr ⟨by rfl, rfl⟩) hHeld ?_
              try simp only [Act.put, List.getElem_toArray, List.getElem_cons_zero, List.getElem_cons_succ, List.setIfInBounds_toArray, List.set_cons_zero, List.set_cons_succ]
              refine wpAnyH_take (i := 13) (v := undef) rfl (by kernel_rfl) (by kernel_rfl) (by kernel_rfl) (fun _ _ _ h => h) (Or.inr ⟨by rfl, rfl⟩) hHeld ?_
              try simp only [Act.put, List.getElem_toArray, List.getElem_cons_zero, List.getElem_cons_succ, List.setIfInBounds_toArray, List.set_cons_zero, List.set_cons_succ]
              refine wpAnyH_take (i := 14) (v := ?_) rfl (by kernel_rfl) (by kernel_rfl) (by kernel_rfl) (fun _ _ _ h => h) (Or.inl ⟨by rfl, ?npb14⟩) hHeld ?_
              case npb14 =>
               intro wS hSw
               obtain ⟨k0, k1⟩ := hSw
               go_simp
               try with_reducible rfl
              try simp only [Act.put, List.getElem_toArray, List.getElem_cons_zero, List.getElem_cons_succ, List.setIfInBounds_toArray, List.set_cons_zero, List.set_cons_succ]
              refine wpAnyH_take (i := 15) (v := ?_) rfl (by kernel_rfl) (by kernel_rfl) (by kernel_rfl) (fun _ _ _ h => h) (Or.inl ⟨by rfl, ?npb15⟩) hHeld ?_
              case npb15 =>
               intro wS hSw
               obtain ⟨k0, k1⟩ := hSw
               go_simp
               try with_reducible rfl
              try simp only [Act.put, List.getElem_toArray, List.getElem_cons_zero, List.getElem_cons_succ, List.setIfInBounds_toArray, List.set_cons_zero, List.set_cons_succ]
              refine wpAnyH_done (by kernel_rfl) ?_ _
              clear hHeld
              try simp only [Act.put, List.getElem_toArray, List.getElem_cons_zero, List.getElem_cons_succ, List.setIfInBounds_toArray, List.set_cons_zero, List.set_cons_succ]
              clear hkli hklf hkll hkd hkl
              go_wp2
              refine wp_region_held_drew (S := (fun w' : World => w'.cell? ⟨gm, qa, none⟩ = some (.string FS) ∧ w'.cell? ⟨gf, i4, none⟩ = some (.string FS))) (by kernel_rfl) ⟨HMC.out _ HB.out.drew.drew HM1.out, HCF.out _ HB.out.drew.drew⟩ (fun hHeld => ?_)
              refine wpAnyH_take (i := 0) (v := ?_) rfl (by kernel_rfl) (by kernel_rfl) (by kernel_rfl) (fun _ _ _ h => h) (Or.inl ⟨by rfl, ?mnpb0⟩) hHeld ?_
              case mnpb0 =>
               intro wS hSw
               obtain ⟨k0, k1⟩ := hSw
               go_simp
               try with_reducible rfl
              try simp only [Act.put, List.getElem_toArray, List.getElem_cons_zero, List.getElem_cons_succ, List.setIfInBounds_toArray, List.set_cons_zero, List.set_cons_succ]
              refine wpAnyH_take (i := 1) (v := ?_) rfl (by kernel_rfl) (by kernel_rfl) (by kernel_rfl) (fun _ _ _ h => h) (Or.inl ⟨by rfl, ?mnpb1⟩) hHeld ?_
              case mnpb1 =>
               intro wS hSw
               obtain ⟨k0, k1⟩ := hSw
               go_simp
               try with_reducible rfl
              try simp only [Act.put, List.getElem_toArray, List.getElem_cons_zero, List.getElem_cons_succ, List.setIfInBounds_toArray, List.set_cons_zero, List.set_cons_succ]
              refine wpAnyH_take (i := 2) (v := ?_) rfl (by kernel_rfl) (by kernel_rfl) (by kernel_rfl) (fun _ _ _ h => h) (Or.inl ⟨by rfl, ?mnpb2⟩) hHeld ?_
              case mnpb2 =>
               intro wS hSw
               obtain ⟨k0, k1⟩ := hSw
               go_simp
               try with_reducible rfl
              try simp only [Act.put, List.getElem_toArray, List.getElem_cons_zero, List.getElem_cons_succ, List.setIfInBounds_toArray, List.set_cons_zero, List.set_cons_succ]
              refine wpAnyH_take (i := 3) (v := ?_) rfl (by kernel_rfl) (by kernel_rfl) (by kernel_rfl) (fun _ _ _ h => h) (Or.inl ⟨by rfl, ?mnpb3⟩) hHeld ?_
              case mnpb3 =>
               intro wS hSw
               obtain ⟨k0, k1⟩ := hSw
               go_simp
               try with_reducible rfl
              try simp only [Act.put, List.getElem_toArray, List.getElem_cons_zero, List.getElem_cons_succ, List.setIfInBounds_toArray, List.set_cons_zero, List.set_cons_succ]
              refine wpAnyH_take (i := 4) (v := ?_) rfl (by kernel_rfl) (by kernel_rfl) (by kernel_rfl) (fun _ _ _ h => h) (Or.inl ⟨by rfl, ?mnpb4⟩) hHeld ?_
              case mnpb4 =>
               intro wS hSw
               obtain ⟨k0, k1⟩ := hSw
               go_simp
               try with_reducible rfl
              try simp only [Act.put, List.getElem_toArray, List.getElem_cons_zero, List.getElem_cons_succ, List.setIfInBounds_toArray, List.set_cons_zero, List.set_cons_succ]
              refine wpAnyH_take (i := 5) (v := ?_) rfl (by kernel_rfl) (by kernel_rfl) (by kernel_rfl) (fun _ _ _ h => h) (Or.inl ⟨by rfl, ?mnpb5⟩) hHeld ?_
              case mnpb5 =>
               intro wS hSw
               obtain ⟨k0, k1⟩ := hSw
               go_simp
               try with_reducible rfl
              try simp only [Act.put, List.getElem_toArray, List.getElem_cons_zero, List.getElem_cons_succ, List.setIfInBounds_toArray, List.set_cons_zero, List.set_cons_succ]
              refine wpAnyH_take (i := 6) (v := ?_) rfl (by kernel_rfl) (by kernel_rfl) (by kernel_rfl) (fun _ _ _ h => h) (Or.inl ⟨by rfl, ?mnpb6⟩) hHeld ?_
              case mnpb6 =>
               intro wS hSw
               obtain ⟨k0, k1⟩ := hSw
               go_simp
               try with_reducible rfl
              try simp only [Act.put, List.getElem_toArray, List.getElem_cons_zero, List.getElem_cons_succ, List.setIfInBounds_toArray, List.set_cons_zero, List.set_cons_succ]
              refine wpAnyH_take (i := 7) (v := ?_) rfl (by kernel_rfl) (by kernel_rfl) (by kernel_rfl) (fun _ _ _ h => h) (Or.inl ⟨by rfl, ?mnpb7⟩) hHeld ?_
              case mnpb7 =>
               intro wS hSw
               obtain ⟨k0, k1⟩ := hSw
               go_simp
               try with_reducible rfl
              try simp only [Act.put, List.getElem_toArray, List.getElem_cons_zero, List.getElem_cons_succ, List.setIfInBounds_toArray, List.set_cons_zero, List.set_cons_succ]
              refine wpAnyH_take (i := 8) (v := ?_) rfl (by kernel_rfl) (by kernel_rfl) (by kernel_rfl) (fun _ _ _ h => h) (Or.inl ⟨by rfl, ?mnpb8⟩) hHeld ?_
              case mnpb8 =>
               intro wS hSw
               obtain ⟨k0, k1⟩ := hSw
               go_simp
               try with_reducible rfl
              try simp only [Act.put, List.getElem_toArray, List.getElem_cons_zero, List.getElem_cons_succ, List.setIfInBounds_toArray, List.set_cons_zero, List.set_cons_succ]
              refine wpAnyH_take (i := 9) (v := ?_) rfl (by kernel_rfl) (by kernel_rfl) (by kernel_rfl) (fun _ _ _ h => h) (Or.inl ⟨by rfl, ?mnpb9⟩) hHeld ?_
              case mnpb9 =>
               intro wS hSw
               obtain ⟨k0, k1⟩ := hSw
               go_simp
               try with_reducible rfl
              try simp only [Act.put, List.getElem_toArray, List.getElem_cons_zero, List.getElem_cons_succ, List.setIfInBounds_toArray, List.set_cons_zero, List.set_cons_succ]
              refine wpAnyH_take (i := 10) (v := ?_) rfl (by kernel_rfl) (by kernel_rfl) (by kernel_rfl) (fun _ _ _ h => h) (Or.inl ⟨by rfl, ?mnpb10⟩) hHeld ?_
              case mnpb10 =>
               intro wS hSw
               obtain ⟨k0, k1⟩ := hSw
               go_simp
               try with_reducible rfl
              try simp only [Act.put, List.getElem_toArray, List.getElem_cons_zero, List.getElem_cons_succ, List.setIfInBounds_toArray, List.set_cons_zero, List.set_cons_succ]
              refine wpAnyH_take (i := 11) (v := ?_) rfl (by kernel_rfl) (by kernel_rfl) (by kernel_rfl) (fun _ _ _ h => h) (Or.inl ⟨by rfl, ?mnpb11⟩) hHeld ?_
              case mnpb11 =>
               intro wS hSw
               obtain ⟨k0, k1⟩ := hSw
               go_simp
               try with_reducible rfl
              try simp only [Act.put, List.getElem_toArray, List.getElem_cons_zero, List.getElem_cons_succ, List.setIfInBounds_toArray, List.set_cons_zero, List.set_cons_succ]
              refine wpAnyH_take (i := 12) (v := ?_) rfl (by kernel_rfl) (by kernel_rfl) (by kernel_rfl) (fun _ _ _ h => h) (Or.inl ⟨by rfl, ?mnpb12⟩) hHeld ?_
              case mnpb12 =>
               intro wS hSw
               obtain ⟨k0, k1⟩ := hSw
               go_simp
               try with_reducible rfl
              try simp only [Act.put, List.getElem_toArray, List.getElem_cons_zero, List.getElem_cons_succ, List.setIfInBounds_toArray, List.set_cons_zero, List.set_cons_succ]
              refine wpAnyH_done (by kernel_rfl) ?_ _
              clear hHeld
              try simp only [Act.put, List.getElem_toArray, List.getElem_cons_zero, List.getElem_cons_succ, List.setIfInBounds_toArray, List.set_cons_zero, List.set_cons_succ]
              go_wp2
              go_roundw
              case rel => exact ⟨i4 + 1, k, qa + 1, rm - 1, rc - 1, if rc = 1 then qa else qa + 1, by omega, by go_num, by first | rfl | go_num, by split <;> rfl, fun h => if_neg (by omega), by omega, by omega, by omega, by omega, HSB, Lib.hid HB.out.drew.drew⟩
              case measure => simp [RowKit.intOf]; omega
             ·have hkl : (k : Int) < (told.length : Int) := by omega
              obtain ⟨tS, htS⟩ : ∃ tS : ByteArray, tS = ⟨s.toArray⟩ := ⟨_, rfl⟩
              have heq : (tS.toList == FS.toList) = false := by
               rw [Lib.bytes_beq_false_iff, htS, HFS.out]
               intro e
               injection e with e
               exact hsn (by simpa using e)
              obtain ⟨gt, ct, hvt, hgt, _, _, hrt⟩ := rowS_form HPT11.out.row (by omega)
              obtain ⟨rfl, rfl⟩ : vta = some ⟨gt, 0, none⟩ ∧ vtc = ct := by injection hvt with e1 _ e3; exact ⟨e1, e3⟩
              have K43 : Hid (∀ w', Below w11.heap.size w11 w' → w'.cell? ⟨gt, k, none⟩ = some (.string tS) ∧ w'.cell? ⟨gf, i4, none⟩ = some (.string FS)) := Lib.hid (fun w' hb => ⟨(hb.cell (p := ⟨gt, k, none⟩) hgt).trans (by rw [htS]; exact hrt k _ (by rw [List.getElem?_map, t1]; rfl)), HCF.out w' hb⟩)
              clear hvt hgt hrt
              clear t1 hsn hdt hc htS
              go_wp2
              refine wp_region_held_drew (S := (fun w' : World => w'.cell? ⟨gt, k, none⟩ = some (.string tS) ∧ w'.cell? ⟨gf, i4, none⟩ = some (.string FS))) (by kernel_rfl) (K43.out _ HB.out.drew) (fun hHeld => ?_)
              refine wpAnyH_take (i := 0) (v := ?_) rfl (by kernel_rfl) (by kernel_rfl) (by kernel_rfl) (fun _ _ _ h => h) (Or.inl ⟨by rfl, ?opb0⟩) hHeld ?_
              case opb0 =>
               intro wS hSw
               obtain ⟨k0, k1⟩ := hSw
               go_simp
               try with_reducible rfl
              try simp only [Act.put, List.getElem_toArray, List.getElem_cons_zero, List.getElem_cons_succ, List.setIfInBounds_toArray, List.set_cons_zero, List.set_cons_succ]
              refine wpAnyH_take (i := 1) (v := ?_) rfl (by kernel_rfl) (by kernel_rfl) (by kernel_rfl) (fun _ _ _ h => h) (Or.inl ⟨by rfl, ?opb1⟩) hHeld ?_
              case opb1 =>
               intro wS hSw
               obtain ⟨k0, k1⟩ := hSw
               go_simp
               try with_reducible rfl
              try simp only [Act.put, List.getElem_toArray, List.getElem_cons_zero, List.getElem_cons_succ, List.setIfInBounds_toArray, List.set_cons_zero, List.set_cons_succ]
              refine wpAnyH_take (i := 2) (v := ?_) rfl (by kernel_rfl) (by kernel_rfl) (by kernel_rfl) (fun _ _ _ h => h) (Or.inl ⟨by rfl, ?opb2⟩) hHeld ?_
              case opb2 =>
               intro wS hSw
               obtain ⟨k0, k1⟩ := hSw
               go_simp
               try with_reducible rfl
              try simp only [Act.put, List.getElem_toArray, List.getElem_cons_zero, List.getElem_cons_succ, List.setIfInBounds_toArray, List.set_cons_zero, List.set_cons_succ]
              refine wpAnyH_take (i := 3) (v := ?_) rfl (by kernel_rfl) (by kernel_rfl) (by kernel_rfl) (fun _ _ _ h => h) (Or.inl ⟨by rfl, ?opb3⟩) hHeld ?_
              case opb3 =>
               intro wS hSw
               obtain ⟨k0, k1⟩ := hSw
               go_simp
               try with_reducible rfl
              try simp only [Act.put, List.getElem_toArray, List.getElem_cons_zero, List.getElem_cons_succ, List.setIfInBounds_toArray, List.set_cons_zero, List.set_cons_succ]
              refine wpAnyH_take (i := 4) (v := ?_) rfl (by kernel_rfl) (by kernel_rfl) (by kernel_rfl) (fun _ _ _ h => h) (Or.inl ⟨by rfl, ?opb4⟩) hHeld ?_
              case opb4 =>
               intro wS hSw
               obtain ⟨k0, k1⟩ := hSw
               go_simp
               try with_reducible rfl
              try simp only [Act.put, List.getElem_toArray, List.getElem_cons_zero, List.getElem_cons_succ, List.setIfInBounds_toArray, List.set_cons_zero, List.set_cons_succ]
              refine wpAnyH_take (i := 5) (v := ?_) rfl (by kernel_rfl) (by kernel_rfl) (by kernel_rfl) (fun _ _ _ h => h) (Or.inl ⟨by rfl, ?opb5⟩) hHeld ?_
              case opb5 =>
               intro wS hSw
               obtain ⟨k0, k1⟩ := hSw
               go_simp
               try with_reducible rfl
              try simp only [Act.put, List.getElem_toArray, List.getElem_cons_zero, List.getElem_cons_succ, List.setIfInBounds_toArray, List.set_cons_zero, List.set_cons_succ]
              refine wpAnyH_take (i := 6) (v := ?_) rfl (by kernel_rfl) (by kernel_rfl) (by kernel_rfl) (fun _ _ _ h => h) (Or.inl ⟨by rfl, ?opb6⟩) hHeld ?_
              case opb6 =>
               intro wS hSw
               obtain ⟨k0, k1⟩ := hSw
               go_simp
               try with_reducible rfl
              try simp only [Act.put, List.getElem_toArray, List.getElem_cons_zero, List.getElem_cons_succ, List.setIfInBounds_toArray, List.set_cons_zero, List.set_cons_succ]
              refine wpAnyH_take (i := 7) (v := ?_) rfl (by kernel_rfl) (by kernel_rfl) (by kernel_rfl) (fun _ _ _ h => h) (Or.inl ⟨by rfl, ?opb7⟩) hHeld ?_
              case opb7 =>
               intro wS hSw
               obtain ⟨k0, k1⟩ := hSw
               go_simp
               try with_reducible rfl
              try simp only [Act.put, List.getElem_toArray, List.getElem_cons_zero, List.getElem_cons_succ, List.setIfInBounds_toArray, List.set_cons_zero, List.set_cons_succ]
              refine wpAnyH_take (i := 8) (v := ?_) rfl (by kernel_rfl) (by kernel_rfl) (by kernel_rfl) (fun _ _ _ h => h) (Or.inl ⟨by rfl, ?opb8⟩) hHeld ?_
              case opb8 =>
               intro wS hSw
               obtain ⟨k0, k1⟩ := hSw
               go_simp
               try with_reducible rfl
              try simp only [Act.put, List.getElem_toArray, List.getElem_cons_zero, List.getElem_cons_succ, List.setIfInBounds_toArray, List.set_cons_zero, List.set_cons_succ]
              refine wpAnyH_take (i := 9) (v := ?_) rfl (by kernel_rfl) (by kernel_rfl) (by kernel_rfl) (fun _ _ _ h => h) (Or.inl ⟨by rfl, ?opb9⟩) hHeld ?_
              case opb9 =>
               intro wS hSw
               obtain ⟨k0, k1⟩ := hSw
               go_simp
               try with_reducible rfl
              try simp only [Act.put, List.getElem_toArray, List.getElem_cons_zero, List.getElem_cons_succ, List.setIfInBounds_toArray, List.set_cons_zero, List.set_cons_succ]
              refine wpAnyH_take (i := 10) (v := ?_) rfl (by kernel_rfl) (by kernel_rfl) (by kernel_rfl) (fun _ _ _ h => h) (Or.inl ⟨by rfl, ?opb10⟩) hHeld ?_
              case opb10 =>
               intro wS hSw
               obtain ⟨k0, k1⟩ := hSw
               go_simp
               try with_reducible rfl
              try simp only [Act.put, List.getElem_toArray, List.getElem_cons_zero, List.getElem_cons_succ, List.setIfInBounds_toArray, List.set_cons_zero, List.set_cons_succ]
              refine wpAnyH_take (i := 11) (v := ?_) rfl (by kernel_rfl) (by kernel_rfl) (by kernel_rfl) (fun _ _ _ h => h) (Or.inl ⟨by rfl, ?opb11⟩) hHeld ?_
              case opb11 =>
               intro wS hSw
               obtain ⟨k0, k1⟩ := hSw
               go_simp
               try with_reducible rfl
              try simp only [Act.put, List.getElem_toArray, List.getElem_cons_zero, List.getElem_cons_succ, List.setIfInBounds_toArray, List.set_cons_zero, List.set_cons_succ]
              refine wpAnyH_take (i := 12) (v := ?_) rfl (by kernel_rfl) (by kernel_rfl) (by kernel_rfl) (fun _ _ _ h => h) (Or.inl ⟨by rfl, ?opb12⟩) hHeld ?_
              case opb12 =>
               intro wS hSw
               obtain ⟨k0, k1⟩ := hSw
               go_simp
               try with_reducible rfl
              try simp only [Act.put, List.getElem_toArray, List.getElem_cons_zero, List.getElem_cons_succ, List.setIfInBounds_toArray, List.set_cons_zero, List.set_cons_succ]
              refine wpAnyH_take (i := 13) (v := ?_) rfl (by kernel_rfl) (by kernel_rfl) (by kernel_rfl) (fun _ _ _ h => h) (Or.inl ⟨by rfl, ?opb13⟩) hHeld ?_
              case opb13 =>
               intro wS hSw
               obtain ⟨k0, k1⟩ := hSw
               go_simp
               try with_reducible rfl
              try simp only [Act.put, List.getElem_toArray, List.getElem_cons_zero, List.getElem_cons_succ, List.setIfInBounds_toArray, List.set_cons_zero, List.set_cons_succ]
              refine wpAnyH_take (i := 14) (v := ?_) rfl (by kernel_rfl) (by kernel_rfl) (by kernel_rfl) (fun _ _ _ h => h) (Or.inl ⟨by rfl, ?opb14⟩) hHeld ?_
              case opb14 =>
               intro wS hSw
               obtain ⟨k0, k1⟩ := hSw
               go_simp
               try with_reducible rfl
              try simp only [Act.put, List.getElem_toArray, List.getElem_cons_zero, List.getElem_cons_succ, List.setIfInBounds_toArray, List.set_cons_zero, List.set_cons_succ]
              refine wpAnyH_take (i := 15) (v := ?_) rfl (by kernel_rfl) (by kernel_rfl) (by kernel_rfl) (fun _ _ _ h => h) (Or.inl ⟨by rfl, ?opb15⟩) hHeld ?_
              case opb15 =>
               intro wS hSw
               obtain ⟨k0, k1⟩ := hSw
               go_simp
               try with_reducible rfl
              try simp only [Act.put, List.getElem_toArray, List.getElem_cons_zero, List.getElem_cons_succ, List.setIfInBounds_toArray, List.set_cons_zero, List.set_cons_succ]
              refine wpAnyH_done (by kernel_rfl) ?_ _
              clear hHeld
              try simp only [Act.put, List.getElem_toArray, List.getElem_cons_zero, List.getElem_cons_succ, List.setIfInBounds_toArray, List.set_cons_zero, List.set_cons_succ]
              clear heq hkl
              go_wp2
              refine wp_region_held_drew (S := (fun w' : World => w'.cell? ⟨gm, qa, none⟩ = some (.string FS) ∧ w'.cell? ⟨gf, i4, none⟩ = some (.string FS))) (by kernel_rfl) ⟨HMC.out _ HB.out.drew.drew HM1.out, HCF.out _ HB.out.drew.drew⟩ (fun hHeld => ?_)
              refine wpAnyH_take (i := 0) (v := ?_) rfl (by kernel_rfl) (by kernel_rfl) (by kernel_rfl) (fun _ _ _ h => h) (Or.inl ⟨by rfl, ?mopb0⟩) hHeld ?_
              case mopb0 =>
               intro wS hSw
               obtain ⟨k0, k1⟩ := hSw
               go_simp
               try with_reducible rfl
              try simp only [Act.put, List.getElem_toArray, List.getElem_cons_zero, List.getElem_cons_succ, List.setIfInBounds_toArray, List.set_cons_zero, List.set_cons_succ]
              refine wpAnyH_take (i := 1) (v := ?_) rfl (by kernel_rfl) (by kernel_rfl) (by kernel_rfl) (fun _ _ _ h => h) (Or.inl ⟨by rfl, ?mopb1⟩) hHeld ?_
              case mopb1 =>
               intro wS hSw
               obtain ⟨k0, k1⟩ := hSw
               go_simp
               try with_reducible rfl
              try simp only [Act.put, List.getElem_toArray, List.getElem_cons_zero, List.getElem_cons_succ, List.setIfInBounds_toArray, List.set_cons_zero, List.set_cons_succ]
              refine wpAnyH_take (i := 2) (v := ?_) rfl (by kernel_rfl) (by kernel_rfl) (by kernel_rfl) (fun _ _ _ h => h) (Or.inl ⟨by rfl, ?mopb2⟩) hHeld ?_
              case mopb2 =>
               intro wS hSw
               obtain ⟨k0, k1⟩ := hSw
               go_simp
               try with_reducible rfl
              try simp only [Act.put, List.getElem_toArray, List.getElem_cons_zero, List.getElem_cons_succ, List.setIfInBounds_toArray, List.set_cons_zero, List.set_cons_succ]
              refine wpAnyH_take (i := 3) (v := ?_) rfl (by kernel_rfl) (by kernel_rfl) (by kernel_rfl) (fun _ _ _ h => h) (Or.inl ⟨by rfl, ?mopb3⟩) hHeld ?_
              case mopb3 =>
               intro wS hSw
               obtain ⟨k0, k1⟩ := hSw
               go_simp
               try with_reducible rfl
              try simp only [Act.put, List.getElem_toArray, List.getElem_cons_zero, List.getElem_cons_succ, List.setIfInBounds_toArray, List.set_cons_zero, List.set_cons_succ]
              refine wpAnyH_take (i := 4) (v := ?_) rfl (by kernel_rfl) (by kernel_rfl) (by kernel_rfl) (fun _ _ _ h => h) (Or.inl ⟨by rfl, ?mopb4⟩) hHeld ?_
              case mopb4 =>
               intro wS hSw
               obtain ⟨k0, k1⟩ := hSw
               go_simp
               try with_reducible rfl
              try simp only [Act.put, List.getElem_toArray, List.getElem_cons_zero, List.getElem_cons_succ, List.setIfInBounds_toArray, List.set_cons_zero, List.set_cons_succ]
              refine wpAnyH_take (i := 5) (v := ?_) rfl (by kernel_rfl) (by kernel_rfl) (by kernel_rfl) (fun _ _ _ h => h) (Or.inl ⟨by rfl, ?mopb5⟩) hHeld ?_
              case mopb5 =>
               intro wS hSw
               obtain ⟨k0, k1⟩ := hSw
               go_simp
               try with_reducible rfl
              try simp only [Act.put, List.getElem_toArray, List.getElem_cons_zero, List.getElem_cons_succ, List.setIfInBounds_toArray, List.set_cons_zero, List.set_cons_succ]
              refine wpAnyH_take (i := 6) (v := ?_) rfl (by kernel_rfl) (by kernel_rfl) (by kernel_rfl) (fun _ _ _ h => h) (Or.inl ⟨by rfl, ?mopb6⟩) hHeld ?_
              case mopb6 =>
               intro wS hSw
               obtain ⟨k0, k1⟩ := hSw
               go_simp
               try with_reducible rfl
              try simp only [Act.put, List.getElem_toArray, List.getElem_cons_zero, List.getElem_cons_succ, List.setIfInBounds_toArray, List.set_cons_zero, List.set_cons_succ]
              refine wpAnyH_take (i := 7) (v := ?_) rfl (by kernel_rfl) (by kernel_rfl) (by kernel_rfl) (fun _ _ _ h => h) (Or.inl ⟨by rfl, ?mopb7⟩) hHeld ?_
              case mopb7 =>
               intro wS hSw
               obtain ⟨k0, k1⟩ := hSw
               go_simp
               try with_reducible rfl
              try simp only [Act.put, List.getElem_toArray, List.getElem_cons_zero, List.getElem_cons_succ, List.setIfInBounds_toArray, List.set_cons_zero, List.set_cons_succ]
              refine wpAnyH_take (i := 8) (v := ?_) rfl (by kernel_rfl) (by kernel_rfl) (by kernel_rfl) (fun _ _ _ h => h) (Or.inl ⟨by rfl, ?mopb8⟩) hHeld ?_
              case mopb8 =>
               intro wS hSw
               obtain ⟨k0, k1⟩ := hSw
               go_simp
               try with_reducible rfl
              try simp only [Act.put, List.getElem_toArray, List.getElem_cons_zero, List.getElem_cons_succ, List.setIfInBounds_toArray, List.set_cons_zero, List.set_cons_succ]
              refine wpAnyH_take (i := 9) (v := ?_) rfl (by kernel_rfl) (by kernel_rfl) (by kernel_rfl) (fun _ _ _ h => h) (Or.inl ⟨by rfl, ?mopb9⟩) hHeld ?_
              case mopb9 =>
               intro wS hSw
               obtain ⟨k0, k1⟩ := hSw
               go_simp
               try with_reducible rfl
              try simp only [Act.put, List.getElem_toArray, List.getElem_cons_zero, List.getElem_cons_succ, List.setIfInBounds_toArray, List.set_cons_zero, List.set_cons_succ]
              refine wpAnyH_take (i := 10) (v := ?_) rfl (by kernel_rfl) (by kernel_rfl) (by kernel_rfl) (fun _ _ _ h => h) (Or.inl ⟨by rfl, ?mopb10⟩) hHeld ?_
              case mopb10 =>
               intro wS hSw
               obtain ⟨k0, k1⟩ := hSw
               go_simp
               try with_reducible rfl
              try simp only [Act.put, List.getElem_toArray, List.getElem_cons_zero, List.getElem_cons_succ, List.setIfInBounds_toArray, List.set_cons_zero, List.set_cons_succ]
              refine wpAnyH_take (i := 11) (v := ?_) rfl (by kernel_rfl) (by kernel_rfl) (by kernel_rfl) (fun _ _ _ h => h) (Or.inl ⟨by rfl, ?mopb11⟩) hHeld ?_
              case mopb11 =>
               intro wS hSw
               obtain ⟨k0, k1⟩ := hSw
               go_simp
               try with_reducible rfl
              try simp only [Act.put, List.getElem_toArray, List.getElem_cons_zero, List.getElem_cons_succ, List.setIfInBounds_toArray, List.set_cons_zero, List.set_cons_succ]
              refine wpAnyH_take (i := 12) (v := ?_) rfl (by kernel_rfl) (by kernel_rfl) (by kernel_rfl) (fun _ _ _ h => h) (Or.inl ⟨by rfl, ?mopb12⟩) hHeld ?_
              case mopb12 =>
               intro wS hSw
               obtain ⟨k0, k1⟩ := hSw
               go_simp
               try with_reducible rfl
              try simp only [Act.put, List.getElem_toArray, List.getElem_cons_zero, List.getElem_cons_succ, List.setIfInBounds_toArray, List.set_cons_zero, List.set_cons_succ]
              refine wpAnyH_done (by kernel_rfl) ?_ _
              clear hHeld
              try simp only [Act.put, List.getElem_toArray, List.getElem_cons_zero, List.getElem_cons_succ, List.setIfInBounds_toArray, List.set_cons_zero, List.set_cons_succ]
              go_wp2
              go_roundw
              case rel => exact ⟨i4 + 1, k, qa + 1, rm - 1, rc - 1, if rc = 1 then qa else qa + 1, by omega, by go_num, by first | rfl | go_num, by split <;> rfl, fun h => if_neg (by omega), by omega, by omega, by omega, by omega, HSB, Lib.hid HB.out.drew.drew⟩
              case measure => simp [RowKit.intOf]; omega
            ·skip
             have hd : c2B (keepL F X) Q x = false := by rw [HCD.out x HXT.out, hc, decide_eq_false hpq]; simp
             have HSB := Lib.hid (HSA.out.pass hdt HX.out hd)
             have hqe : (FS.toList == QS.toList) = false := by
              rw [Lib.bytes_beq_false_iff, HFS.out, HQS.out]
              intro e
              injection e with e
              exact hpq (by simpa using e)
             clear hd hpq
             have cfx : wx.cell? ⟨gf, i4, none⟩ = some (.string FS) := HCF.out _ HB.out
             rcases hor with hkl | ⟨s, t1, t2, hsn⟩
             ·have hkli : ¬ ((k : Int) < (told.length : Int)) := by omega
              have hklf : decide ((k : Int) < (told.length : Int)) = false := decide_eq_false hkli
              have hkll : (told.length : Int) ≤ (k : Int) := by omega
              have hkd : decide (k < told.length) = false := decide_eq_false hkl
              clear hdt hc
              go_wp2
              refine wp_region_held_drew (S := (fun w' : World => w'.cell? ⟨gf, i4, none⟩ = some (.string FS) ∧ True)) (by kernel_rfl) ⟨HCF.out _ HB.out.drew, trivial⟩ (fun hHeld => ?_)
              refine wpAnyH_take (i := 0) (v := ?_) rfl (by kernel_rfl) (by kernel_rfl) (by kernel_rfl) (fun _ _ _ h => h) (Or.inl ⟨by rfl, ?nqb0⟩) hHeld ?_
              case nqb0 =>
               intro wS hSw
               obtain ⟨k0, k1⟩ := hSw
               go_simp
               try with_reducible rfl
              try simp only [Act.put, List.getElem_toArray, List.getElem_cons_zero, List.getElem_cons_succ, List.setIfInBounds_toArray, List.set_cons_zero, List.set_cons_succ]
              refine wpAnyH_take (i := 1) (v := ?_) rfl (by kernel_rfl) (by kernel_rfl) (by kernel_rfl) (fun _ _ _ h => h) (Or.inl ⟨by rfl, ?nqb1⟩) hHeld ?_
              case nqb1 =>
               intro wS hSw
               obtain ⟨k0, k1⟩ := hSw
               go_simp
               try with_reducible rfl
              try simp only [Act.put, List.getElem_toArray, List.getElem_cons_zero, List.getElem_cons_succ, List.setIfInBounds_toArray, List.set_cons_zero, List.set_cons_succ]
              refine wpAnyH_take (i := 2) (v := ?_) rfl (by kernel_rfl) (by kernel_rfl) (by kernel_rfl) (fun _ _ _ h => h) (Or.inl ⟨by rfl, ?nqb2⟩) hHeld ?_
              case nqb2 =>
               intro wS hSw
               obtain ⟨k0, k1⟩ := hSw
               go_simp
               try with_reducible rfl
              try simp only [Act.put, List.getElem_toArray, List.getElem_cons_zero, List.getElem_cons_succ, List.setIfInBounds_toArray, List.set_cons_zero, List.set_cons_succ]
              refine wpAnyH_take (i := 3) (v := ?_) rfl (by kernel_rfl) (by kernel_rfl) (by kernel_rfl) (fun _ _ _ h => h) (Or.inl ⟨by rfl, ?nqb3⟩) hHeld ?_
              case nqb3 =>
               intro wS hSw
               obtain ⟨k0, k1⟩ := hSw
               go_simp
               try with_reducible rfl
              try simp only [Act.put, List.getElem_toArray, List.getElem_cons_zero, List.getElem_cons_succ, List.setIfInBounds_toArray, List.set_cons_zero, List.set_cons_succ]
              refine wpAnyH_take (i := 4) (v := ?_) rfl (by kernel_rfl) (by kernel_rfl) (by kernel_rfl) (fun _ _ _ h => h) (Or.inl ⟨by rfl, ?nqb4⟩) hHeld ?_
              case nqb4 =>
               intro wS hSw
               obtain ⟨k0, k1⟩ := hSw
               go_simp
               try with_reducible rfl
              try simp only [Act.put, List.getElem_toArray, List.getElem_cons_zero, List.getElem_cons_succ, List.setIfInBounds_toArray, List.set_cons_zero, List.set_cons_succ]
              refine wpAnyH_take (i := 5) (v := undef) rfl (by kernel_rfl) (by kernel_rfl) (by kernel_rfl) (fun _ _ _ h => h) (Or.inr ⟨by rfl, rfl⟩) hHeld ?_
              try simp only [Act.put, List.getElem_toArray, List.getElem_cons_zero, List.getElem_cons_succ, List.setIfInBounds_toArray, List.set_cons_zero, List.set_cons_succ]
              refine wpAnyH_take (i := 6) (v := undef) rfl (by kernel_rfl) (by kernel_rfl) (by kernel_rfl) (fun _ _ _ h => h) (Or.inr ⟨by rfl, rfl⟩) hHeld ?_
              try simp only [Act.put, List.getElem_toArray, List.getElem_cons_zero, List.getElem_cons_succ, List.setIfInBounds_toArray, List.set_cons_zero, List.set_cons_succ]
              refine wpAnyH_take (i := 7) (v := undef) rfl (by kernel_rfl) (by kernel_rfl) (by kernel_rfl) (fun _ _ _ h => h) (Or.inr ⟨by rfl, rfl⟩) hHeld ?_
              try simp only [Act.put, List.getElem_toArray, List.getElem_cons_zero, List.getElem_cons_succ, List.setIfInBounds_toArray, List.set_cons_zero, List.set_cons_succ]
              refine wpAnyH_take (i := 8) (v := undef) rfl (by kernel_rfl) (by kernel_rfl) (by kernel_rfl) (fun _ _ _ h => h) (Or.inr ⟨by rfl, rfl⟩) hHeld ?_
              try simp only [Act.put, List.getElem_toArray, List.getElem_cons_zero, List.getElem_cons_succ, List.setIfInBounds_toArray, List.set_cons_zero, List.set_cons_succ]
              refine wpAnyH_take (i := 9) (v := undef) rfl (by kernel_rfl) (by kernel_rfl) (by kernel_rfl) (fun _ _ _ h => h) (Or.inr ⟨by rfl, rfl⟩) hHeld ?_
              try simp only [Act.put, List.getElem_toArray, List.getElem_cons_zero, List.getElem_cons_succ, List.setIfInBounds_toArray, List.set_cons_zero, List.set_cons_succ]
              refine wpAnyH_take (i := 10) (v := undef) rfl (by kernel_rfl) (by kernel_rfl) (by kernel_rfl) (fun _ _ _ h => h) (Or.inr ⟨by rfl, rfl⟩) hHeld ?_
              try simp only [Act.put, List.getElem_toArray, List.getElem_cons_zero, List.getElem_cons_succ, List.setIfInBounds_toArray, List.set_cons_zero, List.set_cons_succ]
              refine wpAnyH_take (i := 11) (v := undef) rfl (by kernel_rfl) (by kernel_rfl) (by kernel_rfl) (fun _ _ _ h => h) (Or.inr ⟨by rfl, rfl⟩) hHeld ?_
              try simp only [Act.put, List.getElem_toArray, List.getElem_cons_zero, List.getElem_cons_succ, List.setIfInBounds_toArray, List.set_cons_zero, List.set_cons_succ]
              refine wpAnyH_take (i := 12) (v := undef) rfl (by kernel_rfl) (by kernel_rfl) (by kernel_rfl) (fun _ _ _ h => h) (Or.inr ⟨by rfl, rfl⟩) hHeld ?_
              try simp only [Act.put, List.getElem_toArray, List.getElem_cons_zero, List.getElem_cons_succ, List.setIfInBounds_toArray, List.set_cons_zero, List.set_cons_succ]
              refine wpAnyH_take (i := 13) (v := undef) rfl (by kernel_rfl) (by kernel_rfl) (by kernel_rfl) (fun _ _ _ h => h) (Or.inr ⟨by rfl, rfl⟩) hHeld ?_
              try simp only [Act.put, List.getElem_toArray, List.getElem_cons_zero, List.getElem_cons_succ, List.setIfInBounds_toArray, List.set_cons_zero, List.set_cons_succ]
              refine wpAnyH_take (i := 14) (v := ?_) rfl (by kernel_rfl) (by kernel_rfl) (by kernel_rfl) (fun _ _ _ h => h) (Or.inl ⟨by rfl, ?nqb14⟩) hHeld ?_
              case nqb14 =>
               intro wS hSw
               obtain ⟨k0, k1⟩ := hSw
               go_simp
               try with_reducible rfl
              try simp only [Act.put, List.getElem_toArray, List.getElem_cons_zero, List.getElem_cons_succ, List.setIfInBounds_toArray, List.set_cons_zero, List.set_cons_succ]
              refine wpAnyH_take (i := 15) (v := ?_) rfl (by kernel_rfl) (by kernel_rfl) (by kernel_rfl) (fun _ _ _ h => h) (Or.inl ⟨by rfl, ?nqb15⟩) hHeld ?_
              case nqb15 =>
               intro wS hSw
               obtain ⟨k0, k1⟩ := hSw
               go_simp
               try with_reducible rfl
              try simp only [Act.put, List.getElem_toArray, List.getElem_cons_zero, List.getElem_cons_succ, List.setIfInBounds_toArray, List.set_cons_zero, List.set_cons_succ]
              refine wpAnyH_done (by kernel_rfl) ?_ _
              clear hHeld
              try simp only [Act.put, List.getElem_toArray, List.getElem_cons_zero, List.getElem_cons_succ, List.setIfInBounds_toArray, List.set_cons_zero, List.set_cons_succ]
              clear hkli hklf hkll hkd hkl
              go_wp2
              go_roundw
              case rel => exact ⟨i4 + 1, k, q, rm, rc, qa, by omega, by go_num, rfl, rfl, hqa, by omega, by omega, by omega, by omega, HSB, Lib.hid HB.out.drew⟩
              case measure => simp [RowKit.intOf]; omega
             ·have hkl : (k : Int) < (told.length : Int) := by omega
              obtain ⟨tS, htS⟩ : ∃ tS : ByteArray, tS = ⟨s.toArray⟩ := ⟨_, rfl⟩
              have heq : (tS.toList == FS.toList) = false := by
               rw [Lib.bytes_beq_false_iff, htS, HFS.out]
               intro e
               injection e with e
               exact hsn (by simpa using e)
              obtain ⟨gt, ct, hvt, hgt, _, _, hrt⟩ := rowS_form HPT11.out.row (by omega)
              obtain ⟨rfl, rfl⟩ : vta = some ⟨gt, 0, none⟩ ∧ vtc = ct := by injection hvt with e1 _ e3; exact ⟨e1, e3⟩
              have K43 : Hid (∀ w', Below w11.heap.size w11 w' → w'.cell? ⟨gt, k, none⟩ = some (.string tS) ∧ w'.cell? ⟨gf, i4, none⟩ = some (.string FS)) := Lib.hid (fun w' hb => ⟨(hb.cell (p := ⟨gt, k, none⟩) hgt).trans (by rw [htS]; exact hrt k _ (by rw [List.getElem?_map, t1]; rfl)), HCF.out w' hb⟩)
              clear hvt hgt hrt
              clear t1 hsn hdt hc htS
              go_wp2
              refine wp_region_held_drew (S := (fun w' : World => w'.cell? ⟨gt, k, none⟩ = some (.string tS) ∧ w'.cell? ⟨gf, i4, none⟩ = some (.string FS))) (by kernel_rfl) (K43.out _ HB.out.drew) (fun hHeld => ?_)
              refine wpAnyH_take (i := 0) (v := ?_) rfl (by kernel_rfl) (by kernel_rfl) (by kernel_rfl) (fun _ _ _ h => h) (Or.inl ⟨by rfl, ?oqb0⟩) hHeld ?_
              case oqb0 =>
               intro wS hSw
               obtain ⟨k0, k1⟩ := hSw
               go_simp
               try with_reducible rfl
              try simp only [Act.put, List.getElem_toArray, List.getElem_cons_zero, List.getElem_cons_succ, List.setIfInBounds_toArray, List.set_cons_zero, List.set_cons_succ]
              refine wpAnyH_take (i := 1) (v := ?_) rfl (by kernel_rfl) (by kernel_rfl) (by kernel_rfl) (fun _ _ _ h => h) (Or.inl ⟨by rfl, ?oqb1⟩) hHeld ?_
              case oqb1 =>
               intro wS hSw
               obtain ⟨k0, k1⟩ := hSw
               go_simp
               try with_reducible rfl
              try simp only [Act.put, List.getElem_toArray, List.getElem_cons_zero, List.getElem_cons_succ, List.setIfInBounds_toArray, List.set_cons_zero, List.set_cons_succ]
              refine wpAnyH_take (i := 2) (v := ?_) rfl (by kernel_rfl) (by kernel_rfl) (by kernel_rfl) (fun _ _ _ h => h) (Or.inl ⟨by rfl, ?oqb2⟩) hHeld ?_
              case oqb2 =>
               intro wS hSw
               obtain ⟨k0, k1⟩ := hSw
               go_simp
               try with_reducible rfl
              try simp only [Act.put, List.getElem_toArray, List.getElem_cons_zero, List.getElem_cons_succ, List.setIfInBounds_toArray, List.set_cons_zero, List.set_cons_succ]
              refine wpAnyH_take (i := 3) (v := ?_) rfl (by kernel_rfl) (by kernel_rfl) (by kernel_rfl) (fun _ _ _ h => h) (Or.inl ⟨by rfl, ?oqb3⟩) hHeld ?_
              case oqb3 =>
               intro wS hSw
               obtain ⟨k0, k1⟩ := hSw
               go_simp
               try with_reducible rfl
              try simp only [Act.put, List.getElem_toArray, List.getElem_cons_zero, List.getElem_cons_succ, List.setIfInBounds_toArray, List.set_cons_zero, List.set_cons_succ]
              refine wpAnyH_take (i := 4) (v := ?_) rfl (by kernel_rfl) (by kernel_rfl) (by kernel_rfl) (fun _ _ _ h => h) (Or.inl ⟨by rfl, ?oqb4⟩) hHeld ?_
              case oqb4 =>
               intro wS hSw
               obtain ⟨k0, k1⟩ := hSw
               go_simp
               try with_reducible rfl
              try simp only [Act.put, List.getElem_toArray, List.getElem_cons_zero, List.getElem_cons_succ, List.setIfInBounds_toArray, List.set_cons_zero, List.set_cons_succ]
              refine wpAnyH_take (i := 5) (v := ?_) rfl (by kernel_rfl) (by kernel_rfl) (by kernel_rfl) (fun _ _ _ h => h) (Or.inl ⟨by rfl, ?oqb5⟩) hHeld ?_
              case oqb5 =>
               intro wS hSw
               obtain ⟨k0, k1⟩ := hSw
               go_simp
               try with_reducible rfl
              try simp only [Act.put, List.getElem_toArray, List.getElem_cons_zero, List.getElem_cons_succ, List.setIfInBounds_toArray, List.set_cons_zero, List.set_cons_succ]
              refine wpAnyH_take (i := 6) (v := ?_) rfl (by kernel_rfl) (by kernel_rfl) (by kernel_rfl) (fun _ _ _ h => h) (Or.inl ⟨by rfl, ?oqb6⟩) hHeld ?_
              case oqb6 =>
               intro wS hSw
               obtain ⟨k0, k1⟩ := hSw
               go_simp
               try with_reducible rfl
              try simp only [Act.put, List.getElem_toArray, List.getElem_cons_zero, List.getElem_cons_succ, List.setIfInBounds_toArray, List.set_cons_zero, List.set_cons_succ]
              refine wpAnyH_take (i := 7) (v := ?_) rfl (by kernel_rfl) (by kernel_rfl) (by kernel_rfl) (fun _ _ _ h => h) (Or.inl ⟨by rfl, ?oqb7⟩) hHeld ?_
              case oqb7 =>
               intro wS hSw
               obtain ⟨k0, k1⟩ := hSw
               go_simp
               try with_reducible rfl
              try simp only [Act.put, List.getElem_toArray, List.getElem_cons_zero, List.getElem_cons_succ, List.setIfInBounds_toArray, List.set_cons_zero, List.set_cons_succ]
              refine wpAnyH_take (i := 8) (v := ?_) rfl (by kernel_rfl) (by kernel_rfl) (by kernel_rfl) (fun _ _ _ h => h) (Or.inl ⟨by rfl, ?oqb8⟩) hHeld ?_
              case oqb8 =>
               intro wS hSw
               obtain ⟨k0, k1⟩ := hSw
               go_simp
               try with_reducible rfl
              try simp only [Act.put, List.getElem_toArray, List.getElem_cons_zero, List.getElem_cons_succ, List.setIfInBounds_toArray, List.set_cons_zero, List.set_cons_succ]
              refine wpAnyH_take (i := 9) (v := ?_) rfl (by kernel_rfl) (by kernel_rfl) (by kernel_rfl) (fun _ _ _ h => h) (Or.inl ⟨by rfl, ?oqb9⟩) hHeld ?_
              case oqb9 =>
               intro wS hSw
               obtain ⟨k0, k1⟩ := hSw
               go_simp
               try with_reducible rfl
              try simp only [Act.put, List.getElem_toArray, List.getElem_cons_zero, List.getElem_cons_succ, List.setIfInBounds_toArray, List.set_cons_zero, List.set_cons_succ]
              refine wpAnyH_take (i := 10) (v := ?_) rfl (by kernel_rfl) (by kernel_rfl) (by kernel_rfl) (fun _ _ _ h => h) (Or.inl ⟨by rfl, ?oqb10⟩) hHeld ?_
              case oqb10 =>
               intro wS hSw
               obtain ⟨k0, k1⟩ := hSw
               go_simp
               try with_reducible rfl
              try simp only [Act.put, List.getElem_toArray, List.getElem_cons_zero, List.getElem_cons_succ, List.setIfInBounds_toArray, List.set_cons_zero, List.set_cons_succ]
              refine wpAnyH_take (i := 11) (v := ?_) rfl (by kernel_rfl) (by kernel_rfl) (by kernel_rfl) (fun _ _ _ h => h) (Or.inl ⟨by rfl, ?oqb11⟩) hHeld ?_
              case oqb11 =>
               intro wS hSw
               obtain ⟨k0, k1⟩ := hSw
               go_simp
               try with_reducible rfl
              try simp only [Act.put, List.getElem_toArray, List.getElem_cons_zero, List.getElem_cons_succ, List.setIfInBounds_toArray, List.set_cons_zero, List.set_cons_succ]
              refine wpAnyH_take (i := 12) (v := ?_) rfl (by kernel_rfl) (by kernel_rfl) (by kernel_rfl) (fun _ _ _ h => h) (Or.inl ⟨by rfl, ?oqb12⟩) hHeld ?_
              case oqb12 =>
               intro wS hSw
               obtain ⟨k0, k1⟩ := hSw
               go_simp
               try with_reducible rfl
              try simp only [Act.put, List.getElem_toArray, List.getElem_cons_zero, List.getElem_cons_succ, List.setIfInBounds_toArray, List.set_cons_zero, List.set_cons_succ]
              refine wpAnyH_take (i := 13) (v := ?_) rfl (by kernel_rfl) (by kernel_rfl) (by kernel_rfl) (fun _ _ _ h => h) (Or.inl ⟨by rfl, ?oqb13⟩) hHeld ?_
              case oqb13 =>
               intro wS hSw
               obtain ⟨k0, k1⟩ := hSw
               go_simp
               try with_reducible rfl
              try simp only [Act.put, List.getElem_toArray, List.getElem_cons_zero, List.getElem_cons_succ, List.setIfInBounds_toArray, List.set_cons_zero, List.set_cons_succ]
              refine wpAnyH_take (i := 14) (v := ?_) rfl (by kernel_rfl) (by kernel_rfl) (by kernel_rfl) (fun _ _ _ h => h) (Or.inl ⟨by rfl, ?oqb14⟩) hHeld ?_
              case oqb14 =>
               intro wS hSw
               obtain ⟨k0, k1⟩ := hSw
               go_simp
               try with_reducible rfl
              try simp only [Act.put, List.getElem_toArray, List.getElem_cons_zero, List.getElem_cons_succ, List.setIfInBounds_toArray, List.set_cons_zero, List.set_cons_succ]
              refine wpAnyH_take (i := 15) (v := ?_) rfl (by kernel_rfl) (by kernel_rfl) (by kernel_rfl) (fun _ _ _ h => h) (Or.inl ⟨by rfl, ?oqb15⟩) hHeld ?_
              case oqb15 =>
               intro wS hSw
               obtain ⟨k0, k1⟩ := hSw
               go_simp
               try with_reducible rfl
              try simp only [Act.put, List.getElem_toArray, List.getElem_cons_zero, List.getElem_cons_succ, List.setIfInBounds_toArray, List.set_cons_zero, List.set_cons_succ]
              refine wpAnyH_done (by kernel_rfl) ?_ _
              clear hHeld
              try simp only [Act.put, List.getElem_toArray, List.getElem_cons_zero, List.getElem_cons_succ, List.setIfInBounds_toArray, List.set_cons_zero, List.set_cons_succ]
              clear heq hkl
              go_wp2
              go_roundw
              case rel => exact ⟨i4 + 1, k, q, rm, rc, qa, by omega, by go_num, rfl, rfl, hqa, by omega, by omega, by omega, by omega, HSB, Lib.hid HB.out.drew⟩
              case measure => simp [RowKit.intOf]; omega
          ·obtain rfl : i4 = F.length := by omega
           have hfin : M.length ≤ q := by
            have := HSA.out
            rw [show F.length = (filN T.L).length by rw [HFI.out, List.length_map]] at this
            exact this.fin
           have hr0 : rm = 0 := by omega
           subst hr0
           go_wp2
           go_ret
           exact ⟨rfl, HL11.out.trans (HB.out.mono HL11.out.size)⟩
end Go.Proofs.YthcjjekkjbidlaaDoor.Sr
