import Derived.Test.YthcjjekkjbidlaaDoorZPSrHonest
import Derived.Test.YthcjjekkjbidlaaDoorZPSrHonSt
import Derived.Test.YthcjjekkjbidlaaDoorZPSrAwake
set_option linter.unusedSimpArgs false
set_option linter.unusedVariables false
/-
  The law of StatixHonest: a file that is not told as changed has the bytes that it had when it was entered.
-/
namespace Go.Proofs.YthcjjekkjbidlaaDoor.Sr
open Go.RowKit Go.Maps Go.WideMaps Go.Proofs.YthcjjekkjbidlaaDoor.Rf Go.Proofs.YthcjjekkjbidlaaDoor.Nm Go.Proofs.YthcjjekkjbidlaaDoor.St

theorem chg_len {k : Nat} {T : Tr} (g : Good k T) {X : List SE} (hk : k ≤ 500000 := by omega) : ∀ x ∈ chgL X T.L, x.length ≤ maxLen := by
  intro x hx
  rw [chgL, List.mem_map] at hx
  obtain ⟨y, hy, rfl⟩ := hx
  have h2 := ((g.fine hk).names y (List.mem_filter.1 hy).1).1
  unfold maxLen
  rw [pathN]; split
  · decide
  · omega
set_option linter.unusedSimpArgs false in
set_option maxHeartbeats 16000000 in
set_option maxRecDepth 100000 in
theorem honest_law (w : World) (v : Value) (l : List Chg) (hl : ChgsAt w v l) :
    Calls Tryd.prog 4 #[v] w fun e w' => e = .returned (.bool true) ∧ Below w.heap.size w w' := by
  obtain ⟨a, cap, rfl, hlm, hcell, hfit⟩ := hl
  have hmm := @run_makeMap Tryd.prog
  have AW := Lib.hid (awake_any w)
  have HC := Lib.hid hcell; have HF := Lib.hid hfit
  unfold maxLen at hlm
  clear hcell hfit
  go_enter Tryd.func4, Tryd.ntmps4
  go_wp2_with fail
  refine AW.out.mono ?_
  rintro ex w1 ⟨rfl, hb1⟩
  have HB1 := Lib.hid hb1
  have TN := Lib.hid (tree_new w1)
  clear hb1 AW
  go_wp2_with fail
  refine TN.out.mono ?_
  rintro ex w2 ⟨r, p, m, rfl, ht2, hb2⟩
  have HT2 := Lib.hid ht2; have HB2 := Lib.hid hb2
  have NW := Lib.hid (new_any w2)
  clear ht2 hb2 TN
  unfold ptr
  go_wp2_with fail
  refine NW.out.mono ?_
  rintro ex w3 ⟨g, b, rfl, hi3, hb3⟩
  obtain ⟨hst, hlow⟩ := HonSt.start HB1.out HT2.out hi3 HB2.out hb3
  obtain ⟨db, hdb⟩ : ∃ db, db = w3.heap.size := ⟨_, rfl⟩
  obtain ⟨kb, hkb⟩ : ∃ kb, kb = w3.heap.size + 1 := ⟨_, rfl⟩
  rw [← hkb, ← hdb] at hst
  have HST := Lib.hid hst; have HLOW := Lib.hid hlow
  clear hi3 hb3 NW HT2 HB2 HB1 hst hlow
  unfold ptr
  go_wp2
  rw [← hkb, ← hdb]
  clear hdb hkb
  go_loopw [7] (fun v7 wr => ∃ i : Nat, i ≤ l.length ∧ i ≤ 60 ∧ v7 = .int .i64 (i : Int) ∧ ∃ (T : Tr) (X : List SE) (D : MV (List UInt8)) (K : MV (Nat × Int)), Hid (HonSt w.heap.size wr r T g b X db D kb K i i) ∧ Hid (Below w.heap.size w wr)) (fun v7 _ => l.length - (RowKit.intOf v7).toNat)
  case atStart => exact ⟨0, by omega, by omega, rfl, newT p m, [], [], [], HST, HLOW⟩
  case round =>
    obtain ⟨i, hi, hi60, rfl, T, X, D, K, HS, HLW⟩ := hrel
    clear HST HLOW hmm
    by_cases hil : (i : Int) < (l.length : Int)
    · by_cases hi6 : (i : Int) < 60
      · skip
        have hi2 : i < l.length := by omega
        obtain ⟨x, hx⟩ : ∃ x, l[i]? = some x := ⟨_, List.getElem?_eq_getElem hi2⟩
        obtain ⟨ba, oa, rfl, hba, hca⟩ := HC.out (fun h => by rw [h] at hi2; cases hi2)
        have hfx := HF.out x (List.mem_of_getElem? hx)
        have hrg : wr.rangeAt ba (oa + i * 4) x.cells := fun j u hj => (HLW.out.cell (p := ⟨ba, oa + i * 4 + j, none⟩) hba).trans (hca i x hx j u hj)
        have HRG := Lib.hid hrg
        have HA := happens_any w.heap.size wr r T x.kind x.path x.more x.tick hfx.tick (by have := hfx.path; omega) (by have := hfx.more; omega) i (by omega) HS.out.good HS.out.st.size HS.out.st.tree
        unfold ptr at HA
        have HA := Lib.hid HA
        have KR : Hid (∀ w', Below w.heap.size w w' → w'.cell? ⟨ba, oa + i * 4, none⟩ = some (.int .i64 x.kind) ∧ w'.cell? ⟨ba, oa + i * 4 + 1, none⟩ = some (.string ⟨x.path.toArray⟩)) := Lib.hid (fun w' hb => ⟨(hb.cell (p := ⟨ba, oa + i * 4, none⟩) hba).trans (hca i x hx 0 _ rfl), (hb.cell (p := ⟨ba, oa + i * 4 + 1, none⟩) hba).trans (hca i x hx 1 _ rfl)⟩)
        have HPX := Lib.hid hfx.path
        have hcx : x.cells = [.int .i64 x.kind, .string ⟨x.path.toArray⟩, .string ⟨x.more.toArray⟩, .int .u32 (x.tick : Int)] := rfl
        clear hx hca hfx hrg
        go_wp2_with (first
          | (refine wpList_load_mid rfl _ _ rfl ba (oa + i * 4) rfl x.cells _ HRG.out Tryd.underlying53 rfl (infoChg x) ?_
             rw [hcx])
          | fail)
        refine HA.out.mono ?_
        rintro ex w4 ⟨rfl, T6, hct⟩
        have HS4 := Lib.hid (HS.out.call hct)
        have HL4 : Hid (Below w.heap.size w w4) := Lib.hid (HLW.out.trans (HS.out.callLow hct))
        clear hct HA hcx HRG
        obtain ⟨kx0, kx1⟩ := KR.out w4 HL4.out
        by_cases h6 : x.kind = 6
        · skip
          rw [h6] at kx0
          have EN := enter_any w.heap.size w4 r T6 g b X db D kb K x.path HPX.out (i + 1) (by omega) HS4.out.good (by have := HS4.out.reads; omega) (by have := HS4.out.dl; omega) (by have := HS4.out.kl; omega) HS4.out.st
          unfold ptr at EN
          have EN := Lib.hid EN
          clear h6
          go_wp2_with fail
          refine EN.out.mono ?_
          rintro ex w6 hpost
          obtain ⟨rfl, T5, X6, D6, K6, eL, eC, eM, hs6, hu6, _⟩ := HS4.out.enter hpost
          have HS6 := Lib.hid hs6
          have HL6 : Hid (Below w.heap.size w w6) := Lib.hid (HL4.out.trans (HS4.out.turnLow hu6))
          clear hpost eL eC eM hs6 hu6 EN kx0 kx1
          have CH := changed_any w.heap.size w6 g b X6 HS6.out.st.idx w.heap.size r T5 (HS6.out.good.fine (by omega)) (by have := HS6.out.good.len; omega) HS6.out.st.tree
          unfold ptr at CH
          have CH := Lib.hid CH
          go_wp2_with fail
          refine CH.out.mono ?_
          rintro ex w7 ⟨vt, rfl, ho7, hb7⟩
          have HS7 := Lib.hid (HS6.out.below hb7)
          have HL7 : Hid (Below w.heap.size w w7) := Lib.hid (HL6.out.trans (hb7.mono HL6.out.size))
          have hpl : ∀ x ∈ chgL X6 T5.L, x.length ≤ maxLen := chg_len HS6.out.good
          have hst7 := (PathAt.strs (l := chgL X6 T5.L) ⟨ho7, hpl⟩)
          have hcl : (chgL X6 T5.L).length ≤ 100 := by have h1 := chgL_len X6 T5.L; have h2 := HS6.out.good.len; omega
          have HO := honest_any w.heap.size w7 r T5 g b X6 db D6 kb K6 vt (chgL X6 T5.L) hst7 (by omega) (i + 1) (by omega) HS7.out.good HS7.out.st (fun x hx h1 => honest_fine HS7.out.rel HS7.out.good HS7.out.st.tree.srt hx h1)
          unfold ptr at HO
          have HO := Lib.hid HO
          obtain ⟨vta, vtc, rfl⟩ := rowS_slice ho7
          clear ho7 hb7 hst7 hpl CH
          go_wp2_with fail
          refine HO.out.mono ?_
          rintro ex w8 ⟨rfl, hb8⟩
          have HS8 := Lib.hid (HS7.out.below hb8)
          have HL8 : Hid (Below w.heap.size w w8) := Lib.hid (HL7.out.trans (hb8.mono HL7.out.size))
          clear hb8 HO
          go_wp2
          go_roundw
          case rel => exact ⟨i + 1, by omega, by omega, by go_num, T5, X6, D6, K6, HS8, HL8⟩
          case measure => simp [RowKit.intOf]; omega
        · skip
          have hb6 : (x.kind == 6) = false := by rw [beq_eq_false_iff_ne]; exact h6
          have HS6 := Lib.hid (HS4.out.more (Nat.le_succ i))
          have HL6 := HL4
          obtain ⟨w6, hw6⟩ : ∃ w6, w6 = w4 := ⟨_, rfl⟩
          rw [← hw6] at HS6 HL6 kx0 kx1 ⊢
          clear hw6 h6
          obtain ⟨X6, hX6⟩ : ∃ X6, X6 = X := ⟨_, rfl⟩
          obtain ⟨D6, hD6⟩ : ∃ D6, D6 = D := ⟨_, rfl⟩
          obtain ⟨K6, hK6⟩ : ∃ K6, K6 = K := ⟨_, rfl⟩
          rw [← hX6, ← hD6, ← hK6] at HS6
          clear hX6 hD6 hK6
          have CH := changed_any w.heap.size w6 g b X6 HS6.out.st.idx w.heap.size r T6 (HS6.out.good.fine (by omega)) (by have := HS6.out.good.len; omega) HS6.out.st.tree
          unfold ptr at CH
          have CH := Lib.hid CH
          go_wp2_with fail
          refine CH.out.mono ?_
          rintro ex w7 ⟨vt, rfl, ho7, hb7⟩
          have HS7 := Lib.hid (HS6.out.below hb7)
          have HL7 : Hid (Below w.heap.size w w7) := Lib.hid (HL6.out.trans (hb7.mono HL6.out.size))
          have hpl : ∀ x ∈ chgL X6 T6.L, x.length ≤ maxLen := chg_len HS6.out.good
          have hst7 := (PathAt.strs (l := chgL X6 T6.L) ⟨ho7, hpl⟩)
          have hcl : (chgL X6 T6.L).length ≤ 100 := by have h1 := chgL_len X6 T6.L; have h2 := HS6.out.good.len; omega
          have HO := honest_any w.heap.size w7 r T6 g b X6 db D6 kb K6 vt (chgL X6 T6.L) hst7 (by omega) (i + 1) (by omega) HS7.out.good HS7.out.st (fun x hx h1 => honest_fine HS7.out.rel HS7.out.good HS7.out.st.tree.srt hx h1)
          unfold ptr at HO
          have HO := Lib.hid HO
          obtain ⟨vta, vtc, rfl⟩ := rowS_slice ho7
          clear ho7 hb7 hst7 hpl CH
          go_wp2_with fail
          refine HO.out.mono ?_
          rintro ex w8 ⟨rfl, hb8⟩
          have HS8 := Lib.hid (HS7.out.below hb8)
          have HL8 : Hid (Below w.heap.size w w8) := Lib.hid (HL7.out.trans (hb8.mono HL7.out.size))
          clear hb8 HO
          go_wp2
          go_roundw
          case rel => exact ⟨i + 1, by omega, by omega, by go_num, T6, X6, D6, K6, HS8, HL8⟩
          case measure => simp [RowKit.intOf]; omega
      · skip
        have CH := changed_any w.heap.size wr g b X HS.out.st.idx w.heap.size r T (HS.out.good.fine (by omega)) (by have := HS.out.good.len; omega) HS.out.st.tree
        unfold ptr at CH
        have CH := Lib.hid CH
        go_wp2_with fail
        refine CH.out.mono ?_
        rintro ex w4 ⟨vt, rfl, ho4, hb4⟩
        have HS4 := Lib.hid (HS.out.below hb4)
        have HL4 : Hid (Below w.heap.size w w4) := Lib.hid (HLW.out.trans (hb4.mono HLW.out.size))
        obtain ⟨told, htold⟩ : ∃ told, told = chgL X T.L := ⟨_, rfl⟩
        rw [← htold] at ho4
        have hpl : ∀ x ∈ told, x.length ≤ maxLen := by rw [htold]; exact chg_len HS.out.good
        have HPA : Hid (PathAt wr.heap.size w4 vt told) := Lib.hid ⟨ho4, hpl⟩
        have HTO := Lib.hid htold
        have htl : told.length ≤ 61 := by rw [htold]; have h1 := chgL_len X T.L; have h2 := HS.out.good.len; omega
        obtain ⟨vta, vtc, rfl⟩ := rowS_slice ho4
        have HLX : Hid (Left T X told 0) := Lib.hid (by rw [htold]; exact left_all)
        have HSZ := Lib.hid (show wr.heap.size ≤ w4.heap.size from hb4.size)
        have HBLK : Hid (r < wr.heap.size ∧ b < wr.heap.size ∧ db < wr.heap.size ∧ kb < wr.heap.size) := Lib.hid ⟨HS.out.st.tree.lt r (by simp), HS.out.st.idx.lt_b, HS.out.st.dat.lt, HS.out.st.kep.lt⟩
        clear ho4 hb4 hpl htold CH
        have HTG : Hid (∀ x ∈ T.L, True) := Lib.hid (fun _ _ => trivial)
        have HGT := Lib.hid HS.out.good
        have HSR := Lib.hid HS.out.st.tree.srt
        obtain ⟨N0, hN0⟩ : ∃ N0, N0 = wr.heap.size := ⟨_, rfl⟩
        rw [← hN0] at HPA HSZ HBLK
        clear HS HLW hN0
        go_wp2
        go_loopw [12] (fun v12 ws => ∃ j : Nat, j ≤ told.length ∧ v12 = .int .i64 (j : Int) ∧ ∃ (T2 : Tr) (X2 : List SE) (D2 : MV (List UInt8)) (K2 : MV (Nat × Int)), Hid (T2.L = T.L) ∧ Hid (HonSt w.heap.size ws r T2 g b X2 db D2 kb K2 i (i + j)) ∧ Hid (Left T X2 told j) ∧ Hid (PathAt N0 ws (.slice vta told.length vtc) told) ∧ Hid (Below w.heap.size w ws)) (fun v12 _ => told.length - (RowKit.intOf v12).toNat)
        case atStart => exact ⟨0, by omega, rfl, T, X, D, K, Lib.hid rfl, HS4, HLX, HPA, HL4⟩
        case round =>
          clear HS4 HPA HL4 HLX
          rename World => ws
          obtain ⟨j, hj, rfl, T2, X2, D2, K2, HTL, HS2, HLF, HPA, HLW⟩ := hrel
          by_cases hjl : (j : Int) < (told.length : Int)
          · have hj2 : j < told.length := by omega
            obtain ⟨s, hs⟩ : ∃ s, told[j]? = some s := ⟨_, List.getElem?_eq_getElem hj2⟩
            obtain ⟨y, hy, hyf, rfl⟩ : ∃ y ∈ T.L, y.at_.node = 1 ∧ pathN y.nm = s := by
              have := List.mem_of_getElem? hs
              rw [HTO.out, chgL, List.mem_map] at this
              obtain ⟨y, hy, rfl⟩ := this
              rw [List.mem_filter] at hy
              refine ⟨y, hy.1, ?_, rfl⟩
              have := hy.2
              rw [chgB, Bool.and_eq_true, decide_eq_true_eq] at this
              exact this.1
            obtain ⟨gt, ct, hve, hgt, hgw, hgc, hrow⟩ := rowS_form HPA.out.row (by omega)
            have hveq : vta = some ⟨gt, 0, none⟩ ∧ vtc = ct := by injection hve with e1 _ e3; exact ⟨e1, e3⟩
            obtain ⟨rfl, rfl⟩ := hveq
            have cj : ws.cell? ⟨gt, j, none⟩ = some (.string ⟨(pathN y.nm).toArray⟩) := hrow j _ (by rw [List.getElem?_map, hs]; rfl)
            have hpy : (pathN y.nm).length ≤ 140737488351232 := by
              have h1 := (HGT.out.fine (by omega)).names y hy
              have h2 := h1.1
              rw [pathN]; split
              · decide
              · omega
            have EN := enter_any w.heap.size ws r T2 g b X2 db D2 kb K2 (pathN y.nm) hpy i (by omega) HS2.out.good (by have := HS2.out.reads; omega) (by have := HS2.out.dl; omega) (by have := HS2.out.kl; omega) HS2.out.st
            unfold ptr at EN
            have EN := Lib.hid EN
            have HY := Lib.hid hy; have HYF := Lib.hid hyf; have HSJ := Lib.hid hs; have HGW := Lib.hid hgw; have HGTL := Lib.hid hgt
            clear hs hy hyf hrow hve hgt hgw hpy
            go_wp2_with fail
            refine EN.out.mono ?_
            rintro ex w6 hpost
            obtain ⟨rfl, T5, X6, D6, K6, eL, eC, eM, hs6, hu6, hyes⟩ := HS2.out.enter hpost
            have HS6 := Lib.hid hs6
            have HL6 : Hid (Below w.heap.size w w6) := Lib.hid (HLW.out.trans (HS2.out.turnLow hu6))
            have HTL6 : Hid (T5.L = T.L) := Lib.hid (eL.trans HTL.out)
            have HPA6 : Hid (PathAt N0 w6 (.slice (some ⟨gt, 0, none⟩) told.length vtc) told) := Lib.hid (HPA.out.kept (fun x hx => hu6.block x (by
              have : x = gt := by simpa [ob, Value.ownBlock] using hx
              rw [this]; exact HGTL.out) (by
              have : x = gt := by simpa [ob, Value.ownBlock] using hx
              rw [this]
              have := HBLK.out; have := HGW.out
              simp; omega)))
            have HLF6 : Hid (Left T X6 told (j + 1)) := Lib.hid (by
              have hy2 : y ∈ T2.L := by rw [HTL.out]; exact HY.out
              obtain ⟨m1, m2, m3, m4, m5, m6, m7⟩ := may_node HS2.out.good hy2 HS2.out.st.tree.srt HYF.out
              have hx := setX_yes (X := X2) m2 (by have := HS2.out.xl; omega)
              rw [hyes m1 (by rw [hx])]
              exact left_step HGT.out HSR.out HS2.out.rel.srt HLF.out HY.out HSJ.out rfl (by rw [m4, HYF.out]) m5 m6 m7)
            clear hpost eL eC eM hs6 hu6 hyes EN cj
            go_wp2
            go_roundw
            case rel => exact ⟨j + 1, by omega, by go_num, T5, X6, D6, K6, HTL6, HS6, HLF6, HPA6, HL6⟩
            case measure => simp [RowKit.intOf]; omega
          · obtain rfl : j = told.length := by omega
            have hnil : chgL X2 T2.L = [] := by rw [HTL.out]; exact left_none HLF.out
            have CH := changed_any w.heap.size ws g b X2 HS2.out.st.idx w.heap.size r T2 (HS2.out.good.fine (by omega)) (by have := HS2.out.good.len; omega) HS2.out.st.tree
            rw [hnil] at CH
            unfold ptr at CH
            have CH := Lib.hid CH
            have HNIL := Lib.hid hnil
            clear hnil
            go_wp2_with fail
            refine CH.out.mono ?_
            rintro ex w7 ⟨vl, rfl, ho7, hb7⟩
            have HS7 := Lib.hid (HS2.out.below hb7)
            have HL7 : Hid (Below w.heap.size w w7) := Lib.hid (HLW.out.trans (hb7.mono HLW.out.size))
            obtain ⟨vla, vlc, rfl⟩ := rowS_slice ho7
            have HO := honest_any w.heap.size w7 r T2 g b X2 db D2 kb K2 (.slice none 0 0) [] ⟨none, 0, rfl, Nat.zero_le _, by simp, by simp⟩ (by simp) i (by omega) HS7.out.good HS7.out.st (fun x hx h1 => by
              have := honest_fine HS7.out.rel HS7.out.good HS7.out.st.tree.srt hx h1
              rw [HNIL.out] at this; exact this)
            unfold ptr at HO
            have HO := Lib.hid HO
            clear ho7 hb7 CH
            go_wp2_with fail
            refine HO.out.mono ?_
            rintro ex w8 ⟨rfl, hb8⟩
            have HL8 : Hid (Below w.heap.size w w8) := Lib.hid (HL7.out.trans (hb8.mono HL7.out.size))
            clear hb8 HO
            go_wp2
            go_ret
            exact ⟨rfl, HL8.out⟩
    · skip
      have CH := changed_any w.heap.size wr g b X HS.out.st.idx w.heap.size r T (HS.out.good.fine (by omega)) (by have := HS.out.good.len; omega) HS.out.st.tree
      unfold ptr at CH
      have CH := Lib.hid CH
      go_wp2_with fail
      refine CH.out.mono ?_
      rintro ex w4 ⟨vt, rfl, ho4, hb4⟩
      have HS4 := Lib.hid (HS.out.below hb4)
      have HL4 : Hid (Below w.heap.size w w4) := Lib.hid (HLW.out.trans (hb4.mono HLW.out.size))
      obtain ⟨told, htold⟩ : ∃ told, told = chgL X T.L := ⟨_, rfl⟩
      rw [← htold] at ho4
      have hpl : ∀ x ∈ told, x.length ≤ maxLen := by rw [htold]; exact chg_len HS.out.good
      have HPA : Hid (PathAt wr.heap.size w4 vt told) := Lib.hid ⟨ho4, hpl⟩
      have HTO := Lib.hid htold
      have htl : told.length ≤ 61 := by rw [htold]; have h1 := chgL_len X T.L; have h2 := HS.out.good.len; omega
      obtain ⟨vta, vtc, rfl⟩ := rowS_slice ho4
      have HLX : Hid (Left T X told 0) := Lib.hid (by rw [htold]; exact left_all)
      have HSZ := Lib.hid (show wr.heap.size ≤ w4.heap.size from hb4.size)
      have HBLK : Hid (r < wr.heap.size ∧ b < wr.heap.size ∧ db < wr.heap.size ∧ kb < wr.heap.size) := Lib.hid ⟨HS.out.st.tree.lt r (by simp), HS.out.st.idx.lt_b, HS.out.st.dat.lt, HS.out.st.kep.lt⟩
      clear ho4 hb4 hpl htold CH
      have HTG : Hid (∀ x ∈ T.L, True) := Lib.hid (fun _ _ => trivial)
      have HGT := Lib.hid HS.out.good
      have HSR := Lib.hid HS.out.st.tree.srt
      obtain ⟨N0, hN0⟩ : ∃ N0, N0 = wr.heap.size := ⟨_, rfl⟩
      rw [← hN0] at HPA HSZ HBLK
      clear HS HLW hN0
      go_wp2
      go_loopw [12] (fun v12 ws => ∃ j : Nat, j ≤ told.length ∧ v12 = .int .i64 (j : Int) ∧ ∃ (T2 : Tr) (X2 : List SE) (D2 : MV (List UInt8)) (K2 : MV (Nat × Int)), Hid (T2.L = T.L) ∧ Hid (HonSt w.heap.size ws r T2 g b X2 db D2 kb K2 i (i + j)) ∧ Hid (Left T X2 told j) ∧ Hid (PathAt N0 ws (.slice vta told.length vtc) told) ∧ Hid (Below w.heap.size w ws)) (fun v12 _ => told.length - (RowKit.intOf v12).toNat)
      case atStart => exact ⟨0, by omega, rfl, T, X, D, K, Lib.hid rfl, HS4, HLX, HPA, HL4⟩
      case round =>
        clear HS4 HPA HL4 HLX
        rename World => ws
        obtain ⟨j, hj, rfl, T2, X2, D2, K2, HTL, HS2, HLF, HPA, HLW⟩ := hrel
        by_cases hjl : (j : Int) < (told.length : Int)
        · have hj2 : j < told.length := by omega
          obtain ⟨s, hs⟩ : ∃ s, told[j]? = some s := ⟨_, List.getElem?_eq_getElem hj2⟩
          obtain ⟨y, hy, hyf, rfl⟩ : ∃ y ∈ T.L, y.at_.node = 1 ∧ pathN y.nm = s := by
            have := List.mem_of_getElem? hs
            rw [HTO.out, chgL, List.mem_map] at this
            obtain ⟨y, hy, rfl⟩ := this
            rw [List.mem_filter] at hy
            refine ⟨y, hy.1, ?_, rfl⟩
            have := hy.2
            rw [chgB, Bool.and_eq_true, decide_eq_true_eq] at this
            exact this.1
          obtain ⟨gt, ct, hve, hgt, hgw, hgc, hrow⟩ := rowS_form HPA.out.row (by omega)
          have hveq : vta = some ⟨gt, 0, none⟩ ∧ vtc = ct := by injection hve with e1 _ e3; exact ⟨e1, e3⟩
          obtain ⟨rfl, rfl⟩ := hveq
          have cj : ws.cell? ⟨gt, j, none⟩ = some (.string ⟨(pathN y.nm).toArray⟩) := hrow j _ (by rw [List.getElem?_map, hs]; rfl)
          have hpy : (pathN y.nm).length ≤ 140737488351232 := by
            have h1 := (HGT.out.fine (by omega)).names y hy
            have h2 := h1.1
            rw [pathN]; split
            · decide
            · omega
          have EN := enter_any w.heap.size ws r T2 g b X2 db D2 kb K2 (pathN y.nm) hpy i (by omega) HS2.out.good (by have := HS2.out.reads; omega) (by have := HS2.out.dl; omega) (by have := HS2.out.kl; omega) HS2.out.st
          unfold ptr at EN
          have EN := Lib.hid EN
          have HY := Lib.hid hy; have HYF := Lib.hid hyf; have HSJ := Lib.hid hs; have HGW := Lib.hid hgw; have HGTL := Lib.hid hgt
          clear hs hy hyf hrow hve hgt hgw hpy
          go_wp2_with fail
          refine EN.out.mono ?_
          rintro ex w6 hpost
          obtain ⟨rfl, T5, X6, D6, K6, eL, eC, eM, hs6, hu6, hyes⟩ := HS2.out.enter hpost
          have HS6 := Lib.hid hs6
          have HL6 : Hid (Below w.heap.size w w6) := Lib.hid (HLW.out.trans (HS2.out.turnLow hu6))
          have HTL6 : Hid (T5.L = T.L) := Lib.hid (eL.trans HTL.out)
          have HPA6 : Hid (PathAt N0 w6 (.slice (some ⟨gt, 0, none⟩) told.length vtc) told) := Lib.hid (HPA.out.kept (fun x hx => hu6.block x (by
            have : x = gt := by simpa [ob, Value.ownBlock] using hx
            rw [this]; exact HGTL.out) (by
            have : x = gt := by simpa [ob, Value.ownBlock] using hx
            rw [this]
            have := HBLK.out; have := HGW.out
            simp; omega)))
          have HLF6 : Hid (Left T X6 told (j + 1)) := Lib.hid (by
            have hy2 : y ∈ T2.L := by rw [HTL.out]; exact HY.out
            obtain ⟨m1, m2, m3, m4, m5, m6, m7⟩ := may_node HS2.out.good hy2 HS2.out.st.tree.srt HYF.out
            have hx := setX_yes (X := X2) m2 (by have := HS2.out.xl; omega)
            rw [hyes m1 (by rw [hx])]
            exact left_step HGT.out HSR.out HS2.out.rel.srt HLF.out HY.out HSJ.out rfl (by rw [m4, HYF.out]) m5 m6 m7)
          clear hpost eL eC eM hs6 hu6 hyes EN cj
          go_wp2
          go_roundw
          case rel => exact ⟨j + 1, by omega, by go_num, T5, X6, D6, K6, HTL6, HS6, HLF6, HPA6, HL6⟩
          case measure => simp [RowKit.intOf]; omega
        · obtain rfl : j = told.length := by omega
          have hnil : chgL X2 T2.L = [] := by rw [HTL.out]; exact left_none HLF.out
          have CH := changed_any w.heap.size ws g b X2 HS2.out.st.idx w.heap.size r T2 (HS2.out.good.fine (by omega)) (by have := HS2.out.good.len; omega) HS2.out.st.tree
          rw [hnil] at CH
          unfold ptr at CH
          have CH := Lib.hid CH
          have HNIL := Lib.hid hnil
          clear hnil
          go_wp2_with fail
          refine CH.out.mono ?_
          rintro ex w7 ⟨vl, rfl, ho7, hb7⟩
          have HS7 := Lib.hid (HS2.out.below hb7)
          have HL7 : Hid (Below w.heap.size w w7) := Lib.hid (HLW.out.trans (hb7.mono HLW.out.size))
          obtain ⟨vla, vlc, rfl⟩ := rowS_slice ho7
          have HO := honest_any w.heap.size w7 r T2 g b X2 db D2 kb K2 (.slice none 0 0) [] ⟨none, 0, rfl, Nat.zero_le _, by simp, by simp⟩ (by simp) i (by omega) HS7.out.good HS7.out.st (fun x hx h1 => by
            have := honest_fine HS7.out.rel HS7.out.good HS7.out.st.tree.srt hx h1
            rw [HNIL.out] at this; exact this)
          unfold ptr at HO
          have HO := Lib.hid HO
          clear ho7 hb7 CH
          go_wp2_with fail
          refine HO.out.mono ?_
          rintro ex w8 ⟨rfl, hb8⟩
          have HL8 : Hid (Below w.heap.size w w8) := Lib.hid (HL7.out.trans (hb8.mono HL7.out.size))
          clear hb8 HO
          go_wp2
          go_ret
          exact ⟨rfl, HL8.out⟩
end Go.Proofs.YthcjjekkjbidlaaDoor.Sr
