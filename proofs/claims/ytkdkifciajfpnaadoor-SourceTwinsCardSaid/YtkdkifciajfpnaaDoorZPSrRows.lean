import Derived.Test.YtkdkifciajfpnaaDoorZPRwB1
import Derived.Test.YtkdkifciajfpnaaDoorZPSrPieces
set_option linter.unusedSimpArgs false
set_option linter.unusedVariables false
/-
  The contract of munimentlaw18's rows, where the two are equal.
-/
namespace Go.Proofs.YtkdkifciajfpnaaDoor.Sr
open Go.RowKit Go.Maps Go.WideMaps Go.Proofs.YtkdkifciajfpnaaDoor.Rf Go.Proofs.YtkdkifciajfpnaaDoor.Nm Go.Proofs.YtkdkifciajfpnaaDoor.St

theorem vcells_bare {e u : TE} (h : bare u = bare e) (xv : Value) : vcells u xv = vcells e xv := by
  have h1 : (bare u).nm = (bare e).nm := by rw [h]
  have h2 : (bare u).at_ = (bare e).at_ := by rw [h]
  have h3 : (bare u).data = (bare e).data := by rw [h]
  have h4 : (bare u).ino = (bare e).ino := by rw [h]
  have h5 : (bare u).tick = (bare e).tick := by rw [h]
  have h1 : u.nm = e.nm := h1
  have h2 : u.at_ = e.at_ := h2
  have h3 : u.data = e.data := h3
  have h4 : u.ino = e.ino := h4
  have h5 : u.tick = e.tick := h5
  rw [vcells_n, vcells_n, h1, h2, h3, h4, h5]
set_option linter.unusedSimpArgs false in
set_option maxHeartbeats 8000000 in
set_option maxRecDepth 100000 in
theorem rows_any {C C2 : Nat} (w : World) (v u : Value) (R S : List (TE × Value)) (hv : OutAt C w v R) (hu : OutAt C2 w u S) (hRS : (R.map (·.1)).map bare = (S.map (·.1)).map bare) (hl : R.length ≤ 1000000) (hA : ∀ p ∈ R, chkA p.1.at_ = true) :
    Calls Tryd.prog 9 #[v, u] w fun e w' => e = .returned (.bool true) ∧ Below w.heap.size w w' := by
  have hlen : S.length = R.length := by have := congrArg List.length hRS; simpa using this.symm
  obtain ⟨va, vc, rfl⟩ := rowS_slice hv.row
  obtain ⟨ua, uc, rfl⟩ := rowS_slice hu.row
  have HV := Lib.hid hv; have HU := Lib.hid hu; have HRS := Lib.hid hRS; have HA := Lib.hid hA
  rw [hlen] at HU ⊢
  obtain ⟨n, hn⟩ : ∃ n, n = R.length := ⟨_, rfl⟩
  rw [← hn] at HV HU hl ⊢
  have HN := Lib.hid hn
  clear hv hu hRS hA hlen hn
  go_enter Tryd.func9, Tryd.ntmps9
  go_wp2
  go_loopw [5] (fun v5 ws => ∃ i : Nat, i ≤ n ∧ v5 = .int .i64 (i : Int) ∧ Hid (Below w.heap.size w ws)) (fun v5 _ => n - (RowKit.intOf v5).toNat)
  case atStart => exact ⟨0, by omega, rfl, Lib.hid (Below.refl _ _)⟩
  case round =>
    rename World => ws
    obtain ⟨i, hi, rfl, HB⟩ := hrel
    by_cases hil : (i : Int) < (n : Int)
    · have hi2 : i < n := by omega
      obtain ⟨p, hp⟩ : ∃ p, R[i]? = some p := ⟨_, List.getElem?_eq_getElem (by rw [← HN.out]; exact hi2)⟩
      obtain ⟨e, xv⟩ := p
      obtain ⟨p2, hp2, hpb⟩ : ∃ p2, S[i]? = some p2 ∧ bare p2.1 = bare e := by
        have h : ((R.map (·.1)).map bare)[i]? = some (bare e) := by rw [List.getElem?_map, List.getElem?_map, hp]; rfl
        rw [HRS.out, List.getElem?_map, List.getElem?_map] at h
        obtain ⟨y, hy, h⟩ := Option.map_eq_some_iff.1 h
        obtain ⟨p2, hp2, rfl⟩ := Option.map_eq_some_iff.1 hy
        exact ⟨p2, hp2, h⟩
      obtain ⟨u2, yv⟩ := p2
      have hat : u2.at_ = e.at_ := (show (bare u2).at_ = (bare e).at_ by rw [hpb])
      have hpl := HA.out _ (List.mem_of_getElem? hp)
      have hx1 := told_xs HV.out hp (fun x hx => attr_lens hpl x hx)
      have hx2 := told_xs HU.out hp2 (fun x hx => attr_lens hpl x (by rw [← hat]; exact hx))
      obtain ⟨g1, rfl, _, hr1⟩ := told_row HV.out hp
      obtain ⟨g2, rfl, _, hr2⟩ := told_row HU.out hp2
      have HX : Hid (XsAt ws xv e.at_.xs) := Lib.hid (xs_below hx1 HB.out)
      have HY : Hid (XsAt ws yv e.at_.xs) := Lib.hid (by have := xs_below hx2 HB.out; rw [← hat]; exact this)
      have HR1 : Hid (∀ w', Below ws.heap.size ws w' → w'.rangeAt g1 (i * 11) (vcells e xv)) := Lib.hid (fun w' hb => hr1 w' (HB.out.trans (hb.mono HB.out.size)))
      have HR2 : Hid (∀ w', Below ws.heap.size ws w' → w'.rangeAt g2 (i * 11) (vcells e yv)) := Lib.hid (fun w' hb => by
        have := hr2 w' (HB.out.trans (hb.mono HB.out.size))
        rw [show vcells ((u2, yv) : TE × Value).1 ((u2, yv) : TE × Value).2 = vcells e yv from vcells_bare hpb yv] at this
        exact this)
      clear hp hp2 hpb hat hpl hx1 hx2 hr1 hr2
      go_upto_block 1 with (fail)
      refine rw_b1 _ _ _ _ _ _ _ _ _ _ _ _ _ _ _ _ _ _ _ _ _ _ _ _ _ _ _ _ _ _ _ _ _ _ _ _ _ (by intro c a a_ w hd h; have h2 : a.defers = [] ∧ _ := h; exact And.intro (hd.symm.trans h2.1) h2.2) hil HX HY HR1 HR2 ?_
      intro t4 t17 t18 t19 t20 t21 t22 t23 t24 t25 t26 t27 t28 t29 t30 t31 t32 t33 t34 t35 t36 t37 t38 t39 w3 hb3
      have HB3 : Hid (Below w.heap.size w w3) := Lib.hid (HB.out.trans (hb3.mono HB.out.size))
      clear hb3 HX HY HR1 HR2
      go_wp2
      go_roundw
      case rel => exact ⟨i + 1, by omega, by go_num, HB3⟩
      case measure => simp [RowKit.intOf]; omega
    · obtain rfl : i = n := by omega
      go_wp2
      go_ret
      exact ⟨rfl, HB.out⟩
end Go.Proofs.YtkdkifciajfpnaaDoor.Sr
/-
  SourceTwins' code in pieces.
-/
namespace Go.Proofs.YtkdkifciajfpnaaDoor.Sr
open Go.RowKit Go.Maps Go.WideMaps Go.Proofs.YtkdkifciajfpnaaDoor.Rf Go.Proofs.YtkdkifciajfpnaaDoor.Nm Go.Proofs.YtkdkifciajfpnaaDoor.St

noncomputable def twB (n : Nat) : Code := (Tryd.f3.body.bind (findB n)).getD .skip
end Go.Proofs.YtkdkifciajfpnaaDoor.Sr
/-
  SourceTwins' walk: the steps ahead of the twin.
-/
namespace Go.Proofs.YtkdkifciajfpnaaDoor.Sr
open Go.RowKit Go.Maps Go.WideMaps Go.Proofs.YtkdkifciajfpnaaDoor.Rf Go.Proofs.YtkdkifciajfpnaaDoor.Nm Go.Proofs.YtkdkifciajfpnaaDoor.St
set_option linter.unusedSimpArgs false in
set_option maxHeartbeats 40000000 in
set_option maxRecDepth 100000 in
theorem tw_b0 {Q : Exit → Act → World → Prop} (u1 u2 u3 u4 u5 u6 u9 u10 u11 u12 u13 u14 u15 u16 u17 u18 u19 u20 u21 u22 u23 u24 u25 u26 u27 u28 u29 u30 u31 u32 u33 u34 u35 u36 u37 u38 u39 u40 u41 u42 u43 u44 u45 u46 u47 u48 u49 u50 u51 u52 u53 u54 u55 u56 u57 u58 u59 u60 u61 u62 u63 u64 u65 u66 u67 u68 u69 u70 u71 u72 u73 u74 u75 u76 u77 u78 u79 u80 u81 u82 u83 u84 u85 u86 u87 u88 u89 u90 u91 u92 u93 u94 u95 u96 u97 u98 u99 u100 u101 : Value) {r cap : Nat} {a : Option Addr} {l : List Stp} {w wr : World} {T0 : Tr}
    (hP : ∀ c (a a' : Act) w, a.defers = a'.defers → Q (.panic c) a w → Q (.panic c) a' w) (hlm : l.length ≤ 9223372036854775807) (HC : Hid (l ≠ [] → ∃ b o, a = some ⟨b, o, none⟩ ∧ b < w.heap.size ∧ ∀ (i : Nat) x, l[i]? = some x → x.At w b (o + i * 11))) (HF : Hid (∀ x ∈ l, x.Fits w)) (HST : Hid (TreeAt w.heap.size wr r T0 ∧ Bnd T0 0)) (HLW0 : Hid (Below w.heap.size w wr))
    (HK : ∀ (t8 t16 t17 t18 t19 t20 t21 t22 t23 t24 t25 t26 t27 t28 t29 t30 t31 : Value) (w' : World), (∃ (i : Nat) (T : Tr), i ≤ 40 ∧ TreeAt w.heap.size w' r T ∧ Bnd T i ∧ Below w.heap.size w w') → Q .normal ⟨#[.slice a l.length cap, u1, u2, u3, u4, u5, u6, .pointer (some ⟨r, 0, none⟩), t8, u9, u10, u11, u12, u13, u14, u15, t16, t17, t18, t19, t20, t21, t22, t23, t24, t25, t26, t27, t28, t29, t30, t31, u32, u33, u34, u35, u36, u37, u38, u39, u40, u41, u42, u43, u44, u45, u46, u47, u48, u49, u50, u51, u52, u53, u54, u55, u56, u57, u58, u59, u60, u61, u62, u63, u64, u65, u66, u67, u68, u69, u70, u71, u72, u73, u74, u75, u76, u77, u78, u79, u80, u81, u82, u83, u84, u85, u86, u87, u88, u89, u90, u91, u92, u93, u94, u95, u96, u97, u98, u99, u100, u101], []⟩ w') :
    Code.wp Tryd.prog (twB 0) Q ⟨#[.slice a l.length cap, u1, u2, u3, u4, u5, u6, .pointer (some ⟨r, 0, none⟩), .int .i64 0, u9, u10, u11, u12, u13, u14, u15, u16, u17, u18, u19, u20, u21, u22, u23, u24, u25, u26, u27, u28, u29, u30, u31, u32, u33, u34, u35, u36, u37, u38, u39, u40, u41, u42, u43, u44, u45, u46, u47, u48, u49, u50, u51, u52, u53, u54, u55, u56, u57, u58, u59, u60, u61, u62, u63, u64, u65, u66, u67, u68, u69, u70, u71, u72, u73, u74, u75, u76, u77, u78, u79, u80, u81, u82, u83, u84, u85, u86, u87, u88, u89, u90, u91, u92, u93, u94, u95, u96, u97, u98, u99, u100, u101], []⟩ wr := by
  have HKH := Lib.hid HK
  clear HK
  conv => arg 2; whnf
  go_wp2
  go_loopw [8] (fun v8 ws => ∃ i : Nat, i ≤ l.length ∧ i ≤ 40 ∧ v8 = .int .i64 (i : Int) ∧ ∃ T : Tr, Hid (TreeAt w.heap.size ws r T ∧ Bnd T i) ∧ Hid (Below w.heap.size w ws)) (fun v8 _ => l.length - (RowKit.intOf v8).toNat)
  case atStart => exact ⟨0, by omega, by omega, rfl, T0, HST, HLW0⟩
  case round =>
    rename World => ws
    clear HST HLW0
    obtain ⟨i, hi, hi60, rfl, T, HS, HLW⟩ := hrel
    by_cases hil : (i : Int) < (l.length : Int)
    · by_cases hi6 : (i : Int) < 40
      · have hi2 : i < l.length := by omega
        obtain ⟨x, hx⟩ : ∃ x, l[i]? = some x := ⟨_, List.getElem?_eq_getElem hi2⟩
        obtain ⟨ba, oa, rfl, hba, hca⟩ := HC.out (fun h => by rw [h] at hi2; cases hi2)
        have hfx := HF.out x (List.mem_of_getElem? hx)
        have HRG : Hid (∀ W, Below w.heap.size w W → W.rangeAt ba (oa + i * 11) x.cells) := Lib.hid (fun W hb j u hj => (hb.cell (p := ⟨ba, oa + i * 11 + j, none⟩) hba).trans (hca i x hx j u hj))
        have HFX := Lib.hid hfx
        have HXE0 : Hid ((Tryd.prog.info? 28).map (·.size) = some x.cells.toArray.size) := Lib.hid (infoStp x)
        clear hx hca hfx
        have hrg := HRG.out ws HLW.out
        have RU := run18_any w.heap.size ws r T x (HFX.out.below HLW.out) i (by omega) HS.out.2.good (by have := HS.out.2.reads; omega) HLW.out.size HS.out.1
        unfold ptr at RU
        have RU := Lib.hid RU
        obtain ⟨XC, hXC⟩ : ∃ XC, XC = x.cells := ⟨_, rfl⟩
        rw [← hXC] at hrg RU HXE0
        have HRG2 := Lib.hid hrg
        clear hXC hrg HRG
        go_wp2_with (first
          | (refine wpList_load_mid rfl _ _ rfl ba (oa + i * 11) rfl XC _ HRG2.out Tryd.underlying28 rfl HXE0.out ?_)
          | fail)
        refine RU.out.mono ?_
        rintro ex w4 hpost
        obtain ⟨rfl, T', heff, hbd, _⟩ := run_eff HS.out.1 HS.out.2 hpost
        have HR := Lib.hid (And.intro heff.tree hbd)
        have HL4 := Lib.hid (HLW.out.trans (heff.below HS.out.1 HLW.out.size))
        clear hpost heff hbd RU HRG2 HXE0
        go_wp2
        go_roundw
        case rel => exact ⟨i + 1, by omega, by omega, by go_num, T', HR, HL4⟩
        case measure => simp [RowKit.intOf]; omega
      · go_wp2
        exact HKH.out _ _ _ _ _ _ _ _ _ _ _ _ _ _ _ _ _ _ ⟨i, T, hi60, HS.out.1, HS.out.2, HLW.out⟩
    · go_wp2
      exact HKH.out _ _ _ _ _ _ _ _ _ _ _ _ _ _ _ _ _ _ ⟨i, T, hi60, HS.out.1, HS.out.2, HLW.out⟩
end Go.Proofs.YtkdkifciajfpnaaDoor.Sr
