/-
  The walk of the law: refused calls change nothing, copies go on by themselves.
-/
import Derived.Test.YtjfmboiokplngaaRfTurns
import Derived.Test.YtjfmboiokplngaaRfOpsArg
namespace Go.Proofs.Ytjfmboiokplngaa.Rf
open Go.RowKit Go.Maps Go.WideMaps

set_option maxHeartbeats 16000000 in
set_option maxRecDepth 100000 in
theorem kept_law (w : World) (v0 : Value) (l : List OpX) (h : OpsAt w v0 l) :
    Calls Try.prog 3 #[v0] w fun e w' => e = .returned (.bool true) ∧ Below w.heap.size w w' := by
  obtain ⟨la, lc, rfl, hlm, hlc, hlf⟩ := h
  unfold maxLen at hlm
  have HLC := Lib.hid hlc; have HLF := Lib.hid hlf
  have NW := Lib.hid (new_any w)
  clear hlc hlf
  go_enter Try.func3, Try.ntmps3
  go_wp2_with fail
  refine NW.out.mono ?_
  rintro e w1 ⟨g, b, rfl, hat, hb1⟩
  have HAT := Lib.hid hat; have HB1 := Lib.hid hb1
  clear hat hb1 NW
  unfold ptr
  go_wp2
  go_loopw [4] (fun s4 wr => ∃ (k : Nat) (Z : BM), k ≤ 40 ∧ k ≤ l.length ∧ s4 = .int .i64 k ∧ Hid (BookAt none w.heap.size wr g b Z) ∧ Hid (OkB (plainB Z)) ∧ Hid (Below w.heap.size w wr)) (fun s4 _ => 40 - (RowKit.intOf s4).toNat)
  case atStart => exact ⟨0, [], by omega, by omega, rfl, HAT, Lib.hid okb_nil, HB1⟩
  case round =>
    obtain ⟨k, Z, hk40, hkl, rfl, HR, HOK, HBR⟩ := hrel
    by_cases hkl' : k < l.length ∧ k < 40
    · obtain ⟨hkl2, hk40'⟩ := hkl'
      have hki : (k : Int) < (l.length : Int) := by omega
      have hk4 : (k : Int) < 40 := by omega
      obtain ⟨y, hy⟩ : ∃ y, l[k]? = some y := ⟨_, List.getElem?_eq_getElem hkl2⟩
      have hym := List.mem_of_getElem? hy
      obtain ⟨b2, o2, rfl, hb2, hat2⟩ := HLC.out (List.ne_nil_of_mem hym)
      have hfy := HLF.out y hym
      have EN := encode_any w.heap.size wr g b Z HR.out HOK.out
      have HY := hat2 k y hy
      have HFN : Hid (y.name.size ≤ maxLen) := Lib.hid hfy.name
      have HFO : Hid (y.other.size ≤ maxLen) := Lib.hid hfy.other
      obtain ⟨ykind, yname, yother, yc, yt, yn⟩ := y
      dsimp only at HFN HFO
      have HEN := Lib.hid EN
      have HYA : Hid (OpX.At w b2 (o2 + k * 6) ⟨ykind, yname, yother, yc, yt, yn⟩) := Lib.hid HY
      clear HY EN hat2 hy hym hfy
      unfold ptr at *
      go_wp2_with fail
      refine HEN.out.mono ?_
      rintro e w2 ⟨rfl, hb2e⟩
      have hbb : Below w.heap.size w w2 := HBR.out.trans (hb2e.mono HBR.out.size)
      have cy := fun (p : Nat) v (hv : (OpX.cells ⟨ykind, yname, yother, yc, yt, yn⟩)[p]? = some v) => (hbb.cell (p := ⟨b2, o2 + k * 6 + p, none⟩) hb2).trans (HYA.out p v hv)
      have y0 : w2.cell? ⟨b2, o2 + k * 6, none⟩ = some (.int .i64 ykind) := cy 0 _ rfl
      have y1 : w2.cell? ⟨b2, o2 + k * 6 + 1, none⟩ = some (.string yname) := cy 1 _ rfl
      have y2 : w2.cell? ⟨b2, o2 + k * 6 + 2, none⟩ = some (.string yother) := cy 2 _ rfl
      have y3 : w2.cell? ⟨b2, o2 + k * 6 + 3, none⟩ = some (.int .u8 (yc.toNat : Int)) := cy 3 _ rfl
      have y4 : w2.cell? ⟨b2, o2 + k * 6 + 4, none⟩ = some (.int .i64 yt) := cy 4 _ rfl
      have y5 : w2.cell? ⟨b2, o2 + k * 6 + 5, none⟩ = some (.int .i64 yn) := cy 5 _ rfl
      have HR2 := Lib.hid (HR.out.below hb2e)
      have HB2 := Lib.hid hbb
      clear cy hbb hb2e HEN
      obtain ⟨W, hW⟩ : ∃ W, W = w2.alloc (.cells #[.int .i64 ykind, .string yname, .string yother, .int .u8 (yc.toNat : Int), .int .i64 yt, .int .i64 yn] 29) := ⟨_, rfl⟩
      have hq0 : W.heap[w2.heap.size]? = some (.cells #[.int .i64 ykind, .string yname, .string yother, .int .u8 (yc.toNat : Int), .int .i64 yt, .int .i64 yn] 29) := by rw [hW]; exact (MapKept.heap_alloc w2 _).1
      have hb0 : Below w2.heap.size w2 W := by rw [hW]; exact (Below.refl _ _).alloc (Nat.le_refl _) _
      have HS := Lib.hid (HR2.out.spect hb0 hq0 (Nat.le_refl _))
      have HBW := Lib.hid (HB2.out.trans (hb0.mono HB2.out.size))
      have HW := Lib.hid hW
      clear hW hq0 hb0
      by_cases q : ykind = 0
      · subst q
        have AD := add_any w.heap.size W g b Z yname (enB yc yt) HFN.out (by simp [enB, idB]) HS.out HOK.out
        obtain ⟨⟨r1, r2⟩, hr⟩ : ∃ r, r = addB (plainB Z) yname.data.toList (enB yc yt) := ⟨_, rfl⟩
        rw [← hr] at AD
        dsimp only at AD
        have hok : OkB r2 := by have := add_ok HOK.out yname.data.toList (enB yc yt) (by simp [enB, idB]); rw [← hr] at this; exact this
        have hsm : r1 ≠ 0 → r2 = plainB Z := fun e => by have := @add_same (plainB Z) yname.data.toList (enB yc yt); rw [← hr] at this; exact this e
        clear hr
        have HAD := Lib.hid AD; have HOK2 := Lib.hid hok
        clear AD hok
        by_cases hz : r1 = 0
        · subst hz
          clear hsm
          unfold ptr at *
          go_wp2_with fail
          rw [← HW.out]
          refine HAD.out.mono ?_
          rintro e w3 ⟨Z3, rfl, h3, hp3, hb3⟩
          have hq3 := (h3.spec _ rfl).1
          dsimp only at hq3
          have hb03 := HBW.out.trans hb3
          have H3 := Lib.hid h3; have HP3 := Lib.hid hp3; have HB3 := Lib.hid hb03; have HQ3 := Lib.hid hq3
          have EN3 := encode_any w.heap.size w3 g b Z3 h3 (hp3 ▸ HOK2.out)
          have HEN3 := Lib.hid EN3
          clear h3 hp3 hb3 hb03 hq3 EN3 HAD
          unfold ptr at *
          go_wp2_with fail
          refine HEN3.out.mono ?_
          rintro e w4 ⟨rfl, hb4⟩
          have hq4 := (hb4.block _ (lt_of_heap HQ3.out)).trans HQ3.out
          have c40 : w4.cell? ⟨w2.heap.size, 0, none⟩ = some (.int .i64 0) := cell_of_heap hq4
          have H4 := Lib.hid (H3.out.alone.below hb4)
          have HB4 := Lib.hid (HB3.out.trans (hb4.mono HB3.out.size))
          clear hq4 hb4 HEN3 HQ3
          go_wp2
          go_roundw
          case rel => exact ⟨k + 1, Z3, by omega, by omega, by go_num, H4, Lib.hid (HP3.out ▸ HOK2.out), HB4⟩
          case measure => simp [RowKit.intOf]; omega
        · obtain rfl := hsm hz
          clear hsm
          unfold ptr at *
          go_wp2_with fail
          rw [← HW.out]
          refine HAD.out.mono ?_
          rintro e w3 ⟨Z3, rfl, h3, hp3, hb3⟩
          have hq3 := (h3.spec _ rfl).1
          dsimp only at hq3
          have hb03 := HBW.out.trans hb3
          have H3 := Lib.hid h3; have HP3 := Lib.hid hp3; have HB3 := Lib.hid hb03; have HQ3 := Lib.hid hq3
          have EN3 := encode_any w.heap.size w3 g b Z3 h3 (hp3 ▸ HOK2.out)
          rw [hp3] at EN3
          have HEN3 := Lib.hid EN3
          clear h3 hp3 hb3 hb03 hq3 EN3 HAD
          unfold ptr at *
          go_wp2_with fail
          refine HEN3.out.mono ?_
          rintro e w4 ⟨rfl, hb4⟩
          have hq4 := (hb4.block _ (lt_of_heap HQ3.out)).trans HQ3.out
          have c40 : w4.cell? ⟨w2.heap.size, 0, none⟩ = some (.int .i64 0) := cell_of_heap hq4
          have H4 := Lib.hid (H3.out.alone.below hb4)
          have HB4 := Lib.hid (HB3.out.trans (hb4.mono HB3.out.size))
          clear hq4 hb4 HEN3 HQ3
          go_wp2
          go_roundw
          case rel => exact ⟨k + 1, Z3, by omega, by omega, by go_num, H4, Lib.hid (HP3.out ▸ HOK2.out), HB4⟩
          case measure => simp [RowKit.intOf]; omega
      have z0 : ¬ ykind = 0 := q
      clear q
      by_cases q : ykind = 1
      · subst q
        have AD := back_any w.heap.size W g b Z yname yn HFN.out HS.out HOK.out
        obtain ⟨⟨r1, r2⟩, hr⟩ : ∃ r, r = backB (plainB Z) yname.data.toList yn := ⟨_, rfl⟩
        rw [← hr] at AD
        dsimp only at AD
        have hok : OkB r2 := by have := back_ok HOK.out yname.data.toList yn; rw [← hr] at this; exact this
        have hsm : r1 ≠ 0 → r2 = plainB Z := fun e => by have := @back_same (plainB Z) yname.data.toList yn; rw [← hr] at this; exact this e
        clear hr
        have HAD := Lib.hid AD; have HOK2 := Lib.hid hok
        clear AD hok
        by_cases hz : r1 = 0
        · subst hz
          clear hsm
          unfold ptr at *
          go_wp2_with fail
          rw [← HW.out]
          refine HAD.out.mono ?_
          rintro e w3 ⟨Z3, rfl, h3, hp3, hb3⟩
          have hq3 := (h3.spec _ rfl).1
          dsimp only at hq3
          have hb03 := HBW.out.trans hb3
          have H3 := Lib.hid h3; have HP3 := Lib.hid hp3; have HB3 := Lib.hid hb03; have HQ3 := Lib.hid hq3
          have EN3 := encode_any w.heap.size w3 g b Z3 h3 (hp3 ▸ HOK2.out)
          have HEN3 := Lib.hid EN3
          clear h3 hp3 hb3 hb03 hq3 EN3 HAD
          unfold ptr at *
          go_wp2_with fail
          refine HEN3.out.mono ?_
          rintro e w4 ⟨rfl, hb4⟩
          have hq4 := (hb4.block _ (lt_of_heap HQ3.out)).trans HQ3.out
          have c40 : w4.cell? ⟨w2.heap.size, 0, none⟩ = some (.int .i64 1) := cell_of_heap hq4
          have H4 := Lib.hid (H3.out.alone.below hb4)
          have HB4 := Lib.hid (HB3.out.trans (hb4.mono HB3.out.size))
          clear hq4 hb4 HEN3 HQ3
          go_wp2
          go_roundw
          case rel => exact ⟨k + 1, Z3, by omega, by omega, by go_num, H4, Lib.hid (HP3.out ▸ HOK2.out), HB4⟩
          case measure => simp [RowKit.intOf]; omega
        · obtain rfl := hsm hz
          clear hsm
          unfold ptr at *
          go_wp2_with fail
          rw [← HW.out]
          refine HAD.out.mono ?_
          rintro e w3 ⟨Z3, rfl, h3, hp3, hb3⟩
          have hq3 := (h3.spec _ rfl).1
          dsimp only at hq3
          have hb03 := HBW.out.trans hb3
          have H3 := Lib.hid h3; have HP3 := Lib.hid hp3; have HB3 := Lib.hid hb03; have HQ3 := Lib.hid hq3
          have EN3 := encode_any w.heap.size w3 g b Z3 h3 (hp3 ▸ HOK2.out)
          rw [hp3] at EN3
          have HEN3 := Lib.hid EN3
          clear h3 hp3 hb3 hb03 hq3 EN3 HAD
          unfold ptr at *
          go_wp2_with fail
          refine HEN3.out.mono ?_
          rintro e w4 ⟨rfl, hb4⟩
          have hq4 := (hb4.block _ (lt_of_heap HQ3.out)).trans HQ3.out
          have c40 : w4.cell? ⟨w2.heap.size, 0, none⟩ = some (.int .i64 1) := cell_of_heap hq4
          have H4 := Lib.hid (H3.out.alone.below hb4)
          have HB4 := Lib.hid (HB3.out.trans (hb4.mono HB3.out.size))
          clear hq4 hb4 HEN3 HQ3
          go_wp2
          go_roundw
          case rel => exact ⟨k + 1, Z3, by omega, by omega, by go_num, H4, Lib.hid (HP3.out ▸ HOK2.out), HB4⟩
          case measure => simp [RowKit.intOf]; omega
      have z1 : ¬ ykind = 1 := q
      clear q
      by_cases q : ykind = 2
      · subst q
        have AD := copy_any w.heap.size W g b Z yname yother HFN.out HFO.out HS.out HOK.out
        obtain ⟨⟨r1, r2⟩, hr⟩ : ∃ r, r = copyB (plainB Z) yname.data.toList yother.data.toList := ⟨_, rfl⟩
        rw [← hr] at AD
        dsimp only at AD
        have hok : OkB r2 := by have := copy_ok HOK.out yname.data.toList yother.data.toList; rw [← hr] at this; exact this
        have hsm : r1 ≠ 0 → r2 = plainB Z := fun e => by have := @copy_same (plainB Z) yname.data.toList yother.data.toList; rw [← hr] at this; exact this e
        have hcz : r1 = 0 → ∃ l, getM r2 yname.data.toList = some l ∧ getM r2 yother.data.toList = some l ∧ yname.data.toList ≠ yother.data.toList ∧ Nm.chk yother.data.toList = true := fun e => by have := @copy_zero (plainB Z) yname.data.toList yother.data.toList; rw [← hr] at this; exact this e
        clear hr
        have HAD := Lib.hid AD; have HOK2 := Lib.hid hok
        clear AD hok
        by_cases hz : r1 = 0
        · subst hz
          clear hsm
          unfold ptr at *
          go_wp2_with fail
          rw [← HW.out]
          refine HAD.out.mono ?_
          rintro e w3 ⟨Z3, rfl, h3, hp3, hb3⟩
          have hq3 := (h3.spec _ rfl).1
          dsimp only at hq3
          have hb03 := HBW.out.trans hb3
          have H3 := Lib.hid h3; have HP3 := Lib.hid hp3; have HB3 := Lib.hid hb03; have HQ3 := Lib.hid hq3
          have EN3 := encode_any w.heap.size w3 g b Z3 h3 (hp3 ▸ HOK2.out)
          have HEN3 := Lib.hid EN3
          clear h3 hp3 hb3 hb03 hq3 EN3 HAD
          unfold ptr at *
          go_wp2_with fail
          refine HEN3.out.mono ?_
          rintro e w4 ⟨rfl, hb4⟩
          have hq4 := (hb4.block _ (lt_of_heap HQ3.out)).trans HQ3.out
          have c40 : w4.cell? ⟨w2.heap.size, 0, none⟩ = some (.int .i64 2) := cell_of_heap hq4
          have H4 := Lib.hid (H3.out.alone.below hb4)
          have HB4 := Lib.hid (HB3.out.trans (hb4.mono HB3.out.size))
          have c41 : w4.cell? ⟨w2.heap.size, 1, none⟩ = some (.string yname) := cell_of_heap hq4
          have c42 : w4.cell? ⟨w2.heap.size, 2, none⟩ = some (.string yother) := cell_of_heap hq4
          have c43 : w4.cell? ⟨w2.heap.size, 3, none⟩ = some (.int .u8 (yc.toNat : Int)) := cell_of_heap hq4
          have c44 : w4.cell? ⟨w2.heap.size, 4, none⟩ = some (.int .i64 yt) := cell_of_heap hq4
          have c45 : w4.cell? ⟨w2.heap.size, 5, none⟩ = some (.int .i64 yn) := cell_of_heap hq4
          obtain ⟨lc', e1, e2, e3, e4⟩ := hcz (by trivial)
          have CO := copied_any w.heap.size w4 g b Z3 yname yother yc 2 yt yn lc' HFN.out HFO.out H4.out (HP3.out ▸ HOK2.out) (by rw [HP3.out]; exact e1) (by rw [HP3.out]; exact e2) e3 e4
          unfold ptr opCells at CO
          have HCO := Lib.hid CO
          clear CO hq4 hb4 e1 e2 e3 e4 HEN3 HQ3 hcz
          go_wp2_with fail
          refine HCO.out.mono ?_
          rintro e w5 ⟨rfl, hb5⟩
          have H5 := Lib.hid (H4.out.below hb5)
          have HB5 := Lib.hid (HB4.out.trans (hb5.mono HB4.out.size))
          clear hb5 HCO c40 c41 c42 c43 c44 c45
          go_wp2
          go_roundw
          case rel => exact ⟨k + 1, Z3, by omega, by omega, by go_num, H5, Lib.hid (HP3.out ▸ HOK2.out), HB5⟩
          case measure => simp [RowKit.intOf]; omega
        · obtain rfl := hsm hz
          clear hsm hcz
          unfold ptr at *
          go_wp2_with fail
          rw [← HW.out]
          refine HAD.out.mono ?_
          rintro e w3 ⟨Z3, rfl, h3, hp3, hb3⟩
          have hq3 := (h3.spec _ rfl).1
          dsimp only at hq3
          have hb03 := HBW.out.trans hb3
          have H3 := Lib.hid h3; have HP3 := Lib.hid hp3; have HB3 := Lib.hid hb03; have HQ3 := Lib.hid hq3
          have EN3 := encode_any w.heap.size w3 g b Z3 h3 (hp3 ▸ HOK2.out)
          rw [hp3] at EN3
          have HEN3 := Lib.hid EN3
          clear h3 hp3 hb3 hb03 hq3 EN3 HAD
          unfold ptr at *
          go_wp2_with fail
          refine HEN3.out.mono ?_
          rintro e w4 ⟨rfl, hb4⟩
          have hq4 := (hb4.block _ (lt_of_heap HQ3.out)).trans HQ3.out
          have c40 : w4.cell? ⟨w2.heap.size, 0, none⟩ = some (.int .i64 2) := cell_of_heap hq4
          have H4 := Lib.hid (H3.out.alone.below hb4)
          have HB4 := Lib.hid (HB3.out.trans (hb4.mono HB3.out.size))
          clear hq4 hb4 HEN3 HQ3
          go_wp2
          go_roundw
          case rel => exact ⟨k + 1, Z3, by omega, by omega, by go_num, H4, Lib.hid (HP3.out ▸ HOK2.out), HB4⟩
          case measure => simp [RowKit.intOf]; omega
      have z2 : ¬ ykind = 2 := q
      clear q
      by_cases q : ykind = 3
      · subst q
        have AD := drop_any w.heap.size W g b Z yname HFN.out HS.out HOK.out
        obtain ⟨⟨r1, r2⟩, hr⟩ : ∃ r, r = dropB (plainB Z) yname.data.toList := ⟨_, rfl⟩
        rw [← hr] at AD
        dsimp only at AD
        have hok : OkB r2 := by have := drop_ok HOK.out yname.data.toList; rw [← hr] at this; exact this
        have hsm : r1 ≠ 0 → r2 = plainB Z := fun e => by have := @drop_same (plainB Z) yname.data.toList; rw [← hr] at this; exact this e
        clear hr
        have HAD := Lib.hid AD; have HOK2 := Lib.hid hok
        clear AD hok
        by_cases hz : r1 = 0
        · subst hz
          clear hsm
          unfold ptr at *
          go_wp2_with fail
          rw [← HW.out]
          refine HAD.out.mono ?_
          rintro e w3 ⟨Z3, rfl, h3, hp3, hb3⟩
          have hq3 := (h3.spec _ rfl).1
          dsimp only at hq3
          have hb03 := HBW.out.trans hb3
          have H3 := Lib.hid h3; have HP3 := Lib.hid hp3; have HB3 := Lib.hid hb03; have HQ3 := Lib.hid hq3
          have EN3 := encode_any w.heap.size w3 g b Z3 h3 (hp3 ▸ HOK2.out)
          have HEN3 := Lib.hid EN3
          clear h3 hp3 hb3 hb03 hq3 EN3 HAD
          unfold ptr at *
          go_wp2_with fail
          refine HEN3.out.mono ?_
          rintro e w4 ⟨rfl, hb4⟩
          have hq4 := (hb4.block _ (lt_of_heap HQ3.out)).trans HQ3.out
          have c40 : w4.cell? ⟨w2.heap.size, 0, none⟩ = some (.int .i64 3) := cell_of_heap hq4
          have H4 := Lib.hid (H3.out.alone.below hb4)
          have HB4 := Lib.hid (HB3.out.trans (hb4.mono HB3.out.size))
          clear hq4 hb4 HEN3 HQ3
          go_wp2
          go_roundw
          case rel => exact ⟨k + 1, Z3, by omega, by omega, by go_num, H4, Lib.hid (HP3.out ▸ HOK2.out), HB4⟩
          case measure => simp [RowKit.intOf]; omega
        · obtain rfl := hsm hz
          clear hsm
          unfold ptr at *
          go_wp2_with fail
          rw [← HW.out]
          refine HAD.out.mono ?_
          rintro e w3 ⟨Z3, rfl, h3, hp3, hb3⟩
          have hq3 := (h3.spec _ rfl).1
          dsimp only at hq3
          have hb03 := HBW.out.trans hb3
          have H3 := Lib.hid h3; have HP3 := Lib.hid hp3; have HB3 := Lib.hid hb03; have HQ3 := Lib.hid hq3
          have EN3 := encode_any w.heap.size w3 g b Z3 h3 (hp3 ▸ HOK2.out)
          rw [hp3] at EN3
          have HEN3 := Lib.hid EN3
          clear h3 hp3 hb3 hb03 hq3 EN3 HAD
          unfold ptr at *
          go_wp2_with fail
          refine HEN3.out.mono ?_
          rintro e w4 ⟨rfl, hb4⟩
          have hq4 := (hb4.block _ (lt_of_heap HQ3.out)).trans HQ3.out
          have c40 : w4.cell? ⟨w2.heap.size, 0, none⟩ = some (.int .i64 3) := cell_of_heap hq4
          have H4 := Lib.hid (H3.out.alone.below hb4)
          have HB4 := Lib.hid (HB3.out.trans (hb4.mono HB3.out.size))
          clear hq4 hb4 HEN3 HQ3
          go_wp2
          go_roundw
          case rel => exact ⟨k + 1, Z3, by omega, by omega, by go_num, H4, Lib.hid (HP3.out ▸ HOK2.out), HB4⟩
          case measure => simp [RowKit.intOf]; omega
      have z3 : ¬ ykind = 3 := q
      clear q
      have HQ0 : Hid (W.heap[w2.heap.size]? = some (.cells #[.int .i64 ykind, .string yname, .string yother, .int .u8 (yc.toNat : Int), .int .i64 yt, .int .i64 yn] 29)) := Lib.hid (HS.out.spec _ rfl).1
      have EN3 := encode_any w.heap.size W g b Z HS.out HOK.out
      have HEN3 := Lib.hid EN3
      clear EN3
      unfold ptr at *
      go_wp2_with fail
      rw [← HW.out]
      refine HEN3.out.mono ?_
      rintro e w4 ⟨rfl, hb4⟩
      have hq4 := (hb4.block _ (lt_of_heap HQ0.out)).trans HQ0.out
      have c40 : w4.cell? ⟨w2.heap.size, 0, none⟩ = some (.int .i64 ykind) := cell_of_heap hq4
      have H4 := Lib.hid (HS.out.alone.below hb4)
      have HB4 := Lib.hid (HBW.out.trans (hb4.mono HBW.out.size))
      clear hq4 hb4 HEN3 HQ0
      go_wp2
      go_roundw
      case rel => exact ⟨k + 1, Z, by omega, by omega, by go_num, H4, HOK, HB4⟩
      case measure => simp [RowKit.intOf]; omega
    · have hlt : ¬ ((k : Int) < (l.length : Int) ∧ (k : Int) < 40) := fun e => hkl' ⟨by omega, by omega⟩
      have AW := Lib.hid (awake_any wr)
      by_cases hkq : (k : Int) < (l.length : Int)
      · have hk4 : ¬ (k : Int) < 40 := fun e => hlt ⟨hkq, e⟩
        clear hlt hkl'
        go_wp2_with fail
        refine AW.out.mono ?_
        rintro e w3 ⟨rfl, hb3⟩
        go_wp2
        go_ret
        exact ⟨rfl, HBR.out.trans (hb3.mono HBR.out.size)⟩
      · clear hlt hkl'
        go_wp2_with fail
        refine AW.out.mono ?_
        rintro e w3 ⟨rfl, hb3⟩
        go_wp2
        go_ret
        exact ⟨rfl, HBR.out.trans (hb3.mono HBR.out.size)⟩
end Go.Proofs.Ytjfmboiokplngaa.Rf
