/-
  Decode at the bytes of a book with one branch and one snapshot: the walk.
-/
import Derived.Test.YtjfmboiokplngaaRfDec1
namespace Go.Proofs.Ytjfmboiokplngaa.Rf
open Go.RowKit Go.Maps Go.WideMaps

/-- Where the inner loop stands: a snapshot is to come, or has come. -/
def InSt (w : World) (q gt bt : Nat) : Nat → World → Prop
  | 0, W => ∃ Z, DecSt w q gt bt W [] Z ∧ plainB Z = K1
  | _ + 1, W => DecSt w q gt bt W rest3 []
/-- Where the outer loop stands. -/
def OutSt (w : World) (q gt bt : Nat) : Nat → World → Value → Prop
  | 0, W, _ => ∃ Z, DecSt w q gt bt W [] Z ∧ plainB Z = K1
  | _ + 1, W, v => DecSt w q gt bt W rest1 [] ∧ v = .string ⟨#[]⟩
set_option maxRecDepth 100000 in
theorem less_main (w : World) : Calls Try.prog 34 #[.string ⟨#[]⟩, .string ⟨#[109, 97, 105, 110]⟩] w fun e w' => e = .returned (.bool true) ∧ w' = w := by
  go_enter Try.func34, Try.ntmps34
  go_wp2
  go_ret
  exact ⟨rfl, rfl⟩
theorem okb_nil : OkB (plainB []) := ⟨by decide, by simp [plainB, mapM'], by simp [plainB, mapM'], by simp [plainB, mapM'], by simp [plainB, mapM']⟩
theorem add1 : addB (plainB []) main en1 = (0, K1) := by
  have hc : Nm.chk main = true := by decide +kernel
  rw [addB, if_neg (by simp [hc]), if_neg (by decide)]
  rfl
theorem built1 : Try.prog.built 34 [(0, .agg (Lib.byteCells id1).toArray), (1, .int .i64 5)] = some en1.cells.toArray := by kernel_rfl
/-- The snapshot put together. -/
theorem wp_buildEn {o : Oper} {a : Act} {w : World} {K : Act → World → Prop} {Q : Exit → Act → World → Prop} (x y : Operand) (ho : o.op = .build 34 #[(0, x), (1, y)])
    (hx : a.eval x = .agg (Lib.byteCells id1).toArray) (hy : a.eval y = .int .i64 5) (h : K (a.put o.dst (enV en1)) w) : o.wp Try.prog a w K Q := by
  have hc := run_build (P := Try.prog) w 34 #[(0, .agg (Lib.byteCells id1).toArray), (1, .int .i64 5)] en1.cells.toArray built1
  unfold Oper.wp execOp
  simp only [ho, List.map_toArray, List.map_cons, List.map_nil, hx, hy, Sem.run_bind, hc, Result.andThen_ok]
  exact h

set_option maxHeartbeats 4000000 in
set_option maxRecDepth 100000 in
theorem decode1 (w : World) :
    Calls Try.prog 21 #[.string ⟨(encodeB K1).toArray⟩] w fun e w' => ∃ g b Z, e = .returned (.tuple #[ptr g, .int .i64 0]) ∧ BookAt none w.heap.size w' g b Z ∧ plainB Z = K1 ∧ Below w.heap.size w w' := by
  have UF := Lib.hid (unframe_ok w (payload K1) (by rw [payload1]; decide))
  rw [payload1] at UF
  have e0 : encodeB K1 = frameN (1 :: rest1) := by rw [encodeB, payload1]
  rw [e0]
  obtain ⟨P1, hP1⟩ : ∃ P1, P1 = rest1 := ⟨_, rfl⟩
  have HP1 := Lib.hid hP1
  rw [← hP1] at UF ⊢
  clear e0 hP1
  generalize hF : frameN (1 :: P1) = F at *
  clear hF
  go_enter Try.func21, Try.ntmps21
  go_wp2_with fail
  refine UF.out.mono ?_
  rintro e w1 ⟨rfl, hb1⟩
  have HB1 := Lib.hid hb1
  have RN := Lib.hid (reader_new w1 (1 :: P1))
  clear hb1 UF
  go_wp2_with fail
  refine RN.out.mono ?_
  rintro e w2 ⟨rfl, hw2⟩
  have hw2s : w2.heap.size = w1.heap.size + 1 := by rw [hw2, one_size]
  have hr2 : ReaderAt w2 w1.heap.size (1 :: P1) := by rw [hw2]; exact (MapKept.heap_alloc w1 _).1
  have hb2 : Below w.heap.size w w2 := by rw [hw2]; exact HB1.out.alloc HB1.out.size _
  have HR2 := Lib.hid hr2; have HB2 := Lib.hid hb2; have HW2 := Lib.hid hw2s
  obtain ⟨q, hq⟩ : ∃ q, q = w1.heap.size := ⟨_, rfl⟩
  have HQ : Hid (w.heap.size ≤ q) := Lib.hid (by rw [hq]; exact HB1.out.size)
  rw [← hq] at HR2 HW2 ⊢
  clear hr2 hb2 hw2 hw2s RN hq HB1
  unfold ptr at *
  go_wp2_with fail
  rw [HW2.out]
  obtain ⟨W3, hW3⟩ : ∃ W3, W3 = (w2.alloc (.cells #[.pointer (some ⟨q, 0, none⟩)] 74)).alloc (.cells #[.bool true] 4) := ⟨_, rfl⟩
  have hs3 : W3.heap.size = q + 3 := by rw [hW3, one_size, one_size, HW2.out]
  have hrv : W3.heap[q + 1]? = some (.cells #[ptr q] 74) := by
    rw [hW3]; exact (Below.heap_alloc _ _ _ (by rw [one_size, HW2.out]; omega)).trans (by rw [← HW2.out]; exact (MapKept.heap_alloc w2 _).1)
  have hov : W3.heap[q + 2]? = some (.cells #[.bool true] 4) := by
    have := (MapKept.heap_alloc (w2.alloc (.cells #[.pointer (some ⟨q, 0, none⟩)] 74)) (.cells #[.bool true] 4)).1
    rw [one_size, HW2.out] at this
    rw [hW3]; exact this
  have hb3 : Below (q + 1) w2 W3 := by rw [hW3]; exact ((Below.refl _ _).alloc (Nat.le_of_eq HW2.out.symm) _).alloc (by rw [one_size, HW2.out]; omega) _
  have NW := Lib.hid (new_any W3)
  rw [← hW3]
  clear hW3
  refine NW.out.mono ?_
  rintro e w4 ⟨gt, bt, rfl, ht4, hb4⟩
  rw [hs3] at ht4 hb4
  have st4 : DecSt w q gt bt w4 (1 :: P1) [] := ⟨(hb4.block _ (by omega)).trans ((hb3.block _ (by omega)).trans HR2.out), (hb4.block _ (by omega)).trans hrv, (hb4.block _ (by omega)).trans hov, ht4,
    (HB2.out.trans (hb3.mono (by have := HQ.out; omega))).trans (hb4.mono (by have := HQ.out; omega)), HQ.out⟩
  have hp1l : P1.length ≤ 1099511627776 := by rw [HP1.out]; decide
  have N1 := Lib.hid (number_small w w4 q gt bt 1 P1 [] 64 (by decide) (by decide) hp1l st4)
  clear NW ht4 hb4 hb3 hov hrv hs3 st4 HR2 HB2 HW2 hp1l
  unfold ptr at *
  go_wp2_with fail
  refine N1.out.mono ?_
  rintro e w5 ⟨rfl, st5⟩
  have ST5 := Lib.hid st5
  clear N1 st5
  go_wp2
  go_loopw [11, 12] (fun v11 v12 wr => ∃ k : Nat, k ≤ 1 ∧ v12 = .int .u64 (k : Int) ∧ Hid (OutSt w q gt bt k wr v11)) (fun _ v12 _ => (RowKit.intOf v12).toNat)
  case atStart => exact ⟨1, by omega, rfl, Lib.hid ⟨by rw [← HP1.out]; exact ST5.out, rfl⟩⟩
  case round =>
    obtain ⟨k, hk, rfl, ST0⟩ := hrel
    obtain rfl | rfl : k = 1 ∨ k = 0 := by omega
    · obtain ⟨st0, rfl⟩ := ST0.out
      have ST := Lib.hid st0
      clear st0 ST0
      obtain ⟨wo, hwo⟩ : ∃ wo, wo = wr := ⟨_, rfl⟩
      subst hwo
      have c8 : wo.cell? ⟨q + 1 + 1, 0, none⟩ = some (.bool true) := cell_of_heap ST.out.ov
      have c7 : wo.cell? ⟨q + 1, 0, none⟩ = some (.pointer (some ⟨q, 0, none⟩)) := cell_of_heap ST.out.rv
      have hrd := ST.out.rd
      rw [rest1] at hrd
      have TX := Lib.hid (text_small wo q 4 (main ++ rest2) (by decide) (by decide) (by decide) hrd)
      have e4 : (main ++ rest2).take (4 : UInt8).toNat = main := by decide
      have e5 : (main ++ rest2).drop (4 : UInt8).toNat = rest2 := by decide
      rw [e4, e5] at TX
      have TX2 : Hid (Calls Try.prog 33 #[.pointer (some ⟨q, 0, none⟩), .int .i64 255] wo fun e w' => e = .returned (.tuple #[.string ⟨#[109, 97, 105, 110]⟩, .int .i64 0]) ∧ ReaderAt w' q rest2 ∧ Turn [q] wo w') := TX
      clear TX e4 e5 hrd
      go_wp2_with fail
      refine TX2.out.mono ?_
      rintro e w6 ⟨rfl, hr6, t6⟩
      have st6 := ST.out.read hr6 t6
      have N2 := Lib.hid (number_small w w6 q gt bt 1 rest3 [] 4096 (by decide) (by decide) (by decide) st6)
      clear TX2 hr6 t6 c7 c8 st6
      unfold ptr at *
      go_wp2_with fail
      refine N2.out.mono ?_
      rintro e w7 ⟨rfl, st7⟩
      have c8 : w7.cell? ⟨q + 1 + 1, 0, none⟩ = some (.bool true) := cell_of_heap st7.ov
      have f8 : w7.frozen? ⟨q + 1 + 1, 0, none⟩ = false := frozen_of_heap st7.ov
      have ST8 : Hid (DecSt w q gt bt (w7.setCell ⟨q + 1 + 1, 0, none⟩ (.bool true)) rest3 []) := Lib.hid st7.okCell
      have LS := Lib.hid (less_main w7)
      clear N2 st7
      go_wp2_with (go_at_call 34; refine LS.out.mono ?_; rintro e w70 ⟨rfl, rfl⟩)
      generalize World.setCell _ ⟨q + 1 + 1, 0, none⟩ (.bool true) = w8 at ST8 ⊢
      clear c8 f8
      go_loopw [15] (fun v15 wr => ∃ k : Nat, k ≤ 1 ∧ v15 = .int .u64 (k : Int) ∧ Hid (InSt w q gt bt k wr)) (fun v15 _ => (RowKit.intOf v15).toNat)
      case atStart => exact ⟨1, by omega, rfl, ST8⟩
      case round =>
        obtain ⟨k, hk, rfl, SI0⟩ := hrel
        obtain rfl | rfl : k = 1 ∨ k = 0 := by omega
        · have SI : Hid (DecSt w q gt bt wr rest3 []) := SI0
          clear SI0
          have c8 : wr.cell? ⟨q + 1 + 1, 0, none⟩ = some (.bool true) := cell_of_heap SI.out.ov
          have c7 : wr.cell? ⟨q + 1, 0, none⟩ = some (.pointer (some ⟨q, 0, none⟩)) := cell_of_heap SI.out.rv
          have TK := Lib.hid (take_ok wr q rest3 32 (by decide) SI.out.rd)
          have e4 : rest3.take 32 = id1 := by decide
          have e5 : rest3.drop 32 = [5] := by decide
          rw [e4, e5] at TK
          clear e4 e5
          unfold ptr at *
          go_wp2_with fail
          refine TK.out.mono ?_
          rintro e w9 ⟨rfl, hr9, t9⟩
          have st9 := SI.out.read hr9 t9
          have N3 := Lib.hid (number_small w w9 q gt bt 5 [] [] 1099511627776 (by decide) (by decide) (by decide) st9)
          clear TK hr9 t9 c7 c8 st9
          unfold ptr at *
          go_wp2_with fail
          refine N3.out.mono ?_
          rintro e w10 ⟨rfl, st10⟩
          have c8 : w10.cell? ⟨q + 1 + 1, 0, none⟩ = some (.bool true) := cell_of_heap st10.ov
          have ST10 := Lib.hid st10
          have hcv := Lib.run_convert_string_bytes (P := Try.prog) w10 9 50 5 ⟨id1.toArray⟩ Try.underlying9 Try.underlying50 Try.underlying5
          obtain ⟨W11, hW11⟩ : ∃ W11, W11 = Lib.bytesWorld w10 5 ⟨id1.toArray⟩ := ⟨_, rfl⟩
          rw [← hW11] at hcv
          have HW11 := Lib.hid hW11
          clear N3 st10 hW11
          have harr : (Instr.arrayAt 32 (.slice (some ⟨w10.heap.size, 0, none⟩) id1.length (grownCap w10 id1.length 0 5))).run Try.prog W11 = .ok (.pointer (some ⟨w10.heap.size, 0, none⟩)) W11 := run_arrayAt W11 _ _ 32 _ _ _ Try.underlying32 (by decide)
          have hrg : W11.rangeAt w10.heap.size 0 (Lib.byteCells id1) := fun j v hv => by
            have hj : j < 32 := by have := (List.getElem?_eq_some_iff.1 hv).1; rw [Lib.byteCells_length] at this; exact this
            rw [HW11.out, Nat.zero_add, Lib.bytesWorld_cell w10 5 ⟨id1.toArray⟩ j hj, ← hv, ba_data, Lib.byteCells, List.getElem?_map, List.getD, List.getElem?_eq_getElem hj]; rfl
          have HRG := Lib.hid hrg
          have hi32 : (Try.prog.info? 32).map (·.size) = some (Lib.byteCells id1).length := by kernel_rfl
          have HI32 := Lib.hid hi32
          clear hrg hi32
          go_wp2_with (first
            | (go_guarded; refine wp_load_mid 32 (.tmp 90) rfl w10.heap.size 0 rfl (Lib.byteCells id1) _ HRG.out Try.underlying32 rfl HI32.out ?_)
            | (go_guarded; refine wp_buildEn (.tmp 91) (.tmp 93) rfl rfl rfl ?_))
          have st11 : DecSt w q gt bt W11 [] [] := ST10.out.below (by rw [HW11.out]; exact bytesWorld_below _ _ _)
          have AD := add_any (q + 3) W11 gt bt [] ⟨main.toArray⟩ en1 (by decide) (by decide) st11.bk okb_nil
          rw [ba_data, add1] at AD
          have AD2 : Hid (Calls Try.prog 6 #[.pointer (some ⟨gt, 0, none⟩), .string ⟨#[109, 97, 105, 110]⟩, enV en1] W11 (BkPost none (q + 3) W11 gt bt (.int .i64 0) K1)) := Lib.hid AD
          have ST11 := Lib.hid st11
          clear AD st11 hcv harr HRG HI32 c8
          refine AD2.out.mono ?_
          rintro e w12 ⟨Z', rfl, hk12, hpl12, hbl12⟩
          have st12 := ST11.out.add hk12 hbl12
          have c8 : w12.cell? ⟨q + 1 + 1, 0, none⟩ = some (.bool true) := cell_of_heap st12.ov
          have f8 : w12.frozen? ⟨q + 1 + 1, 0, none⟩ = false := frozen_of_heap st12.ov
          have ST13 : Hid (DecSt w q gt bt (w12.setCell ⟨q + 1 + 1, 0, none⟩ (.bool true)) [] Z') := Lib.hid st12.okCell
          have HPL := Lib.hid hpl12
          clear AD2 hk12 hbl12 st12 hpl12
          go_wp2
          go_roundw
          case rel => exact ⟨0, by omega, rfl, Lib.hid ⟨Z', ST13.out, HPL.out⟩⟩
          case measure => simp [RowKit.intOf]
        · obtain ⟨Z', sti, hpl⟩ := SI0.out
          have c8 : wr.cell? ⟨q + 1 + 1, 0, none⟩ = some (.bool true) := cell_of_heap sti.ov
          have STI := Lib.hid sti; have HPL := Lib.hid hpl
          clear sti hpl
          go_wp2
          go_roundw
          case rel => exact ⟨0, by omega, rfl, Lib.hid ⟨Z', STI.out, HPL.out⟩⟩
          case measure => simp [RowKit.intOf]
    · obtain ⟨Z', sti, hpl⟩ := ST0.out
      have c8 : wr.cell? ⟨q + 1 + 1, 0, none⟩ = some (.bool true) := cell_of_heap sti.ov
      have c7 : wr.cell? ⟨q + 1, 0, none⟩ = some (.pointer (some ⟨q, 0, none⟩)) := cell_of_heap sti.rv
      have EN := Lib.hid (end_ok wr q sti.rd)
      have STI := Lib.hid sti; have HPL := Lib.hid hpl
      clear sti hpl
      unfold ptr at *
      go_wp2_with fail
      refine EN.out.mono ?_
      rintro e w13 ⟨rfl, rfl⟩
      go_wp2
      go_ret2
      exact ⟨gt, bt, Z', rfl, STI.out.bk.mono (by have := STI.out.le; omega), HPL.out, STI.out.be⟩
end Go.Proofs.Ytjfmboiokplngaa.Rf
