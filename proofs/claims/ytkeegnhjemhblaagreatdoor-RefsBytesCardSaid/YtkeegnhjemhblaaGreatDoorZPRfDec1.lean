import Derived.Test.YtkeegnhjemhblaaGreatDoorZPRfFixed
import Derived.Laws.ResultCell
import Derived.Stop.BytesEq
set_option linter.unusedSimpArgs false
set_option linter.unusedVariables false
/-
  The contract of Decode at the bytes of a book with one branch and one snapshot.
-/
namespace Go.Proofs.YtkeegnhjemhblaaGreatDoor.Rf
open Go.RowKit Go.Maps Go.WideMaps

def id1 : List UInt8 := 1 :: List.replicate 31 0
def en1 : En := ⟨id1, 5⟩
def main : List UInt8 := [109, 97, 105, 110]
def K1 : BK := [(main, [en1])]
/-- What stands behind the number of branches. -/
def rest3 : List UInt8 := id1 ++ [5]
def rest2 : List UInt8 := 1 :: rest3
def rest1 : List UInt8 := 4 :: (main ++ rest2)
theorem payload1 : payload K1 = 1 :: rest1 := by decide +kernel

/-- Where Decode stands: the reader, its two variables, the book so far. -/
structure DecSt (w : World) (q gt bt : Nat) (W : World) (L : List UInt8) (Z : BM) : Prop where
  rd : ReaderAt W q L
  rv : W.heap[q + 1]? = some (.cells #[ptr q] 71)
  ov : W.heap[q + 2]? = some (.cells #[.bool true] 4)
  bk : BookAt noSp (q + 3) W gt bt Z
  be : Below w.heap.size w W
  le : w.heap.size ≤ q
theorem DecSt.read {w W W' : World} {q gt bt : Nat} {L L' : List UInt8} {Z : BM} (h : DecSt w q gt bt W L Z) (hr : ReaderAt W' q L') (ht : Turn [q] W W') : DecSt w q gt bt W' L' Z := by
  have l1 := lt_of_heap h.rv; have l2 := lt_of_heap h.ov
  refine ⟨hr, (ht.block _ l1 (by simp)).trans h.rv, (ht.block _ l2 (by simp)).trans h.ov, ?_, h.be.trans (ht.below (by simpa using h.le) h.be.size), h.le⟩
  have hg := h.bk.baseg; have hb := h.bk.baseb
  refine ⟨(ht.block _ h.bk.lt_g (by simp; omega)).trans h.bk.book, ownsMap_block h.bk.map (ht.block _ h.bk.lt_b (by simp; omega)), fun p hp => rowS_kept (h.bk.each p hp) (fun y hy hl => ht.block y hl ?_), h.bk.gb, h.bk.off, h.bk.apart, hg, hb, fun _ hp => False.elim hp⟩
  have := rowS_ge (h.bk.each p hp) y hy
  simp; omega
theorem DecSt.okCell {w W : World} {q gt bt : Nat} {L : List UInt8} {Z : BM} (h : DecSt w q gt bt W L Z) : DecSt w q gt bt (W.setCell ⟨q + 2, 0, none⟩ (.bool true)) L Z := by
  have hk : ∀ x, x ≠ q + 2 → (W.setCell ⟨q + 2, 0, none⟩ (.bool true)).heap[x]? = W.heap[x]? := fun x hx => Below.heap_setCell _ _ _ _ hx
  have hg := h.bk.baseg; have hb := h.bk.baseb
  refine ⟨(hk _ (by omega)).trans h.rd, (hk _ (by omega)).trans h.rv, by rw [setCell_heap _ _ _ _ _ _ h.ov]; rfl, ?_, h.be.setCell (by have := h.le; show w.heap.size ≤ q + 2; omega) _, h.le⟩
  refine ⟨(hk _ (by omega)).trans h.bk.book, ownsMap_block h.bk.map (hk _ (by omega)), fun p hp => rowS_kept (h.bk.each p hp) (fun y hy hl => hk y ?_), h.bk.gb, h.bk.off, h.bk.apart, hg, hb, fun _ hp => False.elim hp⟩
  have := rowS_ge (h.bk.each p hp) y hy
  omega
theorem DecSt.below {w W W' : World} {q gt bt : Nat} {L : List UInt8} {Z : BM} (h : DecSt w q gt bt W L Z) (hb : Below W.heap.size W W') : DecSt w q gt bt W' L Z :=
  ⟨(hb.block _ (lt_of_heap h.rd)).trans h.rd, (hb.block _ (lt_of_heap h.rv)).trans h.rv, (hb.block _ (lt_of_heap h.ov)).trans h.ov, h.bk.below hb, h.be.trans (hb.mono h.be.size), h.le⟩
theorem DecSt.add {w W W' : World} {q gt bt : Nat} {L : List UInt8} {Z Z' : BM} (h : DecSt w q gt bt W L Z) (hk : BookAt noSp (q + 3) W' gt bt Z') (hb : Below (q + 3) W W') : DecSt w q gt bt W' L Z' :=
  ⟨(hb.block _ (by omega)).trans h.rd, (hb.block _ (by omega)).trans h.rv, (hb.block _ (by omega)).trans h.ov, hk, h.be.trans (hb.mono (by have := h.le; omega)), h.le⟩

set_option maxHeartbeats 4000000 in
set_option maxRecDepth 100000 in
theorem number_small (w W : World) (q gt bt : Nat) (b : UInt8) (r : List UInt8) (Z : BM) (most : Nat) (hb : b.toNat < 128) (hm : b.toNat ≤ most) (hl : r.length ≤ 1099511627776) (h : DecSt w q gt bt W (b :: r) Z) :
    Calls Tryz.prog 33 #[.int .u64 (most : Int), ptr (q + 1), ptr (q + 2)] W fun e w' => e = .returned (.int .u64 (b.toNat : Int)) ∧ DecSt w q gt bt w' r Z := by
  have c1 : W.cell? ⟨q + 1, 0, none⟩ = some (ptr q) := cell_of_heap h.rv
  have U := Lib.hid (uint_small W q b r hb hl h.rd)
  have hmi : (b.toNat : Int) ≤ (most : Int) := by omega
  unfold ptr at *
  go_enter Tryz.func33, Tryz.ntmps33
  go_wp2_with fail
  refine U.out.mono ?_
  rintro e w1 ⟨rfl, hr1, t1⟩
  have h1 := h.read hr1 t1
  have c2 : w1.cell? ⟨q + 2, 0, none⟩ = some (.bool true) := cell_of_heap h1.ov
  have f2 : w1.frozen? ⟨q + 2, 0, none⟩ = false := frozen_of_heap h1.ov
  have H2 := Lib.hid h1.okCell
  clear U h1 hr1 t1
  go_wp2
  go_ret
  exact ⟨rfl, H2.out⟩
end Go.Proofs.YtkeegnhjemhblaaGreatDoor.Rf
/-
  Decode at the bytes of a book with one branch and one snapshot: the walk.
-/
namespace Go.Proofs.YtkeegnhjemhblaaGreatDoor.Rf
open Go.RowKit Go.Maps Go.WideMaps

/-- Where the inner loop stands: a snapshot is to come, or has come. -/
def InSt (w : World) (q gt bt : Nat) : Nat → World → Prop
  | 0, W => ∃ Z, DecSt w q gt bt W [] Z ∧ plainB Z = K1
  | _ + 1, W => DecSt w q gt bt W rest3 []
/-- Where the outer loop stands. -/
def OutSt (w : World) (q gt bt : Nat) : Nat → World → Value → Prop
  | 0, W, _ => ∃ Z, DecSt w q gt bt W [] Z ∧ plainB Z = K1
  | _ + 1, W, v => DecSt w q gt bt W rest1 [] ∧ v = .string ⟨#[]⟩
set_option maxRecDepth 100000 in
theorem less_main (w : World) : Calls Tryz.prog 36 #[.string ⟨#[]⟩, .string ⟨#[109, 97, 105, 110]⟩] w fun e w' => e = .returned (.bool true) ∧ w' = w := by
  go_enter Tryz.func36, Tryz.ntmps36
  go_wp2
  go_ret
  exact ⟨rfl, rfl⟩
theorem okb_nil : OkB (plainB []) := ⟨by decide, by simp [plainB, mapM'], by simp [plainB, mapM'], by simp [plainB, mapM'], by simp [plainB, mapM']⟩
theorem add1 : addB (plainB []) main en1 = (0, K1) := by
  have hc : Nm.chk main = true := by decide +kernel
  rw [addB, if_neg (by simp [hc]), if_neg (by decide)]
  rfl
theorem built1 : Tryz.prog.built 84 [(0, .agg (Lib.byteCells id1).toArray), (1, .int .i64 5)] = some en1.cells.toArray := by kernel_rfl
/-- The snapshot put together. -/
theorem wp_buildEn {o : Oper} {a : Act} {w : World} {K : Act → World → Prop} {Q : Exit → Act → World → Prop} (x y : Operand) (ho : o.op = .build 84 #[(0, x), (1, y)])
    (hx : a.eval x = .agg (Lib.byteCells id1).toArray) (hy : a.eval y = .int .i64 5) (h : K (a.put o.dst (enV en1)) w) : o.wp Tryz.prog a w K Q := by
  have hc := run_build (P := Tryz.prog) w 84 #[(0, .agg (Lib.byteCells id1).toArray), (1, .int .i64 5)] en1.cells.toArray built1
  unfold Oper.wp execOp
  simp only [ho, List.map_toArray, List.map_cons, List.map_nil, hx, hy, Sem.run_bind, hc, Result.andThen_ok]
  exact h

set_option maxHeartbeats 4000000 in
set_option maxRecDepth 100000 in
theorem decode1 (w : World) :
    Calls Tryz.prog 7 #[.string ⟨(encodeB K1).toArray⟩] w fun e w' => ∃ g b Z, e = .returned (.tuple #[ptr g, .int .i64 0]) ∧ BookAt noSp w.heap.size w' g b Z ∧ plainB Z = K1 ∧ Below w.heap.size w w' := by
  have UF := Lib.hid (unframe_ok w (payload K1) (by rw [payload1]; decide))
  rw [payload1] at UF
  have e0 : encodeB K1 = frameN (1 :: rest1) := by rw [encodeB, payload1]
  rw [e0]
  obtain ⟨P1, hP1⟩ : ∃ P1, P1 = rest1 := ⟨_, rfl⟩
  have HP1 := Lib.hid hP1
  rw [← hP1] at UF ⊢
  clear e0 hP1
  generalize hF : frameN (1 :: P1) = F at *
  clear hF
  go_enter Tryz.func7, Tryz.ntmps7
  go_wp2_with fail
  refine UF.out.mono ?_
  rintro e w1 ⟨rfl, hb1⟩
  have HB1 := Lib.hid hb1
  have RN := Lib.hid (reader_new w1 (1 :: P1))
  clear hb1 UF
  go_wp2_with fail
  refine RN.out.mono ?_
  rintro e w2 ⟨rfl, hw2⟩
  have hw2s : w2.heap.size = w1.heap.size + 1 := by rw [hw2, one_size]
  have hr2 : ReaderAt w2 w1.heap.size (1 :: P1) := by rw [hw2]; exact (MapKept.heap_alloc w1 _).1
  have hb2 : Below w.heap.size w w2 := by rw [hw2]; exact HB1.out.alloc HB1.out.size _
  have HR2 := Lib.hid hr2; have HB2 := Lib.hid hb2; have HW2 := Lib.hid hw2s
  obtain ⟨q, hq⟩ : ∃ q, q = w1.heap.size := ⟨_, rfl⟩
  have HQ : Hid (w.heap.size ≤ q) := Lib.hid (by rw [hq]; exact HB1.out.size)
  rw [← hq] at HR2 HW2 ⊢
  clear hr2 hb2 hw2 hw2s RN hq HB1
  unfold ptr at *
  go_wp2_with fail
  rw [HW2.out]
  obtain ⟨W3, hW3⟩ : ∃ W3, W3 = (w2.alloc (.cells #[.pointer (some ⟨q, 0, none⟩)] 71)).alloc (.cells #[.bool true] 4) := ⟨_, rfl⟩
  have hs3 : W3.heap.size = q + 3 := by rw [hW3, one_size, one_size, HW2.out]
  have hrv : W3.heap[q + 1]? = some (.cells #[ptr q] 71) := by
    rw [hW3]; exact (Below.heap_alloc _ _ _ (by rw [one_size, HW2.out]; omega)).trans (by rw [← HW2.out]; exact (MapKept.heap_alloc w2 _).1)
  have hov : W3.heap[q + 2]? = some (.cells #[.bool true] 4) := by
    have := (MapKept.heap_alloc (w2.alloc (.cells #[.pointer (some ⟨q, 0, none⟩)] 71)) (.cells #[.bool true] 4)).1
    rw [one_size, HW2.out] at this
    rw [hW3]; exact this
  have hb3 : Below (q + 1) w2 W3 := by rw [hW3]; exact ((Below.refl _ _).alloc (Nat.le_of_eq HW2.out.symm) _).alloc (by rw [one_size, HW2.out]; omega) _
  have NW := Lib.hid (new_any W3)
  rw [← hW3]
  clear hW3
  refine NW.out.mono ?_
  rintro e w4 ⟨gt, bt, rfl, ht4, hb4⟩
  rw [hs3] at ht4 hb4
  have st4 : DecSt w q gt bt w4 (1 :: P1) [] := ⟨(hb4.block _ (by omega)).trans ((hb3.block _ (by omega)).trans HR2.out), (hb4.block _ (by omega)).trans hrv, (hb4.block _ (by omega)).trans hov, ht4,
    (HB2.out.trans (hb3.mono (by have := HQ.out; omega))).trans (hb4.mono (by have := HQ.out; omega)), HQ.out⟩
  have hp1l : P1.length ≤ 1099511627776 := by rw [HP1.out]; decide
  have N1 := Lib.hid (number_small w w4 q gt bt 1 P1 [] 64 (by decide) (by decide) hp1l st4)
  clear NW ht4 hb4 hb3 hov hrv hs3 st4 HR2 HB2 HW2 hp1l
  unfold ptr at *
  go_wp2_with fail
  refine N1.out.mono ?_
  rintro e w5 ⟨rfl, st5⟩
  have ST5 := Lib.hid st5
  clear N1 st5
  go_wp2
  go_loopw [11, 12] (fun v11 v12 wr => ∃ k : Nat, k ≤ 1 ∧ v12 = .int .u64 (k : Int) ∧ Hid (OutSt w q gt bt k wr v11)) (fun _ v12 _ => (RowKit.intOf v12).toNat)
  case atStart => exact ⟨1, by omega, rfl, Lib.hid ⟨by rw [← HP1.out]; exact ST5.out, rfl⟩⟩
  case round =>
    obtain ⟨k, hk, rfl, ST0⟩ := hrel
    obtain rfl | rfl : k = 1 ∨ k = 0 := by omega
    · obtain ⟨st0, rfl⟩ := ST0.out
      have ST := Lib.hid st0
      clear st0 ST0
      obtain ⟨wo, hwo⟩ : ∃ wo, wo = wr := ⟨_, rfl⟩
      subst hwo
      have c8 : wo.cell? ⟨q + 1 + 1, 0, none⟩ = some (.bool true) := cell_of_heap ST.out.ov
      have c7 : wo.cell? ⟨q + 1, 0, none⟩ = some (.pointer (some ⟨q, 0, none⟩)) := cell_of_heap ST.out.rv
      have hrd := ST.out.rd
      rw [rest1] at hrd
      have TX := Lib.hid (text_small wo q 4 (main ++ rest2) (by decide) (by decide) (by decide) hrd)
      have e4 : (main ++ rest2).take (4 : UInt8).toNat = main := by decide
      have e5 : (main ++ rest2).drop (4 : UInt8).toNat = rest2 := by decide
      rw [e4, e5] at TX
      have TX2 : Hid (Calls Tryz.prog 35 #[.pointer (some ⟨q, 0, none⟩), .int .i64 255] wo fun e w' => e = .returned (.tuple #[.string ⟨#[109, 97, 105, 110]⟩, .int .i64 0]) ∧ ReaderAt w' q rest2 ∧ Turn [q] wo w') := TX
      clear TX e4 e5 hrd
      go_wp2_with fail
      refine TX2.out.mono ?_
      rintro e w6 ⟨rfl, hr6, t6⟩
      have st6 := ST.out.read hr6 t6
      have N2 := Lib.hid (number_small w w6 q gt bt 1 rest3 [] 4096 (by decide) (by decide) (by decide) st6)
      clear TX2 hr6 t6 c7 c8 st6
      unfold ptr at *
      go_wp2_with fail
      refine N2.out.mono ?_
      rintro e w7 ⟨rfl, st7⟩
      have c8 : w7.cell? ⟨q + 1 + 1, 0, none⟩ = some (.bool true) := cell_of_heap st7.ov
      have f8 : w7.frozen? ⟨q + 1 + 1, 0, none⟩ = false := frozen_of_heap st7.ov
      have ST8 : Hid (DecSt w q gt bt (w7.setCell ⟨q + 1 + 1, 0, none⟩ (.bool true)) rest3 []) := Lib.hid st7.okCell
      have LS := Lib.hid (less_main w7)
      clear N2 st7
      go_wp2_with (go_at_call 36; refine LS.out.mono ?_; rintro e w70 ⟨rfl, rfl⟩)
      generalize World.setCell _ ⟨q + 1 + 1, 0, none⟩ (.bool true) = w8 at ST8 ⊢
      clear c8 f8
      go_loopw [15] (fun v15 wr => ∃ k : Nat, k ≤ 1 ∧ v15 = .int .u64 (k : Int) ∧ Hid (InSt w q gt bt k wr)) (fun v15 _ => (RowKit.intOf v15).toNat)
      case atStart => exact ⟨1, by omega, rfl, ST8⟩
      case round =>
        obtain ⟨k, hk, rfl, SI0⟩ := hrel
        obtain rfl | rfl : k = 1 ∨ k = 0 := by omega
        · have SI : Hid (DecSt w q gt bt wr rest3 []) := SI0
          clear SI0
          have c8 : wr.cell? ⟨q + 1 + 1, 0, none⟩ = some (.bool true) := cell_of_heap SI.out.ov
          have c7 : wr.cell? ⟨q + 1, 0, none⟩ = some (.pointer (some ⟨q, 0, none⟩)) := cell_of_heap SI.out.rv
          have TK := Lib.hid (take_ok wr q rest3 32 (by decide) SI.out.rd)
          have e4 : rest3.take 32 = id1 := by decide
          have e5 : rest3.drop 32 = [5] := by decide
          rw [e4, e5] at TK
          clear e4 e5
          unfold ptr at *
          go_wp2_with fail
          refine TK.out.mono ?_
          rintro e w9 ⟨rfl, hr9, t9⟩
          have st9 := SI.out.read hr9 t9
          have N3 := Lib.hid (number_small w w9 q gt bt 5 [] [] 1099511627776 (by decide) (by decide) (by decide) st9)
          clear TK hr9 t9 c7 c8 st9
          unfold ptr at *
          go_wp2_with fail
          refine N3.out.mono ?_
          rintro e w10 ⟨rfl, st10⟩
          have c8 : w10.cell? ⟨q + 1 + 1, 0, none⟩ = some (.bool true) := cell_of_heap st10.ov
          have ST10 := Lib.hid st10
          have hcv := Lib.run_convert_string_bytes (P := Tryz.prog) w10 9 82 5 ⟨id1.toArray⟩ Tryz.underlying9 Tryz.underlying82 Tryz.underlying5
          obtain ⟨W11, hW11⟩ : ∃ W11, W11 = Lib.bytesWorld w10 5 ⟨id1.toArray⟩ := ⟨_, rfl⟩
          rw [← hW11] at hcv
          have HW11 := Lib.hid hW11
          clear N3 st10 hW11
          have harr : (Instr.arrayAt 81 (.slice (some ⟨w10.heap.size, 0, none⟩) id1.length (grownCap w10 id1.length 0 5))).run Tryz.prog W11 = .ok (.pointer (some ⟨w10.heap.size, 0, none⟩)) W11 := run_arrayAt W11 _ _ 32 _ _ _ Tryz.underlying81 (by decide)
          have hrg : W11.rangeAt w10.heap.size 0 (Lib.byteCells id1) := fun j v hv => by
            have hj : j < 32 := by have := (List.getElem?_eq_some_iff.1 hv).1; rw [Lib.byteCells_length] at this; exact this
            rw [HW11.out, Nat.zero_add, Lib.bytesWorld_cell w10 5 ⟨id1.toArray⟩ j hj, ← hv, ba_data, Lib.byteCells, List.getElem?_map, List.getD, List.getElem?_eq_getElem hj]; rfl
          have HRG := Lib.hid hrg
          have hi32 : (Tryz.prog.info? 81).map (·.size) = some (Lib.byteCells id1).length := by kernel_rfl
          have HI32 := Lib.hid hi32
          clear hrg hi32
          go_wp2_with (first
            | (go_guarded; refine wp_load_mid 81 (.tmp 90) rfl w10.heap.size 0 rfl (Lib.byteCells id1) _ HRG.out Tryz.underlying81 rfl HI32.out ?_)
            | (go_guarded; refine wp_buildEn (.tmp 91) (.tmp 93) rfl rfl rfl ?_))
          have st11 : DecSt w q gt bt W11 [] [] := ST10.out.below (by rw [HW11.out]; exact bytesWorld_below _ _ _)
          have AD := add_any (q + 3) W11 gt bt [] ⟨main.toArray⟩ en1 (by decide) (by decide) st11.bk okb_nil
          rw [ba_data, add1] at AD
          have AD2 : Hid (Calls Tryz.prog 38 #[.pointer (some ⟨gt, 0, none⟩), .string ⟨#[109, 97, 105, 110]⟩, enV en1] W11 (BkPost noSp (q + 3) W11 gt bt (.int .i64 0) K1)) := Lib.hid AD
          have ST11 := Lib.hid st11
          clear AD st11 hcv harr HRG HI32 c8
          refine AD2.out.mono ?_
          rintro e w12 ⟨Z', rfl, hk12, hpl12, hbl12⟩
          have st12 := ST11.out.add hk12 hbl12
          have c8 : w12.cell? ⟨q + 1 + 1, 0, none⟩ = some (.bool true) := cell_of_heap st12.ov
          have f8 : w12.frozen? ⟨q + 1 + 1, 0, none⟩ = false := frozen_of_heap st12.ov
          have ST13 : Hid (DecSt w q gt bt (w12.setCell ⟨q + 1 + 1, 0, none⟩ (.bool true)) [] Z') := Lib.hid st12.okCell
          have HPL := Lib.hid hpl12
          clear AD2 hk12 hbl12 st12 hpl12
          go_wp2
          go_roundw
          case rel => exact ⟨0, by omega, rfl, Lib.hid ⟨Z', ST13.out, HPL.out⟩⟩
          case measure => simp [RowKit.intOf]
        · obtain ⟨Z', sti, hpl⟩ := SI0.out
          have c8 : wr.cell? ⟨q + 1 + 1, 0, none⟩ = some (.bool true) := cell_of_heap sti.ov
          have STI := Lib.hid sti; have HPL := Lib.hid hpl
          clear sti hpl
          go_wp2
          go_roundw
          case rel => exact ⟨0, by omega, rfl, Lib.hid ⟨Z', STI.out, HPL.out⟩⟩
          case measure => simp [RowKit.intOf]
    · obtain ⟨Z', sti, hpl⟩ := ST0.out
      have c8 : wr.cell? ⟨q + 1 + 1, 0, none⟩ = some (.bool true) := cell_of_heap sti.ov
      have c7 : wr.cell? ⟨q + 1, 0, none⟩ = some (.pointer (some ⟨q, 0, none⟩)) := cell_of_heap sti.rv
      have EN := Lib.hid (end_ok wr q sti.rd)
      have STI := Lib.hid sti; have HPL := Lib.hid hpl
      clear sti hpl
      unfold ptr at *
      go_wp2_with fail
      refine EN.out.mono ?_
      rintro e w13 ⟨rfl, rfl⟩
      go_wp2
      go_ret2
      exact ⟨gt, bt, Z', rfl, STI.out.bk.mono (by have := STI.out.le; omega), HPL.out, STI.out.be⟩
end Go.Proofs.YtkeegnhjemhblaaGreatDoor.Rf
/-
  The contract of a book's Tip at a branch that is there.
-/
namespace Go.Proofs.YtkeegnhjemhblaaGreatDoor.Rf
open Go.RowKit Go.Maps Go.WideMaps
variable {X : Spect}

set_option maxHeartbeats 4000000 in
set_option maxRecDepth 100000 in
theorem tip_any (B : Nat) (w : World) (g b : Nat) (Z : BM) (S : ByteArray) (pv : Value) (pl : List En) (el : En) (hS : S.size ≤ maxLen) (h : BookAt X B w g b Z) (ok : OkB (plainB Z)) (hg : getM Z S.data.toList = some (pv, pl ++ [el])) :
    Calls Tryz.prog 53 #[ptr g, .string S] w fun e w' => e = .returned (.tuple #[enV el, .int .i64 0]) ∧ Below w.heap.size w w' := by
  have hbx : Below w.heap.size w (w.alloc (.cells zer33 84)) := (Below.refl _ _).alloc (Nat.le_refl _) _
  obtain ⟨W, hW⟩ : ∃ W, W = w.alloc (.cells zer33 84) := ⟨_, rfl⟩
  rw [← hW] at hbx
  have hq0 : W.heap[w.heap.size]? = some (.cells zer33 84) := by rw [hW]; exact (MapKept.heap_alloc w _).1
  have h1 := h.below hbx
  have K := log_any B W g b Z S hS h1
  obtain ⟨_, ok1, ok2, ok3⟩ := ok.row hg
  have hrow := h1.row hg
  dsimp only at ok1 ok2 ok3 hrow
  unfold logV at K
  rw [hg] at K
  dsimp only at K
  obtain ⟨m, hm⟩ : ∃ m, m = pl.length := ⟨_, rfl⟩
  have hln : (pl ++ [el]).length = m + 1 := by simp [hm]
  have hcl : (cellsL pl).length = 33 * m := by rw [hm]; exact cellsL_length (fun e he => (ok3 e (by simp [he])).1)
  have hel := (ok3 el (by simp)).1
  rw [hln] at hrow ok2
  have hm4 : m + 1 ≤ 4096 := ok2
  obtain ⟨gb, cap, rfl, hgb, _, hcell⟩ := rowS_form hrow (by omega)
  have hcs := cells_size hel
  have HRG : Hid (W.rangeAt gb (m * 33) el.cells) := Lib.hid (fun t v hv => hcell _ _ (by
    rw [cellsL, List.flatMap_append, ← cellsL, List.getElem?_append_right (by omega), hcl, show m * 33 + t - 33 * m = t by omega]
    simpa [cellsL] using hv))
  have HI : Hid ((Tryz.prog.info? 84).map (·.size) = some el.cells.length) := Lib.hid (by rw [hcs]; kernel_rfl)
  have HI2 : Hid ((Tryz.prog.info? 84).map (·.size) = some el.cells.toArray.size) := Lib.hid (by rw [List.size_toArray]; exact HI.out)
  have HS2 : Hid (zer33.size = el.cells.toArray.size) := Lib.hid (by show 33 = _; rw [List.size_toArray]; exact hcs.symm)
  have HONE : Hid (el.cells.toArray.all (·.oneCell') = true) := Lib.hid (Array.all_eq_true_iff_forall_mem.2 (fun u hu => row_one (l := [el]) u (by simpa [cellsL] using hu)))
  have HK := Lib.hid K; have HQ0 := Lib.hid hq0; have HBX := Lib.hid hbx; have HW := Lib.hid hW
  clear K hq0 hbx hrow hcell ok1 ok2 ok3 hcl hel hcs hm hln hg h h1 ok hW
  unfold ptr at *
  go_enter Tryz.func53, Tryz.ntmps53
  go_wp2_with fail
  change Calls _ _ _ (w.alloc (.cells zer33 84)) _
  rw [← HW.out]
  refine HK.out.mono ?_
  rintro e w1 ⟨rfl, rfl⟩
  obtain ⟨hq6, hb6⟩ : (w1.setRow w.heap.size el.cells.toArray).heap[w.heap.size]? = some (.cells el.cells.toArray 84) ∧ Below w.heap.size w (w1.setRow w.heap.size el.cells.toArray) := by rw [HW.out]; exact store_new w _
  have HQ6 := Lib.hid hq6; have HB6 := Lib.hid hb6
  clear hq6 hb6 HK
  go_wp2_with (first
    | (refine wpList_load_mid rfl _ _ rfl gb (m * 33) rfl el.cells _ HRG.out Tryz.underlying84 rfl HI.out ?_)
    | (refine wpList_store_row rfl _ _ _ rfl w.heap.size el.cells.toArray rfl rfl 84 zer33 HQ0.out HI2.out HS2.out HONE.out ?_))
  have hld := run_loadVar_row (P := Tryz.prog) (w1.setRow w.heap.size el.cells.toArray) w.heap.size _ 84 el.cells.toArray _ _ HQ6.out Tryz.underlying84 rfl HI2.out
  refine bodyPost_ret (v := .tuple #[enV el, .int .i64 0]) ?_ rfl ?_
  · rw [results_cell_tmp (fn := Tryz.f53) rfl]
    show ((asAddr (.pointer (some ⟨w.heap.size, 0, none⟩))).run Tryz.prog _).andThen _ = _
    simp only [asAddr, Sem.run_pure, Result.andThen_ok, hld]
    rfl
  · exact ⟨rfl, HB6.out⟩
end Go.Proofs.YtkeegnhjemhblaaGreatDoor.Rf
/-
  The contract of the law's own awake.
-/
namespace Go.Proofs.YtkeegnhjemhblaaGreatDoor.Rf
open Go.RowKit Go.Maps Go.WideMaps
variable {X : Spect}

theorem builtId : Tryz.prog.built 81 [(0, .int .u8 1)] = some (Lib.byteCells id1).toArray := by kernel_rfl
theorem wp_buildId {o : Oper} {a : Act} {w : World} {K : Act → World → Prop} {Q : Exit → Act → World → Prop} (x : Operand) (ho : o.op = .build 81 #[(0, x)])
    (hx : a.eval x = .int .u8 1) (h : K (a.put o.dst (.agg (Lib.byteCells id1).toArray)) w) : o.wp Tryz.prog a w K Q := by
  have hc := run_build (P := Tryz.prog) w 81 #[(0, .int .u8 1)] (Lib.byteCells id1).toArray builtId
  unfold Oper.wp execOp
  simp only [ho, List.map_toArray, List.map_cons, List.map_nil, hx, Sem.run_bind, hc, Result.andThen_ok]
  exact h
theorem eqId (w : World) : (binOp .eql 81 (.agg (Lib.byteCells id1).toArray) (.agg (Lib.byteCells id1).toArray)).run Tryz.prog w = .ok (.bool true) w := by kernel_rfl

theorem guardId (w : World) (x y : Operand) : (eqGuard .eql 81 x y (.agg (Lib.byteCells id1).toArray) (.agg (Lib.byteCells id1).toArray)).run Tryz.prog w = .ok () w := by kernel_rfl
theorem wp_eqId {o : Oper} {a : Act} {w : World} {K : Act → World → Prop} {Q : Exit → Act → World → Prop} (x y : Operand) (ho : o.op = .binOp .eql 81 x y 81)
    (hx : a.eval x = .agg (Lib.byteCells id1).toArray) (hy : a.eval y = .agg (Lib.byteCells id1).toArray) (h : K (a.put o.dst (.bool true)) w) : o.wp Tryz.prog a w K Q := by
  have hr := eqId w
  have hg := guardId w x y
  generalize (Value.agg (Lib.byteCells id1).toArray) = v at *
  unfold Oper.wp execOp
  simp only [ho, hx, hy, Sem.run_bind, hg, hr, Result.andThen_ok]
  exact h
theorem rangeC {w : World} {q : Nat} {e : En} {T : TypeId} (h : w.heap[q]? = some (.cells e.cells.toArray T)) : w.rangeAt q 0 (Lib.byteCells e.c) := fun t v hv => by
  rw [Nat.zero_add]
  refine (cell_of_heap h).trans ?_
  rw [List.getElem?_toArray, En.cells, List.getElem?_append_left (List.getElem?_eq_some_iff.1 hv).1]; exact hv
theorem cell32 {w : World} {q : Nat} {e : En} {T : TypeId} (he : e.c.length = 32) (h : w.heap[q]? = some (.cells e.cells.toArray T)) : w.cell? ⟨q, 32, none⟩ = some (.int .i64 e.t) := by
  rw [cell_of_heap h, List.getElem?_toArray, En.cells, List.getElem?_append_right (by simp [Lib.byteCells_length, he])]; simp [Lib.byteCells_length, he]
theorem okb_K1 {Z : BM} (h : plainB Z = K1) : OkB (plainB Z) := by
  rw [h]
  refine ⟨by decide, ?_, ?_, ?_, ?_⟩ <;> intro p hp <;> simp [K1] at hp <;> subst hp
  · decide
  · simp
  · simp
  · intro e he; simp at he; subst he; exact ⟨by decide, by decide, by decide⟩

set_option maxHeartbeats 4000000 in
set_option maxRecDepth 100000 in
theorem awake_any (w : World) : Calls Tryz.prog 10 #[] w fun e w' => e = .returned (.bool true) ∧ Below w.heap.size w w' := by
  have NW := Lib.hid (new_any w)
  go_enter Tryz.func10, Tryz.ntmps10
  go_wp2_with fail
  refine NW.out.mono ?_
  rintro e w1 ⟨g, b, rfl, h1, hb1⟩
  have AD := add_any w.heap.size w1 g b [] ⟨main.toArray⟩ en1 (by decide) (by decide) h1 okb_nil
  rw [ba_data, add1] at AD
  have AD2 : Hid (Calls Tryz.prog 38 #[.pointer (some ⟨g, 0, none⟩), .string ⟨#[109, 97, 105, 110]⟩, enV en1] w1 (BkPost noSp w.heap.size w1 g b (.int .i64 0) K1)) := Lib.hid AD
  have HB1 := Lib.hid hb1
  clear AD h1 hb1 NW
  unfold ptr at *
  go_wp2_with (first
    | (refine wpList_plain rfl fun K hK => ?_; refine wp_buildId _ rfl rfl ?_; refine hK _ _ ?_; clear hK K)
    | (refine wpList_plain rfl fun K hK => ?_; refine wp_buildEn _ _ rfl rfl rfl ?_; refine hK _ _ ?_; clear hK K))
  refine AD2.out.mono ?_
  rintro e w2 ⟨Z1, rfl, h2, hp2, hb2⟩
  have EC := encode_any w.heap.size w2 g b Z1 h2 (okb_K1 hp2)
  rw [hp2] at EC
  have HB2 := Lib.hid (HB1.out.trans hb2)
  have HEC := Lib.hid EC
  clear EC h2 hp2 hb2 AD2 HB1
  unfold ptr at *
  go_wp2_with fail
  refine HEC.out.mono ?_
  rintro e w3 ⟨rfl, hb3⟩
  have HB3 := Lib.hid (HB2.out.trans (hb3.mono HB2.out.size))
  have DC := Lib.hid (decode1 w3)
  clear HEC hb3 HB2
  go_wp2_with fail
  refine DC.out.mono ?_
  rintro e w4 ⟨g4, b4, Z4, rfl, h4, hp4, hb4⟩
  have HB4 := Lib.hid (HB3.out.trans (hb4.mono HB3.out.size))
  obtain ⟨pv, hpv⟩ : ∃ pv, getM Z4 main = some (pv, [] ++ [en1]) := by
    have h : getM (plainB Z4) main = some [en1] := by rw [hp4]; rfl
    rw [plain_get] at h
    obtain ⟨p, hp, he⟩ := Option.map_eq_some_iff.1 h
    exact ⟨p.1, by rw [hp, ← he]; rfl⟩
  have TI := tip_any w3.heap.size w4 g4 b4 Z4 ⟨main.toArray⟩ pv [] en1 (by decide) h4 (okb_K1 hp4) (by rw [ba_data]; exact hpv)
  have TI2 : Hid (Calls Tryz.prog 53 #[.pointer (some ⟨g4, 0, none⟩), .string ⟨#[109, 97, 105, 110]⟩] w4 fun e w' => e = .returned (.tuple #[enV en1, .int .i64 0]) ∧ Below w4.heap.size w4 w') := Lib.hid TI
  clear DC h4 hp4 hb4 HB3 hpv TI
  unfold ptr at *
  go_wp2_with fail
  refine TI2.out.mono ?_
  rintro e w5 ⟨rfl, hb5⟩
  have HB5 := Lib.hid (HB4.out.trans (hb5.mono HB4.out.size))
  clear TI2 hb5 HB4
  have HS2 : Hid (zer33.size = en1.cells.toArray.size) := Lib.hid (by decide)
  have HI2 : Hid ((Tryz.prog.info? 84).map (·.size) = some en1.cells.toArray.size) := Lib.hid (by kernel_rfl)
  have HONE : Hid (en1.cells.toArray.all (·.oneCell') = true) := Lib.hid (Array.all_eq_true_iff_forall_mem.2 (fun u hu => row_one (l := [en1]) u (by simpa [cellsL] using hu)))
  have HI32 : Hid ((Tryz.prog.info? 81).map (·.size) = some (Lib.byteCells id1).length) := Lib.hid (by kernel_rfl)
  have HL32 : Hid (en1.c.length = 32) := Lib.hid (by decide)
  go_wp2_with (first
    | (go_guarded; refine wp_load_mid 81 (.tmp 49) rfl w5.heap.size 0 rfl (Lib.byteCells id1) _ HRG.out Tryz.underlying81 rfl HI32.out ?_)
    | (go_guarded; refine wp_buildId _ rfl rfl ?_)
    | (go_guarded; refine wp_eqId (.tmp 50) (.tmp 51) rfl rfl rfl ?_)
    | (refine wpList_store_row rfl _ _ _ rfl w5.heap.size en1.cells.toArray rfl rfl 84 zer33 (MapKept.heap_alloc w5 (.cells zer33 84)).1 HI2.out HS2.out HONE.out ?_
       obtain ⟨hq6, hb6⟩ := store_new w5 en1.cells.toArray
       change wpList _ _ _ _ _ ((w5.alloc (.cells zer33 84)).setRow w5.heap.size en1.cells.toArray)
       generalize (w5.alloc (.cells zer33 84)).setRow w5.heap.size en1.cells.toArray = w6 at hq6 hb6 ⊢
       have HRG : Hid (w6.rangeAt w5.heap.size 0 (Lib.byteCells id1)) := Lib.hid (rangeC (e := en1) hq6)
       have hc32 : w6.cell? ⟨w5.heap.size, 32, none⟩ = some (.int .i64 5) := cell32 (e := en1) HL32.out hq6
       have HB6 := Lib.hid hb6
       clear hq6 hb6))
  go_ret
  exact ⟨rfl, HB5.out.trans (HB6.out.mono HB5.out.size)⟩
end Go.Proofs.YtkeegnhjemhblaaGreatDoor.Rf
/-
  Snapshots compared with themselves; snapshots put together.
-/
namespace Go.Proofs.YtkeegnhjemhblaaGreatDoor.Rf
open Go.RowKit Go.Maps Go.WideMaps

/-- The snapshots that the law puts together. -/
def idB (b : UInt8) : List UInt8 := b :: List.replicate 31 0
def enB (b : UInt8) (t : Int) : En := ⟨idB b, t⟩
end Go.Proofs.YtkeegnhjemhblaaGreatDoor.Rf
/-
  The contract of the law's own test of a copy.
-/
namespace Go.Proofs.YtkeegnhjemhblaaGreatDoor.Rf
open Go.RowKit Go.Maps Go.WideMaps
variable {X : Spect}

theorem delM_lt {α : Type} {m : MV α} {k : List UInt8} {n : α} (h : getM m k = some n) : (delM m k).length < m.length := by
  refine List.length_filter_lt_length_iff_exists.2 ⟨(k, n), getM_mem h, by simp⟩
/-- A branch that is written keeps the limits. -/
theorem okb_put {K : BK} (ok : OkB K) {k : List UInt8} {l : List En} (hk : (getM K k).isSome = true ∨ K.length < 64) (hkl : k.length ≤ 255) (h1 : l ≠ []) (h2 : l.length ≤ 4096) (h3 : ∀ e ∈ l, e.c.length = 32 ∧ 0 ≤ e.t ∧ e.t ≤ 1099511627776) : OkB (putM K k l) := by
  have hm : ∀ p, p ∈ putM K k l → p = (k, l) ∨ p ∈ K := fun p hp => (mem_ins.1 hp).imp id (fun e => (mem_del.1 e).1)
  refine ⟨?_, fun p hp => ?_, fun p hp => ?_, fun p hp => ?_, fun p hp => ?_⟩
  · rw [(put_perm k l K).length_eq, List.length_cons]
    rcases hk with hk | hk
    · obtain ⟨n, hn⟩ := Option.isSome_iff_exists.1 hk
      have := delM_lt hn; have := ok.size; omega
    · have := delM_length K k; omega
  · rcases hm p hp with rfl | e
    · exact hkl
    · exact ok.keys p e
  · rcases hm p hp with rfl | e
    · exact h1
    · exact ok.ne p e
  · rcases hm p hp with rfl | e
    · exact h2
    · exact ok.len p e
  · rcases hm p hp with rfl | e
    · exact h3
    · exact ok.ent p e
end Go.Proofs.YtkeegnhjemhblaaGreatDoor.Rf
