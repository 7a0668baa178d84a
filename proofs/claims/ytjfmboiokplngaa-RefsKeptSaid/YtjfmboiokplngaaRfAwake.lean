/-
  The contract of the law's own awake.
-/
import Derived.Test.YtjfmboiokplngaaRfTip
namespace Go.Proofs.Ytjfmboiokplngaa.Rf
open Go.RowKit Go.Maps Go.WideMaps
variable {X : Spect}

theorem builtId : Try.prog.built 32 [(0, .int .u8 1)] = some (Lib.byteCells id1).toArray := by kernel_rfl
theorem wp_buildId {o : Oper} {a : Act} {w : World} {K : Act → World → Prop} {Q : Exit → Act → World → Prop} (x : Operand) (ho : o.op = .build 32 #[(0, x)])
    (hx : a.eval x = .int .u8 1) (h : K (a.put o.dst (.agg (Lib.byteCells id1).toArray)) w) : o.wp Try.prog a w K Q := by
  have hc := run_build (P := Try.prog) w 32 #[(0, .int .u8 1)] (Lib.byteCells id1).toArray builtId
  unfold Oper.wp execOp
  simp only [ho, List.map_toArray, List.map_cons, List.map_nil, hx, Sem.run_bind, hc, Result.andThen_ok]
  exact h
theorem eqId (w : World) : (binOp .eql 32 (.agg (Lib.byteCells id1).toArray) (.agg (Lib.byteCells id1).toArray)).run Try.prog w = .ok (.bool true) w := by kernel_rfl

theorem guardId (w : World) (x y : Operand) : (eqGuard .eql 32 x y (.agg (Lib.byteCells id1).toArray) (.agg (Lib.byteCells id1).toArray)).run Try.prog w = .ok () w := by kernel_rfl
theorem wp_eqId {o : Oper} {a : Act} {w : World} {K : Act → World → Prop} {Q : Exit → Act → World → Prop} (x y : Operand) (ho : o.op = .binOp .eql 32 x y 32)
    (hx : a.eval x = .agg (Lib.byteCells id1).toArray) (hy : a.eval y = .agg (Lib.byteCells id1).toArray) (h : K (a.put o.dst (.bool true)) w) : o.wp Try.prog a w K Q := by
  have hr := eqId w
  have hg := guardId w x y
  generalize (Value.agg (Lib.byteCells id1).toArray) = v at *
  unfold Oper.wp execOp
  simp only [ho, hx, hy, Sem.run_bind, hg, hr, Result.andThen_ok]
  exact h
theorem rangeC {w : World} {q : Nat} {e : En} {T : TypeId} (h : w.heap[q]? = some (.cells e.cells.toArray T)) : w.rangeAt q 0 (Lib.byteCells e.c) := fun t v hv => by
  rw [Nat.zero_add]
  refine (cell_of_heap h).trans ?_
  rw [List.getElem?_toArray, En.cells, List.getElem?_append_left (List.getElem?_eq_some_iff.1 hv).1]; exact hv
theorem cell32 {w : World} {q : Nat} {e : En} {T : TypeId} (he : e.c.length = 32) (h : w.heap[q]? = some (.cells e.cells.toArray T)) : w.cell? ⟨q, 32, none⟩ = some (.int .i64 e.t) := by
  rw [cell_of_heap h, List.getElem?_toArray, En.cells, List.getElem?_append_right (by simp [Lib.byteCells_length, he])]; simp [Lib.byteCells_length, he]
theorem okb_K1 {Z : BM} (h : plainB Z = K1) : OkB (plainB Z) := by
  rw [h]
  refine ⟨by decide, ?_, ?_, ?_, ?_⟩ <;> intro p hp <;> simp [K1] at hp <;> subst hp
  · decide
  · simp
  · simp
  · intro e he; simp at he; subst he; exact ⟨by decide, by decide, by decide⟩

set_option maxHeartbeats 4000000 in
set_option maxRecDepth 100000 in
theorem awake_any (w : World) : Calls Try.prog 11 #[] w fun e w' => e = .returned (.bool true) ∧ Below w.heap.size w w' := by
  have NW := Lib.hid (new_any w)
  go_enter Try.func11, Try.ntmps11
  go_wp2_with fail
  refine NW.out.mono ?_
  rintro e w1 ⟨g, b, rfl, h1, hb1⟩
  have AD := add_any w.heap.size w1 g b [] ⟨main.toArray⟩ en1 (by decide) (by decide) h1 okb_nil
  rw [ba_data, add1] at AD
  have AD2 : Hid (Calls Try.prog 6 #[.pointer (some ⟨g, 0, none⟩), .string ⟨#[109, 97, 105, 110]⟩, enV en1] w1 (BkPost none w.heap.size w1 g b (.int .i64 0) K1)) := Lib.hid AD
  have HB1 := Lib.hid hb1
  clear AD h1 hb1 NW
  unfold ptr at *
  go_wp2_with (first
    | (refine wpList_plain rfl fun K hK => ?_; refine wp_buildId _ rfl rfl ?_; refine hK _ _ ?_; clear hK K)
    | (refine wpList_plain rfl fun K hK => ?_; refine wp_buildEn _ _ rfl rfl rfl ?_; refine hK _ _ ?_; clear hK K))
  refine AD2.out.mono ?_
  rintro e w2 ⟨Z1, rfl, h2, hp2, hb2⟩
  have EC := encode_any w.heap.size w2 g b Z1 h2 (okb_K1 hp2)
  rw [hp2] at EC
  have HB2 := Lib.hid (HB1.out.trans hb2)
  have HEC := Lib.hid EC
  clear EC h2 hp2 hb2 AD2 HB1
  unfold ptr at *
  go_wp2_with fail
  refine HEC.out.mono ?_
  rintro e w3 ⟨rfl, hb3⟩
  have HB3 := Lib.hid (HB2.out.trans (hb3.mono HB2.out.size))
  have DC := Lib.hid (decode1 w3)
  clear HEC hb3 HB2
  go_wp2_with fail
  refine DC.out.mono ?_
  rintro e w4 ⟨g4, b4, Z4, rfl, h4, hp4, hb4⟩
  have HB4 := Lib.hid (HB3.out.trans (hb4.mono HB3.out.size))
  obtain ⟨pv, hpv⟩ : ∃ pv, getM Z4 main = some (pv, [] ++ [en1]) := by
    have h : getM (plainB Z4) main = some [en1] := by rw [hp4]; rfl
    rw [plain_get] at h
    obtain ⟨p, hp, he⟩ := Option.map_eq_some_iff.1 h
    exact ⟨p.1, by rw [hp, ← he]; rfl⟩
  have TI := tip_any w3.heap.size w4 g4 b4 Z4 ⟨main.toArray⟩ pv [] en1 (by decide) h4 (okb_K1 hp4) (by rw [ba_data]; exact hpv)
  have TI2 : Hid (Calls Try.prog 22 #[.pointer (some ⟨g4, 0, none⟩), .string ⟨#[109, 97, 105, 110]⟩] w4 fun e w' => e = .returned (.tuple #[enV en1, .int .i64 0]) ∧ Below w4.heap.size w4 w') := Lib.hid TI
  clear DC h4 hp4 hb4 HB3 hpv TI
  unfold ptr at *
  go_wp2_with fail
  refine TI2.out.mono ?_
  rintro e w5 ⟨rfl, hb5⟩
  have HB5 := Lib.hid (HB4.out.trans (hb5.mono HB4.out.size))
  clear TI2 hb5 HB4
  have HS2 : Hid (zer33.size = en1.cells.toArray.size) := Lib.hid (by decide)
  have HI2 : Hid ((Try.prog.info? 34).map (·.size) = some en1.cells.toArray.size) := Lib.hid (by kernel_rfl)
  have HONE : Hid (en1.cells.toArray.all (·.oneCell') = true) := Lib.hid (Array.all_eq_true_iff_forall_mem.2 (fun u hu => row_one (l := [en1]) u (by simpa [cellsL] using hu)))
  have HI32 : Hid ((Try.prog.info? 32).map (·.size) = some (Lib.byteCells id1).length) := Lib.hid (by kernel_rfl)
  have HL32 : Hid (en1.c.length = 32) := Lib.hid (by decide)
  go_wp2_with (first
    | (go_guarded; refine wp_load_mid 32 (.tmp 49) rfl w5.heap.size 0 rfl (Lib.byteCells id1) _ HRG.out Try.underlying32 rfl HI32.out ?_)
    | (go_guarded; refine wp_buildId _ rfl rfl ?_)
    | (go_guarded; refine wp_eqId (.tmp 50) (.tmp 51) rfl rfl rfl ?_)
    | (refine wpList_store_row rfl _ _ _ rfl w5.heap.size en1.cells.toArray rfl rfl 34 zer33 (MapKept.heap_alloc w5 (.cells zer33 34)).1 HI2.out HS2.out HONE.out ?_
       obtain ⟨hq6, hb6⟩ := store_new w5 en1.cells.toArray
       change wpList _ _ _ _ _ ((w5.alloc (.cells zer33 34)).setRow w5.heap.size en1.cells.toArray)
       generalize (w5.alloc (.cells zer33 34)).setRow w5.heap.size en1.cells.toArray = w6 at hq6 hb6 ⊢
       have HRG : Hid (w6.rangeAt w5.heap.size 0 (Lib.byteCells id1)) := Lib.hid (rangeC (e := en1) hq6)
       have hc32 : w6.cell? ⟨w5.heap.size, 32, none⟩ = some (.int .i64 5) := cell32 (e := en1) HL32.out hq6
       have HB6 := Lib.hid hb6
       clear hq6 hb6))
  go_ret
  exact ⟨rfl, HB5.out.trans (HB6.out.mono HB5.out.size)⟩
end Go.Proofs.Ytjfmboiokplngaa.Rf
