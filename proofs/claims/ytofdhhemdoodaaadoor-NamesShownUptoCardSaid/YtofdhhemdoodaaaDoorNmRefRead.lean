/-
  The contract of the reference's Read: at every text of at most 2^36 bytes.
-/
import Derived.Test.YtofdhhemdoodaaaDoorNmRefReadPlain
import Derived.Test.YtofdhhemdoodaaaDoorNmRefShow
namespace Go.Proofs.YtofdhhemdoodaaaDoor.Nm
open Go.RowKit

/-- A call of a function that changes nothing, as one step of a region that draws. -/
theorem step_call1 {P : Program} {ops : Array Oper} {o : Oper} {a : Act} {w : World} {K : Act → World → Prop} {Q : Exit → Act → World → Prop} {E : Prop}
    (hg : o.guard = none) (f : FuncId) (fn : Func) (x : Operand) (ats : Array TypeId) (hop : o.op = Op.call { callee := Callee.value (.func f), args := #[x], argTypes := ats })
    (hfn : P.funcs[f]? = some fn) (hn : (fn.name == "runtime.NumGoroutine") = false) (hb : fn.body.isNone = false) (vx v : Value) (hx : a.eval x = vx)
    (hc : Calls P f #[vx] w fun e w' => e = .returned v ∧ w' = w) (hK : K (a.put o.dst v) w) :
    if Region.wanted o (yielded ops a.tmps) = true then Oper.wp P o a w K Q else E := by
  have hw : Region.wanted o (yielded ops a.tmps) = true := by simp [Region.wanted, hg]
  rw [if_pos hw]
  have hr : (execOp a.eval o).run P w = .ok (.enter f #[vx]) w := by
    obtain ⟨dst, op, ty, pos, after, guard⟩ := o
    dsimp only at hop hg
    subst hop
    rw [execOp_call_go]
    have e : (#[] ++ #[x].map a.eval ++ #[] : Array Value) = #[vx] := by simp [hx]
    rw [e]
    unfold callFunc
    rw [Sem.run_bind, run_program, Result.andThen_ok]
    simp only [hfn, hn, hb, Bool.false_eq_true, if_false, Sem.run_pure]
  unfold Oper.wp
  rw [hr, Oper.upon_enter]
  refine hc.mono ?_
  rintro e w' ⟨rfl, rfl⟩
  exact hK

theorem digit_any (c : UInt8) (w : World) : Calls Tryd.prog 37 #[.int .u8 (c.toNat : Int)] w fun e w' => e = .returned (.int .i64 (digN c : Nat)) ∧ w' = w := by
  have hlt := c.toNat_lt
  go_enter Tryd.func37, Tryd.ntmps37
  by_cases h1 : 48 ≤ c.toNat ∧ c.toNat ≤ 57
  · have e : digN c = c.toNat - 48 := by rw [digN, if_pos h1]
    rw [e]
    obtain ⟨a1, a2⟩ := h1
    have i1 : (48 : Int) ≤ (c.toNat : Int) := by omega
    have i2 : (c.toNat : Int) ≤ 57 := by omega
    have i3 : IntKind.u8.wrap ((c.toNat : Int) - 48) = ((c.toNat - 48 : Nat) : Int) := by rw [IntKind.wrap_u8]; omega
    obtain ⟨q, hq⟩ : ∃ q, q = c.toNat - 48 := ⟨_, rfl⟩
    rw [← hq] at i3 ⊢
    have hq9 : q ≤ 9 := by omega
    clear hq e a1 a2 hlt
    go_wp2
    go_ret
    exact ⟨rfl, rfl⟩
  · by_cases h2 : 97 ≤ c.toNat ∧ c.toNat ≤ 102
    · have e : digN c = c.toNat - 87 := by rw [digN, if_neg h1, if_pos h2]
      rw [e]
      obtain ⟨a1, a2⟩ := h2
      have i1 : (97 : Int) ≤ (c.toNat : Int) := by omega
      have i2 : (c.toNat : Int) ≤ 102 := by omega
      have i4 : ¬ ((c.toNat : Int) ≤ 57) := by omega
      have i5 : (48 : Int) ≤ (c.toNat : Int) := by omega
      have i3 : IntKind.u8.wrap ((c.toNat : Int) - 97) = ((c.toNat - 97 : Nat) : Int) := by rw [IntKind.wrap_u8]; omega
      have e2 : c.toNat - 87 = c.toNat - 97 + 10 := by omega
      rw [e2]
      obtain ⟨q, hq⟩ : ∃ q, q = c.toNat - 97 := ⟨_, rfl⟩
      rw [← hq] at i3 ⊢
      have hq9 : q ≤ 5 := by omega
      clear hq e e2 a1 a2 hlt h1
      go_wp2
      go_ret
      exact ⟨rfl, rfl⟩
    · have e : digN c = 16 := by rw [digN, if_neg h1, if_neg h2]
      rw [e]
      have k1 : (decide ((48 : Int) ≤ (c.toNat : Int)) && decide ((c.toNat : Int) ≤ 57)) = false := by simp; omega
      have k2 : (decide ((97 : Int) ≤ (c.toNat : Int)) && decide ((c.toNat : Int) ≤ 102)) = false := by simp; omega
      have hc2 : c.toNat < 48 ∨ (57 < c.toNat ∧ c.toNat < 97) ∨ 102 < c.toNat := by omega
      clear h1 h2 k1 k2 e
      rcases hc2 with h | ⟨h, h'⟩ | h
      · have j1 : (c.toNat : Int) < 48 := by omega
        have j2 : (c.toNat : Int) < 97 := by omega
        go_wp2
        go_ret
        exact ⟨rfl, rfl⟩
      · have j1 : (57 : Int) < (c.toNat : Int) := by omega
        have j0 : (48 : Int) ≤ (c.toNat : Int) := by omega
        have j2 : (c.toNat : Int) < 97 := by omega
        go_wp2
        go_ret
        exact ⟨rfl, rfl⟩
      · have j1 : (57 : Int) < (c.toNat : Int) := by omega
        have j0 : (48 : Int) ≤ (c.toNat : Int) := by omega
        have j2 : (97 : Int) ≤ (c.toNat : Int) := by omega
        have j3 : (102 : Int) < (c.toNat : Int) := by omega
        go_wp2
        go_ret
        exact ⟨rfl, rfl⟩

theorem getB_drop {t : ByteArray} {i : Nat} (h : i < t.size) : t.data.toList.drop i = t[i] :: t.data.toList.drop (i + 1) := by
  have h' : i < t.data.toList.length := by rw [← Lib.size_eq]; exact h
  rw [List.drop_eq_getElem_cons h']; congr 1

set_option maxHeartbeats 8000000 in
set_option maxRecDepth 100000 in
theorem ref_read (t : ByteArray) (w : World) (hT : Tabs w) (hZ : Tz w) (ht : t.size ≤ 68719476736) :
    Calls Tryd.prog 24 #[.string t] w fun e w' => ReadOut t e ∧ Below w.heap.size w w' := by
  have mixed : Tryd.prog.follows Departure.mixedOrders = true := by kernel_rfl
  obtain ⟨i0, hi0, hz0, hz1, hz2⟩ := info_parts infoByte
  go_enter Tryd.func24, Tryd.ntmps24
  go_wp2
  go_loopw [4, 5] (fun v4 v5 wr => ∃ (f : Nat) (acc : List UInt8) (i : Nat), v5 = .int .i64 i ∧ Lib.OwnBuf w.heap.size 5 v4 acc.length (Lib.byteCells acc) w wr ∧ Hid (refF f acc (t.data.toList.drop i) = refN t.data.toList) ∧ t.size < i + f ∧ 0 < f ∧ i ≤ t.size + 1 ∧ acc.length ≤ 4 * i) (fun _ v5 _ => t.size + 1 - (intOf v5).toNat)
  case atStart => exact ⟨t.data.toList.length + 1, [], 0, rfl, ⟨⟨rfl, .inl ⟨rfl, rfl⟩⟩, Below.refl _ _, Nat.le_refl _⟩, Lib.hid rfl, by rw [← Lib.size_eq]; omega, by omega, by omega, by simp⟩
  case round =>
    obtain ⟨f, acc, i, rfl, hown, HRF, hf, hf0, hi, hac⟩ := hrel
    obtain ⟨g, rfl⟩ : ∃ g, f = g + 1 := ⟨f - 1, by omega⟩
    have HOWN := Lib.hid hown
    clear hown
    by_cases hit : i < t.size
    · have hdr := getB_drop hit
      generalize hc : t[i]'hit = c at *
      have hrf := HRF.out
      rw [hdr] at hrf
      have HRF := Lib.hid hrf
      have hc256 := c.toNat_lt
      clear hrf hdr
      by_cases hp : c ≠ 92 ∨ i + 1 = t.size
      · have hlet := refF_letter (f := g) (acc := acc) (r := t.data.toList.drop (i + 1)) (c := c) (hp.imp id (fun e => List.drop_eq_nil_of_le (by rw [← Lib.size_eq]; omega)))
        have hrf := HRF.out
        rw [hlet] at hrf
        have HRF2 := Lib.hid hrf
        have hp2 : ((c.toNat : Int) == 92) = false ∨ (c = 92 ∧ i + 1 = t.size) := by
          by_cases h92 : c.toNat = 92
          · have h92' : c = 92 := UInt8.toNat_inj.1 (by rw [h92]; rfl)
            rcases hp with h | h
            · exact absurd h92' h
            · exact .inr ⟨h92', h⟩
          · left; simp; omega
        clear hlet hrf HRF hp
        rcases hp2 with d1 | ⟨rfl, d2⟩
        · go_wp2_with (at_builtin; refine wpList_append_ownF _ rfl _ _ 49 rfl w.heap.size 5 i0 (.int .u8 0) 1 1 Tryd.underlying49 hi0 hz0 hz1 hz2 rfl (by decide) _ _ _ rfl (HOWN.out.alloc _).1 ⟨wr.heap.size, 0, none⟩ 1 1 [.int .u8 (c.toNat : Int)] rfl rfl ?d1 ?d2 ?d3 ?d4 ?d5 ?_)
          case d1 => exact cell_one_new _ _ _
          case d2 => intro u hu; simp at hu; subst hu; rfl
          case d3 => unfold maxLen; omega
          case d4 => omega
          case d5 => exact (HOWN.out.alloc _).2.2
          intro v2 w2 hob1 hob2 _
          have HOB := Lib.hid (ownBuf_byte (x := c) rfl ((HOWN.out.alloc (.cells #[.int .u8 (c.toNat : Int)] 5)).grown hob1 hob2))
          clear hob1 hob2 HOWN
          go_wp2
          go_roundw
          case rel => exact ⟨g, acc ++ [c], i + 1, by go_num, HOB.out, HRF2, by omega, by omega, by omega, by simp; omega⟩
          case measure => simp [intOf]; omega
        · have i2 : (i : Int) + 1 = (t.size : Int) := by omega
          go_wp2_with (at_builtin; refine wpList_append_ownF _ rfl _ _ 49 rfl w.heap.size 5 i0 (.int .u8 0) 1 1 Tryd.underlying49 hi0 hz0 hz1 hz2 rfl (by decide) _ _ _ rfl (HOWN.out.alloc _).1 ⟨wr.heap.size, 0, none⟩ 1 1 [.int .u8 92] rfl rfl ?d1 ?d2 ?d3 ?d4 ?d5 ?_)
          case d1 => exact cell_one_new _ _ _
          case d2 => intro u hu; simp at hu; subst hu; rfl
          case d3 => unfold maxLen; omega
          case d4 => omega
          case d5 => exact (HOWN.out.alloc _).2.2
          intro v2 w2 hob1 hob2 _
          have HOB := Lib.hid (ownBuf_byte (x := 92) rfl ((HOWN.out.alloc (.cells #[.int .u8 92] 5)).grown hob1 hob2))
          clear hob1 hob2 HOWN
          go_wp2
          go_roundw
          case rel => exact ⟨g, acc ++ [92], i + 1, by go_num, HOB.out, HRF2, by omega, by omega, by omega, by simp; omega⟩
          case measure => simp [intOf]; omega

      · obtain ⟨rfl, hi1⟩ : c = 92 ∧ i + 1 < t.size := by
          refine ⟨?_, ?_⟩
          · exact Classical.byContradiction fun h => hp (.inl h)
          · have : i + 1 ≠ t.size := fun h => hp (.inr h)
            omega
        have i1 : (i : Int) + 1 < (t.size : Int) := by omega
        have i1' : ((i : Int) + 1 == (t.size : Int)) = false := by simp; omega
        have hdr := getB_drop hi1
        generalize hd : t[i + 1]'hi1 = d at *
        have hrf := HRF.out
        rw [hdr] at hrf
        replace HRF := Lib.hid hrf
        have hd256 := d.toNat_lt
        clear hrf hdr hp hc256
        by_cases h92 : d = 92
        · subst h92
          have hrf := HRF.out
          rw [refF_back] at hrf
          have HRF2 := Lib.hid hrf
          clear hrf HRF
          go_wp2_with (at_builtin; refine wpList_append_ownF _ rfl _ _ 49 rfl w.heap.size 5 i0 (.int .u8 0) 1 1 Tryd.underlying49 hi0 hz0 hz1 hz2 rfl (by decide) _ _ _ rfl (HOWN.out.alloc _).1 ⟨wr.heap.size, 0, none⟩ 1 1 [.int .u8 92] rfl rfl ?d1 ?d2 ?d3 ?d4 ?d5 ?_)
          case d1 => exact cell_one_new _ _ _
          case d2 => intro u hu; simp at hu; subst hu; rfl
          case d3 => unfold maxLen; omega
          case d4 => omega
          case d5 => exact (HOWN.out.alloc _).2.2
          intro v2 w2 hob1 hob2 _
          have HOB := Lib.hid (ownBuf_byte (x := 92) rfl ((HOWN.out.alloc (.cells #[.int .u8 92] 5)).grown hob1 hob2))
          clear hob1 hob2 HOWN
          go_wp2
          go_roundw
          case rel => exact ⟨g, acc ++ [92], i + 2, by go_num, HOB.out, HRF2, by omega, by omega, by omega, by simp; omega⟩
          case measure => simp [intOf]; omega

        · have d92 : ((d.toNat : Int) == 92) = false := by
            have : d.toNat ≠ 92 := fun h => h92 (UInt8.toNat_inj.1 (by rw [h]; rfl))
            simp; omega
          by_cases h120 : d = 120
          · subst h120
            have hrf := HRF.out
            rw [refF_x] at hrf
            replace HRF := Lib.hid hrf
            have hlen : (t.data.toList.drop (i + 1 + 1)).length = t.size - (i + 2) := by rw [List.length_drop, ← Lib.size_eq]
            clear hrf h92
            by_cases h3 : i + 3 < t.size
            · have j3 : (i : Int) + 1 + 2 < (t.size : Int) := by omega
              have j2 : (i : Int) + 1 + 1 < (t.size : Int) := by omega
              have hi2 : i + 1 + 1 < t.size := by omega
              have hi3 : i + 1 + 2 < t.size := by omega
              have g0 : (t.data.toList.drop (i + 1 + 1)).getD 0 0 = t[i + 1 + 1]'hi2 := by rw [getB_drop hi2]; rfl
              have g1 : (t.data.toList.drop (i + 1 + 1)).getD 1 0 = t[i + 1 + 2]'hi3 := by rw [getB_drop hi2, getB_drop (show i + 1 + 1 + 1 < t.size from hi3)]; rfl
              have hrf := HRF.out
              rw [g0, g1, List.drop_drop] at hrf
              replace HRF := Lib.hid hrf
              have da := fun w => digit_any (t[i + 1 + 1]'hi2) w
              have db := fun w => digit_any (t[i + 1 + 2]'hi3) w
              generalize ha : t[i + 1 + 1]'hi2 = a at *
              generalize hb : t[i + 1 + 2]'hi3 = b at *
              have hq1 := digN_le a
              have hq2 := digN_le b
              generalize hqa : digN a = q1 at *
              generalize hqb : digN b = q2 at *
              have DA := Lib.hid da; have DB := Lib.hid db; have HLEN := Lib.hid hlen
              clear da db g0 g1 hrf hlen hqa hqb
              by_cases k1 : 15 < q1
              · have k1i : (15 : Int) < (q1 : Int) := by omega
                have HNO := Lib.hid (refN_none (HRF.out.symm.trans (by rw [if_pos (.inr (.inl k1))])))
                have HBL := Lib.hid HOWN.out.2.1
                clear HRF
                clear k1
                go_wp2_with fail
                refine (DA.out _).mono ?_
                rintro e w1 ⟨rfl, rfl⟩

                go_wp2
                go_ret2
                exact ⟨readOut_none HNO.out, HBL.out⟩

              · have k1i : (q1 : Int) ≤ 15 := by omega
                by_cases k2 : 15 < q2
                · have k2i : (15 : Int) < (q2 : Int) := by omega
                  have HNO := Lib.hid (refN_none (HRF.out.symm.trans (by rw [if_pos (.inr (.inr k2))])))
                  have HBL := Lib.hid HOWN.out.2.1
                  clear HRF
                  clear k1 k2
                  go_wp2_with fail
                  refine (DA.out _).mono ?_
                  rintro e w1 ⟨rfl, rfl⟩
                  go_wp2_with fail
                  refine (DB.out _).mono ?_
                  rintro e w1 ⟨rfl, rfl⟩

                  go_wp2
                  go_ret2
                  exact ⟨readOut_none HNO.out, HBL.out⟩

                · have k2i : (q2 : Int) ≤ 15 := by omega
                  have hrf := HRF.out
                  rw [if_neg (by rw [HLEN.out]; omega)] at hrf
                  have HRF2 := Lib.hid hrf
                  have ew : IntKind.u8.wrap (16 * (q1 : Int) + (q2 : Int)) = ((16 * q1 + q2 : Nat) : Int) := by rw [IntKind.wrap_u8]; omega
                  obtain ⟨q3, hq3⟩ : ∃ q, q = 16 * q1 + q2 := ⟨_, rfl⟩
                  have hq256 : q3 < 256 := by omega
                  rw [← hq3] at ew HRF2
                  have p1 : (0 : Int) ≤ (q1 : Int) := by omega
                  have p2 : (0 : Int) ≤ (q2 : Int) := by omega
                  clear hrf HRF k1 k2 hq3
                  go_wp2_with fail
                  refine (DA.out _).mono ?_
                  rintro e w1 ⟨rfl, hw1⟩
                  rw [hw1]
                  clear hw1 w1
                  go_wp2_with fail
                  refine (DB.out _).mono ?_
                  rintro e w1 ⟨rfl, hw1⟩
                  rw [hw1]
                  clear hw1 w1
                  go_wp2
                  have m1 : IntKind.i64.wrap ((i : Int) + 1 + 1) = (i : Int) + 1 + 1 := by rw [IntKind.wrap_i64]; omega
                  have m2 : IntKind.i64.wrap ((i : Int) + 1 + 2) = (i : Int) + 1 + 2 := by rw [IntKind.wrap_i64]; omega
                  have m3 : ((i : Int) + 1 + 1).toNat = i + 1 + 1 := by omega
                  have m4 : ((i : Int) + 1 + 2).toNat = i + 1 + 2 := by omega
                  have m5 : (0 : Int) ≤ (i : Int) + 1 + 1 := by omega
                  have m6 : (0 : Int) ≤ (i : Int) + 1 + 2 := by omega
                  have m7 : IntKind.i64.wrap (16 * (q1 : Int)) = 16 * (q1 : Int) := by rw [IntKind.wrap_i64]; omega
                  have m8 : IntKind.i64.wrap (16 * (q1 : Int) + (q2 : Int)) = 16 * (q1 : Int) + (q2 : Int) := by rw [IntKind.wrap_i64]; omega
                  go_region_law (first | (refine step_call1 rfl 37 Tryd.f37 _ _ rfl Tryd.func37 rfl rfl _ _ ?_ (DA.out _) ?_; focus (simp [Act.eval, Act.put]; done)) | (refine step_call1 rfl 37 Tryd.f37 _ _ rfl Tryd.func37 rfl rfl _ _ ?_ (DB.out _) ?_; focus (simp [Act.eval, Act.put]; done)) | (refine step_append_byte rfl _ _ 49 rfl w.heap.size 5 i0 Tryd.underlying49 hi0 hz0 hz1 hz2 u4 acc.length (Lib.byteCells acc) (by simp [Act.eval, Act.put]) w (by first | exact ownBuf_drew (HOWN.out.alloc _) | exact (ownBuf_drew HOWN.out).alloc _) (q3 : Int) ⟨wr.heap.size, 0, none⟩ 1 (by simp [Act.eval, Act.put]) (by simp) (by omega) ?_; intro v' w6 hob6))
                  all_goals
                    go_simp
                    go_wp2
                    go_roundw
                    case rel => exact ⟨g, acc ++ [UInt8.ofNat q3], i + 4, by go_num, ownBuf_byte (x := UInt8.ofNat q3) (by rw [byte_ofNat hq256]) hob6, HRF2, by omega, by omega, by omega, by simp; omega⟩
                    case measure => simp [intOf]; omega
            · have j3 : (t.size : Int) ≤ (i : Int) + 1 + 2 := by omega
              have HNO := Lib.hid (refN_none (HRF.out.symm.trans (by rw [if_pos (.inl (by rw [hlen]; omega))])))
              have HBL := Lib.hid HOWN.out.2.1
              clear HRF
              clear hlen
              go_wp2
              go_ret2
              exact ⟨readOut_none HNO.out, HBL.out⟩

          · have d120 : ((d.toNat : Int) == 120) = false := by
              have : d.toNat ≠ 120 := fun h => h120 (UInt8.toNat_inj.1 (by rw [h]; rfl))
              simp; omega
            by_cases h117 : d = 117
            · subst h117
              have hrf := HRF.out
              rw [refF_u] at hrf
              have HRF2 := Lib.hid hrf
              clear hrf HRF h92 h120
              go_wp2
              go_loop [5, 7] (fun s5 s7 => ∃ (j n : Nat), s5 = .int .i64 j ∧ s7 = .int .i64 n ∧ i + 2 ≤ j ∧ j ≤ t.size ∧ n ≤ 17825791 ∧ Hid (scan n (t.data.toList.drop j) = scan 0 (t.data.toList.drop (i + 1 + 1)))) (fun s5 _ => t.size - (intOf s5).toNat)
              case atStart => exact ⟨i + 2, 0, by go_num, rfl, by omega, by omega, by omega, Lib.hid rfl⟩
              case round =>
                obtain ⟨j, n, rfl, rfl, hj0, hj1, hn, HSC⟩ := hrel
                by_cases hj : j < t.size
                · have hji : (j : Int) < (t.size : Int) := by omega
                  have hdr2 := getB_drop hj
                  generalize he : t[j]'hj = e at *
                  have hsc := HSC.out
                  rw [hdr2] at hsc
                  have dg := fun w => digit_any e w
                  have hq := digN_le e
                  have hgo1 := fun (h1 : digN e < 16) (h2 : n ≤ 1114111) => scan_go (l := t.data.toList.drop (j + 1)) h1 h2
                  have hst1 := fun (h : ¬ (digN e < 16 ∧ n ≤ 1114111)) => scan_stop (l := t.data.toList.drop (j + 1)) h
                  generalize hqe : digN e = q at *
                  have HDG := Lib.hid dg; have HG1 := Lib.hid hgo1; have HS1 := Lib.hid hst1; have HSC2 := Lib.hid hsc; have HD2 := Lib.hid hdr2
                  clear dg hgo1 hst1 hsc hdr2 HSC hqe
                  by_cases hgo : q < 16 ∧ n ≤ 1114111
                  · obtain ⟨x1, x2⟩ := hgo
                    have HSN : Hid (scan (16 * n + q) (t.data.toList.drop (j + 1)) = scan 0 (t.data.toList.drop (i + 1 + 1))) := Lib.hid (by rw [← HSC2.out, HG1.out x1 x2])
                    have y1 : (q : Int) < 16 := by omega
                    have y2 : (n : Int) ≤ 1114111 := by omega
                    clear HG1 HS1 HSC2 HD2
                    go_wp2_with fail
                    refine (HDG.out _).mono ?_
                    rintro e w7 ⟨rfl, hw7⟩
                    rw [hw7]
                    clear hw7 w7
                    go_wp2_with fail
                    refine (HDG.out _).mono ?_
                    rintro e w7 ⟨rfl, hw7⟩
                    rw [hw7]
                    clear hw7 w7
                    go_wp2
                    go_round
                    case rel => exact ⟨j + 1, 16 * n + q, by go_num, by go_num, by omega, by omega, by omega, HSN⟩
                    case measure => simp [intOf]; omega
                  · have HSS : Hid (scan 0 (t.data.toList.drop (i + 1 + 1)) = (n, t.data.toList.drop j)) := Lib.hid (by rw [← HSC2.out, HS1.out hgo, HD2.out])
                    have hgo2 : 16 ≤ q ∨ (q < 16 ∧ 1114111 < n) := by omega
                    clear HG1 HS1 HSC2 HD2 hgo
                    have hrf := HRF2.out
                    rw [HSS.out] at hrf
                    have HRF3 : Hid (refF g (acc ++ enc n) (t.data.toList.drop (j + 1)) = refN t.data.toList) := Lib.hid (by rw [← hrf, List.drop_drop])
                    have hni : (n : Int) ≤ 17825791 := by omega
                    have hw32 : IntKind.i32.wrap (n : Int) = (n : Int) := by rw [IntKind.wrap_i32]; omega
                    clear hrf HSS HRF2
                    rcases hgo2 with y1 | ⟨y1, y2⟩
                    · have z1 : (16 : Int) ≤ (q : Int) := by omega
                      go_wp2_with fail
                      refine (HDG.out _).mono ?_
                      rintro e w7 ⟨rfl, hw7⟩
                      rw [hw7]
                      clear hw7 w7
                      go_wp2_with fail
                      refine (Tryd.utf8_AppendRune_row w.heap.size u4 acc.length (Lib.byteCells acc) (n : Int) (by omega) (by omega) _ HOWN.out.1 (by omega) HOWN.out.2.2).mono ?_
                      rintro e w9 ⟨v9, rfl, ho9, o9, hg9⟩
                      have HO9 := Lib.hid (ownBuf_rune HOWN.out ho9 hg9)
                      clear ho9 hg9
                      go_wp2
                      go_roundw
                      case rel => exact ⟨g, acc ++ enc n, j + 1, by go_num, HO9.out, HRF3, by omega, by omega, by omega, by rw [List.length_append]; have := enc_le4 n; omega⟩
                      case measure => simp [intOf]; omega
                    · have z1 : (q : Int) < 16 := by omega
                      have z2 : (1114111 : Int) < (n : Int) := by omega
                      go_wp2_with fail
                      refine (HDG.out _).mono ?_
                      rintro e w7 ⟨rfl, hw7⟩
                      rw [hw7]
                      clear hw7 w7
                      go_wp2_with fail
                      refine (Tryd.utf8_AppendRune_row w.heap.size u4 acc.length (Lib.byteCells acc) (n : Int) (by omega) (by omega) _ HOWN.out.1 (by omega) HOWN.out.2.2).mono ?_
                      rintro e w9 ⟨v9, rfl, ho9, o9, hg9⟩
                      have HO9 := Lib.hid (ownBuf_rune HOWN.out ho9 hg9)
                      clear ho9 hg9
                      go_wp2
                      go_roundw
                      case rel => exact ⟨g, acc ++ enc n, j + 1, by go_num, HO9.out, HRF3, by omega, by omega, by omega, by rw [List.length_append]; have := enc_le4 n; omega⟩
                      case measure => simp [intOf]; omega
                · obtain rfl : j = t.size := by omega
                  have HSS : Hid (scan 0 (t.data.toList.drop (i + 1 + 1)) = (n, t.data.toList.drop t.size)) := Lib.hid (by rw [← HSC.out, List.drop_eq_nil_of_le (by rw [← Lib.size_eq]; omega)]; rfl)
                  clear HSC
                  have hrf := HRF2.out
                  rw [HSS.out] at hrf
                  have HRF3 : Hid (refF g (acc ++ enc n) (t.data.toList.drop (t.size + 1)) = refN t.data.toList) := Lib.hid (by rw [← hrf, List.drop_drop])
                  have hni : (n : Int) ≤ 17825791 := by omega
                  have hw32 : IntKind.i32.wrap (n : Int) = (n : Int) := by rw [IntKind.wrap_i32]; omega
                  clear hrf HSS HRF2
                  go_wp2_with fail
                  refine (Tryd.utf8_AppendRune_row w.heap.size u4 acc.length (Lib.byteCells acc) (n : Int) (by omega) (by omega) _ HOWN.out.1 (by omega) HOWN.out.2.2).mono ?_
                  rintro e w9 ⟨v9, rfl, ho9, o9, hg9⟩
                  have HO9 := Lib.hid (ownBuf_rune HOWN.out ho9 hg9)
                  clear ho9 hg9
                  go_wp2
                  go_roundw
                  case rel => exact ⟨g, acc ++ enc n, t.size + 1, by go_num, HO9.out, HRF3, by omega, by omega, by omega, by rw [List.length_append]; have := enc_le4 n; omega⟩
                  case measure => simp [intOf]; omega

            · have d117 : ((d.toNat : Int) == 117) = false := by
                have : d.toNat ≠ 117 := fun h => h117 (UInt8.toNat_inj.1 (by rw [h]; rfl))
                simp; omega
              have HNO := Lib.hid (refN_none (HRF.out.symm.trans (refF_no h92 h120 h117)))
              have HBL := Lib.hid HOWN.out.2.1
              clear HRF
              clear h92 h120 h117
              go_wp2
              go_ret2
              exact ⟨readOut_none HNO.out, HBL.out⟩
    · have hi2 : (t.size : Int) ≤ (i : Int) := by omega
      have hrf := HRF.out
      rw [show t.data.toList.drop i = [] from List.drop_eq_nil_of_le (by rw [← Lib.size_eq]; omega), refF] at hrf
      have HRF2 := Lib.hid hrf.symm
      have hcv := conv_owned _ _ _ _ _ HOWN.out.1
      have hz1' : Tz wr := hZ.below HOWN.out.2.1
      have hT1 : Tabs wr := hT.below HOWN.out.2.1
      have hasz : (⟨acc.toArray⟩ : ByteArray).size ≤ 1099511627776 := by rw [Lib.size_eq]; simp; omega
      have hacd : (⟨acc.toArray⟩ : ByteArray).data.toList = acc := by simp
      have hsh := fun w hT hZ => ref_show ⟨acc.toArray⟩ w hT hZ hasz
      rw [hacd] at hsh
      have HSH := Lib.hid hsh
      clear hrf HRF hasz hacd hsh
      go_wp2_with fail
      refine (HSH.out _ hT1 hz1').mono ?_
      rintro e w2 ⟨rfl, hb2⟩
      have hcv2 := conv_owned _ _ _ _ _ (ownBuf_below HOWN.out hb2).1
      have HBL := Lib.hid (HOWN.out.2.1.trans (hb2.mono HOWN.out.2.2))
      clear hb2 HSH hcv
      cases hq : (shown acc == t.toList) with
      | true =>
        have hq2 : shown acc = t.data.toList := by rw [← Lib.toList_data t]; exact eq_of_beq hq
        have HQ := Lib.hid (refN_eq hq2)
        clear hq2
        go_wp2
        go_ret2
        exact ⟨readOut_some HQ.out, HBL.out⟩
      | false =>
        have hq2 : shown acc ≠ t.data.toList := by rw [← Lib.toList_data t]; exact ne_of_beq_false hq
        have HQ := Lib.hid (refN_ne HRF2.out hq2)
        clear hq2
        go_wp2
        go_ret2
        exact ⟨readOut_none HQ.out, HBL.out⟩
end Go.Proofs.YtofdhhemdoodaaaDoor.Nm
