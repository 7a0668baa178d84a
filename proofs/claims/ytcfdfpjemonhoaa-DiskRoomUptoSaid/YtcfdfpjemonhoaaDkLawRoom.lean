/-
  DiskRoom's walk: for all lists of calls, no call uses more room than there is, and refused calls change nothing that is told.
-/
import Derived.Test.YtcfdfpjemonhoaaDkRoom
import Derived.Test.YtcfdfpjemonhoaaDkOps
namespace Go.Proofs.Ytcfdfpjemonhoaa.Dk
open Go.RowKit Go.Maps Go.WideMaps

theorem own_lt {w : World} {B : Nat} {e : TypeId} {size : Nat} {v : Value} {n : Nat} {xs : List Value} (h : w.ownsRow B e size v n xs) : ∀ b ∈ ob v, b < w.heap.size := by
  obtain ⟨_, ⟨rfl, _⟩ | ⟨g, cap, cur, rfl, _, hh, _⟩⟩ := h
  · intro b hb; simp [ob, Value.ownBlock] at hb
  · intro b hb; simp [ob, Value.ownBlock] at hb; subst hb; exact lt_of_heap hh

def OpX.v (x : OpX) : OpV := ⟨x.kind, x.name, x.other, x.data, x.a⟩

/-- The first bytes that are told. -/
def sumT (l : List Told) (j : Nat) : Int := ((l.take j).map fun t => (t.2.1.length : Int)).sum
theorem sumT_next {l : List Told} {j : Nat} {t : Told} (h : l[j]? = some t) : sumT l (j + 1) = sumT l j + (t.2.1.length : Int) := by
  rw [sumT, List.take_add_one, h, List.map_append, List.sum_append]
  simp [sumT]
theorem sum_nonneg' : ∀ l : List Told, 0 ≤ (l.map fun t => (t.2.1.length : Int)).sum
  | [] => by simp
  | t :: r => by have := sum_nonneg' r; rw [List.map_cons, List.sum_cons]; omega
theorem sumT_nonneg (l : List Told) (j : Nat) : 0 ≤ sumT l j := sum_nonneg' _
theorem sumT_le {l : List Told} {u : Int} (h : (l.map fun t => (t.2.1.length : Int)).sum ≤ u) (j : Nat) : sumT l j ≤ u := by
  have e : (l.map fun t => (t.2.1.length : Int)).sum = sumT l j + ((l.drop j).map fun t => (t.2.1.length : Int)).sum := by
    rw [sumT, ← List.sum_append, ← List.map_append, List.take_append_drop]
  have := sum_nonneg' (l.drop j)
  omega

set_option maxHeartbeats 32000000 in
set_option maxRecDepth 100000 in
theorem room_law (q : Nat) (hq : q < 65536) (w : World) (v : Value) (l : List OpX) (ho : OpsAt w v l) : Calls Try.prog 3 #[.int .u16 (q : Int), v] w fun e w' => e = .returned (.bool true) ∧ Below w.heap.size w w' := by
  have HO := Lib.hid ho
  obtain ⟨la, lc, hv, hlm, _⟩ := ho
  subst hv
  unfold maxLen at hlm
  have hwq0 : IntKind.i64.wrap (q : Int) = (q : Int) := by rw [IntKind.wrap_i64]; omega
  have NC := Lib.hid (new_any (q : Int) (by omega) (by omega) w)
  go_enter Try.func3, Try.ntmps3
  go_wp2_with (go_at_call 6; refine NC.out.mono ?_; rintro e1 w1 ⟨Y0, rfl, d0, b1⟩; have D0 := Lib.hid d0; have B1 := Lib.hid b1; clear d0 b1)
  go_loopw [7] (fun s7 wr => ∃ (k : Nat) (Y : Lay) (D : Dk), k ≤ 60 ∧ k ≤ l.length ∧ s7 = .int .i64 k ∧ Hid (DiskAt w.heap.size wr Y D) ∧ Y.g = Y0.g ∧ Hid (Good (1000000 - 2 * k) D ∧ D.used ≤ D.quota ∧ D.quota = (q : Int)) ∧ Hid (Below w.heap.size w wr)) (fun s7 _ => 60 - (RowKit.intOf s7).toNat)
  case atStart => exact ⟨0, Y0, newDk q, by omega, by omega, rfl, D0, rfl, Lib.hid ⟨good_new _ (by omega) (by omega), by show (0 : Int) ≤ (q : Int); omega, rfl⟩, B1⟩
  case round =>
    obtain ⟨k, Y, D, hk60, hkl, rfl, HD, hYg, HGD, BW⟩ := hrel
    by_cases hlt : k < l.length
    · by_cases h60 : k < 60
      · have hki : (k : Int) < (l.length : Int) := by omega
        have hk6 : (k : Int) < 60 := by omega
        obtain ⟨hg, hu, hqq⟩ := HGD.out
        obtain ⟨x, hx⟩ : ∃ x, l[k]? = some x := ⟨_, List.getElem?_eq_getElem hlt⟩
        have hxm := List.mem_of_getElem? hx
        obtain ⟨a0, c0', hv0, _, hcell, hfit⟩ := HO.out.below BW.out
        injection hv0 with z1 z2 z3
        obtain ⟨lb, lo, rfl, hlb, hat⟩ := hcell (List.ne_nil_of_mem hxm)
        have hX := Lib.hid (hat k x hx)
        obtain ⟨hN, hO, hT⟩ := hfit x hxm
        subst z1
        have FC := files_any w.heap.size wr Y D HD.out hg.ok.now hg.ok.nnow
        unfold ptr at FC
        rw [hYg] at FC
        have HFC := Lib.hid FC
        have hop0 : Good (1000000 - 2 * (k + 1)) (roomN D x.v).2 ∧ RoomOk D (roomN D x.v) := room_op (hg.le (by omega)) hN hO
        have HBL := Lib.hid HD.out.lt
        clear hcell hat hx hxm hfit FC z2 z3
        by_cases qk : x.kind = 0
        · have er0 : roomN D x.v = create D x.name.data.toList := by unfold roomN; rw [if_pos (show x.v.kind = 0 from qk)]; rfl
          rw [er0] at hop0
          obtain ⟨⟨er, D'⟩, hed⟩ : ∃ z, z = create D x.name.data.toList := ⟨_, rfl⟩
          rw [← hed] at hop0
          have hop := hop0
          clear hop0 er0
          go_wp2_with (first | (go_at_call 7; refine HFC.out.mono ?_; rintro e4 w4 ⟨vW, rfl, hrow4, hb4⟩; obtain ⟨wa, wc, hvW, _⟩ := told_row hrow4; subst hvW; have X4 := hX.out.below hb4 hlb; have c0 := X4.c0; rw [qk] at c0; have c1 := X4.c1; have c2 := X4.c2; have c3 := X4.c3; have H4 := Lib.hid (HD.out.below hb4); have HR4 := Lib.hid hrow4; have HB4 := Lib.hid hb4; clear hrow4 hb4 X4; have OC := create_any w.heap.size w4 Y D x.name hN H4.out hg.ok (by have := hg.bcalls; omega) (by have := hg.bfiles; omega); rw [← hed] at OC; unfold ptr at OC; rw [hYg] at OC; have HOC := Lib.hid OC; clear OC) | (go_at_call 8; refine HOC.out.mono ?_; rintro e5 w5 ⟨Y5, rfl, d5, t5, x5, y5'⟩; have y5 : Y5.g = Y0.g := y5'.trans hYg; have H5 := Lib.hid d5; have T5 := Lib.hid t5; clear d5 t5 x5 HOC))
          have TW5 : Hid (TRow w5 (.slice wa (filesN D).length wc) (filesN D)) := Lib.hid (told_row (ownsRow_block HR4.out (fun b hb => T5.out.block b (own_lt HR4.out b hb) (fun hm => by have h1 := own_ge HR4.out b (by simpa [ob] using hb); have h2 := HBL.out b hm; omega))))
          have BW5 : Hid (Below w.heap.size w w5) := Lib.hid ((BW.out.trans (HB4.out.mono BW.out.size)).trans (T5.out.below HD.out.base (Nat.le_trans BW.out.size HB4.out.size)))
          clear T5 HR4 HB4 H4 c0 c1 c2 c3 HFC
          obtain ⟨hg5, hroom5⟩ := hop
          have FC5 := files_any w.heap.size w5 Y5 D' H5.out hg5.ok.now hg5.ok.nnow
          unfold ptr at FC5
          rw [y5] at FC5
          have HFC5 := Lib.hid FC5
          clear FC5
          go_wp2_with (go_at_call 7; refine HFC5.out.mono ?_; rintro e6 w6 ⟨vN, rfl, hrow6, hb6⟩; obtain ⟨na, nc, hvN, _⟩ := told_row hrow6; have TN := Lib.hid (told_row hrow6); have HB6 := Lib.hid hb6; clear hrow6 hb6; subst hvN)
          have TW6 : Hid (TRow w6 (.slice wa (filesN D).length wc) (filesN D)) := Lib.hid ((TW5.out).below HB6.out)
          have hln := told_length D'
          have hn4 := hg5.ok.nnow
          have hsum := told_sum hg5
          have hused := hroom5.used hu
          dsimp only at hused
          have hq5 : D'.quota = D.quota := hroom5.quota
          rw [hq5, hqq] at hused
          have hnn : 0 ≤ D'.used := by rw [hg5.ok.used]; exact usedOf_nonneg _ _
          have HE5 := Lib.hid (told_each hg5)
          have HG5 := Lib.hid hg5; have HRM := Lib.hid hroom5; have HSM := Lib.hid hsum
          have hql : D'.quota = (q : Int) := hq5.trans hqq
          clear hq5
          obtain ⟨M, hM⟩ : ∃ M, M = (filesN D').length := ⟨_, rfl⟩
          rw [← hM] at hln
          have HMM := Lib.hid hM
          rw [← hM]
          clear hg5 hroom5 hsum hM
          go_loopw [11, 12] (fun s11 s12 wr => ∃ j : Nat, j ≤ M ∧ s12 = .int .i64 j ∧ s11 = .int .i64 (sumT (filesN D') j) ∧ w6 = wr) (fun _ s12 _ => M - (RowKit.intOf s12).toNat)
          case atStart => exact ⟨0, by omega, rfl, rfl, rfl⟩
          case round =>
            obtain ⟨j, hj, rfl, rfl, rfl⟩ := hrel
            by_cases hjt : j < M
            · obtain ⟨t, ht⟩ : ∃ t, (filesN D')[j]? = some t := ⟨_, List.getElem?_eq_getElem (by rw [← HMM.out]; exact hjt)⟩
              have htm := List.mem_of_getElem? ht
              obtain ⟨a9, c9, hv9, hcell9⟩ := TN.out
              injection hv9 with z1 z2 z3
              obtain ⟨g9, rfl, hg9, hc9⟩ := hcell9 (List.ne_nil_of_mem htm)
              subst z1
              have hx9 := (hc9 j t ht).2
              have hb1 : sumT (filesN D') j ≤ D'.used := sumT_le (Int.le_of_eq HSM.out) j
              have hb2 := sumT_nonneg (filesN D') j
              have htl := HE5.out t htm
              have hS := Lib.hid (sumT_next ht)
              have hjM : (j : Int) < (M : Int) := by omega
              generalize hsv : sumT (filesN D') j = sv at hb1 hb2 hS
              have hS' : Hid (sumT (filesN D') (j + 1) = sv + (t.2.1.length : Int)) := hS
              have hw1 : IntKind.i64.wrap (sv + (t.2.1.length : Int)) = sv + (t.2.1.length : Int) := by rw [IntKind.wrap_i64]; omega
              clear ht htm hcell9 hc9 hS z2 z3
              go_wp2
              go_roundw
              case rel => exact ⟨j + 1, by omega, by go_num, by rw [hS'.out], by first | trivial | rfl⟩
              case measure => simp [RowKit.intOf]; omega
            · obtain rfl : j = M := by omega
              have hfull : sumT (filesN D') j = D'.used := by rw [sumT, List.take_of_length_le (by rw [HMM.out]; exact Nat.le_refl _)]; exact HSM.out
              rw [hfull]
              obtain ⟨uu, huu⟩ : ∃ uu, uu = D'.used := ⟨_, rfl⟩
              rw [← huu] at hused hnn ⊢
              have hmax : max 0 ((q : Int) - uu) = (q : Int) - uu := by omega
              have hwq : IntKind.i64.wrap (q : Int) = (q : Int) := by rw [IntKind.wrap_i64]; omega
              have hwu : IntKind.i64.wrap ((q : Int) - uu) = (q : Int) - uu := by rw [IntKind.wrap_i64]; omega
              have hnle : ¬ (q : Int) < uu := by omega
              have H6 : Hid (DiskAt w.heap.size w6 Y5 D') := Lib.hid (H5.out.below HB6.out)
              have hbw6 : Hid (Below w.heap.size w w6) := Lib.hid (BW5.out.trans (HB6.out.mono BW5.out.size))
              by_cases he : er = 0
              · subst he
                have FR := free_any w.heap.size w6 Y5 D' H6.out HG5.out.ok.quota ⟨by omega, by omega⟩
                unfold ptr at FR
                rw [y5, hql, ← huu, hmax] at FR
                have HFR := Lib.hid FR
                clear FR
                go_wp2_with (go_at_call 13; refine HFR.out.mono ?_; rintro e8 w8 ⟨rfl, n8, rfl⟩)
                go_roundw
                case rel => exact ⟨k + 1, Y5, D', by omega, by omega, by go_num, Lib.hid (H6.out.drewN n8), y5, Lib.hid ⟨HG5.out.le (by omega), by rw [hql, ← huu]; exact hused, hql⟩, Lib.hid (hbw6.out.trans ⟨rfl, rfl, rfl, Nat.le_refl _, fun _ _ => rfl⟩)⟩
                case measure => simp [RowKit.intOf]; omega
              · have hee : (er == 0) = false := by simpa using he
                have FY := Lib.hid (files_yes w6 _ _ (filesN D) (filesN D') TW6.out TN.out (HRM.out.no he) (by rw [told_length D]; have := hg.ok.nnow; omega))
                rw [← HMM.out] at FY
                have hee2 : (er != 0) = true := by simpa using he
                have HW1 := Lib.hid hwq; have HW2 := Lib.hid hwu; have HW3 := Lib.hid hnle
                clear he hwq hwu hnle hwq0 hln hn4 hjt
                go_wp2_with fail
                refine FY.out.mono ?_
                rintro e7 w7 ⟨rfl, hb7⟩
                have FR := free_any w.heap.size w7 Y5 D' (H6.out.below hb7) HG5.out.ok.quota ⟨by omega, by omega⟩
                unfold ptr at FR
                rw [y5, hql, ← huu, hmax] at FR
                have HFR := Lib.hid FR; have HB7 := Lib.hid hb7
                have hwq := HW1.out; have hwu := HW2.out; have hnle := HW3.out
                clear FR hb7 hee hee2 FY
                go_wp2_with (go_at_call 13; refine HFR.out.mono ?_; rintro e8 w8 ⟨rfl, n8, rfl⟩)
                go_roundw
                case rel => exact ⟨k + 1, Y5, D', by omega, by omega, by go_num, Lib.hid ((H6.out.below HB7.out).drewN n8), y5, Lib.hid ⟨HG5.out.le (by omega), by rw [hql, ← huu]; exact hused, hql⟩, Lib.hid ((hbw6.out.trans (HB7.out.mono hbw6.out.size)).trans ⟨rfl, rfl, rfl, Nat.le_refl _, fun _ _ => rfl⟩)⟩
                case measure => simp [RowKit.intOf]; omega
        have q0 : ¬ x.kind = 0 := qk
        clear qk
        by_cases qk : x.kind = 1
        · have er0 : roomN D x.v = append D x.name.data.toList x.data.data.toList := by unfold roomN; rw [if_neg (show ¬ x.v.kind = 0 by show ¬ x.kind = 0; rw [qk]; decide), if_pos (show x.v.kind = 1 from qk)]; rfl
          rw [er0] at hop0
          obtain ⟨⟨er, D'⟩, hed⟩ : ∃ z, z = append D x.name.data.toList x.data.data.toList := ⟨_, rfl⟩
          rw [← hed] at hop0
          have hop := hop0
          clear hop0 er0
          go_wp2_with (go_at_call 7; refine HFC.out.mono ?_; rintro e4 w4 ⟨vW, rfl, hrow4, hb4⟩; obtain ⟨wa, wc, hvW, _⟩ := told_row hrow4; subst hvW; have X4 := hX.out.below hb4 hlb; have c0 := X4.c0; rw [qk] at c0; have c1 := X4.c1; have c2 := X4.c2; have c3 := X4.c3; have H4 := Lib.hid (HD.out.below hb4); have HR4 := Lib.hid hrow4; have HB4 := Lib.hid hb4; clear hrow4 hb4 X4)
          have OC := append_any w.heap.size w4.drew Y D x.name x.data hN hT (H4.out.kept (Nat.le_refl _) (fun _ _ => rfl)) hg.ok
          rw [← hed] at OC
          unfold ptr at OC
          rw [hYg] at OC
          have HOC := Lib.hid OC
          clear OC
          go_still_tail 11, (by kernel_rfl)
          change wpList _ _ _ _ _ w4.drew
          go_wp2_with (go_at_call 9; refine HOC.out.mono ?_; rintro e5 w5 ⟨Y5, rfl, d5, t5, x5, y5'⟩; have y5 : Y5.g = Y0.g := y5'.trans hYg; have H5 := Lib.hid d5; have T5 := Lib.hid t5; clear d5 t5 x5 HOC)
          have T5' : Hid (Turn Y.blocks w4 w5) := Lib.hid ⟨T5.out.os, T5.out.tape, T5.out.output, T5.out.size, T5.out.block⟩
          clear T5
          have T5 := T5'
          clear T5'
          have TW5 : Hid (TRow w5 (.slice wa (filesN D).length wc) (filesN D)) := Lib.hid (told_row (ownsRow_block HR4.out (fun b hb => T5.out.block b (own_lt HR4.out b hb) (fun hm => by have h1 := own_ge HR4.out b (by simpa [ob] using hb); have h2 := HBL.out b hm; omega))))
          have BW5 : Hid (Below w.heap.size w w5) := Lib.hid ((BW.out.trans (HB4.out.mono BW.out.size)).trans (T5.out.below HD.out.base (Nat.le_trans BW.out.size HB4.out.size)))
          clear T5 HR4 HB4 H4 c0 c1 c2 c3 HFC
          obtain ⟨hg5, hroom5⟩ := hop
          have FC5 := files_any w.heap.size w5 Y5 D' H5.out hg5.ok.now hg5.ok.nnow
          unfold ptr at FC5
          rw [y5] at FC5
          have HFC5 := Lib.hid FC5
          clear FC5
          go_wp2_with (go_at_call 7; refine HFC5.out.mono ?_; rintro e6 w6 ⟨vN, rfl, hrow6, hb6⟩; obtain ⟨na, nc, hvN, _⟩ := told_row hrow6; have TN := Lib.hid (told_row hrow6); have HB6 := Lib.hid hb6; clear hrow6 hb6; subst hvN)
          have TW6 : Hid (TRow w6 (.slice wa (filesN D).length wc) (filesN D)) := Lib.hid ((TW5.out).below HB6.out)
          have hln := told_length D'
          have hn4 := hg5.ok.nnow
          have hsum := told_sum hg5
          have hused := hroom5.used hu
          dsimp only at hused
          have hq5 : D'.quota = D.quota := hroom5.quota
          rw [hq5, hqq] at hused
          have hnn : 0 ≤ D'.used := by rw [hg5.ok.used]; exact usedOf_nonneg _ _
          have HE5 := Lib.hid (told_each hg5)
          have HG5 := Lib.hid hg5; have HRM := Lib.hid hroom5; have HSM := Lib.hid hsum
          have hql : D'.quota = (q : Int) := hq5.trans hqq
          clear hq5
          obtain ⟨M, hM⟩ : ∃ M, M = (filesN D').length := ⟨_, rfl⟩
          rw [← hM] at hln
          have HMM := Lib.hid hM
          rw [← hM]
          clear hg5 hroom5 hsum hM
          go_loopw [11, 12] (fun s11 s12 wr => ∃ j : Nat, j ≤ M ∧ s12 = .int .i64 j ∧ s11 = .int .i64 (sumT (filesN D') j) ∧ w6 = wr) (fun _ s12 _ => M - (RowKit.intOf s12).toNat)
          case atStart => exact ⟨0, by omega, rfl, rfl, rfl⟩
          case round =>
            obtain ⟨j, hj, rfl, rfl, rfl⟩ := hrel
            by_cases hjt : j < M
            · obtain ⟨t, ht⟩ : ∃ t, (filesN D')[j]? = some t := ⟨_, List.getElem?_eq_getElem (by rw [← HMM.out]; exact hjt)⟩
              have htm := List.mem_of_getElem? ht
              obtain ⟨a9, c9, hv9, hcell9⟩ := TN.out
              injection hv9 with z1 z2 z3
              obtain ⟨g9, rfl, hg9, hc9⟩ := hcell9 (List.ne_nil_of_mem htm)
              subst z1
              have hx9 := (hc9 j t ht).2
              have hb1 : sumT (filesN D') j ≤ D'.used := sumT_le (Int.le_of_eq HSM.out) j
              have hb2 := sumT_nonneg (filesN D') j
              have htl := HE5.out t htm
              have hS := Lib.hid (sumT_next ht)
              have hjM : (j : Int) < (M : Int) := by omega
              generalize hsv : sumT (filesN D') j = sv at hb1 hb2 hS
              have hS' : Hid (sumT (filesN D') (j + 1) = sv + (t.2.1.length : Int)) := hS
              have hw1 : IntKind.i64.wrap (sv + (t.2.1.length : Int)) = sv + (t.2.1.length : Int) := by rw [IntKind.wrap_i64]; omega
              clear ht htm hcell9 hc9 hS z2 z3
              go_wp2
              go_roundw
              case rel => exact ⟨j + 1, by omega, by go_num, by rw [hS'.out], by first | trivial | rfl⟩
              case measure => simp [RowKit.intOf]; omega
            · obtain rfl : j = M := by omega
              have hfull : sumT (filesN D') j = D'.used := by rw [sumT, List.take_of_length_le (by rw [HMM.out]; exact Nat.le_refl _)]; exact HSM.out
              rw [hfull]
              obtain ⟨uu, huu⟩ : ∃ uu, uu = D'.used := ⟨_, rfl⟩
              rw [← huu] at hused hnn ⊢
              have hmax : max 0 ((q : Int) - uu) = (q : Int) - uu := by omega
              have hwq : IntKind.i64.wrap (q : Int) = (q : Int) := by rw [IntKind.wrap_i64]; omega
              have hwu : IntKind.i64.wrap ((q : Int) - uu) = (q : Int) - uu := by rw [IntKind.wrap_i64]; omega
              have hnle : ¬ (q : Int) < uu := by omega
              have H6 : Hid (DiskAt w.heap.size w6 Y5 D') := Lib.hid (H5.out.below HB6.out)
              have hbw6 : Hid (Below w.heap.size w w6) := Lib.hid (BW5.out.trans (HB6.out.mono BW5.out.size))
              by_cases he : er = 0
              · subst he
                have FR := free_any w.heap.size w6 Y5 D' H6.out HG5.out.ok.quota ⟨by omega, by omega⟩
                unfold ptr at FR
                rw [y5, hql, ← huu, hmax] at FR
                have HFR := Lib.hid FR
                clear FR
                go_wp2_with (go_at_call 13; refine HFR.out.mono ?_; rintro e8 w8 ⟨rfl, n8, rfl⟩)
                go_roundw
                case rel => exact ⟨k + 1, Y5, D', by omega, by omega, by go_num, Lib.hid (H6.out.drewN n8), y5, Lib.hid ⟨HG5.out.le (by omega), by rw [hql, ← huu]; exact hused, hql⟩, Lib.hid (hbw6.out.trans ⟨rfl, rfl, rfl, Nat.le_refl _, fun _ _ => rfl⟩)⟩
                case measure => simp [RowKit.intOf]; omega
              · have hee : (er == 0) = false := by simpa using he
                have FY := Lib.hid (files_yes w6 _ _ (filesN D) (filesN D') TW6.out TN.out (HRM.out.no he) (by rw [told_length D]; have := hg.ok.nnow; omega))
                rw [← HMM.out] at FY
                have hee2 : (er != 0) = true := by simpa using he
                have HW1 := Lib.hid hwq; have HW2 := Lib.hid hwu; have HW3 := Lib.hid hnle
                clear he hwq hwu hnle hwq0 hln hn4 hjt
                go_wp2_with fail
                refine FY.out.mono ?_
                rintro e7 w7 ⟨rfl, hb7⟩
                have FR := free_any w.heap.size w7 Y5 D' (H6.out.below hb7) HG5.out.ok.quota ⟨by omega, by omega⟩
                unfold ptr at FR
                rw [y5, hql, ← huu, hmax] at FR
                have HFR := Lib.hid FR; have HB7 := Lib.hid hb7
                have hwq := HW1.out; have hwu := HW2.out; have hnle := HW3.out
                clear FR hb7 hee hee2 FY
                go_wp2_with (go_at_call 13; refine HFR.out.mono ?_; rintro e8 w8 ⟨rfl, n8, rfl⟩)
                go_roundw
                case rel => exact ⟨k + 1, Y5, D', by omega, by omega, by go_num, Lib.hid ((H6.out.below HB7.out).drewN n8), y5, Lib.hid ⟨HG5.out.le (by omega), by rw [hql, ← huu]; exact hused, hql⟩, Lib.hid ((hbw6.out.trans (HB7.out.mono hbw6.out.size)).trans ⟨rfl, rfl, rfl, Nat.le_refl _, fun _ _ => rfl⟩)⟩
                case measure => simp [RowKit.intOf]; omega
        have q1 : ¬ x.kind = 1 := qk
        clear qk
        by_cases qk : x.kind = 6
        · have er0 : roomN D x.v = rename D x.name.data.toList x.other.data.toList := by unfold roomN; rw [if_neg (show ¬ x.v.kind = 0 by show ¬ x.kind = 0; rw [qk]; decide), if_neg (show ¬ x.v.kind = 1 by show ¬ x.kind = 1; rw [qk]; decide), if_pos (show x.v.kind = 6 from qk)]; rfl
          rw [er0] at hop0
          obtain ⟨⟨er, D'⟩, hed⟩ : ∃ z, z = rename D x.name.data.toList x.other.data.toList := ⟨_, rfl⟩
          rw [← hed] at hop0
          have hop := hop0
          clear hop0 er0
          go_wp2_with (go_at_call 7; refine HFC.out.mono ?_; rintro e4 w4 ⟨vW, rfl, hrow4, hb4⟩; obtain ⟨wa, wc, hvW, _⟩ := told_row hrow4; subst hvW; have X4 := hX.out.below hb4 hlb; have c0 := X4.c0; rw [qk] at c0; have c1 := X4.c1; have c2 := X4.c2; have c3 := X4.c3; have H4 := Lib.hid (HD.out.below hb4); have HR4 := Lib.hid hrow4; have HB4 := Lib.hid hb4; clear hrow4 hb4 X4)
          have OC := rename_any w.heap.size w4.drew Y D x.name x.other hN hO (H4.out.kept (Nat.le_refl _) (fun _ _ => rfl)) hg.ok (by have := hg.bcalls; omega)
          rw [← hed] at OC
          unfold ptr at OC
          rw [hYg] at OC
          have HOC := Lib.hid OC
          clear OC
          go_still_tail 11, (by kernel_rfl)
          change wpList _ _ _ _ _ w4.drew
          go_wp2_with (go_at_call 10; refine HOC.out.mono ?_; rintro e5 w5 ⟨Y5, rfl, d5, t5, x5, y5'⟩; have y5 : Y5.g = Y0.g := y5'.trans hYg; have H5 := Lib.hid d5; have T5 := Lib.hid t5; clear d5 t5 x5 HOC)
          have T5' : Hid (Turn Y.blocks w4 w5) := Lib.hid ⟨T5.out.os, T5.out.tape, T5.out.output, T5.out.size, T5.out.block⟩
          clear T5
          have T5 := T5'
          clear T5'
          have TW5 : Hid (TRow w5 (.slice wa (filesN D).length wc) (filesN D)) := Lib.hid (told_row (ownsRow_block HR4.out (fun b hb => T5.out.block b (own_lt HR4.out b hb) (fun hm => by have h1 := own_ge HR4.out b (by simpa [ob] using hb); have h2 := HBL.out b hm; omega))))
          have BW5 : Hid (Below w.heap.size w w5) := Lib.hid ((BW.out.trans (HB4.out.mono BW.out.size)).trans (T5.out.below HD.out.base (Nat.le_trans BW.out.size HB4.out.size)))
          clear T5 HR4 HB4 H4 c0 c1 c2 c3 HFC
          obtain ⟨hg5, hroom5⟩ := hop
          have FC5 := files_any w.heap.size w5 Y5 D' H5.out hg5.ok.now hg5.ok.nnow
          unfold ptr at FC5
          rw [y5] at FC5
          have HFC5 := Lib.hid FC5
          clear FC5
          go_wp2_with (go_at_call 7; refine HFC5.out.mono ?_; rintro e6 w6 ⟨vN, rfl, hrow6, hb6⟩; obtain ⟨na, nc, hvN, _⟩ := told_row hrow6; have TN := Lib.hid (told_row hrow6); have HB6 := Lib.hid hb6; clear hrow6 hb6; subst hvN)
          have TW6 : Hid (TRow w6 (.slice wa (filesN D).length wc) (filesN D)) := Lib.hid ((TW5.out).below HB6.out)
          have hln := told_length D'
          have hn4 := hg5.ok.nnow
          have hsum := told_sum hg5
          have hused := hroom5.used hu
          dsimp only at hused
          have hq5 : D'.quota = D.quota := hroom5.quota
          rw [hq5, hqq] at hused
          have hnn : 0 ≤ D'.used := by rw [hg5.ok.used]; exact usedOf_nonneg _ _
          have HE5 := Lib.hid (told_each hg5)
          have HG5 := Lib.hid hg5; have HRM := Lib.hid hroom5; have HSM := Lib.hid hsum
          have hql : D'.quota = (q : Int) := hq5.trans hqq
          clear hq5
          obtain ⟨M, hM⟩ : ∃ M, M = (filesN D').length := ⟨_, rfl⟩
          rw [← hM] at hln
          have HMM := Lib.hid hM
          rw [← hM]
          clear hg5 hroom5 hsum hM
          go_loopw [11, 12] (fun s11 s12 wr => ∃ j : Nat, j ≤ M ∧ s12 = .int .i64 j ∧ s11 = .int .i64 (sumT (filesN D') j) ∧ w6 = wr) (fun _ s12 _ => M - (RowKit.intOf s12).toNat)
          case atStart => exact ⟨0, by omega, rfl, rfl, rfl⟩
          case round =>
            obtain ⟨j, hj, rfl, rfl, rfl⟩ := hrel
            by_cases hjt : j < M
            · obtain ⟨t, ht⟩ : ∃ t, (filesN D')[j]? = some t := ⟨_, List.getElem?_eq_getElem (by rw [← HMM.out]; exact hjt)⟩
              have htm := List.mem_of_getElem? ht
              obtain ⟨a9, c9, hv9, hcell9⟩ := TN.out
              injection hv9 with z1 z2 z3
              obtain ⟨g9, rfl, hg9, hc9⟩ := hcell9 (List.ne_nil_of_mem htm)
              subst z1
              have hx9 := (hc9 j t ht).2
              have hb1 : sumT (filesN D') j ≤ D'.used := sumT_le (Int.le_of_eq HSM.out) j
              have hb2 := sumT_nonneg (filesN D') j
              have htl := HE5.out t htm
              have hS := Lib.hid (sumT_next ht)
              have hjM : (j : Int) < (M : Int) := by omega
              generalize hsv : sumT (filesN D') j = sv at hb1 hb2 hS
              have hS' : Hid (sumT (filesN D') (j + 1) = sv + (t.2.1.length : Int)) := hS
              have hw1 : IntKind.i64.wrap (sv + (t.2.1.length : Int)) = sv + (t.2.1.length : Int) := by rw [IntKind.wrap_i64]; omega
              clear ht htm hcell9 hc9 hS z2 z3
              go_wp2
              go_roundw
              case rel => exact ⟨j + 1, by omega, by go_num, by rw [hS'.out], by first | trivial | rfl⟩
              case measure => simp [RowKit.intOf]; omega
            · obtain rfl : j = M := by omega
              have hfull : sumT (filesN D') j = D'.used := by rw [sumT, List.take_of_length_le (by rw [HMM.out]; exact Nat.le_refl _)]; exact HSM.out
              rw [hfull]
              obtain ⟨uu, huu⟩ : ∃ uu, uu = D'.used := ⟨_, rfl⟩
              rw [← huu] at hused hnn ⊢
              have hmax : max 0 ((q : Int) - uu) = (q : Int) - uu := by omega
              have hwq : IntKind.i64.wrap (q : Int) = (q : Int) := by rw [IntKind.wrap_i64]; omega
              have hwu : IntKind.i64.wrap ((q : Int) - uu) = (q : Int) - uu := by rw [IntKind.wrap_i64]; omega
              have hnle : ¬ (q : Int) < uu := by omega
              have H6 : Hid (DiskAt w.heap.size w6 Y5 D') := Lib.hid (H5.out.below HB6.out)
              have hbw6 : Hid (Below w.heap.size w w6) := Lib.hid (BW5.out.trans (HB6.out.mono BW5.out.size))
              by_cases he : er = 0
              · subst he
                have FR := free_any w.heap.size w6 Y5 D' H6.out HG5.out.ok.quota ⟨by omega, by omega⟩
                unfold ptr at FR
                rw [y5, hql, ← huu, hmax] at FR
                have HFR := Lib.hid FR
                clear FR
                go_wp2_with (go_at_call 13; refine HFR.out.mono ?_; rintro e8 w8 ⟨rfl, n8, rfl⟩)
                go_roundw
                case rel => exact ⟨k + 1, Y5, D', by omega, by omega, by go_num, Lib.hid (H6.out.drewN n8), y5, Lib.hid ⟨HG5.out.le (by omega), by rw [hql, ← huu]; exact hused, hql⟩, Lib.hid (hbw6.out.trans ⟨rfl, rfl, rfl, Nat.le_refl _, fun _ _ => rfl⟩)⟩
                case measure => simp [RowKit.intOf]; omega
              · have hee : (er == 0) = false := by simpa using he
                have FY := Lib.hid (files_yes w6 _ _ (filesN D) (filesN D') TW6.out TN.out (HRM.out.no he) (by rw [told_length D]; have := hg.ok.nnow; omega))
                rw [← HMM.out] at FY
                have hee2 : (er != 0) = true := by simpa using he
                have HW1 := Lib.hid hwq; have HW2 := Lib.hid hwu; have HW3 := Lib.hid hnle
                clear he hwq hwu hnle hwq0 hln hn4 hjt
                go_wp2_with fail
                refine FY.out.mono ?_
                rintro e7 w7 ⟨rfl, hb7⟩
                have FR := free_any w.heap.size w7 Y5 D' (H6.out.below hb7) HG5.out.ok.quota ⟨by omega, by omega⟩
                unfold ptr at FR
                rw [y5, hql, ← huu, hmax] at FR
                have HFR := Lib.hid FR; have HB7 := Lib.hid hb7
                have hwq := HW1.out; have hwu := HW2.out; have hnle := HW3.out
                clear FR hb7 hee hee2 FY
                go_wp2_with (go_at_call 13; refine HFR.out.mono ?_; rintro e8 w8 ⟨rfl, n8, rfl⟩)
                go_roundw
                case rel => exact ⟨k + 1, Y5, D', by omega, by omega, by go_num, Lib.hid ((H6.out.below HB7.out).drewN n8), y5, Lib.hid ⟨HG5.out.le (by omega), by rw [hql, ← huu]; exact hused, hql⟩, Lib.hid ((hbw6.out.trans (HB7.out.mono hbw6.out.size)).trans ⟨rfl, rfl, rfl, Nat.le_refl _, fun _ _ => rfl⟩)⟩
                case measure => simp [RowKit.intOf]; omega
        have q6 : ¬ x.kind = 6 := qk
        clear qk
        by_cases qk : x.kind = 7
        · have er0 : roomN D x.v = remove D x.name.data.toList := by unfold roomN; rw [if_neg (show ¬ x.v.kind = 0 by show ¬ x.kind = 0; rw [qk]; decide), if_neg (show ¬ x.v.kind = 1 by show ¬ x.kind = 1; rw [qk]; decide), if_neg (show ¬ x.v.kind = 6 by show ¬ x.kind = 6; rw [qk]; decide), if_pos (show x.v.kind = 7 from qk)]; rfl
          rw [er0] at hop0
          obtain ⟨⟨er, D'⟩, hed⟩ : ∃ z, z = remove D x.name.data.toList := ⟨_, rfl⟩
          rw [← hed] at hop0
          have hop := hop0
          clear hop0 er0
          go_wp2_with (first | (go_at_call 7; refine HFC.out.mono ?_; rintro e4 w4 ⟨vW, rfl, hrow4, hb4⟩; obtain ⟨wa, wc, hvW, _⟩ := told_row hrow4; subst hvW; have X4 := hX.out.below hb4 hlb; have c0 := X4.c0; rw [qk] at c0; have c1 := X4.c1; have c2 := X4.c2; have c3 := X4.c3; have H4 := Lib.hid (HD.out.below hb4); have HR4 := Lib.hid hrow4; have HB4 := Lib.hid hb4; clear hrow4 hb4 X4; have OC := remove_any w.heap.size w4 Y D x.name hN H4.out hg.ok (by have := hg.bcalls; omega); rw [← hed] at OC; unfold ptr at OC; rw [hYg] at OC; have HOC := Lib.hid OC; clear OC) | (go_at_call 11; refine HOC.out.mono ?_; rintro e5 w5 ⟨Y5, rfl, d5, t5, x5, y5'⟩; have y5 : Y5.g = Y0.g := y5'.trans hYg; have H5 := Lib.hid d5; have T5 := Lib.hid t5; clear d5 t5 x5 HOC))
          have TW5 : Hid (TRow w5 (.slice wa (filesN D).length wc) (filesN D)) := Lib.hid (told_row (ownsRow_block HR4.out (fun b hb => T5.out.block b (own_lt HR4.out b hb) (fun hm => by have h1 := own_ge HR4.out b (by simpa [ob] using hb); have h2 := HBL.out b hm; omega))))
          have BW5 : Hid (Below w.heap.size w w5) := Lib.hid ((BW.out.trans (HB4.out.mono BW.out.size)).trans (T5.out.below HD.out.base (Nat.le_trans BW.out.size HB4.out.size)))
          clear T5 HR4 HB4 H4 c0 c1 c2 c3 HFC
          obtain ⟨hg5, hroom5⟩ := hop
          have FC5 := files_any w.heap.size w5 Y5 D' H5.out hg5.ok.now hg5.ok.nnow
          unfold ptr at FC5
          rw [y5] at FC5
          have HFC5 := Lib.hid FC5
          clear FC5
          go_wp2_with (go_at_call 7; refine HFC5.out.mono ?_; rintro e6 w6 ⟨vN, rfl, hrow6, hb6⟩; obtain ⟨na, nc, hvN, _⟩ := told_row hrow6; have TN := Lib.hid (told_row hrow6); have HB6 := Lib.hid hb6; clear hrow6 hb6; subst hvN)
          have TW6 : Hid (TRow w6 (.slice wa (filesN D).length wc) (filesN D)) := Lib.hid ((TW5.out).below HB6.out)
          have hln := told_length D'
          have hn4 := hg5.ok.nnow
          have hsum := told_sum hg5
          have hused := hroom5.used hu
          dsimp only at hused
          have hq5 : D'.quota = D.quota := hroom5.quota
          rw [hq5, hqq] at hused
          have hnn : 0 ≤ D'.used := by rw [hg5.ok.used]; exact usedOf_nonneg _ _
          have HE5 := Lib.hid (told_each hg5)
          have HG5 := Lib.hid hg5; have HRM := Lib.hid hroom5; have HSM := Lib.hid hsum
          have hql : D'.quota = (q : Int) := hq5.trans hqq
          clear hq5
          obtain ⟨M, hM⟩ : ∃ M, M = (filesN D').length := ⟨_, rfl⟩
          rw [← hM] at hln
          have HMM := Lib.hid hM
          rw [← hM]
          clear hg5 hroom5 hsum hM
          go_loopw [11, 12] (fun s11 s12 wr => ∃ j : Nat, j ≤ M ∧ s12 = .int .i64 j ∧ s11 = .int .i64 (sumT (filesN D') j) ∧ w6 = wr) (fun _ s12 _ => M - (RowKit.intOf s12).toNat)
          case atStart => exact ⟨0, by omega, rfl, rfl, rfl⟩
          case round =>
            obtain ⟨j, hj, rfl, rfl, rfl⟩ := hrel
            by_cases hjt : j < M
            · obtain ⟨t, ht⟩ : ∃ t, (filesN D')[j]? = some t := ⟨_, List.getElem?_eq_getElem (by rw [← HMM.out]; exact hjt)⟩
              have htm := List.mem_of_getElem? ht
              obtain ⟨a9, c9, hv9, hcell9⟩ := TN.out
              injection hv9 with z1 z2 z3
              obtain ⟨g9, rfl, hg9, hc9⟩ := hcell9 (List.ne_nil_of_mem htm)
              subst z1
              have hx9 := (hc9 j t ht).2
              have hb1 : sumT (filesN D') j ≤ D'.used := sumT_le (Int.le_of_eq HSM.out) j
              have hb2 := sumT_nonneg (filesN D') j
              have htl := HE5.out t htm
              have hS := Lib.hid (sumT_next ht)
              have hjM : (j : Int) < (M : Int) := by omega
              generalize hsv : sumT (filesN D') j = sv at hb1 hb2 hS
              have hS' : Hid (sumT (filesN D') (j + 1) = sv + (t.2.1.length : Int)) := hS
              have hw1 : IntKind.i64.wrap (sv + (t.2.1.length : Int)) = sv + (t.2.1.length : Int) := by rw [IntKind.wrap_i64]; omega
              clear ht htm hcell9 hc9 hS z2 z3
              go_wp2
              go_roundw
              case rel => exact ⟨j + 1, by omega, by go_num, by rw [hS'.out], by first | trivial | rfl⟩
              case measure => simp [RowKit.intOf]; omega
            · obtain rfl : j = M := by omega
              have hfull : sumT (filesN D') j = D'.used := by rw [sumT, List.take_of_length_le (by rw [HMM.out]; exact Nat.le_refl _)]; exact HSM.out
              rw [hfull]
              obtain ⟨uu, huu⟩ : ∃ uu, uu = D'.used := ⟨_, rfl⟩
              rw [← huu] at hused hnn ⊢
              have hmax : max 0 ((q : Int) - uu) = (q : Int) - uu := by omega
              have hwq : IntKind.i64.wrap (q : Int) = (q : Int) := by rw [IntKind.wrap_i64]; omega
              have hwu : IntKind.i64.wrap ((q : Int) - uu) = (q : Int) - uu := by rw [IntKind.wrap_i64]; omega
              have hnle : ¬ (q : Int) < uu := by omega
              have H6 : Hid (DiskAt w.heap.size w6 Y5 D') := Lib.hid (H5.out.below HB6.out)
              have hbw6 : Hid (Below w.heap.size w w6) := Lib.hid (BW5.out.trans (HB6.out.mono BW5.out.size))
              by_cases he : er = 0
              · subst he
                have FR := free_any w.heap.size w6 Y5 D' H6.out HG5.out.ok.quota ⟨by omega, by omega⟩
                unfold ptr at FR
                rw [y5, hql, ← huu, hmax] at FR
                have HFR := Lib.hid FR
                clear FR
                go_wp2_with (go_at_call 13; refine HFR.out.mono ?_; rintro e8 w8 ⟨rfl, n8, rfl⟩)
                go_roundw
                case rel => exact ⟨k + 1, Y5, D', by omega, by omega, by go_num, Lib.hid (H6.out.drewN n8), y5, Lib.hid ⟨HG5.out.le (by omega), by rw [hql, ← huu]; exact hused, hql⟩, Lib.hid (hbw6.out.trans ⟨rfl, rfl, rfl, Nat.le_refl _, fun _ _ => rfl⟩)⟩
                case measure => simp [RowKit.intOf]; omega
              · have hee : (er == 0) = false := by simpa using he
                have FY := Lib.hid (files_yes w6 _ _ (filesN D) (filesN D') TW6.out TN.out (HRM.out.no he) (by rw [told_length D]; have := hg.ok.nnow; omega))
                rw [← HMM.out] at FY
                have hee2 : (er != 0) = true := by simpa using he
                have HW1 := Lib.hid hwq; have HW2 := Lib.hid hwu; have HW3 := Lib.hid hnle
                clear he hwq hwu hnle hwq0 hln hn4 hjt
                go_wp2_with fail
                refine FY.out.mono ?_
                rintro e7 w7 ⟨rfl, hb7⟩
                have FR := free_any w.heap.size w7 Y5 D' (H6.out.below hb7) HG5.out.ok.quota ⟨by omega, by omega⟩
                unfold ptr at FR
                rw [y5, hql, ← huu, hmax] at FR
                have HFR := Lib.hid FR; have HB7 := Lib.hid hb7
                have hwq := HW1.out; have hwu := HW2.out; have hnle := HW3.out
                clear FR hb7 hee hee2 FY
                go_wp2_with (go_at_call 13; refine HFR.out.mono ?_; rintro e8 w8 ⟨rfl, n8, rfl⟩)
                go_roundw
                case rel => exact ⟨k + 1, Y5, D', by omega, by omega, by go_num, Lib.hid ((H6.out.below HB7.out).drewN n8), y5, Lib.hid ⟨HG5.out.le (by omega), by rw [hql, ← huu]; exact hused, hql⟩, Lib.hid ((hbw6.out.trans (HB7.out.mono hbw6.out.size)).trans ⟨rfl, rfl, rfl, Nat.le_refl _, fun _ _ => rfl⟩)⟩
                case measure => simp [RowKit.intOf]; omega
        have q7 : ¬ x.kind = 7 := qk
        clear qk
        have er0 : roomN D x.v = (0, D) := by unfold roomN; rw [if_neg (show ¬ x.v.kind = 0 from q0), if_neg (show ¬ x.v.kind = 1 from q1), if_neg (show ¬ x.v.kind = 6 from q6), if_neg (show ¬ x.v.kind = 7 from q7)]
        rw [er0] at hop0
        have hop := hop0
        clear hop0 er0
        have m0 : (x.kind == 0) = false := by simpa using q0
        have m1 : (x.kind == 1) = false := by simpa using q1
        have m6 : (x.kind == 6) = false := by simpa using q6
        have m7 : (x.kind == 7) = false := by simpa using q7
        go_wp2_with (go_at_call 7; refine HFC.out.mono ?_; rintro e4 w4 ⟨vW, rfl, hrow4, hb4⟩; obtain ⟨wa, wc, hvW, _⟩ := told_row hrow4; subst hvW; have X4 := hX.out.below hb4 hlb; have c0 := X4.c0; have c1 := X4.c1; have c2 := X4.c2; have c3 := X4.c3; have H4 := Lib.hid (HD.out.below hb4); have HR4 := Lib.hid hrow4; have HB4 := Lib.hid hb4; clear hrow4 hb4 X4)
        have TW4 : Hid (TRow w4 (.slice wa (filesN D).length wc) (filesN D)) := Lib.hid (told_row HR4.out)
        have BW4 : Hid (Below w.heap.size w w4) := Lib.hid (BW.out.trans (HB4.out.mono BW.out.size))
        clear HR4 HB4 c0 c1 c2 c3 HFC
        obtain ⟨hg5, hroom5⟩ := hop
        have FC5 := files_any w.heap.size w4 Y D H4.out hg5.ok.now hg5.ok.nnow
        unfold ptr at FC5
        rw [hYg] at FC5
        have HFC5 := Lib.hid FC5
        clear FC5
        go_wp2_with (go_at_call 7; refine HFC5.out.mono ?_; rintro e6 w6 ⟨vN, rfl, hrow6, hb6⟩; obtain ⟨na, nc, hvN, _⟩ := told_row hrow6; have TN := Lib.hid (told_row hrow6); have HB6 := Lib.hid hb6; clear hrow6 hb6; subst hvN)
        have TW6 : Hid (TRow w6 (.slice wa (filesN D).length wc) (filesN D)) := Lib.hid ((TW4.out).below HB6.out)
        have hln := told_length D
        have hn4 := hg5.ok.nnow
        have hsum := told_sum hg5
        have hused := hroom5.used hu
        dsimp only at hused
        have hq5 : D.quota = D.quota := hroom5.quota
        rw [hq5, hqq] at hused
        have hnn : 0 ≤ D.used := by rw [hg5.ok.used]; exact usedOf_nonneg _ _
        have HE5 := Lib.hid (told_each hg5)
        have HG5 := Lib.hid hg5; have HRM := Lib.hid hroom5; have HSM := Lib.hid hsum
        have hql : D.quota = (q : Int) := hq5.trans hqq
        clear hq5
        obtain ⟨M, hM⟩ : ∃ M, M = (filesN D).length := ⟨_, rfl⟩
        rw [← hM] at hln
        have HMM := Lib.hid hM
        rw [← hM]
        clear hg5 hroom5 hsum hM
        go_loopw [11, 12] (fun s11 s12 wr => ∃ j : Nat, j ≤ M ∧ s12 = .int .i64 j ∧ s11 = .int .i64 (sumT (filesN D) j) ∧ w6 = wr) (fun _ s12 _ => M - (RowKit.intOf s12).toNat)
        case atStart => exact ⟨0, by omega, rfl, rfl, rfl⟩
        case round =>
          obtain ⟨j, hj, rfl, rfl, rfl⟩ := hrel
          by_cases hjt : j < M
          · obtain ⟨t, ht⟩ : ∃ t, (filesN D)[j]? = some t := ⟨_, List.getElem?_eq_getElem (by rw [← HMM.out]; exact hjt)⟩
            have htm := List.mem_of_getElem? ht
            obtain ⟨a9, c9, hv9, hcell9⟩ := TN.out
            injection hv9 with z1 z2 z3
            obtain ⟨g9, rfl, hg9, hc9⟩ := hcell9 (List.ne_nil_of_mem htm)
            subst z1
            have hx9 := (hc9 j t ht).2
            have hb1 : sumT (filesN D) j ≤ D.used := sumT_le (Int.le_of_eq HSM.out) j
            have hb2 := sumT_nonneg (filesN D) j
            have htl := HE5.out t htm
            have hS := Lib.hid (sumT_next ht)
            have hjM : (j : Int) < (M : Int) := by omega
            generalize hsv : sumT (filesN D) j = sv at hb1 hb2 hS
            have hS' : Hid (sumT (filesN D) (j + 1) = sv + (t.2.1.length : Int)) := hS
            have hw1 : IntKind.i64.wrap (sv + (t.2.1.length : Int)) = sv + (t.2.1.length : Int) := by rw [IntKind.wrap_i64]; omega
            clear ht htm hcell9 hc9 hS z2 z3
            go_wp2
            go_roundw
            case rel => exact ⟨j + 1, by omega, by go_num, by rw [hS'.out], by first | trivial | rfl⟩
            case measure => simp [RowKit.intOf]; omega
          · obtain rfl : j = M := by omega
            have hfull : sumT (filesN D) j = D.used := by rw [sumT, List.take_of_length_le (by rw [HMM.out]; exact Nat.le_refl _)]; exact HSM.out
            rw [hfull]
            obtain ⟨uu, huu⟩ : ∃ uu, uu = D.used := ⟨_, rfl⟩
            rw [← huu] at hused hnn ⊢
            have hmax : max 0 ((q : Int) - uu) = (q : Int) - uu := by omega
            have hwq : IntKind.i64.wrap (q : Int) = (q : Int) := by rw [IntKind.wrap_i64]; omega
            have hwu : IntKind.i64.wrap ((q : Int) - uu) = (q : Int) - uu := by rw [IntKind.wrap_i64]; omega
            have hnle : ¬ (q : Int) < uu := by omega
            have H6 : Hid (DiskAt w.heap.size w6 Y D) := Lib.hid (H4.out.below HB6.out)
            have hbw6 : Hid (Below w.heap.size w w6) := Lib.hid (BW4.out.trans (HB6.out.mono BW4.out.size))
            have FR := free_any w.heap.size w6 Y D H6.out HG5.out.ok.quota ⟨by omega, by omega⟩
            unfold ptr at FR
            rw [hYg, hql, ← huu, hmax] at FR
            have HFR := Lib.hid FR
            clear FR
            go_wp2_with (go_at_call 13; refine HFR.out.mono ?_; rintro e8 w8 ⟨rfl, n8, rfl⟩)
            go_roundw
            case rel => exact ⟨k + 1, Y, D, by omega, by omega, by go_num, Lib.hid (H6.out.drewN n8), hYg, Lib.hid ⟨HG5.out.le (by omega), by rw [hql, ← huu]; exact hused, hql⟩, Lib.hid (hbw6.out.trans ⟨rfl, rfl, rfl, Nat.le_refl _, fun _ _ => rfl⟩)⟩
            case measure => simp [RowKit.intOf]; omega
      · have hki : (k : Int) < (l.length : Int) := by omega
        have hk6 : ¬ (k : Int) < 60 := by omega
        go_wp2_with (go_at_call 14; refine (awake_any _).mono ?_; rintro e9 w9 ⟨rfl, hb9⟩)
        go_ret
        exact ⟨rfl, BW.out.trans (hb9.mono BW.out.size)⟩
    · have hki : ¬ (k : Int) < (l.length : Int) := by omega
      go_wp2_with (go_at_call 14; refine (awake_any _).mono ?_; rintro e9 w9 ⟨rfl, hb9⟩)
      go_ret
      exact ⟨rfl, BW.out.trans (hb9.mono BW.out.size)⟩
end Go.Proofs.Ytcfdfpjemonhoaa.Dk
