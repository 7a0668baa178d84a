import Derived.Test.YtpbhkaokgpacoaaGreatDoorZStRShort
import Derived.Test.YtpbhkaokgpacoaaGreatDoorZStDecPlain
import Derived.Test.YtpbhkaokgpacoaaGreatDoorZShSum
import Derived.Test.YtpbhkaokgpacoaaGreatDoorZStReg
set_option linter.unusedSimpArgs false
set_option linter.unusedVariables false
/-
  The contract of the reference's reading of an entry.
-/
namespace Go.Proofs.YtpbhkaokgpacoaaGreatDoor.St
open Go.RowKit Go.Maps Go.WideMaps Go.Proofs.YtpbhkaokgpacoaaGreatDoor.Rf Go.Proofs.YtpbhkaokgpacoaaGreatDoor.Rd

abbrev EnT : TypeId := 49
def REntPost (w : World) (q : Nat) (R : List UInt8) (e : Ending) (w' : World) : Prop :=
  if entB R then e = .returned (.tuple #[enV (entE R), .bool true]) ∧ RReaderAt w' q (r7 R) ∧ Turn [q] w w'
  else e = .returned (.tuple #[enV zeroS, .bool false]) ∧ Turn [q] w w'
theorem shE_cases (R : List UInt8) (most : Nat) : numB most R = true ↔ shE R = 0 ∧ shN R ≤ most := by
  rw [numB, Bool.and_eq_true, decide_eq_true_iff, shE]
  constructor
  · rintro ⟨h1, h2⟩; exact ⟨by rw [if_pos h1], h2⟩
  · rintro ⟨h1, h2⟩
    refine ⟨?_, h2⟩
    by_cases h : (rd0 R).isSome = true
    · exact h
    · rw [if_neg h] at h1; cases h1
theorem tkE_cases (n : Nat) (R : List UInt8) : tkB n R = true ↔ tkE n R = 0 := by
  rw [tkB, decide_eq_true_iff, tkE]
  constructor
  · intro h; rw [if_pos h]
  · intro h
    by_cases h2 : n ≤ R.length
    · exact h2
    · rw [if_neg h2] at h; cases h
theorem txE_cases (n : Nat) (R : List UInt8) : txB n R = true ↔ txE n R = 0 := by
  rw [txB, txE]
  constructor
  · intro h; rw [if_pos h]
  · intro h
    by_cases h2 : (txt n R).isSome = true
    · exact h2
    · rw [if_neg h2] at h; cases h

theorem ent_iff (R : List UInt8) : entB R = true ↔ (txE 65536 R = 0 ∧ tkE 1 (r1 R) = 0 ∧ shE (r2 R) = 0 ∧ shE (r3 R) = 0 ∧ shE (r4 R) = 0 ∧ tkE 1 (r5 R) = 0 ∧ tkE 32 (r6 R) = 0 ∧ shN (r2 R) ≤ 1048576 ∧ shN (r4 R) ≤ 1099511627776) := by
  have h3 := shN_lt (r3 R)
  rw [entB]
  simp only [Bool.and_eq_true, shE_cases, tkE_cases, txE_cases]
  omega
theorem rtk_one {R : List UInt8} (h : tkE 1 R = 0) : ∃ b, tkT 1 R = [b] ∧ tkF 1 R = [b] := by
  have hb := (tkE_cases 1 R).2 h
  rw [tkB, decide_eq_true_iff] at hb
  match R, hb with
  | x :: R, _ => exact ⟨x, by rw [tkT, if_pos (by simp)]; rfl, by rw [tkF, tkT, if_pos (by simp)]; rfl⟩
theorem rtk_all {n : Nat} {R : List UInt8} (h : tkE n R = 0) : ∃ I : List UInt8, I.length = n ∧ tkT n R = I ∧ tkF n R = I := by
  have hb := (tkE_cases n R).2 h
  rw [tkB, decide_eq_true_iff] at hb
  have e : tkT n R = R.take n := by rw [tkT, if_pos hb]
  refine ⟨R.take n, by rw [List.length_take]; omega, e, ?_⟩
  rw [tkF, e, List.length_take, Nat.min_eq_left hb, Nat.sub_self]
  simp
structure ESt (w : World) (q a g : Nat) (Rr : List UInt8) (e : SE) (wr : World) : Prop where
  hq : wr.heap[g]? = some (.cells e.cells.toArray EnT)
  hr : RReaderAt wr q Rr
  ha : wr.heap[a]? = some (.cells zeroS.cells.toArray EnT)
  ht : Turn [q] w wr
theorem id_set (p : List UInt8) (n : Nat) (s : Int) (i : Nat) (t : Int) (k : Nat) (L : List UInt8) (j : Nat) (b : UInt8) :
    (SE.cells ⟨p, n, s, i, t, k, L⟩).toArray.setIfInBounds (6 + j) (.int .u8 (b.toNat : Int)) = (SE.cells ⟨p, n, s, i, t, k, L.set j b⟩).toArray := by
  rw [List.setIfInBounds_toArray]
  congr 1
  rw [Nat.add_comm 6 j]
  simp only [SE.cells, Lib.byteCells, List.map_set]
  rfl
theorem ESt.set {w wr : World} {q a g : Nat} {Rr : List UInt8} {p : List UInt8} {n : Nat} {s : Int} {i : Nat} {t : Int} {k : Nat} {L : List UInt8} (h : ESt w q a g Rr ⟨p, n, s, i, t, k, L⟩ wr) (hq : q < g) (ha : a < g) (hg : w.heap.size ≤ g) (j : Nat) (b : UInt8) :
    ESt w q a g Rr ⟨p, n, s, i, t, k, L.set j b⟩ (wr.setCell ⟨g, 6 + j, none⟩ (.int .u8 (b.toNat : Int))) := by
  refine ⟨?_, ?_, ?_, h.ht.setCell (.inr hg) _⟩
  · rw [setCell_heap _ _ _ _ _ _ h.hq, id_set]
  · exact (Below.heap_setCell _ _ _ _ (show q ≠ g by omega)).trans h.hr
  · exact (Below.heap_setCell _ _ _ _ (show a ≠ g by omega)).trans h.ha
def J32 (I : List UInt8) (k : Nat) : List UInt8 := I.take k ++ List.replicate (32 - k) 0
theorem J32_step {I : List UInt8} {k : Nat} {b : UInt8} (hk : k < 32) (hb : I[k]? = some b) : (J32 I k).set k b = J32 I (k + 1) := by
  have hl : k < I.length := (List.getElem?_eq_some_iff.1 hb).1
  have ht : (I.take k).length = k := by rw [List.length_take]; omega
  rw [J32, J32, List.set_append_right _ _ (by omega), ht, Nat.sub_self, show 32 - k = (32 - (k + 1)) + 1 by omega, List.replicate_succ, List.set_cons_zero, List.take_add_one, hb]
  simp
theorem J32_all {I : List UInt8} (h : I.length = 32) : J32 I 32 = I := by rw [J32, List.take_of_length_le (by omega)]; simp
theorem J32_len {I : List UInt8} (h : I.length = 32) {k : Nat} (hk : k ≤ 32) : (J32 I k).length = 32 := by rw [J32]; simp; omega
theorem id_cell {w : World} {g : Nat} {e : SE} (h : w.heap[g]? = some (.cells e.cells.toArray EnT)) {j : Nat} (hj : j < e.id.length) : ∃ x, w.cell? ⟨g, 6 + j, none⟩ = some (.int .u8 x) := by
  refine ⟨((e.id[j]).toNat : Int), ?_⟩
  rw [cell_of_heap h, Nat.add_comm 6 j]
  simp [SE.cells, Lib.byteCells, hj]
set_option linter.unusedSimpArgs false in
set_option maxHeartbeats 16000000 in
set_option maxRecDepth 100000 in
theorem rentry_any (w : World) (q : Nat) (R : List UInt8) (hl : R.length ≤ 140737488355328) (h : RReaderAt w q R) :
    Calls Tryz.prog 56 #[ptr q] w (REntPost w q R) := by
  have l1 : (r1 R).length ≤ 140737488355328 := by have := txR_le 65536 R; show (txR 65536 R).length ≤ _; omega
  have l2 : (r2 R).length ≤ 140737488355328 := by have := tkR_le 1 (r1 R); show (tkR 1 (r1 R)).length ≤ _; omega
  have l3 : (r3 R).length ≤ 140737488355328 := by have := shR_le (r2 R); show (shR (r2 R)).length ≤ _; omega
  have l4 : (r4 R).length ≤ 140737488355328 := by have := shR_le (r3 R); show (shR (r3 R)).length ≤ _; omega
  obtain ⟨a, ha⟩ : ∃ a, a = w.heap.size := ⟨_, rfl⟩
  have hqa : q < a := by rw [ha]; exact lt_of_heap h
  have HR0 : Hid (RReaderAt (w.alloc (.cells zeroS.cells.toArray EnT)) q R) := Lib.hid (Sh.at_alloc h _)
  have HA0 : Hid ((w.alloc (.cells zeroS.cells.toArray EnT)).heap[a]? = some (.cells zeroS.cells.toArray EnT)) := Lib.hid (by rw [ha]; exact Sh.at_new _ _)
  have HB0 : Hid (Turn [q] w (w.alloc (.cells zeroS.cells.toArray EnT))) := Lib.hid ((Turn.refl _ _).alloc _)
  have L := Lib.hid (And.intro l1 (And.intro l2 (And.intro l3 l4)))
  clear l1 l2 l3 l4 h
  unfold ptr
  go_enter Tryz.func56, Tryz.ntmps56
  go_wp2_with fail
  refine (rtext_any _ q R 65536 (by decide) hl HR0.out).mono ?_
  rintro ex w1 ⟨rfl, hr1, ht1⟩
  have HR1 : Hid (RReaderAt w1 q (r1 R)) := Lib.hid hr1
  have HA1 : Hid (w1.heap[a]? = some (.cells zeroS.cells.toArray EnT)) := Lib.hid ((ht1.block a (lt_of_heap HA0.out) (by simp; omega)).trans HA0.out)
  have HB1 : Hid (Turn [q] w w1) := Lib.hid (HB0.out.trans ht1 (fun y hy => .inl hy))
  clear hr1 ht1 HR0 HA0 HB0
  go_wp2_with fail
  refine (rtake_any _ q (r1 R) 1 (by decide) HR1.out).mono ?_
  rintro ex w2 ⟨rfl, hr2, ht2⟩
  have HR2 : Hid (RReaderAt w2 q (r2 R)) := Lib.hid hr2
  have HA2 : Hid (w2.heap[a]? = some (.cells zeroS.cells.toArray EnT)) := Lib.hid ((ht2.block a (lt_of_heap HA1.out) (by simp; omega)).trans HA1.out)
  have HB2 : Hid (Turn [q] w w2) := Lib.hid (HB1.out.trans ht2 (fun y hy => .inl hy))
  clear hr2 ht2 HR1 HA1 HB1
  go_wp2_with fail
  refine (ruint_any _ q (r2 R) L.out.2.1 HR2.out).mono ?_
  rintro ex w3 ⟨rfl, hr3, ht3⟩
  have HR3 : Hid (RReaderAt w3 q (r3 R)) := Lib.hid hr3
  have HA3 : Hid (w3.heap[a]? = some (.cells zeroS.cells.toArray EnT)) := Lib.hid ((ht3.block a (lt_of_heap HA2.out) (by simp; omega)).trans HA2.out)
  have HB3 : Hid (Turn [q] w w3) := Lib.hid (HB2.out.trans ht3 (fun y hy => .inl hy))
  clear hr3 ht3 HR2 HA2 HB2
  go_wp2_with fail
  refine (ruint_any _ q (r3 R) L.out.2.2.1 HR3.out).mono ?_
  rintro ex w4 ⟨rfl, hr4, ht4⟩
  have HR4 : Hid (RReaderAt w4 q (r4 R)) := Lib.hid hr4
  have HA4 : Hid (w4.heap[a]? = some (.cells zeroS.cells.toArray EnT)) := Lib.hid ((ht4.block a (lt_of_heap HA3.out) (by simp; omega)).trans HA3.out)
  have HB4 : Hid (Turn [q] w w4) := Lib.hid (HB3.out.trans ht4 (fun y hy => .inl hy))
  clear hr4 ht4 HR3 HA3 HB3
  go_wp2_with fail
  refine (ruint_any _ q (r4 R) L.out.2.2.2 HR4.out).mono ?_
  rintro ex w5 ⟨rfl, hr5, ht5⟩
  have HR5 : Hid (RReaderAt w5 q (r5 R)) := Lib.hid hr5
  have HA5 : Hid (w5.heap[a]? = some (.cells zeroS.cells.toArray EnT)) := Lib.hid ((ht5.block a (lt_of_heap HA4.out) (by simp; omega)).trans HA4.out)
  have HB5 : Hid (Turn [q] w w5) := Lib.hid (HB4.out.trans ht5 (fun y hy => .inl hy))
  clear hr5 ht5 HR4 HA4 HB4
  go_wp2_with fail
  refine (rtake_any _ q (r5 R) 1 (by decide) HR5.out).mono ?_
  rintro ex w6 ⟨rfl, hr6, ht6⟩
  have HR6 : Hid (RReaderAt w6 q (r6 R)) := Lib.hid hr6
  have HA6 : Hid (w6.heap[a]? = some (.cells zeroS.cells.toArray EnT)) := Lib.hid ((ht6.block a (lt_of_heap HA5.out) (by simp; omega)).trans HA5.out)
  have HB6 : Hid (Turn [q] w w6) := Lib.hid (HB5.out.trans ht6 (fun y hy => .inl hy))
  clear hr6 ht6 HR5 HA5 HB5
  go_wp2_with fail
  refine (rtake_any _ q (r6 R) 32 (by decide) HR6.out).mono ?_
  rintro ex w7 ⟨rfl, hr7, ht7⟩
  have HR7 : Hid (RReaderAt w7 q (r7 R)) := Lib.hid hr7
  have HA7 : Hid (w7.heap[a]? = some (.cells zeroS.cells.toArray EnT)) := Lib.hid ((ht7.block a (lt_of_heap HA6.out) (by simp; omega)).trans HA6.out)
  have HB7 : Hid (Turn [q] w w7) := Lib.hid (HB6.out.trans ht7 (fun y hy => .inl hy))
  clear hr7 ht7 HR6 HA6 HB6
  go_upto_region 8 with (fail)
  have HENT : Hid (entB R = true ↔ (txE 65536 R = 0 ∧ tkE 1 (r1 R) = 0 ∧ shE (r2 R) = 0 ∧ shE (r3 R) = 0 ∧ shE (r4 R) = 0 ∧ tkE 1 (r5 R) = 0 ∧ tkE 32 (r6 R) = 0 ∧ shN (r2 R) ≤ 1048576 ∧ shN (r4 R) ≤ 1099511627776)) := Lib.hid (ent_iff R)
  obtain ⟨E1, hE1⟩ : ∃ x, x = txE 65536 R := ⟨_, rfl⟩
  obtain ⟨E2, hE2⟩ : ∃ x, x = tkE 1 (r1 R) := ⟨_, rfl⟩
  obtain ⟨E3, hE3⟩ : ∃ x, x = shE (r2 R) := ⟨_, rfl⟩
  obtain ⟨E4, hE4⟩ : ∃ x, x = shE (r3 R) := ⟨_, rfl⟩
  obtain ⟨E5, hE5⟩ : ∃ x, x = shE (r4 R) := ⟨_, rfl⟩
  obtain ⟨E6, hE6⟩ : ∃ x, x = tkE 1 (r5 R) := ⟨_, rfl⟩
  obtain ⟨E7, hE7⟩ : ∃ x, x = tkE 32 (r6 R) := ⟨_, rfl⟩
  obtain ⟨n2, hn2⟩ : ∃ x, x = shN (r2 R) := ⟨_, rfl⟩
  obtain ⟨n4, hn4⟩ : ∃ x, x = shN (r4 R) := ⟨_, rfl⟩
  rw [← hE1, ← hE2, ← hE3, ← hE4, ← hE5, ← hE6, ← hE7, ← hn2, ← hn4] at HENT ⊢
  clear hE1 hE2 hE3 hE4 hE5 hE6 hE7
  by_cases hE1 : E1 = 0
  case neg =>
    have hb : (E1 == 0) = false := by rw [beq_eq_false_iff_ne]; exact hE1
    have hb2 : (E1 != 0) = true := by rw [bne, hb]; rfl
    have HNO : Hid (entB R = false) := Lib.hid (by rw [Bool.eq_false_iff]; intro hh; have := HENT.out.1 hh; omega)
    clear HENT
    go_wp2_with (first
      | (refine Sh.wpList_build_is rfl EnT _ rfl zeroS.cells.toArray built0R ?_)
      | (refine Sh.wpList_store_at (g := a) HA7.out rfl EnT (.tmp 2) (.tmp 89) rfl zeroS.cells.toArray (by rw [ha]; rfl) rfl (infoEnR zero_fits.id) rfl (cells_all zeroS) ?_
         intro w8 hq8 ht8 hs8
         have HQ8 := Lib.hid hq8; have HT8 := Lib.hid ht8
         clear hq8 ht8 hs8))
    have hld := run_loadVar_row (P := Tryz.prog) w8 a _ EnT zeroS.cells.toArray _ _ HQ8.out Tryz.underlying49 rfl (infoEnR zero_fits.id)
    rw [ha] at hld
    refine bodyPost_ret (v := .tuple #[enV zeroS, .bool false]) ?_ rfl ?_
    · rw [results_cell_tmp (fn := Tryz.f56) rfl]
      show ((asAddr (.pointer (some ⟨w.heap.size, 0, none⟩))).run Tryz.prog _).andThen _ = _
      simp only [asAddr, Sem.run_pure, Result.andThen_ok, hld]
      rfl
    · rw [REntPost, if_neg (by rw [HNO.out]; decide)]
      exact ⟨rfl, HB7.out.trans HT8.out (fun y hy => by simp at hy; right; omega)⟩
  subst hE1
  by_cases hE2 : E2 = 0
  case neg =>
    have hb : (E2 == 0) = false := by rw [beq_eq_false_iff_ne]; exact hE2
    have hb2 : (E2 != 0) = true := by rw [bne, hb]; rfl
    have HNO : Hid (entB R = false) := Lib.hid (by rw [Bool.eq_false_iff]; intro hh; have := HENT.out.1 hh; omega)
    clear HENT
    go_wp2_with (first
      | (refine Sh.wpList_build_is rfl EnT _ rfl zeroS.cells.toArray built0R ?_)
      | (refine Sh.wpList_store_at (g := a) HA7.out rfl EnT (.tmp 2) (.tmp 89) rfl zeroS.cells.toArray (by rw [ha]; rfl) rfl (infoEnR zero_fits.id) rfl (cells_all zeroS) ?_
         intro w8 hq8 ht8 hs8
         have HQ8 := Lib.hid hq8; have HT8 := Lib.hid ht8
         clear hq8 ht8 hs8))
    have hld := run_loadVar_row (P := Tryz.prog) w8 a _ EnT zeroS.cells.toArray _ _ HQ8.out Tryz.underlying49 rfl (infoEnR zero_fits.id)
    rw [ha] at hld
    refine bodyPost_ret (v := .tuple #[enV zeroS, .bool false]) ?_ rfl ?_
    · rw [results_cell_tmp (fn := Tryz.f56) rfl]
      show ((asAddr (.pointer (some ⟨w.heap.size, 0, none⟩))).run Tryz.prog _).andThen _ = _
      simp only [asAddr, Sem.run_pure, Result.andThen_ok, hld]
      rfl
    · rw [REntPost, if_neg (by rw [HNO.out]; decide)]
      exact ⟨rfl, HB7.out.trans HT8.out (fun y hy => by simp at hy; right; omega)⟩
  subst hE2
  by_cases hE3 : E3 = 0
  case neg =>
    have hb : (E3 == 0) = false := by rw [beq_eq_false_iff_ne]; exact hE3
    have hb2 : (E3 != 0) = true := by rw [bne, hb]; rfl
    have HNO : Hid (entB R = false) := Lib.hid (by rw [Bool.eq_false_iff]; intro hh; have := HENT.out.1 hh; omega)
    clear HENT
    go_wp2_with (first
      | (refine Sh.wpList_build_is rfl EnT _ rfl zeroS.cells.toArray built0R ?_)
      | (refine Sh.wpList_store_at (g := a) HA7.out rfl EnT (.tmp 2) (.tmp 89) rfl zeroS.cells.toArray (by rw [ha]; rfl) rfl (infoEnR zero_fits.id) rfl (cells_all zeroS) ?_
         intro w8 hq8 ht8 hs8
         have HQ8 := Lib.hid hq8; have HT8 := Lib.hid ht8
         clear hq8 ht8 hs8))
    have hld := run_loadVar_row (P := Tryz.prog) w8 a _ EnT zeroS.cells.toArray _ _ HQ8.out Tryz.underlying49 rfl (infoEnR zero_fits.id)
    rw [ha] at hld
    refine bodyPost_ret (v := .tuple #[enV zeroS, .bool false]) ?_ rfl ?_
    · rw [results_cell_tmp (fn := Tryz.f56) rfl]
      show ((asAddr (.pointer (some ⟨w.heap.size, 0, none⟩))).run Tryz.prog _).andThen _ = _
      simp only [asAddr, Sem.run_pure, Result.andThen_ok, hld]
      rfl
    · rw [REntPost, if_neg (by rw [HNO.out]; decide)]
      exact ⟨rfl, HB7.out.trans HT8.out (fun y hy => by simp at hy; right; omega)⟩
  subst hE3
  by_cases hE4 : E4 = 0
  case neg =>
    have hb : (E4 == 0) = false := by rw [beq_eq_false_iff_ne]; exact hE4
    have hb2 : (E4 != 0) = true := by rw [bne, hb]; rfl
    have HNO : Hid (entB R = false) := Lib.hid (by rw [Bool.eq_false_iff]; intro hh; have := HENT.out.1 hh; omega)
    clear HENT
    go_wp2_with (first
      | (refine Sh.wpList_build_is rfl EnT _ rfl zeroS.cells.toArray built0R ?_)
      | (refine Sh.wpList_store_at (g := a) HA7.out rfl EnT (.tmp 2) (.tmp 89) rfl zeroS.cells.toArray (by rw [ha]; rfl) rfl (infoEnR zero_fits.id) rfl (cells_all zeroS) ?_
         intro w8 hq8 ht8 hs8
         have HQ8 := Lib.hid hq8; have HT8 := Lib.hid ht8
         clear hq8 ht8 hs8))
    have hld := run_loadVar_row (P := Tryz.prog) w8 a _ EnT zeroS.cells.toArray _ _ HQ8.out Tryz.underlying49 rfl (infoEnR zero_fits.id)
    rw [ha] at hld
    refine bodyPost_ret (v := .tuple #[enV zeroS, .bool false]) ?_ rfl ?_
    · rw [results_cell_tmp (fn := Tryz.f56) rfl]
      show ((asAddr (.pointer (some ⟨w.heap.size, 0, none⟩))).run Tryz.prog _).andThen _ = _
      simp only [asAddr, Sem.run_pure, Result.andThen_ok, hld]
      rfl
    · rw [REntPost, if_neg (by rw [HNO.out]; decide)]
      exact ⟨rfl, HB7.out.trans HT8.out (fun y hy => by simp at hy; right; omega)⟩
  subst hE4
  by_cases hE5 : E5 = 0
  case neg =>
    have hb : (E5 == 0) = false := by rw [beq_eq_false_iff_ne]; exact hE5
    have hb2 : (E5 != 0) = true := by rw [bne, hb]; rfl
    have HNO : Hid (entB R = false) := Lib.hid (by rw [Bool.eq_false_iff]; intro hh; have := HENT.out.1 hh; omega)
    clear HENT
    go_wp2_with (first
      | (refine Sh.wpList_build_is rfl EnT _ rfl zeroS.cells.toArray built0R ?_)
      | (refine Sh.wpList_store_at (g := a) HA7.out rfl EnT (.tmp 2) (.tmp 89) rfl zeroS.cells.toArray (by rw [ha]; rfl) rfl (infoEnR zero_fits.id) rfl (cells_all zeroS) ?_
         intro w8 hq8 ht8 hs8
         have HQ8 := Lib.hid hq8; have HT8 := Lib.hid ht8
         clear hq8 ht8 hs8))
    have hld := run_loadVar_row (P := Tryz.prog) w8 a _ EnT zeroS.cells.toArray _ _ HQ8.out Tryz.underlying49 rfl (infoEnR zero_fits.id)
    rw [ha] at hld
    refine bodyPost_ret (v := .tuple #[enV zeroS, .bool false]) ?_ rfl ?_
    · rw [results_cell_tmp (fn := Tryz.f56) rfl]
      show ((asAddr (.pointer (some ⟨w.heap.size, 0, none⟩))).run Tryz.prog _).andThen _ = _
      simp only [asAddr, Sem.run_pure, Result.andThen_ok, hld]
      rfl
    · rw [REntPost, if_neg (by rw [HNO.out]; decide)]
      exact ⟨rfl, HB7.out.trans HT8.out (fun y hy => by simp at hy; right; omega)⟩
  subst hE5
  by_cases hE6 : E6 = 0
  case neg =>
    have hb : (E6 == 0) = false := by rw [beq_eq_false_iff_ne]; exact hE6
    have hb2 : (E6 != 0) = true := by rw [bne, hb]; rfl
    have HNO : Hid (entB R = false) := Lib.hid (by rw [Bool.eq_false_iff]; intro hh; have := HENT.out.1 hh; omega)
    clear HENT
    go_wp2_with (first
      | (refine Sh.wpList_build_is rfl EnT _ rfl zeroS.cells.toArray built0R ?_)
      | (refine Sh.wpList_store_at (g := a) HA7.out rfl EnT (.tmp 2) (.tmp 89) rfl zeroS.cells.toArray (by rw [ha]; rfl) rfl (infoEnR zero_fits.id) rfl (cells_all zeroS) ?_
         intro w8 hq8 ht8 hs8
         have HQ8 := Lib.hid hq8; have HT8 := Lib.hid ht8
         clear hq8 ht8 hs8))
    have hld := run_loadVar_row (P := Tryz.prog) w8 a _ EnT zeroS.cells.toArray _ _ HQ8.out Tryz.underlying49 rfl (infoEnR zero_fits.id)
    rw [ha] at hld
    refine bodyPost_ret (v := .tuple #[enV zeroS, .bool false]) ?_ rfl ?_
    · rw [results_cell_tmp (fn := Tryz.f56) rfl]
      show ((asAddr (.pointer (some ⟨w.heap.size, 0, none⟩))).run Tryz.prog _).andThen _ = _
      simp only [asAddr, Sem.run_pure, Result.andThen_ok, hld]
      rfl
    · rw [REntPost, if_neg (by rw [HNO.out]; decide)]
      exact ⟨rfl, HB7.out.trans HT8.out (fun y hy => by simp at hy; right; omega)⟩
  subst hE6
  by_cases hE7 : E7 = 0
  case neg =>
    have hb : (E7 == 0) = false := by rw [beq_eq_false_iff_ne]; exact hE7
    have hb2 : (E7 != 0) = true := by rw [bne, hb]; rfl
    have HNO : Hid (entB R = false) := Lib.hid (by rw [Bool.eq_false_iff]; intro hh; have := HENT.out.1 hh; omega)
    clear HENT
    go_wp2_with (first
      | (refine Sh.wpList_build_is rfl EnT _ rfl zeroS.cells.toArray built0R ?_)
      | (refine Sh.wpList_store_at (g := a) HA7.out rfl EnT (.tmp 2) (.tmp 89) rfl zeroS.cells.toArray (by rw [ha]; rfl) rfl (infoEnR zero_fits.id) rfl (cells_all zeroS) ?_
         intro w8 hq8 ht8 hs8
         have HQ8 := Lib.hid hq8; have HT8 := Lib.hid ht8
         clear hq8 ht8 hs8))
    have hld := run_loadVar_row (P := Tryz.prog) w8 a _ EnT zeroS.cells.toArray _ _ HQ8.out Tryz.underlying49 rfl (infoEnR zero_fits.id)
    rw [ha] at hld
    refine bodyPost_ret (v := .tuple #[enV zeroS, .bool false]) ?_ rfl ?_
    · rw [results_cell_tmp (fn := Tryz.f56) rfl]
      show ((asAddr (.pointer (some ⟨w.heap.size, 0, none⟩))).run Tryz.prog _).andThen _ = _
      simp only [asAddr, Sem.run_pure, Result.andThen_ok, hld]
      rfl
    · rw [REntPost, if_neg (by rw [HNO.out]; decide)]
      exact ⟨rfl, HB7.out.trans HT8.out (fun y hy => by simp at hy; right; omega)⟩
  subst hE7
  by_cases hn2 : n2 ≤ 1048576
  case neg =>
    have hb : (1048576 : Int) < (n2 : Int) := by omega
    have HNO : Hid (entB R = false) := Lib.hid (by rw [Bool.eq_false_iff]; intro hh; have := HENT.out.1 hh; omega)
    clear HENT
    go_wp2_with (first
      | (refine Sh.wpList_build_is rfl EnT _ rfl zeroS.cells.toArray built0R ?_)
      | (refine Sh.wpList_store_at (g := a) HA7.out rfl EnT (.tmp 2) (.tmp 89) rfl zeroS.cells.toArray (by rw [ha]; rfl) rfl (infoEnR zero_fits.id) rfl (cells_all zeroS) ?_
         intro w8 hq8 ht8 hs8
         have HQ8 := Lib.hid hq8; have HT8 := Lib.hid ht8
         clear hq8 ht8 hs8))
    have hld := run_loadVar_row (P := Tryz.prog) w8 a _ EnT zeroS.cells.toArray _ _ HQ8.out Tryz.underlying49 rfl (infoEnR zero_fits.id)
    rw [ha] at hld
    refine bodyPost_ret (v := .tuple #[enV zeroS, .bool false]) ?_ rfl ?_
    · rw [results_cell_tmp (fn := Tryz.f56) rfl]
      show ((asAddr (.pointer (some ⟨w.heap.size, 0, none⟩))).run Tryz.prog _).andThen _ = _
      simp only [asAddr, Sem.run_pure, Result.andThen_ok, hld]
      rfl
    · rw [REntPost, if_neg (by rw [HNO.out]; decide)]
      exact ⟨rfl, HB7.out.trans HT8.out (fun y hy => by simp at hy; right; omega)⟩
  have bn2 : ¬ (1048576 : Int) < (n2 : Int) := by omega
  by_cases hn4 : n4 ≤ 1099511627776
  case neg =>
    have hb : (1099511627776 : Int) < (n4 : Int) := by omega
    have HNO : Hid (entB R = false) := Lib.hid (by rw [Bool.eq_false_iff]; intro hh; have := HENT.out.1 hh; omega)
    clear HENT
    go_wp2_with (first
      | (refine Sh.wpList_build_is rfl EnT _ rfl zeroS.cells.toArray built0R ?_)
      | (refine Sh.wpList_store_at (g := a) HA7.out rfl EnT (.tmp 2) (.tmp 89) rfl zeroS.cells.toArray (by rw [ha]; rfl) rfl (infoEnR zero_fits.id) rfl (cells_all zeroS) ?_
         intro w8 hq8 ht8 hs8
         have HQ8 := Lib.hid hq8; have HT8 := Lib.hid ht8
         clear hq8 ht8 hs8))
    have hld := run_loadVar_row (P := Tryz.prog) w8 a _ EnT zeroS.cells.toArray _ _ HQ8.out Tryz.underlying49 rfl (infoEnR zero_fits.id)
    rw [ha] at hld
    refine bodyPost_ret (v := .tuple #[enV zeroS, .bool false]) ?_ rfl ?_
    · rw [results_cell_tmp (fn := Tryz.f56) rfl]
      show ((asAddr (.pointer (some ⟨w.heap.size, 0, none⟩))).run Tryz.prog _).andThen _ = _
      simp only [asAddr, Sem.run_pure, Result.andThen_ok, hld]
      rfl
    · rw [REntPost, if_neg (by rw [HNO.out]; decide)]
      exact ⟨rfl, HB7.out.trans HT8.out (fun y hy => by simp at hy; right; omega)⟩
  have bn4 : ¬ (1099511627776 : Int) < (n4 : Int) := by omega
  have HYES : Hid (entB R = true) := Lib.hid (HENT.out.2 (by omega))
  clear HENT
  have HT := (ent_iff R).1 HYES.out
  obtain ⟨b1, hb1, hf1⟩ := rtk_one HT.2.1
  obtain ⟨b5, hb5, hf5⟩ := rtk_one HT.2.2.2.2.2.1
  obtain ⟨I, hIl, hI, hfI⟩ := rtk_all HT.2.2.2.2.2.2.1
  have HE : Hid (entE R = ⟨txT 65536 R, b1.toNat, IntKind.i64.wrap (shN (r2 R)), shN (r3 R), IntKind.i64.wrap (shN (r4 R)), b5.toNat, I⟩) := Lib.hid (by rw [entE, hf1, hf5, hfI]; rfl)
  have HF := Lib.hid (ent_fits (R := R) hl)
  have HIL := Lib.hid hIl
  clear HT hf1 hf5 hfI hIl
  rw [hb1, hb5, hI]
  clear hb1 hb5 hI
  go_upto_region 10 with (fail)
  refine wp_region_held_drew (S := (fun _ : World => True)) (by kernel_rfl) trivial (fun hHeld => ?_)
  refine wpAnyH_take (i := 0) (v := ?_) rfl (by kernel_rfl) (by kernel_rfl) (by kernel_rfl) (fun _ _ _ h => h) (Or.inl ⟨by rfl, ?d0⟩) hHeld ?_
  case d0 =>
    intro wS hSw
    go_simp
    try with_reducible rfl
  try simp only [Act.put, List.getElem_toArray, List.getElem_cons_zero, List.getElem_cons_succ, List.setIfInBounds_toArray, List.set_cons_zero, List.set_cons_succ]
  refine wpAnyH_take (i := 1) (v := ?_) rfl (by kernel_rfl) (by kernel_rfl) (by kernel_rfl) (fun _ _ _ h => h) (Or.inl ⟨by rfl, ?d1⟩) hHeld ?_
  case d1 =>
    intro wS hSw
    go_simp
    try with_reducible rfl
  try simp only [Act.put, List.getElem_toArray, List.getElem_cons_zero, List.getElem_cons_succ, List.setIfInBounds_toArray, List.set_cons_zero, List.set_cons_succ]
  refine wpAnyH_take (i := 2) (v := ?_) rfl (by kernel_rfl) (by kernel_rfl) (by kernel_rfl) (fun _ _ _ h => h) (Or.inl ⟨by rfl, ?d2⟩) hHeld ?_
  case d2 =>
    intro wS hSw
    go_simp
    try with_reducible rfl
  try simp only [Act.put, List.getElem_toArray, List.getElem_cons_zero, List.getElem_cons_succ, List.setIfInBounds_toArray, List.set_cons_zero, List.set_cons_succ]
  refine wpAnyH_take (i := 3) (v := ?_) rfl (by kernel_rfl) (by kernel_rfl) (by kernel_rfl) (fun _ _ _ h => h) (Or.inl ⟨by rfl, ?d3⟩) hHeld ?_
  case d3 =>
    intro wS hSw
    go_simp
    try with_reducible rfl
  try simp only [Act.put, List.getElem_toArray, List.getElem_cons_zero, List.getElem_cons_succ, List.setIfInBounds_toArray, List.set_cons_zero, List.set_cons_succ]
  refine wpAnyH_take (i := 4) (v := ?_) rfl (by kernel_rfl) (by kernel_rfl) (by kernel_rfl) (fun _ _ _ h => h) (Or.inl ⟨by rfl, ?d4⟩) hHeld ?_
  case d4 =>
    intro wS hSw
    go_simp
    try with_reducible rfl
  try simp only [Act.put, List.getElem_toArray, List.getElem_cons_zero, List.getElem_cons_succ, List.setIfInBounds_toArray, List.set_cons_zero, List.set_cons_succ]
  refine wpAnyH_take (i := 5) (v := ?_) rfl (by kernel_rfl) (by kernel_rfl) (by kernel_rfl) (fun _ _ _ h => h) (Or.inl ⟨by rfl, ?d5⟩) hHeld ?_
  case d5 =>
    intro wS hSw
    go_simp
    try with_reducible rfl
  try simp only [Act.put, List.getElem_toArray, List.getElem_cons_zero, List.getElem_cons_succ, List.setIfInBounds_toArray, List.set_cons_zero, List.set_cons_succ]
  refine wpAnyH_take (i := 6) (v := ?_) rfl (by kernel_rfl) (by kernel_rfl) (by kernel_rfl) (fun _ _ _ h => h) (Or.inl ⟨by rfl, ?d6⟩) hHeld ?_
  case d6 =>
    intro wS hSw
    go_simp
    try with_reducible rfl
  try simp only [Act.put, List.getElem_toArray, List.getElem_cons_zero, List.getElem_cons_succ, List.setIfInBounds_toArray, List.set_cons_zero, List.set_cons_succ]
  refine wpAnyH_take (i := 7) (v := ?_) rfl (by kernel_rfl) (by kernel_rfl) (by kernel_rfl) (fun _ _ _ h => h) (Or.inl ⟨by rfl, ?d7⟩) hHeld ?_
  case d7 =>
    intro wS hSw
    go_simp
    try with_reducible rfl
  try simp only [Act.put, List.getElem_toArray, List.getElem_cons_zero, List.getElem_cons_succ, List.setIfInBounds_toArray, List.set_cons_zero, List.set_cons_succ]
  refine wpAnyH_take (i := 8) (v := ?_) rfl (by kernel_rfl) (by kernel_rfl) (by kernel_rfl) (fun _ _ _ h => h) (Or.inl ⟨by rfl, ?d8⟩) hHeld ?_
  case d8 =>
    intro wS hSw
    go_simp
    try with_reducible rfl
  try simp only [Act.put, List.getElem_toArray, List.getElem_cons_zero, List.getElem_cons_succ, List.setIfInBounds_toArray, List.set_cons_zero, List.set_cons_succ]
  refine wpAnyH_take (i := 9) (v := ?_) rfl (by kernel_rfl) (by kernel_rfl) (by kernel_rfl) (fun _ _ _ h => h) (Or.inl ⟨by rfl, ?d9⟩) hHeld ?_
  case d9 =>
    intro wS hSw
    go_simp
    try with_reducible rfl
  try simp only [Act.put, List.getElem_toArray, List.getElem_cons_zero, List.getElem_cons_succ, List.setIfInBounds_toArray, List.set_cons_zero, List.set_cons_succ]
  refine wpAnyH_take (i := 10) (v := ?_) rfl (by kernel_rfl) (by kernel_rfl) (by kernel_rfl) (fun _ _ _ h => h) (Or.inl ⟨by rfl, ?d10⟩) hHeld ?_
  case d10 =>
    intro wS hSw
    go_simp
    try with_reducible rfl
  try simp only [Act.put, List.getElem_toArray, List.getElem_cons_zero, List.getElem_cons_succ, List.setIfInBounds_toArray, List.set_cons_zero, List.set_cons_succ]
  refine wpAnyH_take (i := 11) (v := ?_) rfl (by kernel_rfl) (by kernel_rfl) (by kernel_rfl) (fun _ _ _ h => h) (Or.inl ⟨by rfl, ?d11⟩) hHeld ?_
  case d11 =>
    intro wS hSw
    go_simp
    try with_reducible rfl
  try simp only [Act.put, List.getElem_toArray, List.getElem_cons_zero, List.getElem_cons_succ, List.setIfInBounds_toArray, List.set_cons_zero, List.set_cons_succ]
  refine wpAnyH_ready (rs := [12]) (by kernel_rfl) (by simp) ?_
  refine AllReadyH.cons rfl (fun K hK => ?_) AllReadyH.nil
  go_simp
  refine hK.out _ _ trivial (fun hHeld2 => ?_)
  clear hK K hHeld
  have hHeld := hHeld2
  clear hHeld2
  try simp only [Act.put, List.getElem_toArray, List.getElem_cons_zero, List.getElem_cons_succ, List.setIfInBounds_toArray, List.set_cons_zero, List.set_cons_succ]
  refine wpAnyH_ready (rs := [13]) (by kernel_rfl) (by simp) ?_
  refine AllReadyH.cons rfl (fun K hK => ?_) AllReadyH.nil
  refine step_wp rfl ?_
  refine wp_store_new (w := w7.drew) (p := w7.heap.size) rfl EnT (.tmp 18) (.tmp 101) rfl (SE.cells ⟨txT 65536 R, b1.toNat, IntKind.i64.wrap (shN (r2 R)), shN (r3 R), IntKind.i64.wrap (shN (r4 R)), b5.toNat, List.replicate 32 0⟩).toArray (by rfl) (by rfl) (infoEnR (by rfl)) (by rfl) (cells_all _) ?_
  intro w8 hq8 hb8 hs8
  refine hK.out _ _ trivial (fun hHeld2 => ?_)
  clear hK K hHeld
  have hHeld := hHeld2
  clear hHeld2
  try simp only [Act.put, List.getElem_toArray, List.getElem_cons_zero, List.getElem_cons_succ, List.setIfInBounds_toArray, List.set_cons_zero, List.set_cons_succ]
  refine wpAnyH_done (by kernel_rfl) ?_ _
  clear hHeld
  try simp only [Act.put, List.getElem_toArray, List.getElem_cons_zero, List.getElem_cons_succ, List.setIfInBounds_toArray, List.set_cons_zero, List.set_cons_succ]
  obtain ⟨g, hg⟩ : ∃ g, g = w7.heap.size := ⟨_, rfl⟩
  rw [← hg] at hq8 hb8 hs8 ⊢
  have hag : a < g := by rw [hg]; exact lt_of_heap HA7.out
  have hqg : q < g := by omega
  have hwg : w.heap.size ≤ g := by omega
  have hb8' : Below g w7 w8 := (show Below g w7 w7.drew from (Below.refl _ w7).drew).trans hb8
  have HX8 : Hid (ESt w q a g (r7 R) ⟨txT 65536 R, b1.toNat, IntKind.i64.wrap (shN (r2 R)), shN (r3 R), IntKind.i64.wrap (shN (r4 R)), b5.toNat, J32 I 0⟩ w8) := Lib.hid ⟨hq8, (hb8'.block _ hqg).trans HR7.out, (hb8'.block _ hag).trans HA7.out, HB7.out.trans (Turn.of_below (X := [q]) (hg ▸ hb8')) (fun y hy => .inl hy)⟩
  clear hq8 hb8 hb8' hs8 HR7 HA7 HB7 hg
  go_wp2
  go_loopw [19] (fun v19 wr => ∃ k : Nat, k ≤ 32 ∧ v19 = .int .i64 (k : Int) ∧ Hid (ESt w q a g (r7 R) ⟨txT 65536 R, b1.toNat, IntKind.i64.wrap (shN (r2 R)), shN (r3 R), IntKind.i64.wrap (shN (r4 R)), b5.toNat, J32 I k⟩ wr)) (fun v19 _ => 32 - (RowKit.intOf v19).toNat)
  case atStart => exact ⟨0, by omega, rfl, HX8⟩
  case round =>
    obtain ⟨k, hk, rfl, HX⟩ := hrel
    clear HX8
    have hIl : I.length = 32 := HIL.out
    by_cases hlt : (k : Int) < 32
    · have hkl : k < 32 := by omega
      have hkI : k < I.length := by omega
      have hlI : (k : Int) < (I.length : Int) := by omega
      obtain ⟨x, cd⟩ := id_cell HX.out.hq (j := k) (by show k < (J32 I k).length; rw [J32_len hIl hk]; omega)
      have fd : wr.frozen? ⟨g, 6 + k, none⟩ = false := frozen_of_heap HX.out.hq
      have HN : Hid (ESt w q a g (r7 R) ⟨txT 65536 R, b1.toNat, IntKind.i64.wrap (shN (r2 R)), shN (r3 R), IntKind.i64.wrap (shN (r4 R)), b5.toNat, J32 I (k + 1)⟩ (wr.setCell ⟨g, 6 + k, none⟩ (.int .u8 ((I[k]'hkI).toNat : Int)))) := Lib.hid (by
        rw [← J32_step hkl (List.getElem?_eq_getElem hkI)]
        exact HX.out.set hqg hag hwg k _)
      go_wp2
      go_roundw
      case rel => exact ⟨k + 1, by omega, by go_num, HN⟩
      case measure => simp [RowKit.intOf]; omega
    · obtain rfl : k = 32 := by omega
      rw [J32_all hIl, ← HE.out] at HX
      have HQ := Lib.hid HX.out.hq
      have HA := Lib.hid HX.out.ha
      have HT := Lib.hid HX.out.ht
      have HR := Lib.hid HX.out.hr
      clear HX
      have HSZ : Hid (zeroS.cells.toArray.size = (entE R).cells.toArray.size) := Lib.hid (by rw [List.size_toArray, List.size_toArray, cells_size HF.out.id]; rfl)
      have HAT : Hid (Value.pointer (some ⟨w.heap.size, 0, none⟩) = Value.pointer (some ⟨a, 0, none⟩)) := Lib.hid (by rw [ha])
      go_wp2_with (first
        | (refine Sh.wpList_load_at (T := EnT) (cs := (entE R).cells.toArray) HQ.out rfl EnT (.tmp 18) rfl rfl _ Tryz.underlying49 rfl (infoEnR HF.out.id) ?_)
        | (refine Sh.wpList_store_at (g := a) HA.out rfl EnT (.tmp 2) (.tmp 112) rfl (entE R).cells.toArray HAT.out rfl (infoEnR HF.out.id) HSZ.out (cells_all (entE R)) ?_
           intro w9 hq9 ht9 hs9
           have HQ9 := Lib.hid hq9; have HT9 := Lib.hid ht9
           clear hq9 ht9 hs9))
      have hld := run_loadVar_row (P := Tryz.prog) w9 a _ EnT (entE R).cells.toArray _ _ HQ9.out Tryz.underlying49 rfl (infoEnR HF.out.id)
      rw [ha] at hld
      refine bodyPost_ret (v := .tuple #[enV (entE R), .bool true]) ?_ rfl ?_
      · rw [results_cell_tmp (fn := Tryz.f56) rfl]
        show ((asAddr (.pointer (some ⟨w.heap.size, 0, none⟩))).run Tryz.prog _).andThen _ = _
        simp only [asAddr, Sem.run_pure, Result.andThen_ok, hld]
        rfl
      · rw [REntPost, if_pos HYES.out]
        have hql : q < wr.heap.size := lt_of_heap HR.out
        exact ⟨rfl, (HT9.out.block q hql (by simp; omega)).trans HR.out, HT.out.trans HT9.out (fun y hy => by simp at hy; right; omega)⟩
end Go.Proofs.YtpbhkaokgpacoaaGreatDoor.St
