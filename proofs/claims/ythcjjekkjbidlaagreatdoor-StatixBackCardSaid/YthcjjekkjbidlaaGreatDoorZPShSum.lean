import Derived.Test.YthcjjekkjbidlaaGreatDoorZPShRef
import Derived.Test.YthcjjekkjbidlaaGreatDoorZPStRefPut
import Derived.Test.YthcjjekkjbidlaaGreatDoorZPStReg
import Derived.Test.YthcjjekkjbidlaaGreatDoorZPStRow
import Derived.Deep.RegionHeld3
import Derived.Great.BuildSlice
import Derived.Deep.LoopGhost
import Derived.Deep.OwnRows
set_option linter.unusedSimpArgs false
set_option linter.unusedVariables false
/-
  The contracts of the sum's parts: the constants, a new sum, bytes that are written, the sum.
-/
namespace Go.Proofs.YthcjjekkjbidlaaGreatDoor.Sh
open Go.RowKit Go.Maps Go.Proofs.YthcjjekkjbidlaaGreatDoor.Rf Go.Proofs.YthcjjekkjbidlaaGreatDoor.Rd Go.Proofs.YthcjjekkjbidlaaGreatDoor.St

set_option maxHeartbeats 2000000 in
set_option maxRecDepth 100000 in
theorem first_any (w : World) :
    Calls Tryz.prog 174 #[] w fun e w' => e = .returned (.agg H0.cells) ∧ Below w.heap.size w w' := by
  go_enter Tryz.func174, Tryz.ntmps174
  go_wp2_with (first
    | (refine wpList_store_new rfl rfl T8 (.tmp 0) (.tmp 1) rfl H0.cells rfl rfl (info8 H0) rfl (one8 H0) ?_
       intro w3 hq3 hb3 hs3
       have HQ3 := Lib.hid hq3; have HB3 := Lib.hid hb3
       clear hq3 hb3 hs3))
  refine bodyPost_ret (v := .agg H0.cells) (results_cell_row rfl _ _ w.heap.size T8 _ (0, 0) _ rfl HQ3.out Tryz.underlying194 rfl (info8 H0)) rfl ⟨rfl, HB3.out⟩
theorem K64_length : K64.length = 64 := by simp [K64]
theorem one64 (L : List Int) : (wc L).all (·.oneCell') = true := by
  refine Array.all_eq_true_iff_forall_mem.2 (fun v hv => ?_)
  simp [wc] at hv
  obtain ⟨x, _, rfl⟩ := hv
  rfl
theorem wpList_build_is {P : Program} {ops : Array Oper} {rest : List Oper} {o : Oper} {a : Act} {w : World} {Q : Exit → Act → World → Prop} (hg : o.guard = none) (t : TypeId) (parts : Array (Nat × Operand)) (ho : o.op = .build t parts) (cs : Array Value)
    (hb : P.built t (parts.map fun (i, x) => (i, a.eval x)).toList = some cs) (h : wpList P ops Q rest (a.put o.dst (.agg cs)) w) : wpList P ops Q (o :: rest) a w :=
  wpList_build hg t parts ho (by rw [hb]; rfl) (by rw [hb]; exact h)
set_option maxHeartbeats 2000000 in
set_option maxRecDepth 100000 in
theorem constants_any (w : World) :
    Calls Tryz.prog 175 #[] w fun e w' => e = .returned (.agg (wc K64)) ∧ Below w.heap.size w w' := by
  have I64 := Lib.hid (info64 K64_length)
  have S64 : Hid (64 = (wc K64).size) := Lib.hid (by rw [wc_size, K64_length])
  go_enter Tryz.func175, Tryz.ntmps175
  go_wp2_with (first
    | (refine wpList_build_is rfl T64 _ rfl (wc K64) (by kernel_rfl) ?_)
    | (refine wpList_store_new rfl rfl T64 (.tmp 0) (.tmp 1) rfl (wc K64) rfl rfl I64.out S64.out (one64 K64) ?_
       intro w3 hq3 hb3 hs3
       have HQ3 := Lib.hid hq3; have HB3 := Lib.hid hb3
       clear hq3 hb3 hs3))
  refine bodyPost_ret (v := .agg (wc K64)) (results_cell_row rfl _ _ w.heap.size T64 _ (0, 0) _ rfl HQ3.out Tryz.underlying196 rfl I64.out) rfl ⟨rfl, HB3.out⟩
set_option maxHeartbeats 2000000 in
set_option maxRecDepth 100000 in
theorem ref_constants (w : World) :
    Calls Tryz.prog 115 #[] w fun e w' => e = .returned (.agg (wc K64)) ∧ Below w.heap.size w w' := by
  have I64 := Lib.hid (info64 K64_length)
  have S64 : Hid (64 = (wc K64).size) := Lib.hid (by rw [wc_size, K64_length])
  go_enter Tryz.func115, Tryz.ntmps115
  go_wp2_with (first
    | (refine wpList_build_is rfl T64 _ rfl (wc K64) (by kernel_rfl) ?_)
    | (refine wpList_store_new rfl rfl T64 (.tmp 0) (.tmp 1) rfl (wc K64) rfl rfl I64.out S64.out (one64 K64) ?_
       intro w3 hq3 hb3 hs3
       have HQ3 := Lib.hid hq3; have HB3 := Lib.hid hb3
       clear hq3 hb3 hs3))
  refine bodyPost_ret (v := .agg (wc K64)) (results_cell_row rfl _ _ w.heap.size T64 _ (0, 0) _ rfl HQ3.out Tryz.underlying196 rfl I64.out) rfl ⟨rfl, HB3.out⟩

abbrev StT : TypeId := 246
/-- A sum under way. -/
def stC (h : V8) (t : List UInt8) (n : Nat) : Array Value := #[wdV h.a, wdV h.b, wdV h.c, wdV h.d, wdV h.e, wdV h.f, wdV h.g, wdV h.h, .string ⟨t.toArray⟩, .int .u64 (n : Int)]
def StateAt (w : World) (q : Nat) (h : V8) (t : List UInt8) (n : Nat) : Prop := w.heap[q]? = some (.cells (stC h t n) StT)
theorem infoSt (h : V8) (t : List UInt8) (n : Nat) : (Tryz.prog.info? StT).map (·.size) = some (stC h t n).size := by kernel_rfl
set_option maxHeartbeats 2000000 in
set_option maxRecDepth 100000 in
theorem new_any (w : World) :
    Calls Tryz.prog 147 #[] w fun e w' => ∃ q, e = .returned (ptr q) ∧ w.heap.size ≤ q ∧ StateAt w' q H0 [] 0 ∧ Below w.heap.size w w' := by
  go_enter Tryz.func147, Tryz.ntmps147
  go_wp2_with (first
    | (refine (first_any w).mono ?_
       rintro e w1 ⟨rfl, hb⟩
       have HB := Lib.hid hb
       clear hb)
    | (refine wpList_build_is rfl StT _ rfl (stC H0 [] 0) (by kernel_rfl) ?_))
  go_ret
  exact ⟨w1.heap.size, rfl, HB.out.size, at_new _ _, HB.out.trans ((Below.refl _ _).alloc (by have := HB.out.size; omega) _)⟩

theorem rangeAt_drewN {w : World} {b o : Nat} {cs : List Value} (h : w.rangeAt b o cs) (n : Nat) : (w.drewN n).rangeAt b o cs := fun j v hv => by
  have := h j v hv
  simpa [World.cell?, World.heap_drewN] using this
theorem state_set {w : World} {q : Nat} {h : V8} {t : List UInt8} {n : Nat} (H : StateAt w q h t n) (h2 : V8) : StateAt (w.setCells q 0 h2.cells.toList) q h2 t n := by
  obtain ⟨cur', e1, _, e3⟩ := heap_setCells h2.cells.toList 0 w _ H (show 0 + 8 ≤ 10 by decide)
  rw [StateAt, e1]
  have : cur' = stC h2 t n := Array.toList_inj.1 (by rw [e3]; rfl)
  rw [this]
set_option linter.unusedSimpArgs false in
set_option maxHeartbeats 4000000 in
set_option maxRecDepth 100000 in
theorem write_any (w : World) (q : Nat) (h : V8) (t D : List UInt8) (n : Nat) (hn : n + D.length < 18446744073709551616) (hl : t.length + D.length ≤ 140737488355328) (hq : StateAt w q h t n) :
    Calls Tryz.prog 148 #[ptr q, .string ⟨D.toArray⟩] w fun e w' => e = .returned (.int .i64 0) ∧ StateAt w' q (run h (t ++ D)) (rest (t ++ D)) (n + D.length) ∧ Turn [q] w w' := by
  have hql : q < w.heap.size := lt_of_heap hq
  have hD : (⟨D.toArray⟩ : ByteArray).size = D.length := rfl
  have hts : (⟨t.toArray⟩ : ByteArray).size = t.length := rfl
  have c9 : w.cell? ⟨q, 9, none⟩ = some (.int .u64 (n : Int)) := cell_of_heap hq
  have c8 : w.cell? ⟨q, 8, none⟩ = some (.string ⟨t.toArray⟩) := cell_of_heap hq
  have f9 : w.frozen? ⟨q, 9, none⟩ = false := frozen_of_heap hq
  have f8 : w.frozen? ⟨q, 8, none⟩ = false := frozen_of_heap hq
  have hlen : t.length + D.length ≤ 9223372036854775807 := by omega
  unfold ptr
  go_enter Tryz.func148, Tryz.ntmps148
  obtain ⟨w1, hw1⟩ : ∃ w1, w1 = (w.setCell ⟨q, 9, none⟩ (.int .u64 ((n : Int) + (D.length : Int)))).setCell ⟨q, 8, none⟩ (.string (⟨t.toArray⟩ ++ ⟨D.toArray⟩)) := ⟨_, rfl⟩
  have HS1 : Hid (StateAt w1 q h (t ++ D) (n + D.length)) := Lib.hid (by
    rw [hw1, StateAt, setCell_heap _ _ _ _ _ _ (setCell_heap _ _ _ _ _ _ hq), cat_list, ba_data]
    rfl)
  have HT1 : Hid (Turn [q] w w1) := Lib.hid (by rw [hw1]; exact ((Turn.refl [q] w).setCell (.inl (by simp)) _).setCell (.inl (by simp)) _)
  have hs1 : w1.heap.size = w.heap.size := by rw [hw1]; simp [World.setCell]
  have I64 := Lib.hid (info64 K64_length)
  have S64 : Hid (64 = (wc K64).size) := Lib.hid (by rw [wc_size, K64_length])
  go_wp2_with fail
  rw [← hw1]
  clear hw1 c9 c8 f9 f8 hlen hq
  refine (constants_any w1).mono ?_
  rintro e w2 ⟨rfl, hb2⟩
  have HB2 := Lib.hid hb2
  have HS2 : Hid (StateAt w2 q h (t ++ D) (n + D.length)) := Lib.hid ((hb2.block _ (by omega)).trans HS1.out)
  have HT2 : Hid (Turn [q] w w2) := Lib.hid (HT1.out.trans (Turn.of_below (X := [q]) hb2) (fun y hy => .inl hy))
  obtain ⟨kb, hkb⟩ : ∃ kb, kb = w2.heap.size := ⟨_, rfl⟩
  have hqk : q < kb := by rw [hkb]; have := hb2.size; omega
  have hwk : w.heap.size ≤ kb := by rw [hkb]; have := hb2.size; omega
  clear hb2 HT1 HS1 HB2
  go_wp2_with (first
    | (refine wpList_store_new rfl rfl T64 (.tmp 5) (.tmp 26) rfl (wc K64) rfl rfl I64.out S64.out (one64 K64) ?_
       intro w3 hq3 hb3 hs3
       have HK3 : Hid (w3.heap[kb]? = some (.cells (wc K64) T64)) := Lib.hid (by rw [hkb]; exact hq3)
       have HS3 : Hid (StateAt w3 q h (t ++ D) (n + D.length)) := Lib.hid ((hb3.block _ (by omega)).trans HS2.out)
       have HT3 : Hid (Turn [q] w w3) := Lib.hid (HT2.out.trans (Turn.of_below (X := [q]) hb3) (fun y hy => .inl hy))
       rw [← hkb]
       clear hq3 hb3 hs3 HS2 HT2 hkb))
  obtain ⟨T, hT⟩ : ∃ T, T = t ++ D := ⟨_, rfl⟩
  have hTl : T.length ≤ 140737488355328 := by rw [hT, List.length_append]; exact hl
  rw [← hT] at HS3
  obtain ⟨n2, hn2⟩ : ∃ n2, n2 = n + D.length := ⟨_, rfl⟩
  rw [← hn2] at HS3
  have HTT := Lib.hid hT; have HNN := Lib.hid hn2
  clear hT hn2 hl hn hts hD
  try dsimp only [Act.put]
  go_loopg [27] T.length (fun g _ wr => ∃ (h' : V8) (t' : List UInt8), g = t'.length ∧ Hid (StateAt wr q h' t' n2) ∧ Hid (wr.heap[kb]? = some (.cells (wc K64) T64)) ∧ Hid (Turn [q] w wr) ∧ Hid (run h T = run h' t' ∧ rest T = rest t') ∧ t'.length ≤ 140737488355328)
  case atStart => exact ⟨h, T, rfl, HS3, HK3, HT3, Lib.hid ⟨rfl, rfl⟩, hTl⟩
  case round =>
    obtain ⟨h', t', rfl, HS, HK, HT, HI, htl⟩ := hrel
    have hts' : (⟨t'.toArray⟩ : ByteArray).size = t'.length := rfl
    have c8 : wr.cell? ⟨q, 8, none⟩ = some (.string ⟨t'.toArray⟩) := cell_of_heap HS.out
    have f8 : wr.frozen? ⟨q, 8, none⟩ = false := frozen_of_heap HS.out
    by_cases hge : (64 : Int) ≤ (t'.length : Int)
    · have hge2 : 64 ≤ t'.length := by omega
      have hmin : min (64 : Int) (t'.length : Int) = 64 := by omega
      obtain ⟨B, hB⟩ : ∃ B, B = t'.take 64 := ⟨_, rfl⟩
      have hBl : B.length = 64 := by rw [hB, List.length_take]; omega
      have hex : (⟨t'.toArray⟩ : ByteArray).extract 0 64 = ⟨B.toArray⟩ := by rw [extract_list, hB]; simp
      have hex2 : (⟨t'.toArray⟩ : ByteArray).extract 64 t'.length = ⟨(t'.drop 64).toArray⟩ := extract_rest _ _ _ (Nat.le_refl _)
      have HEX2 := Lib.hid hex2
      have HRG : Hid (∀ w, (∃ m, w = wr.drewN m) → w.rangeAt q 0 h'.cells.toList) := Lib.hid (by
        rintro w ⟨m, rfl⟩
        refine rangeAt_drewN ?_ m
        intro j u hj
        rw [Nat.zero_add, cell_of_heap HS.out]
        have hj8 : j < 8 := (List.getElem?_eq_some_iff.1 hj).1
        rw [← hj]
        match j, hj8 with
        | 0, _ => rfl
        | 1, _ => rfl
        | 2, _ => rfl
        | 3, _ => rfl
        | 4, _ => rfl
        | 5, _ => rfl
        | 6, _ => rfl
        | 7, _ => rfl)
      have HBB := Lib.hid hB
      clear hB hex2
      go_wp2
      have c8d : wr.drew.cell? ⟨q, 8, none⟩ = some (.string ⟨t'.toArray⟩) := c8
      refine wp_region_held_drew (S := (fun w' : World => w'.cell? ⟨q, 8, none⟩ = some (.string ⟨t'.toArray⟩))) (by kernel_rfl) c8d (fun hHeld => ?_)
      clear c8d c8
      refine wpAnyH_take (i := 0) (v := ?_) rfl (by kernel_rfl) (by kernel_rfl) (by kernel_rfl) (fun _ _ _ h => h) (Or.inl ⟨by rfl, ?rf0⟩) hHeld ?_
      case rf0 =>
        intro wS hSw
        go_simp
        try with_reducible rfl
      try simp only [Act.put, List.getElem_toArray, List.getElem_cons_zero, List.getElem_cons_succ, List.setIfInBounds_toArray, List.set_cons_zero, List.set_cons_succ]
      refine wpAnyH_take (i := 1) (v := ?_) rfl (by kernel_rfl) (by kernel_rfl) (by kernel_rfl) (fun _ _ _ h => h) (Or.inl ⟨by rfl, ?rf1⟩) hHeld ?_
      case rf1 =>
        intro wS hSw
        go_simp
        try with_reducible rfl
      try simp only [Act.put, List.getElem_toArray, List.getElem_cons_zero, List.getElem_cons_succ, List.setIfInBounds_toArray, List.set_cons_zero, List.set_cons_succ]
      refine wpAnyH_take (i := 2) (v := ?_) rfl (by kernel_rfl) (by kernel_rfl) (by kernel_rfl) (fun _ _ _ h => h) (Or.inl ⟨by rfl, ?rf2⟩) hHeld ?_
      case rf2 =>
        intro wS hSw
        go_simp
        try with_reducible rfl
      try simp only [Act.put, List.getElem_toArray, List.getElem_cons_zero, List.getElem_cons_succ, List.setIfInBounds_toArray, List.set_cons_zero, List.set_cons_succ]
      refine wpAnyH_take (i := 3) (v := ?_) rfl (by kernel_rfl) (by kernel_rfl) (by kernel_rfl) (fun _ _ _ h => h) (Or.inl ⟨by rfl, ?rf3⟩) hHeld ?_
      case rf3 =>
        intro wS hSw
        go_simp
        try with_reducible rfl
      try simp only [Act.put, List.getElem_toArray, List.getElem_cons_zero, List.getElem_cons_succ, List.setIfInBounds_toArray, List.set_cons_zero, List.set_cons_succ]
      refine wpAnyH_take (i := 5) (v := ?_) rfl (by kernel_rfl) (by kernel_rfl) (by kernel_rfl) (fun _ _ _ h => h) (Or.inl ⟨by rfl, ?rf5⟩) hHeld ?_
      case rf5 =>
        intro wS hSw
        go_simp
        try with_reducible rfl
      try simp only [Act.put, List.getElem_toArray, List.getElem_cons_zero, List.getElem_cons_succ, List.setIfInBounds_toArray, List.set_cons_zero, List.set_cons_succ]
      refine wpAnyH_take (i := 6) (v := ?_) rfl (by kernel_rfl) (by kernel_rfl) (by kernel_rfl) (fun _ _ _ h => h) (Or.inl ⟨by rfl, ?rf6⟩) hHeld ?_
      case rf6 =>
        intro wS hSw
        go_simp
        try with_reducible rfl
      try simp only [Act.put, List.getElem_toArray, List.getElem_cons_zero, List.getElem_cons_succ, List.setIfInBounds_toArray, List.set_cons_zero, List.set_cons_succ]
      refine wpAnyH_take (i := 7) (v := ?_) rfl (by kernel_rfl) (by kernel_rfl) (by kernel_rfl) (fun _ _ _ h => h) (Or.inl ⟨by rfl, ?rf7⟩) hHeld ?_
      case rf7 =>
        intro wS hSw
        go_simp
        try with_reducible rfl
      try simp only [Act.put, List.getElem_toArray, List.getElem_cons_zero, List.getElem_cons_succ, List.setIfInBounds_toArray, List.set_cons_zero, List.set_cons_succ]
      refine wpAnyH_take (i := 8) (v := ?_) rfl (by kernel_rfl) (by kernel_rfl) (by kernel_rfl) (fun _ _ _ h => h) (Or.inl ⟨by rfl, ?rf8⟩) hHeld ?_
      case rf8 =>
        intro wS hSw
        go_simp
        try with_reducible rfl
      try simp only [Act.put, List.getElem_toArray, List.getElem_cons_zero, List.getElem_cons_succ, List.setIfInBounds_toArray, List.set_cons_zero, List.set_cons_succ]
      refine wpAnyH_take (i := 9) (v := ?_) rfl (by kernel_rfl) (by kernel_rfl) (by kernel_rfl) (fun _ _ _ h => h) (Or.inl ⟨by rfl, ?rf9⟩) hHeld ?_
      case rf9 =>
        intro wS hSw
        go_simp
        try with_reducible rfl
      try simp only [Act.put, List.getElem_toArray, List.getElem_cons_zero, List.getElem_cons_succ, List.setIfInBounds_toArray, List.set_cons_zero, List.set_cons_succ]
      refine wpAnyH_ready (rs := [4]) (by kernel_rfl) (by simp) ?_
      refine AllReadyH.cons rfl (fun K hK => ?_) AllReadyH.nil
      refine step_wp rfl ?_
      refine wp_load_mid T8 (.tmp 36) rfl q 0 rfl h'.cells.toList _ (HRG.out _ ⟨1, rfl⟩) Tryz.underlying194 rfl (info8 h') ?_
      refine hK.out _ _ hHeld (fun hHeld2 => ?_)
      clear hK K hHeld
      have hHeld := hHeld2
      clear hHeld2
      try simp only [Act.put, List.getElem_toArray, List.getElem_cons_zero, List.getElem_cons_succ, List.setIfInBounds_toArray, List.set_cons_zero, List.set_cons_succ]
      refine wpAnyH_ready (rs := [10]) (by kernel_rfl) (by simp) ?_
      refine AllReadyH.cons rfl (fun K hK => ?_) AllReadyH.nil
      go_simp
      refine (rounds_any wr.drew h' B kb hBl HK.out).mono ?_
      rintro ex w5 ⟨rfl, hb5⟩
      have HS5 : Hid (StateAt w5 q h' t' n2) := Lib.hid ((hb5.block q (lt_of_heap HS.out)).trans HS.out)
      have HK5 : Hid (w5.heap[kb]? = some (.cells (wc K64) T64)) := Lib.hid ((hb5.block kb (lt_of_heap HK.out)).trans HK.out)
      have HT5 : Hid (Turn [q] w w5) := Lib.hid (HT.out.drew.trans (Turn.of_below (X := [q]) hb5) (fun y hy => .inl hy))
      have c85 : w5.cell? ⟨q, 8, none⟩ = some (.string ⟨t'.toArray⟩) := cell_of_heap HS5.out
      clear hb5 HS HK HT
      go_wp2_with fail
      refine hK.out _ _ c85 (fun hHeld2 => ?_)
      clear hK K hHeld
      have hHeld := hHeld2
      clear hHeld2
      try simp only [Act.put, List.getElem_toArray, List.getElem_cons_zero, List.getElem_cons_succ, List.setIfInBounds_toArray, List.set_cons_zero, List.set_cons_succ]
      refine wpAnyH_take (i := 11) (v := ?_) rfl (by kernel_rfl) (by kernel_rfl) (by kernel_rfl) (fun _ _ _ h => h) (Or.inl ⟨by rfl, ?rf11⟩) hHeld ?_
      case rf11 =>
        intro wS hSw
        go_simp
        try with_reducible rfl
      try simp only [Act.put, List.getElem_toArray, List.getElem_cons_zero, List.getElem_cons_succ, List.setIfInBounds_toArray, List.set_cons_zero, List.set_cons_succ]
      refine wpAnyH_take (i := 12) (v := ?_) rfl (by kernel_rfl) (by kernel_rfl) (by kernel_rfl) (fun _ _ _ h => h) (Or.inl ⟨by rfl, ?rf12⟩) hHeld ?_
      case rf12 =>
        intro wS hSw
        go_simp
        try with_reducible rfl
      try simp only [Act.put, List.getElem_toArray, List.getElem_cons_zero, List.getElem_cons_succ, List.setIfInBounds_toArray, List.set_cons_zero, List.set_cons_succ]
      obtain ⟨h2, hh2⟩ : ∃ h2, h2 = blk h' B := ⟨_, rfl⟩
      rw [← hh2]
      obtain ⟨w6, hw6⟩ : ∃ w6, w6 = w5.setCells q 0 h2.cells.toList := ⟨_, rfl⟩
      have HS6 : Hid (StateAt w6 q h2 t' n2) := Lib.hid (by rw [hw6]; exact state_set HS5.out h2)
      have HT56 : Turn [q] w5 w6 := by rw [hw6]; exact turn_setCells w5 q 0 _
      have HT6 : Hid (Turn [q] w w6) := Lib.hid (HT5.out.trans HT56 (fun y hy => .inl hy))
      have HK6 : Hid (w6.heap[kb]? = some (.cells (wc K64) T64)) := Lib.hid ((HT56.block kb (lt_of_heap HK5.out) (by simp; omega)).trans HK5.out)
      have c86 : w6.cell? ⟨q, 8, none⟩ = some (.string ⟨t'.toArray⟩) := cell_of_heap HS6.out
      have f86 : w6.frozen? ⟨q, 8, none⟩ = false := frozen_of_heap HS6.out
      have HTH : Hid (w5.there q 0 h2.cells.size) := Lib.hid (by
        intro j hj
        have hj8 : j < 8 := hj
        rw [Nat.zero_add]
        refine ⟨?_, frozen_of_heap HS5.out⟩
        rw [cell_of_heap HS5.out]
        match j, hj8 with
        | 0, _ => rfl
        | 1, _ => rfl
        | 2, _ => rfl
        | 3, _ => rfl
        | 4, _ => rfl
        | 5, _ => rfl
        | 6, _ => rfl
        | 7, _ => rfl)
      refine wpAnyH_ready (rs := [13]) (by kernel_rfl) (by simp) ?_
      refine AllReadyH.cons rfl (fun K hK => ?_) AllReadyH.nil
      refine step_wp rfl ?_
      refine wp_store_mid T8 (.tmp 45) (.tmp 43) rfl q 0 h2.cells rfl rfl HTH.out (info8 h2) (one8 h2) ?_
      rw [← hw6]
      refine hK.out _ _ c86 (fun hHeld2 => ?_)
      clear hK K hHeld hHeld2 HTH HS5 HK5 HT5 HT56 c85 hw6
      try simp only [Act.put, List.getElem_toArray, List.getElem_cons_zero, List.getElem_cons_succ, List.setIfInBounds_toArray, List.set_cons_zero, List.set_cons_succ]
      refine wpAnyH_done (by kernel_rfl) ?_ _
      try simp only [Act.put, List.getElem_toArray, List.getElem_cons_zero, List.getElem_cons_succ, List.setIfInBounds_toArray, List.set_cons_zero, List.set_cons_succ]
      have HS7 : Hid (StateAt (w6.setCell ⟨q, 8, none⟩ (.string ⟨(t'.drop 64).toArray⟩)) q h2 (t'.drop 64) n2) := Lib.hid (by rw [StateAt, setCell_heap _ _ _ _ _ _ HS6.out]; rfl)
      have HT7 : Hid (Turn [q] w (w6.setCell ⟨q, 8, none⟩ (.string ⟨(t'.drop 64).toArray⟩))) := Lib.hid (HT6.out.setCell (.inl (by simp)) _)
      have HK7 : Hid ((w6.setCell ⟨q, 8, none⟩ (.string ⟨(t'.drop 64).toArray⟩)).heap[kb]? = some (.cells (wc K64) T64)) := Lib.hid ((Below.heap_setCell _ _ _ _ (show kb ≠ q by omega)).trans HK6.out)
      have HI7 : Hid (run h T = run h2 (t'.drop 64) ∧ rest T = rest (t'.drop 64)) := Lib.hid ⟨by rw [HI.out.1, run_ge hge2, hh2, HBB.out], by rw [HI.out.2, rest_ge hge2]⟩
      have hex2 := HEX2.out
      clear hh2 HS6 HT6 HK6 HI hex
      go_wp2
      go_roundg (t'.drop 64).length
      case rel => exact ⟨h2, t'.drop 64, rfl, HS7, HK7, HT7, HI7, by rw [List.length_drop]; omega⟩
      case measure => rw [List.length_drop]; omega
    · have hlt : t'.length < 64 := by omega
      have HE : Hid (run h T = h' ∧ rest T = t') := Lib.hid ⟨by rw [HI.out.1, run_lt hlt], by rw [HI.out.2, rest_lt hlt]⟩
      clear HI
      go_wp2
      go_ret
      rw [← HTT.out, ← HNN.out, HE.out.1, HE.out.2]
      exact ⟨rfl, HS.out, HT.out⟩
theorem oneSt (h : V8) (t : List UInt8) (n : Nat) : (stC h t n).all (·.oneCell') = true := by simp [stC, Value.oneCell']
abbrev IdT' : TypeId := 42
def zeroI : Array Value := #[.int .u8 0, .int .u8 0, .int .u8 0, .int .u8 0, .int .u8 0, .int .u8 0, .int .u8 0, .int .u8 0, .int .u8 0, .int .u8 0, .int .u8 0, .int .u8 0, .int .u8 0, .int .u8 0, .int .u8 0, .int .u8 0, .int .u8 0, .int .u8 0, .int .u8 0, .int .u8 0, .int .u8 0, .int .u8 0, .int .u8 0, .int .u8 0, .int .u8 0, .int .u8 0, .int .u8 0, .int .u8 0, .int .u8 0, .int .u8 0, .int .u8 0, .int .u8 0]
theorem infoB : (Tryz.prog.info? 5).map (fun i => (i.zero, i.size, i.bytes)) = some (some (.int .u8 0), 1, 1) := by kernel_rfl
theorem made_zero (n : Nat) : madeCells #[.int .u8 0] n = (Lib.byteCells (List.replicate n 0)).toArray := by
  apply Array.ext
  · simp [size_madeCells, Lib.byteCells_length]
  · intro j h1 h2
    simp [madeCells, Lib.byteCells, Nat.mod_one]
set_option linter.unusedSimpArgs false in
set_option maxHeartbeats 4000000 in
set_option maxRecDepth 100000 in
theorem sumup_any (w : World) (q : Nat) (h : V8) (hh : h.In) (t : List UInt8) (n : Nat) (hn : n ≤ 140737488355328) (hl : t.length < 64) (hq : StateAt w q h t n) :
    Calls Tryz.prog 149 #[ptr q] w fun e w' => e = .returned (.tuple #[.agg (Lib.byteCells (bytesOf (run h (t ++ 128 :: (List.replicate ((119 - t.length) % 64) 0 ++ be8 (8 * n)))))).toArray, .int .i64 0]) ∧ Below w.heap.size w w' := by
  have hql : q < w.heap.size := lt_of_heap hq
  have hts : (⟨t.toArray⟩ : ByteArray).size = t.length := rfl
  obtain ⟨g, hg⟩ : ∃ g, g = (119 - t.length) % 64 := ⟨_, rfl⟩
  have hg64 : g < 64 := by rw [hg]; exact Nat.mod_lt _ (by decide)
  have eg : (119 - (t.length : Int)) % 64 = (g : Int) := by omega
  have hmk := fun (kl kc : IntKind) (w : World) => run_make_row' (P := Tryz.prog) 114 5 (.int .u8 0) 1 Tryz.underlying114 infoB rfl kl kc g (by omega) (by omega) w
  obtain ⟨Z, hZ⟩ : ∃ Z, Z = List.replicate g (0 : UInt8) := ⟨_, rfl⟩
  have HZl : Hid (Z.length = g) := Lib.hid (by rw [hZ, List.length_replicate])
  rw [made_zero, ← hZ] at hmk
  have HZ := Lib.hid hZ
  clear hZ
  have H1 := Lib.hid ((Below.refl w.heap.size w).alloc (Nat.le_refl _) (.cells zeroI IdT'))
  obtain ⟨a, ha⟩ : ∃ a, a = w.heap.size := ⟨_, rfl⟩
  have HQ1 : Hid (StateAt (w.alloc (.cells zeroI IdT')) q h t n) := Lib.hid (at_alloc hq _)
  have HA1 : Hid ((w.alloc (.cells zeroI IdT')).heap[a]? = some (.cells zeroI IdT')) := Lib.hid (by rw [ha]; exact at_new _ _)
  obtain ⟨b, hb⟩ : ∃ b, b = w.heap.size + 1 := ⟨_, rfl⟩
  have hab : a < b := by omega
  have hwa : w.heap.size ≤ a := by omega
  have Hg := Lib.hid hg
  have HS1 : Hid (w.heap.size + 1 = (w.alloc (.cells zeroI IdT')).heap.size) := Lib.hid (one_size w _).symm
  have HS2 : Hid ((#[.int .u32 0, .int .u32 0, .int .u32 0, .int .u32 0, .int .u32 0, .int .u32 0, .int .u32 0, .int .u32 0, .string ⟨#[]⟩, .int .u64 0] : Array Value).size = (stC h t n).size) := Lib.hid rfl
  clear hq hg
  unfold ptr
  go_enter Tryz.func149, Tryz.ntmps149
  go_wp2_with (first
    | (refine wpList_load_at HQ1.out rfl StT (.tmp 14) rfl rfl _ Tryz.underlying246 rfl (infoSt h t n) ?_)
    | (refine wpList_store_new HS1.out rfl StT (.tmp 4) (.tmp 15) rfl (stC h t n) rfl rfl (infoSt h t n) HS2.out (oneSt h t n) ?_
       intro w3 hq3 hb3 hs3
       have HE3 : Hid (StateAt w3 b h t n) := Lib.hid (by rw [hb]; exact hq3)
       have HQ3 : Hid (StateAt w3 q h t n) := Lib.hid ((hb3.block q (by omega)).trans HQ1.out)
       have HA3 : Hid (w3.heap[a]? = some (.cells zeroI IdT')) := Lib.hid ((hb3.block a (by omega)).trans HA1.out)
       have HB3 : Hid (Below w.heap.size w w3) := Lib.hid (H1.out.trans (hb3.mono (by omega)))
       have c83 : w3.cell? ⟨q, 8, none⟩ = some (.string ⟨t.toArray⟩) := cell_of_heap HQ3.out
       rw [← hb]
       clear hq3 hb3 hs3 HQ1 HA1 H1 hb))
  have hcv : ∀ m, (convert 114 9 (.slice (some ⟨w3.heap.size, 0, none⟩) g g)).run Tryz.prog ((w3.alloc (.cells (Lib.byteCells Z).toArray 5)).drewN m) = .ok (.string ⟨Z.toArray⟩) ((w3.alloc (.cells (Lib.byteCells Z).toArray 5)).drewN m) := fun m =>
    bc_conv (HZl.out.symm) (by rw [World.heap_drewN]; exact at_new _ _)
  have HW4 : Hid (Below w3.heap.size w3 (w3.alloc (.cells (Lib.byteCells Z).toArray 5))) := Lib.hid ((Below.refl _ _).alloc (Nat.le_refl _) _)
  have hbw : b < w3.heap.size := lt_of_heap HE3.out
  have c94 : (w3.alloc (.cells (Lib.byteCells Z).toArray 5)).cell? ⟨q, 9, none⟩ = some (.int .u64 (n : Int)) := cell_of_heap ((HW4.out.block q (lt_of_heap HQ3.out)).trans HQ3.out)
  obtain ⟨n8, hn8⟩ : ∃ n8, n8 = 8 * n := ⟨_, rfl⟩
  have HPF := Lib.hid (fun w => put_fixed8 w (128 :: Z) n8 (by rw [List.length_cons, HZl.out]; omega))
  have e8 : (8 : Int) * (n : Int) = (n8 : Int) := by omega
  have HN8 := Lib.hid hn8
  have W8 : Hid (IntKind.u64.wrap (n8 : Int) = (n8 : Int)) := Lib.hid (by rw [IntKind.wrap_u64]; omega)
  clear hn8
  have hcat : (⟨#[128]⟩ : ByteArray) ++ ⟨Z.toArray⟩ = ⟨(128 :: Z).toArray⟩ := by
    rw [show (⟨#[128]⟩ : ByteArray) = ⟨([128] : List UInt8).toArray⟩ from rfl, cat_list, ba_data]; rfl
  have hcl : ¬ 9223372036854775807 < 1 + Z.length := by have := HZl.out; omega
  rw [← ha]
  clear ha c83 hmk eg
  have HZ4' : Hid ((w3.alloc (.cells (Lib.byteCells Z).toArray 5)).heap[w3.heap.size]? = some (.cells (Lib.byteCells Z).toArray 5)) := Lib.hid (at_new _ _)
  generalize hw4 : w3.alloc (.cells (Lib.byteCells Z).toArray 5) = w4 at *
  clear hw4
  have HZ4 : Hid (w4.heap[w3.heap.size]? = some (.cells (Lib.byteCells Z).toArray 5)) := Lib.hid HZ4'.out
  have HS4 : (fun w' : World => w'.cell? ⟨q, 9, none⟩ = some (.int .u64 (n : Int)) ∧ (convert 114 9 (.slice (some ⟨w3.heap.size, 0, none⟩) g g)).run Tryz.prog w' = .ok (.string ⟨Z.toArray⟩) w') w4.drew := ⟨c94, bc_conv (HZl.out.symm) HZ4.out⟩
  refine wp_region_held_drew (S := (fun w' : World => w'.cell? ⟨q, 9, none⟩ = some (.int .u64 (n : Int)) ∧ (convert 114 9 (.slice (some ⟨w3.heap.size, 0, none⟩) g g)).run Tryz.prog w' = .ok (.string ⟨Z.toArray⟩) w')) (by kernel_rfl) HS4 (fun hHeld => ?_)
  clear HS4 c94 hcv
  refine wpAnyH_take (i := 0) (v := ?_) rfl (by kernel_rfl) (by kernel_rfl) (by kernel_rfl) (fun _ _ _ h => h) (Or.inl ⟨by rfl, ?rf0⟩) hHeld ?_
  case rf0 =>
    intro wS hSw
    have k0 := hSw.1
    have k1 := hSw.2
    clear hSw
    go_simp
    try with_reducible rfl
  try simp only [Act.put, List.getElem_toArray, List.getElem_cons_zero, List.getElem_cons_succ, List.setIfInBounds_toArray, List.set_cons_zero, List.set_cons_succ]
  refine wpAnyH_take (i := 1) (v := ?_) rfl (by kernel_rfl) (by kernel_rfl) (by kernel_rfl) (fun _ _ _ h => h) (Or.inl ⟨by rfl, ?rf1⟩) hHeld ?_
  case rf1 =>
    intro wS hSw
    have k0 := hSw.1
    have k1 := hSw.2
    clear hSw
    go_simp
    try with_reducible rfl
  try simp only [Act.put, List.getElem_toArray, List.getElem_cons_zero, List.getElem_cons_succ, List.setIfInBounds_toArray, List.set_cons_zero, List.set_cons_succ]
  refine wpAnyH_take (i := 2) (v := ?_) rfl (by kernel_rfl) (by kernel_rfl) (by kernel_rfl) (fun _ _ _ h => h) (Or.inl ⟨by rfl, ?rf2⟩) hHeld ?_
  case rf2 =>
    intro wS hSw
    have k0 := hSw.1
    have k1 := hSw.2
    clear hSw
    go_simp
    try with_reducible rfl
  try simp only [Act.put, List.getElem_toArray, List.getElem_cons_zero, List.getElem_cons_succ, List.setIfInBounds_toArray, List.set_cons_zero, List.set_cons_succ]
  refine wpAnyH_take (i := 3) (v := ?_) rfl (by kernel_rfl) (by kernel_rfl) (by kernel_rfl) (fun _ _ _ h => h) (Or.inl ⟨by rfl, ?rf3⟩) hHeld ?_
  case rf3 =>
    intro wS hSw
    have k0 := hSw.1
    have k1 := hSw.2
    clear hSw
    go_simp
    try with_reducible rfl
  try simp only [Act.put, List.getElem_toArray, List.getElem_cons_zero, List.getElem_cons_succ, List.setIfInBounds_toArray, List.set_cons_zero, List.set_cons_succ]
  refine wpAnyH_take (i := 4) (v := ?_) rfl (by kernel_rfl) (by kernel_rfl) (by kernel_rfl) (fun _ _ _ h => h) (Or.inl ⟨by rfl, ?rf4⟩) hHeld ?_
  case rf4 =>
    intro wS hSw
    have k0 := hSw.1
    have k1 := hSw.2
    clear hSw
    go_simp
    try with_reducible rfl
  try simp only [Act.put, List.getElem_toArray, List.getElem_cons_zero, List.getElem_cons_succ, List.setIfInBounds_toArray, List.set_cons_zero, List.set_cons_succ]
  refine wpAnyH_take (i := 5) (v := ?_) rfl (by kernel_rfl) (by kernel_rfl) (by kernel_rfl) (fun _ _ _ h => h) (Or.inl ⟨by rfl, ?rf5⟩) hHeld ?_
  case rf5 =>
    intro wS hSw
    have k0 := hSw.1
    have k1 := hSw.2
    clear hSw
    go_simp
    try with_reducible rfl
  try simp only [Act.put, List.getElem_toArray, List.getElem_cons_zero, List.getElem_cons_succ, List.setIfInBounds_toArray, List.set_cons_zero, List.set_cons_succ]
  refine wpAnyH_take (i := 6) (v := ?_) rfl (by kernel_rfl) (by kernel_rfl) (by kernel_rfl) (fun _ _ _ h => h) (Or.inl ⟨by rfl, ?rf6⟩) hHeld ?_
  case rf6 =>
    intro wS hSw
    have k0 := hSw.1
    have k1 := hSw.2
    clear hSw
    go_simp
    try with_reducible rfl
  try simp only [Act.put, List.getElem_toArray, List.getElem_cons_zero, List.getElem_cons_succ, List.setIfInBounds_toArray, List.set_cons_zero, List.set_cons_succ]
  refine wpAnyH_take (i := 7) (v := ?_) rfl (by kernel_rfl) (by kernel_rfl) (by kernel_rfl) (fun _ _ _ h => h) (Or.inl ⟨by rfl, ?rf7⟩) hHeld ?_
  case rf7 =>
    intro wS hSw
    have k0 := hSw.1
    have k1 := hSw.2
    clear hSw
    go_simp
    try with_reducible rfl
  try simp only [Act.put, List.getElem_toArray, List.getElem_cons_zero, List.getElem_cons_succ, List.setIfInBounds_toArray, List.set_cons_zero, List.set_cons_succ]
  refine wpAnyH_ready (rs := [8]) (by kernel_rfl) (by simp) ?_
  refine AllReadyH.cons rfl (fun K hK => ?_) AllReadyH.nil
  go_simp
  rw [show IntKind.u64.wrap (n8 : Int) = (n8 : Int) from W8.out]
  refine (HPF.out w4.drew).mono ?_
  rintro ex w5 ⟨rfl, hb5⟩
  have HW5 : Hid (Below w3.heap.size w3 w5) := Lib.hid ((HW4.out.drew).trans (hb5.mono HW4.out.size))
  have hz5 : w5.heap[w3.heap.size]? = some (.cells (Lib.byteCells Z).toArray 5) := (hb5.block _ (lt_of_heap (show w4.drew.heap[w3.heap.size]? = _ from HZ4.out))).trans HZ4.out
  have hs5 : w5.cell? ⟨q, 9, none⟩ = some (.int .u64 (n : Int)) ∧ (convert 114 9 (.slice (some ⟨w3.heap.size, 0, none⟩) g g)).run Tryz.prog w5 = .ok (.string ⟨Z.toArray⟩) w5 :=
    ⟨cell_of_heap ((HW5.out.block q (lt_of_heap HQ3.out)).trans HQ3.out), bc_conv (HZl.out.symm) hz5⟩
  clear hb5 hz5 HPF
  go_wp2_with fail
  refine hK.out _ _ hs5 (fun hHeld2 => ?_)
  clear hK K hHeld hs5
  have hHeld := hHeld2
  clear hHeld2
  try simp only [Act.put, List.getElem_toArray, List.getElem_cons_zero, List.getElem_cons_succ, List.setIfInBounds_toArray, List.set_cons_zero, List.set_cons_succ]
  refine wpAnyH_take (i := 9) (v := ?_) rfl (by kernel_rfl) (by kernel_rfl) (by kernel_rfl) (fun _ _ _ h => h) (Or.inl ⟨by rfl, ?rf9⟩) hHeld ?_
  case rf9 =>
    intro wS hSw
    have k0 := hSw.1
    have k1 := hSw.2
    clear hSw
    go_simp
    try with_reducible rfl
  try simp only [Act.put, List.getElem_toArray, List.getElem_cons_zero, List.getElem_cons_succ, List.setIfInBounds_toArray, List.set_cons_zero, List.set_cons_succ]
  refine wpAnyH_take (i := 10) (v := ?_) rfl (by kernel_rfl) (by kernel_rfl) (by kernel_rfl) (fun _ _ _ h => h) (Or.inl ⟨by rfl, ?rf10⟩) hHeld ?_
  case rf10 =>
    intro wS hSw
    have k0 := hSw.1
    have k1 := hSw.2
    clear hSw
    go_simp
    try with_reducible rfl
  try simp only [Act.put, List.getElem_toArray, List.getElem_cons_zero, List.getElem_cons_succ, List.setIfInBounds_toArray, List.set_cons_zero, List.set_cons_succ]
  refine wpAnyH_take (i := 11) (v := ?_) rfl (by kernel_rfl) (by kernel_rfl) (by kernel_rfl) (fun _ _ _ h => h) (Or.inl ⟨by rfl, ?rf11⟩) hHeld ?_
  case rf11 =>
    intro wS hSw
    have k0 := hSw.1
    have k1 := hSw.2
    clear hSw
    go_simp
    try with_reducible rfl
  try simp only [Act.put, List.getElem_toArray, List.getElem_cons_zero, List.getElem_cons_succ, List.setIfInBounds_toArray, List.set_cons_zero, List.set_cons_succ]
  refine wpAnyH_take (i := 12) (v := ?_) rfl (by kernel_rfl) (by kernel_rfl) (by kernel_rfl) (fun _ _ _ h => h) (Or.inl ⟨by rfl, ?rf12⟩) hHeld ?_
  case rf12 =>
    intro wS hSw
    have k0 := hSw.1
    have k1 := hSw.2
    clear hSw
    go_simp
    try with_reducible rfl
  try simp only [Act.put, List.getElem_toArray, List.getElem_cons_zero, List.getElem_cons_succ, List.setIfInBounds_toArray, List.set_cons_zero, List.set_cons_succ]
  refine wpAnyH_take (i := 13) (v := ?_) rfl (by kernel_rfl) (by kernel_rfl) (by kernel_rfl) (fun _ _ _ h => h) (Or.inl ⟨by rfl, ?rf13⟩) hHeld ?_
  case rf13 =>
    intro wS hSw
    have k0 := hSw.1
    have k1 := hSw.2
    clear hSw
    go_simp
    try with_reducible rfl
  try simp only [Act.put, List.getElem_toArray, List.getElem_cons_zero, List.getElem_cons_succ, List.setIfInBounds_toArray, List.set_cons_zero, List.set_cons_succ]
  refine wpAnyH_done (by kernel_rfl) ?_ _
  try simp only [Act.put, List.getElem_toArray, List.getElem_cons_zero, List.getElem_cons_succ, List.setIfInBounds_toArray, List.set_cons_zero, List.set_cons_succ]
  clear hHeld
  have hl5 : b < w5.heap.size := by have := HW5.out.size; omega
  have HA5 : Hid (w5.heap[a]? = some (.cells zeroI IdT')) := Lib.hid ((HW5.out.block a (by omega)).trans HA3.out)
  have HE5 : Hid (StateAt w5 b h t n) := Lib.hid ((HW5.out.block b (by omega)).trans HE3.out)
  have HB5 : Hid (Below w.heap.size w w5) := Lib.hid (HB3.out.trans (HW5.out.mono HB3.out.size))
  obtain ⟨D, hD⟩ : ∃ D, D = 128 :: (Z ++ be8 n8) := ⟨_, rfl⟩
  have hDl : D.length = g + 9 := by rw [hD, List.length_cons, List.length_append, HZl.out, be8_length]
  obtain ⟨V, hV⟩ : ∃ V, V = run h (t ++ D) := ⟨_, rfl⟩
  have HVI : Hid V.In := Lib.hid (by rw [hV]; exact run_in hh _ _ (Nat.le_refl _))
  have HWR := Lib.hid (write_any w5 b h t D n (by omega) (by omega) HE5.out)
  rw [← hV] at HWR
  have HVD : Hid (run h (t ++ 128 :: (List.replicate ((119 - t.length) % 64) 0 ++ be8 (8 * n))) = V) := Lib.hid (by rw [hV, hD, HZ.out, Hg.out, HN8.out])
  rw [← hD]
  clear hD hV hDl HW4 HZ4 e8 hcat hcl
  unfold ptr at HWR
  go_wp2_with fail
  refine HWR.out.mono ?_
  rintro ex w6 ⟨rfl, hs6, ht6⟩
  have hl6 : b < w6.heap.size := lt_of_heap hs6
  have HA6 : Hid (w6.heap[a]? = some (.cells zeroI IdT')) := Lib.hid ((ht6.block a (lt_of_heap HA5.out) (by simp; omega)).trans HA5.out)
  have HB6 : Hid (Below w.heap.size w w6) := Lib.hid (HB5.out.trans (ht6.below (by intro x hx; simp at hx; omega) HB5.out.size))
  have HV6 : Hid (∀ j, j < 8 → w6.cell? ⟨b, j, none⟩ = some (wdV (V.list.getD j 0))) := Lib.hid (by
    intro j hj
    rw [cell_of_heap hs6]
    match j, hj with
    | 0, _ => rfl
    | 1, _ => rfl
    | 2, _ => rfl
    | 3, _ => rfl
    | 4, _ => rfl
    | 5, _ => rfl
    | 6, _ => rfl
    | 7, _ => rfl)
  clear hs6 ht6 HWR HA5 HB5 HE5 HW5 HE3 HQ3 HA3 HB3
  obtain ⟨f, hf⟩ : ∃ f, f = w6.heap.size := ⟨_, rfl⟩
  have hbf : b < f := by omega
  have HI0 : Hid ((w6.alloc (.cells zeroI IdT')).heap[f]? = some (.cells (Lib.byteCells (LB V 0)).toArray IdT') ∧ (∀ j, j < 8 → (w6.alloc (.cells zeroI IdT')).cell? ⟨b, j, none⟩ = some (wdV (V.list.getD j 0))) ∧ Turn [f] w6 (w6.alloc (.cells zeroI IdT'))) := Lib.hid
    ⟨by rw [hf]; exact at_new _ _, fun j hj => by rw [World.cell?_of_block (Below.heap_alloc _ _ _ (show b < w6.heap.size by omega))]; exact HV6.out j hj, Turn.of_below ((Below.refl _ _).alloc (Nat.le_refl _) _)⟩
  go_wp2
  rw [← hf]
  have Hf := Lib.hid hf
  clear hf
  go_loopw [38] (fun v38 wr => ∃ i : Nat, i ≤ 32 ∧ v38 = .int .i64 (i : Int) ∧ Hid (wr.heap[f]? = some (.cells (Lib.byteCells (LB V i)).toArray IdT') ∧ (∀ j, j < 8 → wr.cell? ⟨b, j, none⟩ = some (wdV (V.list.getD j 0))) ∧ Turn [f] w6 wr)) (fun v38 _ => 32 - (RowKit.intOf v38).toNat)
  case atStart => exact ⟨0, by omega, rfl, HI0⟩
  case round =>
    obtain ⟨i, hi, rfl, HR⟩ := hrel
    by_cases hlt6 : (i : Int) < 32
    · have hil : i < 32 := by omega
      obtain ⟨p, hp⟩ : ∃ p : Nat, p = i / 4 := ⟨_, rfl⟩
      obtain ⟨r, hr⟩ : ∃ r : Nat, r = 24 - 8 * (i % 4) := ⟨_, rfl⟩
      obtain ⟨u, hu⟩ : ∃ u : Nat, u = i % 4 := ⟨_, rfl⟩
      have p8 : (p : Int) < 8 := by omega
      have p0 : (0 : Int) ≤ (p : Int) := by omega
      have eq1 : (i : Int) / 4 = (p : Int) := by omega
      have eq0 : bits .and .i64 (i : Int) 3 = (u : Int) := by
        have := bits_mask .i64 63 (by decide) (fun n h0 h1 => by rw [IntKind.wrap_i64]; omega) 2 (by decide) (i : Int) (by omega) (by omega)
        rw [show ((2 : Int) ^ 2 - 1) = 3 from rfl] at this
        rw [this]; omega
      have eq2 : 24 - 8 * (u : Int) = (r : Int) := by omega
      have u4 : (u : Int) < 4 := by omega
      have u0 : (0 : Int) ≤ (u : Int) := by omega
      have r32 : r < 32 := by omega
      obtain ⟨x, hx⟩ : ∃ x, x = V.list.getD p 0 := ⟨_, rfl⟩
      have ca : wr.cell? ⟨b, p, none⟩ = some (wdV x) := by rw [HR.out.2.1 p (by omega), hx]
      have cf : wr.cell? ⟨f, i, none⟩ = some (.int .u8 ((if i < i then byteOf V i else 0 : UInt8).toNat : Int)) := by rw [cell_of_heap HR.out.1, bc_get (LB_get _ _ _ hil)]
      have ff : wr.frozen? ⟨f, i, none⟩ = false := frozen_of_heap HR.out.1
      obtain ⟨y, hy⟩ : ∃ y, y = byteOf V i := ⟨_, rfl⟩
      have eX : x / 2 ^ r % 256 = (y.toNat : Int) := by rw [hr, hy]; exact shr_u8 V i x (by rw [hx, hp]) (by rw [hx]; exact HVI.out.get _)
      have HN6 : Hid ((wr.setCell ⟨f, i, none⟩ (.int .u8 (y.toNat : Int))).heap[f]? = some (.cells (Lib.byteCells (LB V (i + 1))).toArray IdT') ∧ (∀ j, j < 8 → (wr.setCell ⟨f, i, none⟩ (.int .u8 (y.toNat : Int))).cell? ⟨b, j, none⟩ = some (wdV (V.list.getD j 0))) ∧ Turn [f] w6 (wr.setCell ⟨f, i, none⟩ (.int .u8 (y.toNat : Int)))) := Lib.hid
        ⟨by rw [setCell_heap _ _ _ _ _ _ HR.out.1, bc_set, ← LB_step V i hil, hy], fun j hj => by rw [World.cell?_of_block (Below.heap_setCell _ _ _ _ (show b ≠ f by omega))]; exact HR.out.2.1 j hj, HR.out.2.2.setCell (.inl (by simp)) _⟩
      clear hp hr hx hy HR hu
      go_wp2
      go_roundw
      case rel => exact ⟨i + 1, by omega, by go_num, HN6⟩
      case measure => simp [RowKit.intOf]; omega
    · obtain rfl : i = 32 := by omega
      obtain ⟨l, hl⟩ : ∃ l, l = bytesOf V := ⟨_, rfl⟩
      have HF2 : Hid (wr.heap[f]? = some (.cells (Lib.byteCells l).toArray IdT') ∧ Turn [f] w6 wr) := Lib.hid ⟨by rw [hl, ← LB_end]; exact HR.out.1, HR.out.2.2⟩
      have HA7 : Hid (wr.heap[a]? = some (.cells zeroI IdT')) := Lib.hid ((HR.out.2.2.block a (by omega) (by simp; omega)).trans HA6.out)
      have hl32 : l.length = 32 := by rw [hl]; simp [bytesOf]
      have HSUM : Hid (bytesOf V = l) := Lib.hid hl.symm
      have HL32 := Lib.hid hl32
      have HZ32 : Hid (zeroI.size = (Lib.byteCells l).toArray.size) := Lib.hid (by
        have e : (Lib.byteCells l).toArray.size = 32 := by rw [List.size_toArray, Lib.byteCells_length, hl32]
        exact e.symm)
      clear HR hl hl32
      go_wp2_with (first
        | (refine wpList_load_at HF2.out.1 rfl IdT' (.tmp 8) rfl rfl _ Tryz.underlying42 rfl (infoId HL32.out) ?_)
        | (refine wpList_store_at HA7.out rfl IdT' (.tmp 2) (.tmp 55) rfl (Lib.byteCells l).toArray rfl rfl (infoId HL32.out) HZ32.out (oneId l) ?_
           intro w7 hq7 ht7 hs7
           have HQ7 := Lib.hid hq7; have HT7 := Lib.hid ht7
           clear hq7 ht7 hs7))
      rw [HVD.out, HSUM.out]
      have hld := run_loadVar_row (P := Tryz.prog) w7 a _ IdT' (Lib.byteCells l).toArray _ _ HQ7.out Tryz.underlying42 rfl (infoId HL32.out)
      refine bodyPost_ret (v := .tuple #[.agg (Lib.byteCells l).toArray, .int .i64 0]) ?_ rfl ⟨rfl, ?_⟩
      · rw [results_cell_tmp (fn := Tryz.f149) rfl]
        show ((asAddr (.pointer (some ⟨a, 0, none⟩))).run Tryz.prog _).andThen _ = _
        simp only [asAddr, Sem.run_pure, Result.andThen_ok, hld]
        rfl
      · exact (HB6.out.trans (HF2.out.2.below (by intro x hx; simp at hx; rw [hx, Hf.out]; exact HB6.out.size) HB6.out.size)).trans (HT7.out.below (by intro x hx; simp at hx; omega) (by have := HB6.out.size; have := HF2.out.2.size; omega))
end Go.Proofs.YthcjjekkjbidlaaGreatDoor.Sh
