import Derived.Test.YtkeegnhjemhblaaGreatDoorZPDeB0
set_option linter.unusedSimpArgs false
set_option linter.unusedVariables false
/-
  The contract of the program's Decode, at any bytes. Printed by gendeb0.py.
-/
set_option linter.unusedSimpArgs false
namespace Go.Proofs.YtkeegnhjemhblaaGreatDoor.Rb
open Go.RowKit Go.Maps Go.WideMaps Go.Proofs.YtkeegnhjemhblaaGreatDoor.Rf

theorem unP_le (s : List UInt8) : (Rd.unP s).length ≤ s.length := by
  unfold Rd.unP Rd.unfr
  split
  · next p h =>
    split at h
    · cases h
    · split at h
      · cases h
      · split at h
        · cases h
        · split at h
          · injection h with h; subst h; simp only [List.length_take, List.length_drop]; omega
          · cases h
  · exact Nat.zero_le _
theorem dec_true {S : List UInt8} (h : Rd.unC S = 0 ∧ Rd.unR S = []) : decP S = endP (if okN true (Rd.unP S) 64 = true then goB fP (Rd.shN (Rd.unP S)) (Rd.shR (Rd.unP S)) [] [] else none) := by
  rw [decP]
  by_cases hk : okN true (Rd.unP S) 64 = true
  · have h2 := hk
    rw [okN] at h2
    simp at h2
    rw [if_pos ⟨h.1, h.2, h2.1, h2.2⟩, if_pos hk]
  · rw [if_neg hk, if_neg]; · rfl
    rintro ⟨_, _, h3, h4⟩
    exact hk (by rw [okN, h3]; simp [h4])
theorem dec_false {S : List UInt8} (h : ¬ (Rd.unC S = 0 ∧ Rd.unR S = [])) : decP S = endP (if okN false (Rd.unP S) 64 = true then goB fP (Rd.shN (Rd.unP S)) (Rd.shR (Rd.unP S)) [] [] else none) := by
  rw [decP, if_neg (fun hh => h ⟨hh.1, hh.2.1⟩), if_neg (by simp [okN])]; rfl
def DecPost (w : World) (o : Option BK) (e : Ending) (w' : World) : Prop :=
  Below w.heap.size w w' ∧ match o with
  | some K => ∃ g b Z, e = .returned (.tuple #[ptr g, .int .i64 0]) ∧ BookAt noSp w.heap.size w' g b Z ∧ plainB Z = K ∧ OkB K
  | none => e = .returned (.tuple #[.pointer none, .int .i64 4])
set_option maxHeartbeats 40000000 in
set_option maxRecDepth 100000 in
theorem pdecode_any (w : World) (S : List UInt8) (hS : S.length ≤ 140737488355328) :
    Calls Tryz.prog 7 #[.string ⟨S.toArray⟩] w (DecPost w (decP S)) := by
  have UF := Lib.hid (Rd.unframe_any w S hS)
  have HPL : Hid ((Rd.unP S).length ≤ 140737488355328) := Lib.hid (Nat.le_trans (unP_le S) hS)
  have HUU : Hid (Rd.unC S = 0 ∨ Rd.unC S = 4) := Lib.hid (by
    unfold Rd.unC
    split
    · exact .inl rfl
    · exact .inr rfl)
  clear hS
  go_enter Tryz.func7, Tryz.ntmps7
  go_wp2_with fail
  refine UF.out.mono ?_
  rintro e w1 ⟨rfl, hb1⟩
  have HB1 := Lib.hid hb1
  have RN := Lib.hid (Rd.reader_new w1 (Rd.unP S))
  clear hb1 UF
  go_wp2_with fail
  refine RN.out.mono ?_
  rintro e w2 ⟨rfl, hw2⟩
  have hw2s : w2.heap.size = w1.heap.size + 1 := by rw [hw2, one_size]
  have hr2 : Rd.ReaderAt w2 w1.heap.size (Rd.unP S) := by rw [hw2]; exact (MapKept.heap_alloc w1 _).1
  have hb2 : Below w.heap.size w w2 := by rw [hw2]; exact HB1.out.alloc HB1.out.size _
  have HR2 := Lib.hid hr2; have HB2 := Lib.hid hb2; have HW2 := Lib.hid hw2s
  obtain ⟨q, hq⟩ : ∃ q, q = w1.heap.size := ⟨_, rfl⟩
  have HQ : Hid (w.heap.size ≤ q) := Lib.hid (by rw [hq]; exact HB1.out.size)
  rw [← hq] at HR2 HW2 ⊢
  clear hr2 hb2 hw2 hw2s RN hq HB1
  obtain ⟨uc, huc⟩ : ∃ uc, uc = Rd.unC S := ⟨_, rfl⟩
  obtain ⟨ur, hur⟩ : ∃ ur, ur = Rd.unR S := ⟨_, rfl⟩
  rw [← huc, ← hur]
  have HUC0 := Lib.hid huc; have HUR0 := Lib.hid hur
  clear huc hur
  unfold ptr at *
  by_cases h0 : uc = 0
  · subst h0
    by_cases hr : ur = []
    · subst hr
      have HUC : Hid (Rd.unC S = 0 ∧ Rd.unR S = []) := Lib.hid ⟨HUC0.out.symm, HUR0.out.symm⟩
      have NW := Lib.hid (new_any ((w2.alloc (.cells #[.pointer (some ⟨q, 0, none⟩)] 71)).alloc (.cells #[.bool true] 4)))
      go_wp2_with fail
      rw [HW2.out]
      obtain ⟨W3, hW3⟩ : ∃ W3, W3 = (w2.alloc (.cells #[.pointer (some ⟨q, 0, none⟩)] 71)).alloc (.cells #[.bool true] 4) := ⟨_, rfl⟩
      have hs3 : W3.heap.size = q + 3 := by rw [hW3, one_size, one_size, HW2.out]
      have hrv : W3.heap[q + 1]? = some (.cells #[ptr q] 71) := by
        rw [hW3]; exact (Below.heap_alloc _ _ _ (by rw [one_size, HW2.out]; omega)).trans (by rw [← HW2.out]; exact (MapKept.heap_alloc w2 _).1)
      have hov : W3.heap[q + 2]? = some (.cells #[.bool true] 4) := by
        have := (MapKept.heap_alloc (w2.alloc (.cells #[.pointer (some ⟨q, 0, none⟩)] 71)) (.cells #[.bool true] 4)).1
        rw [one_size, HW2.out] at this
        rw [hW3]; exact this
      have hb3 : Below (q + 1) w2 W3 := by rw [hW3]; exact ((Below.refl _ _).alloc (Nat.le_of_eq HW2.out.symm) _).alloc (by rw [one_size, HW2.out]; omega) _
      rw [← hW3] at NW ⊢
      clear hW3
      refine NW.out.mono ?_
      rintro e w4 ⟨gt, bt, rfl, ht4, hb4⟩
      rw [hs3] at ht4 hb4
      have st4 : DcSt w q gt bt w4 true (Rd.unP S) [] [] := ⟨(hb4.block _ (by omega)).trans ((hb3.block _ (by omega)).trans HR2.out), (hb4.block _ (by omega)).trans hrv, (hb4.block _ (by omega)).trans hov, ht4,
        (HB2.out.trans (hb3.mono (by have := HQ.out; omega))).trans (hb4.mono (by have := HQ.out; omega)), HQ.out, rfl, okb_nil, HPL.out⟩
      have N1 := Lib.hid (number_any w w4 q gt bt true (Rd.unP S) [] [] 64 (by decide) st4)
      clear NW ht4 hb4 hb3 hov hrv hs3 st4 HR2 HB2 HW2
      unfold ptr at *
      go_wp2_with fail
      refine N1.out.mono ?_
      rintro e w5 ⟨rfl, st5⟩
      have ST5 := Lib.hid st5
      clear N1 st5
      obtain ⟨T, hT⟩ : ∃ T, T = if okN true (Rd.unP S) 64 = true then goB fP (Rd.shN (Rd.unP S)) (Rd.shR (Rd.unP S)) [] [] else none := ⟨_, rfl⟩
      have HD : Hid (decP S = endP T) := Lib.hid (by rw [hT]; exact dec_true HUC.out)
      have HT5 : Hid ((okN true (Rd.unP S) 64 = true → goB fP (Rd.shN (Rd.unP S)) (Rd.shR (Rd.unP S)) [] [] = T) ∧ (okN true (Rd.unP S) 64 = false → T = none)) := Lib.hid ⟨(fun h => by rw [hT, if_pos h]), (fun h => by rw [hT, if_neg (by rw [h]; decide)])⟩
      have HSN := Lib.hid (Rd.shN_lt (Rd.unP S))
      clear hT
      go_upto_block 0 with (fail)
      refine de_b0 (T := T) (l0 := []) _ _ _ _ _ _ _ _ _ _ _ _ _ _ _ _ _ _ _ _ _ _ _ _ _ _ _ _ _ _ _ _ _ _ _ _ _ _ _ _ _ _ _ _ _ _ _ _ _ _ _ _ _ _ _ _ _ _ _ _ _ _ _ _ _ _ _ _ _ _ _ _ _ _ _ _ _ _ _ _ _ _ _ _ _ _ _ _ _ _ _ _ _ _ _ _ _ _ _ _ (by intro c a a_ w hd h; have h2 : a.defers = [] ∧ _ := h; exact And.intro (hd.symm.trans h2.1) h2.2) HSN.out (by decide) ST5 HT5 ?_
      intro t11 t12 t13 t14 t15 t16 t17 t18 t37 t38 t39 t40 t41 t42 t43 t44 t45 t46 t47 t48 t49 t50 t51 t52 t53 t54 t55 t56 t57 t58 t59 t60 t61 t62 t63 t64 t65 t66 t67 t68 t69 t70 t71 t72 t73 t74 t75 t76 t77 t78 t79 t80 t81 t82 t83 t84 t85 t86 t87 t88 t89 t90 t91 t92 t93 t94 t95 t96 t97 wz hz
      obtain ⟨oz, Lz, Zz, Kz, hsz, hz1, hz2⟩ := hz
      have HSZ := Lib.hid hsz
      have c8 : wz.cell? ⟨q + 1 + 1, 0, none⟩ = some (.bool oz) := cell_of_heap hsz.ov
      have c7 : wz.cell? ⟨q + 1, 0, none⟩ = some (.pointer (some ⟨q, 0, none⟩)) := cell_of_heap hsz.rv
      have EN := Lib.hid (Rd.end_any wz q Lz hsz.rd)
      cases oz with
      | false =>
        have HN : Hid (decP S = none) := Lib.hid (by rw [HD.out, hz2 rfl]; rfl)
        clear hsz hz1 hz2
        go_wp2
        go_ret2
        refine ⟨HSZ.out.be, ?_⟩
        rw [HN.out]
        exact rfl
      | true =>
        have HT6 := Lib.hid (hz1 rfl)
        clear hsz hz1 hz2
        unfold ptr at *
        go_wp2_with fail
        refine EN.out.mono ?_
        rintro e w13 ⟨rfl, rfl⟩
        by_cases hL : Lz = []
        · subst hL
          have HN : Hid (decP S = some Kz) := Lib.hid (by rw [HD.out, HT6.out]; rfl)
          rw [if_pos rfl]
          go_wp2
          go_ret2
          refine ⟨HSZ.out.be, ?_⟩
          rw [HN.out]
          exact ⟨gt, bt, Zz, rfl, HSZ.out.bk.mono (by have := HSZ.out.le; omega), HSZ.out.pl, HSZ.out.kk⟩
        · have HN : Hid (decP S = none) := Lib.hid (by
            rw [HD.out, HT6.out]
            cases Lz with
            | nil => exact absurd rfl hL
            | cons y r => rfl)
          rw [if_neg hL]
          clear hL
          go_wp2
          go_ret2
          refine ⟨HSZ.out.be, ?_⟩
          rw [HN.out]
          exact rfl
    · have HUC : Hid (¬ (Rd.unC S = 0 ∧ Rd.unR S = [])) := Lib.hid (fun h => hr (HUR0.out.trans h.2))
      have hre : ur.isEmpty = false := by cases ur with
        | nil => exact absurd rfl hr
        | cons y r => rfl
      clear hr
      have NW := Lib.hid (new_any ((w2.alloc (.cells #[.pointer (some ⟨q, 0, none⟩)] 71)).alloc (.cells #[.bool false] 4)))
      go_wp2_with fail
      rw [HW2.out]
      obtain ⟨W3, hW3⟩ : ∃ W3, W3 = (w2.alloc (.cells #[.pointer (some ⟨q, 0, none⟩)] 71)).alloc (.cells #[.bool false] 4) := ⟨_, rfl⟩
      have hs3 : W3.heap.size = q + 3 := by rw [hW3, one_size, one_size, HW2.out]
      have hrv : W3.heap[q + 1]? = some (.cells #[ptr q] 71) := by
        rw [hW3]; exact (Below.heap_alloc _ _ _ (by rw [one_size, HW2.out]; omega)).trans (by rw [← HW2.out]; exact (MapKept.heap_alloc w2 _).1)
      have hov : W3.heap[q + 2]? = some (.cells #[.bool false] 4) := by
        have := (MapKept.heap_alloc (w2.alloc (.cells #[.pointer (some ⟨q, 0, none⟩)] 71)) (.cells #[.bool false] 4)).1
        rw [one_size, HW2.out] at this
        rw [hW3]; exact this
      have hb3 : Below (q + 1) w2 W3 := by rw [hW3]; exact ((Below.refl _ _).alloc (Nat.le_of_eq HW2.out.symm) _).alloc (by rw [one_size, HW2.out]; omega) _
      rw [← hW3] at NW ⊢
      clear hW3
      refine NW.out.mono ?_
      rintro e w4 ⟨gt, bt, rfl, ht4, hb4⟩
      rw [hs3] at ht4 hb4
      have st4 : DcSt w q gt bt w4 false (Rd.unP S) [] [] := ⟨(hb4.block _ (by omega)).trans ((hb3.block _ (by omega)).trans HR2.out), (hb4.block _ (by omega)).trans hrv, (hb4.block _ (by omega)).trans hov, ht4,
        (HB2.out.trans (hb3.mono (by have := HQ.out; omega))).trans (hb4.mono (by have := HQ.out; omega)), HQ.out, rfl, okb_nil, HPL.out⟩
      have N1 := Lib.hid (number_any w w4 q gt bt false (Rd.unP S) [] [] 64 (by decide) st4)
      clear NW ht4 hb4 hb3 hov hrv hs3 st4 HR2 HB2 HW2
      unfold ptr at *
      go_wp2_with fail
      refine N1.out.mono ?_
      rintro e w5 ⟨rfl, st5⟩
      have ST5 := Lib.hid st5
      clear N1 st5
      obtain ⟨T, hT⟩ : ∃ T, T = if okN false (Rd.unP S) 64 = true then goB fP (Rd.shN (Rd.unP S)) (Rd.shR (Rd.unP S)) [] [] else none := ⟨_, rfl⟩
      have HD : Hid (decP S = endP T) := Lib.hid (by rw [hT]; exact dec_false HUC.out)
      have HT5 : Hid ((okN false (Rd.unP S) 64 = true → goB fP (Rd.shN (Rd.unP S)) (Rd.shR (Rd.unP S)) [] [] = T) ∧ (okN false (Rd.unP S) 64 = false → T = none)) := Lib.hid ⟨(fun h => by rw [hT, if_pos h]), (fun h => by rw [hT, if_neg (by rw [h]; decide)])⟩
      have HSN := Lib.hid (Rd.shN_lt (Rd.unP S))
      clear hT
      go_upto_block 0 with (fail)
      refine de_b0 (T := T) (l0 := []) _ _ _ _ _ _ _ _ _ _ _ _ _ _ _ _ _ _ _ _ _ _ _ _ _ _ _ _ _ _ _ _ _ _ _ _ _ _ _ _ _ _ _ _ _ _ _ _ _ _ _ _ _ _ _ _ _ _ _ _ _ _ _ _ _ _ _ _ _ _ _ _ _ _ _ _ _ _ _ _ _ _ _ _ _ _ _ _ _ _ _ _ _ _ _ _ _ _ _ _ (by intro c a a_ w hd h; have h2 : a.defers = [] ∧ _ := h; exact And.intro (hd.symm.trans h2.1) h2.2) HSN.out (by decide) ST5 HT5 ?_
      intro t11 t12 t13 t14 t15 t16 t17 t18 t37 t38 t39 t40 t41 t42 t43 t44 t45 t46 t47 t48 t49 t50 t51 t52 t53 t54 t55 t56 t57 t58 t59 t60 t61 t62 t63 t64 t65 t66 t67 t68 t69 t70 t71 t72 t73 t74 t75 t76 t77 t78 t79 t80 t81 t82 t83 t84 t85 t86 t87 t88 t89 t90 t91 t92 t93 t94 t95 t96 t97 wz hz
      obtain ⟨oz, Lz, Zz, Kz, hsz, hz1, hz2⟩ := hz
      have HSZ := Lib.hid hsz
      have c8 : wz.cell? ⟨q + 1 + 1, 0, none⟩ = some (.bool oz) := cell_of_heap hsz.ov
      have c7 : wz.cell? ⟨q + 1, 0, none⟩ = some (.pointer (some ⟨q, 0, none⟩)) := cell_of_heap hsz.rv
      have EN := Lib.hid (Rd.end_any wz q Lz hsz.rd)
      cases oz with
      | false =>
        have HN : Hid (decP S = none) := Lib.hid (by rw [HD.out, hz2 rfl]; rfl)
        clear hsz hz1 hz2
        go_wp2
        go_ret2
        refine ⟨HSZ.out.be, ?_⟩
        rw [HN.out]
        exact rfl
      | true =>
        have HT6 := Lib.hid (hz1 rfl)
        clear hsz hz1 hz2
        unfold ptr at *
        go_wp2_with fail
        refine EN.out.mono ?_
        rintro e w13 ⟨rfl, rfl⟩
        by_cases hL : Lz = []
        · subst hL
          have HN : Hid (decP S = some Kz) := Lib.hid (by rw [HD.out, HT6.out]; rfl)
          rw [if_pos rfl]
          go_wp2
          go_ret2
          refine ⟨HSZ.out.be, ?_⟩
          rw [HN.out]
          exact ⟨gt, bt, Zz, rfl, HSZ.out.bk.mono (by have := HSZ.out.le; omega), HSZ.out.pl, HSZ.out.kk⟩
        · have HN : Hid (decP S = none) := Lib.hid (by
            rw [HD.out, HT6.out]
            cases Lz with
            | nil => exact absurd rfl hL
            | cons y r => rfl)
          rw [if_neg hL]
          clear hL
          go_wp2
          go_ret2
          refine ⟨HSZ.out.be, ?_⟩
          rw [HN.out]
          exact rfl
  · have HUC : Hid (¬ (Rd.unC S = 0 ∧ Rd.unR S = [])) := Lib.hid (fun h => h0 (HUC0.out.trans h.1))
    have h4 : uc = 4 := by
      rcases HUU.out with h | h
      · exact absurd (HUC0.out.trans h) h0
      · exact HUC0.out.trans h
    subst h4
    clear h0
    have NW := Lib.hid (new_any ((w2.alloc (.cells #[.pointer (some ⟨q, 0, none⟩)] 71)).alloc (.cells #[.bool false] 4)))
    go_wp2_with fail
    rw [HW2.out]
    obtain ⟨W3, hW3⟩ : ∃ W3, W3 = (w2.alloc (.cells #[.pointer (some ⟨q, 0, none⟩)] 71)).alloc (.cells #[.bool false] 4) := ⟨_, rfl⟩
    have hs3 : W3.heap.size = q + 3 := by rw [hW3, one_size, one_size, HW2.out]
    have hrv : W3.heap[q + 1]? = some (.cells #[ptr q] 71) := by
      rw [hW3]; exact (Below.heap_alloc _ _ _ (by rw [one_size, HW2.out]; omega)).trans (by rw [← HW2.out]; exact (MapKept.heap_alloc w2 _).1)
    have hov : W3.heap[q + 2]? = some (.cells #[.bool false] 4) := by
      have := (MapKept.heap_alloc (w2.alloc (.cells #[.pointer (some ⟨q, 0, none⟩)] 71)) (.cells #[.bool false] 4)).1
      rw [one_size, HW2.out] at this
      rw [hW3]; exact this
    have hb3 : Below (q + 1) w2 W3 := by rw [hW3]; exact ((Below.refl _ _).alloc (Nat.le_of_eq HW2.out.symm) _).alloc (by rw [one_size, HW2.out]; omega) _
    rw [← hW3] at NW ⊢
    clear hW3
    refine NW.out.mono ?_
    rintro e w4 ⟨gt, bt, rfl, ht4, hb4⟩
    rw [hs3] at ht4 hb4
    have st4 : DcSt w q gt bt w4 false (Rd.unP S) [] [] := ⟨(hb4.block _ (by omega)).trans ((hb3.block _ (by omega)).trans HR2.out), (hb4.block _ (by omega)).trans hrv, (hb4.block _ (by omega)).trans hov, ht4,
      (HB2.out.trans (hb3.mono (by have := HQ.out; omega))).trans (hb4.mono (by have := HQ.out; omega)), HQ.out, rfl, okb_nil, HPL.out⟩
    have N1 := Lib.hid (number_any w w4 q gt bt false (Rd.unP S) [] [] 64 (by decide) st4)
    clear NW ht4 hb4 hb3 hov hrv hs3 st4 HR2 HB2 HW2
    unfold ptr at *
    go_wp2_with fail
    refine N1.out.mono ?_
    rintro e w5 ⟨rfl, st5⟩
    have ST5 := Lib.hid st5
    clear N1 st5
    obtain ⟨T, hT⟩ : ∃ T, T = if okN false (Rd.unP S) 64 = true then goB fP (Rd.shN (Rd.unP S)) (Rd.shR (Rd.unP S)) [] [] else none := ⟨_, rfl⟩
    have HD : Hid (decP S = endP T) := Lib.hid (by rw [hT]; exact dec_false HUC.out)
    have HT5 : Hid ((okN false (Rd.unP S) 64 = true → goB fP (Rd.shN (Rd.unP S)) (Rd.shR (Rd.unP S)) [] [] = T) ∧ (okN false (Rd.unP S) 64 = false → T = none)) := Lib.hid ⟨(fun h => by rw [hT, if_pos h]), (fun h => by rw [hT, if_neg (by rw [h]; decide)])⟩
    have HSN := Lib.hid (Rd.shN_lt (Rd.unP S))
    clear hT
    go_upto_block 0 with (fail)
    refine de_b0 (T := T) (l0 := []) _ _ _ _ _ _ _ _ _ _ _ _ _ _ _ _ _ _ _ _ _ _ _ _ _ _ _ _ _ _ _ _ _ _ _ _ _ _ _ _ _ _ _ _ _ _ _ _ _ _ _ _ _ _ _ _ _ _ _ _ _ _ _ _ _ _ _ _ _ _ _ _ _ _ _ _ _ _ _ _ _ _ _ _ _ _ _ _ _ _ _ _ _ _ _ _ _ _ _ _ (by intro c a a_ w hd h; have h2 : a.defers = [] ∧ _ := h; exact And.intro (hd.symm.trans h2.1) h2.2) HSN.out (by decide) ST5 HT5 ?_
    intro t11 t12 t13 t14 t15 t16 t17 t18 t37 t38 t39 t40 t41 t42 t43 t44 t45 t46 t47 t48 t49 t50 t51 t52 t53 t54 t55 t56 t57 t58 t59 t60 t61 t62 t63 t64 t65 t66 t67 t68 t69 t70 t71 t72 t73 t74 t75 t76 t77 t78 t79 t80 t81 t82 t83 t84 t85 t86 t87 t88 t89 t90 t91 t92 t93 t94 t95 t96 t97 wz hz
    obtain ⟨oz, Lz, Zz, Kz, hsz, hz1, hz2⟩ := hz
    have HSZ := Lib.hid hsz
    have c8 : wz.cell? ⟨q + 1 + 1, 0, none⟩ = some (.bool oz) := cell_of_heap hsz.ov
    have c7 : wz.cell? ⟨q + 1, 0, none⟩ = some (.pointer (some ⟨q, 0, none⟩)) := cell_of_heap hsz.rv
    have EN := Lib.hid (Rd.end_any wz q Lz hsz.rd)
    cases oz with
    | false =>
      have HN : Hid (decP S = none) := Lib.hid (by rw [HD.out, hz2 rfl]; rfl)
      clear hsz hz1 hz2
      go_wp2
      go_ret2
      refine ⟨HSZ.out.be, ?_⟩
      rw [HN.out]
      exact rfl
    | true =>
      have HT6 := Lib.hid (hz1 rfl)
      clear hsz hz1 hz2
      unfold ptr at *
      go_wp2_with fail
      refine EN.out.mono ?_
      rintro e w13 ⟨rfl, rfl⟩
      by_cases hL : Lz = []
      · subst hL
        have HN : Hid (decP S = some Kz) := Lib.hid (by rw [HD.out, HT6.out]; rfl)
        rw [if_pos rfl]
        go_wp2
        go_ret2
        refine ⟨HSZ.out.be, ?_⟩
        rw [HN.out]
        exact ⟨gt, bt, Zz, rfl, HSZ.out.bk.mono (by have := HSZ.out.le; omega), HSZ.out.pl, HSZ.out.kk⟩
      · have HN : Hid (decP S = none) := Lib.hid (by
          rw [HD.out, HT6.out]
          cases Lz with
          | nil => exact absurd rfl hL
          | cons y r => rfl)
        rw [if_neg hL]
        clear hL
        go_wp2
        go_ret2
        refine ⟨HSZ.out.be, ?_⟩
        rw [HN.out]
        exact rfl
end Go.Proofs.YtkeegnhjemhblaaGreatDoor.Rb
