/-
  The contract of the disk's Create.
-/
import Derived.Test.YtcfdfpjemonhoaaDkRename
namespace Go.Proofs.Ytcfdfpjemonhoaa.Dk
open Go.RowKit Go.Maps Go.WideMaps

theorem one_size (w : World) (A : Obj) : (w.alloc A).heap.size = w.heap.size + 1 := by show (w.heap.push _).size = _; simp
theorem three_size (w : World) (A F G : Obj) : (((w.alloc A).alloc F).alloc G).heap.size = w.heap.size + 3 := by rw [one_size, one_size, one_size]
theorem three_first (w : World) (A F G : Obj) : (((w.alloc A).alloc F).alloc G).heap[w.heap.size]? = some A := by
  rw [Below.heap_alloc _ _ _ (by rw [one_size, one_size]; omega), Below.heap_alloc _ _ _ (by rw [one_size]; omega)]; exact (MapKept.heap_alloc w A).1
theorem three_second (w : World) (A F G : Obj) : (((w.alloc A).alloc F).alloc G).heap[w.heap.size + 1]? = some F := by
  rw [Below.heap_alloc _ _ _ (by rw [one_size, one_size]; omega), ← one_size w A]; exact (MapKept.heap_alloc _ F).1
theorem three_below (w : World) (A F G : Obj) : Below w.heap.size w (((w.alloc A).alloc F).alloc G) := (((Below.refl _ _).alloc (Nat.le_refl _) _).alloc (by rw [one_size]; omega) _).alloc (by rw [one_size, one_size]; omega) _
theorem cell_third (w : World) (A F : Obj) (x : Value) (t : TypeId) (j : Nat) (u : Value) (h : [x][j]? = some u) : (((w.alloc A).alloc F).alloc (.cells #[x] t)).cell? ((⟨w.heap.size + 2, 0, none⟩ : Addr).add j) = some u := by
  have := cell_one_new ((w.alloc A).alloc F) x t j u h
  rwa [one_size, one_size] at this

set_option maxHeartbeats 8000000 in
set_option maxRecDepth 100000 in
theorem create_any (B : Nat) (w : World) (Y : Lay) (D : Dk) (S : ByteArray) (hS : S.size ≤ maxLen) (h : DiskAt B w Y D) (ok : Ok D) (hc : D.calls < 1000000) (hn : D.files.length < 1000000) :
    Calls Try.prog 8 #[ptr Y.g, .string S] w (OpPost B Y w (.int .i64 (create D S.data.toList).1) (create D S.data.toList).2) := by
  have hb0 : Below w.heap.size w (w.alloc (.cells #[.string S] 9)) := (Below.refl _ _).alloc (Nat.le_refl _) _
  have h0 := h.below hb0
  have C := Lib.hid (count_any B _ Y D h0 ok.calls ok.left)
  have OK := Lib.hid (ok_count ok hc)
  obtain ⟨i0, hi, hz0, hz1, hz2⟩ := info_parts infoPFile
  obtain ⟨q1, q2, _⟩ := count_now D
  have hn' : (count D).2.files.length < 1000000 := by rw [q2]; exact hn
  have hq0 : (w.alloc (.cells #[.string S] 9)).heap[w.heap.size]? = some (.cells #[.string S] 9) := (MapKept.heap_alloc w _).1
  have hgl : Y.g < w.heap.size := lt_of_heap h.disk
  have hsz0 : (w.alloc (.cells #[.string S] 9)).heap.size = w.heap.size + 1 := by show (w.heap.push _).size = _; simp
  have HB0 := Lib.hid hb0; have HLT := Lib.hid h.lt; have HQ0 := Lib.hid hq0; have HSZ := Lib.hid hsz0
  obtain ⟨R, hR⟩ : ∃ R, R = create D S.data.toList := ⟨_, rfl⟩
  have e0 : R = (let (e, D) := count D; if e ≠ 0 then (e, D) else
    if !label S.data.toList then (10, D) else if (getM D.now S.data.toList).isSome then (7, D) else if 4096 ≤ D.now.length then (3, D) else
    (0, turn (moreF D) (.put S.data.toList D.files.length))) := hR
  rw [← hR]
  obtain ⟨⟨r, D'⟩, hcd⟩ : ∃ x, x = count D := ⟨_, rfl⟩
  rw [← hcd] at e0 C OK hn'
  dsimp only at e0 hn'
  have E0 := Lib.hid e0; have HN := Lib.hid hn'
  clear e0 hcd hR hn' hn q1 q2 hsz0 hq0 h0 hb0 h ok hc
  unfold ptr
  go_enter Try.func8, Try.ntmps8
  go_wp2_with fail
  refine C.out.mono ?_
  rintro e w1 ⟨kc', rfl, h1, ht⟩
  dsimp only at h1
  by_cases hr : r = 0
  · subst hr
    have c3 : w1.cell? ⟨Y.g, 3, none⟩ = some (.map (some Y.bn)) := h1.cell 3
    have hq1 := ht.kept HQ0.out (by simp; omega)
    have c1 : w1.cell? ⟨w.heap.size, 0, none⟩ = some (.string S) := cell_of_heap hq1
    have hlk := fun n => look_run (h1.drewN n).now S hS
    have E1 : Hid (R = if !label S.data.toList then (10, D') else if (getM D'.now S.data.toList).isSome then (7, D') else if 4096 ≤ D'.now.length then (3, D') else
      (0, turn (moreF D') (.put S.data.toList D'.files.length))) := Lib.hid (by rw [E0.out, if_neg (by simp)])
    have H1 := Lib.hid h1; have HT := Lib.hid ht; have HQ1 := Lib.hid hq1
    clear h1 ht hq1 C E0
    go_wp2
    go_quiet (fail)
    have H2 := Lib.hid (H1.out.drewN nq); have HT2 := Lib.hid (HT.out.drewN nq)
    have HQ2 : Hid ((w1.drewN nq).heap[w.heap.size]? = some (.cells #[.string S] 9)) := HQ1
    have c2 : (w1.drewN nq).cell? ⟨w.heap.size, 0, none⟩ = some (.string S) := c1
    clear c1 c3 hlk H1 HT HQ1
    generalize w1.drewN nq = w2 at H2 HT2 HQ2 c2 ⊢
    have LB := Lib.hid (label_any w2 S hS)
    cases hl : label S.data.toList with
    | false =>
      have ER : Hid (R = (10, D')) := Lib.hid (by rw [E1.out, hl]; rfl)
      rw [hl] at LB
      clear E1 hl
      go_wp2_with (go_at_call 31; refine LB.out.mono ?_; rintro e w3 ⟨rfl, hb3⟩; have HB3 := Lib.hid hb3; clear hb3)
      go_ret
      rw [ER.out]
      exact (opPost_same (Y := Y) _ (H2.out.below HB3.out) (HT2.out.trans (Turn.of_below (X := []) HB3.out) (by simp)) (by simp [mem_g]) rfl rfl).from (X := []) (Turn.of_below (X := []) HB0.out) (by simp) (fun b hb => .inl hb) rfl
    | true =>
      rw [hl] at LB
      cases hg : (getM D'.now S.data.toList).isSome with
      | true =>
        have ER : Hid (R = (7, D')) := Lib.hid (by rw [E1.out, hl, hg]; rfl)
        clear E1 hl hg
        go_wp2_with (go_at_call 31; refine LB.out.mono ?_; rintro e w3 ⟨rfl, hb3⟩; have HB3 := Lib.hid hb3; clear hb3)
        go_ret
        rw [ER.out]
        exact (opPost_same (Y := Y) _ (H2.out.below HB3.out) (HT2.out.trans (Turn.of_below (X := []) HB3.out) (by simp)) (by simp [mem_g]) rfl rfl).from (X := []) (Turn.of_below (X := []) HB0.out) (by simp) (fun b hb => .inl hb) rfl
      | false =>
        by_cases hf : 4096 ≤ D'.now.length
        · have ER : Hid (R = (3, D')) := Lib.hid (by rw [E1.out, hl, hg, if_neg (by simp), if_neg (by simp), if_pos hf])
          have hf' : (4096 : Int) ≤ (Maps.size (toD D'.now) : Int) := by rw [toD_size]; omega
          clear E1 hl hg
          go_wp2_with (first
            | (go_at_call 31; refine LB.out.mono ?_; rintro e w3 ⟨rfl, hb3⟩; have h3 := H2.out.below hb3; have c3 : w3.cell? ⟨Y.g, 3, none⟩ = some (.map (some Y.bn)) := h3.cell 3; have HB3 := Lib.hid hb3; have H3 := Lib.hid h3; clear hb3 h3)
            | (at_len; refine wpList_len_own _ rfl _ 59 rfl 9 3 Try.underlying59 _ Y.bn 1000000 _ rfl H3.out.now ?_))
          go_ret
          rw [ER.out]
          exact (opPost_same (Y := Y) _ H3.out (HT2.out.trans (Turn.of_below (X := []) HB3.out) (by simp)) (by simp [mem_g]) rfl rfl).from (X := []) (Turn.of_below (X := []) HB0.out) (by simp) (fun b hb => .inl hb) rfl
        · have ER : Hid (R = (0, turn (moreF D') (.put S.data.toList D'.files.length))) := Lib.hid (by rw [E1.out, hl, hg, if_neg (by simp), if_neg (by simp), if_neg hf])
          have hf' : ¬ (4096 : Int) ≤ (Maps.size (toD D'.now) : Int) := by rw [toD_size]; omega
          obtain ⟨va, vc, hvf⟩ := row_slice H2.out.files
          have HVF := Lib.hid hvf
          have hnf := HN.out
          clear E1 hl hg hvf
          go_wp2_with (first
            | (go_at_call 31; refine LB.out.mono ?_; rintro e w3 ⟨rfl, hb3⟩; have h3 := H2.out.below hb3; have c3 : w3.cell? ⟨Y.g, 3, none⟩ = some (.map (some Y.bn)) := h3.cell 3; have d2 : w3.cell? ⟨Y.g, 2, none⟩ = some Y.vf := h3.cell 2; rw [HVF.out] at d2; have hgl3 : Y.g < w3.heap.size := lt_of_heap h3.disk; have HB3 := Lib.hid hb3; have H3 := Lib.hid h3; clear hb3 h3)
            | (at_len; refine wpList_len_own _ rfl _ 59 rfl 9 3 Try.underlying59 _ Y.bn 1000000 _ rfl H3.out.now ?_)
            | (at_builtin; refine wpList_append_own_at _ rfl _ _ 60 rfl B 68 i0 (.pointer none) 1 8 Try.underlying60 hi hz0 hz1 hz2 rfl (by decide) _ D'.files.length (Y.fs.map fun p => ptr p.1) HVF.out.symm (((H3.out.files.alloc _).alloc _).alloc _) ⟨w3.heap.size + 2, 0, none⟩ 1 1 [ptr (w3.heap.size + 1)] rfl rfl (cell_third w3 _ _ _ _) ?d2 ?d3 ?d4 ?d5 ?_))
          case d2 => intro u hu; simp at hu; subst hu; rfl
          case d3 => unfold maxLen; omega
          case d4 => omega
          case d5 => rw [three_size]; have := H3.out.base Y.g (mem_g _); omega
          intro v' w4 hown4 hg4 _ hloc
          obtain ⟨va', vc', rfl⟩ := row_slice hown4
          obtain ⟨v', hv'⟩ : ∃ v', v' = Value.slice va' (D'.files.length + 1) vc' := ⟨_, rfl⟩
          rw [← hv'] at hown4 hloc
          obtain ⟨W, hW⟩ : ∃ W, W = (((w3.alloc (.cells #[.int .i64 (D'.files.length : Int)] 3)).alloc (.cells #[.slice none 0 0, .int .i64 0] 71)).alloc (.cells #[ptr (w3.heap.size + 1)] 68)) := ⟨_, rfl⟩
          have hWs : W.heap.size = w3.heap.size + 3 := by rw [hW, three_size]
          have hW1 : W.heap[w3.heap.size]? = some (.cells #[.int .i64 (D'.files.length : Int)] 3) := by rw [hW]; exact three_first _ _ _ _
          have hW2 : W.heap[w3.heap.size + 1]? = some (.cells #[.slice none 0 0, .int .i64 0] 71) := by rw [hW]; exact three_second _ _ _ _
          have hW3 : Below w3.heap.size w3 W := by rw [hW]; exact three_below _ _ _ _
          rw [show (((w3.alloc (.cells #[.int .i64 (D'.files.length : Int)] 3)).alloc (.cells #[.slice none 0 0, .int .i64 0] 71)).alloc (.cells #[ptr (w3.heap.size + 1)] 68)) = W from hW.symm] at hg4
          have hs4 : w3.heap.size + 3 ≤ w4.heap.size := by have := hg4.size; omega
          have hgn : Y.g ∉ ob Y.vf := fun hm => H3.out.ne_g (Y := { Y with kc := kc' }) (mem_vf hm) rfl
          have hfl : ∀ b ∈ ob Y.vf, b < w3.heap.size := row_lt H3.out.files
          have hrow4 : ∀ b, b < w3.heap.size + 3 → b ∉ ob Y.vf → w4.heap[b]? = W.heap[b]? := fun b hb hnb => hg4.block b (by omega) (fun e => hnb (by rw [ob, ← e]; simp))
          have g4 : w4.heap[Y.g]? = some (.cells (cellsOf { Y with kc := kc' } D') 63) := (hrow4 Y.g (by omega) hgn).trans ((hW3.block _ hgl3).trans H3.out.disk)
          have f2 : w4.frozen? ⟨Y.g, 2, none⟩ = false := frozen_of_heap g4
          have e2 : w4.cell? ⟨Y.g, 2, none⟩ = some Y.vf := cell_of_heap g4
          have hne5 : ∀ b, b < w3.heap.size + 3 → b ∉ ob Y.vf → b ≠ Y.g → (w4.setCell ⟨Y.g, 2, none⟩ v').heap[b]? = W.heap[b]? := fun b hb hnb hne => (Below.heap_setCell _ _ _ _ hne).trans (hrow4 b hb hnb)
          have hloc' : ∀ b ∈ ob v', b ∈ ob Y.vf ∨ b = w3.heap.size + 3 := by
            intro b hm
            rcases hloc with k | k
            · left; rw [ob, ← k]; exact hm
            · right; rw [ob, k] at hm; simp at hm; omega
          have hnew := H3.out.filesAdd (w' := w4.setCell ⟨Y.g, 2, none⟩ v') v' (w3.heap.size + 1) (by simp [World.setCell]; omega) (fun b hb hnb hne => (hne5 b (by omega) hnb hne).trans (hW3.block b hb))
            (by rw [setCell_heap _ _ _ _ _ _ g4]; simp [cellsOf])
            (row_kept hown4 (fun b hm hb => Below.heap_setCell _ _ _ _ (by
              intro e; subst e
              rcases hloc' _ hm with k | k
              · exact hgn k
              · have k' : Y.g = w3.heap.size + 3 := k
                omega)))
            (fun b hm => (hloc' b hm).imp id (fun k => by omega)) (by omega)
            (fun hm => by
              rcases hloc' _ hm with k | k
              · have := hfl _ k; omega
              · omega)
            ((hne5 _ (by omega) (fun hm => by have := hfl _ hm; omega) (by omega)).trans hW2)
          have hq1 : (w4.setCell ⟨Y.g, 2, none⟩ v').heap[w3.heap.size]? = some (.cells #[.int .i64 (D'.files.length : Int)] 3) := (hne5 _ (by omega) (fun hm => by have := hfl _ hm; omega) (by omega)).trans hW1
          have hs2 := lt_of_heap HQ2.out
          have hs23 := HB3.out.size
          have hq2 : (w4.setCell ⟨Y.g, 2, none⟩ v').heap[w.heap.size]? = some (.cells #[.string S] 9) :=
            ((hne5 _ (by omega) (fun hm => by have := HLT.out _ (in_blocks (mem_vf hm)); omega) (by omega)).trans (hW3.block _ (by omega))).trans ((HB3.out.block _ hs2).trans HQ2.out)
          have hsub : ∀ b ∈ ({ Y with kc := kc', vf := v', fs := Y.fs ++ [(w3.heap.size + 1, .slice none 0 0)] } : Lay).blocks, b ∈ Y.blocks ∨ b = w3.heap.size + 1 ∨ b = w3.heap.size + 3 := by
            intro b hm
            simp only [Lay.blocks, Lay.rest, List.mem_cons, List.mem_append, List.flatMap_append] at hm ⊢
            rcases hm with h | h | h | h | h | h | h
            · exact .inl (.inl h)
            · exact .inl (.inr (.inl h))
            · exact .inl (.inr (.inr (.inl h)))
            · rcases hloc' b h with k | k
              · exact .inl (.inr (.inr (.inr (.inl k))))
              · exact .inr (.inr k)
            · exact .inl (.inr (.inr (.inr (.inr (.inl h)))))
            · exact .inl (.inr (.inr (.inr (.inr (.inr h)))))
            · simp [fb, ob, Value.ownBlock] at h; exact .inr (.inl h)
          have TU := Lib.hid (turn_any B _ _ _ hnew (ok_moreF OK.out HN.out) (.put S.data.toList D'.files.length) (.func (.func 33) #[] #[ptr w3.heap.size, ptr w.heap.size])
            ⟨w3.heap.size, w.heap.size, rfl, hq1, by rw [back_string]; exact hq2, (fun hm => by
              rcases hsub _ hm with k | k
              · have := HLT.out _ k; omega
              · omega), (fun hm => by
              rcases hsub _ hm with k | k
              · have := HLT.out _ k; omega
              · omega)⟩
            ⟨by show _ < (D'.files ++ [_]).length; simp, by show _ ≤ _; rw [size_toList]; exact hS⟩)
          have hturn : Turn Y.blocks w (w4.setCell ⟨Y.g, 2, none⟩ v') := by
            have t1 : Turn Y.blocks w w3 := ((Turn.of_below (X := Y.blocks) HB0.out).trans HT2.out (by intro y hy; simp at hy; subst hy; exact .inl (mem_g Y))).trans (Turn.of_below (X := []) HB3.out) (by simp)
            have t2 := t1.trans (Turn.of_below (X := []) hW3) (by simp)
            exact (t2.grown hg4 (fun k hk => .inl (in_blocks (mem_vf hk)))).setCell (.inl (mem_g Y)) _
          have hsz5 : w.heap.size ≤ w3.heap.size := by omega
          have HSUB := Lib.hid hsub; have HTURN := Lib.hid hturn
          rw [hv'] at TU HSUB HTURN
          clear hsub hturn hq1 hq2 hnew hloc' hloc hne5 g4 hrow4 hW1 hW2 hW3 hWs hg4 hown4 hv' c3 d2 hW LB c2
          go_wp2_with (go_at_call 32; refine TU.out.mono ?_; rintro e w6 ⟨Y2, rfl, h6, ht6, hb6, hg6⟩; have H6 := Lib.hid h6; have HT6 := Lib.hid ht6; have HB6 := Lib.hid hb6; have HG6 := Lib.hid hg6; clear h6 ht6 hb6 hg6)
          go_ret
          rw [ER.out]
          have P2 : OpPost B _ _ (.int .i64 0) (turn (moreF D') (.put S.data.toList D'.files.length)) (.returned (.int .i64 0)) w6 := ⟨Y2, rfl, H6.out, HT6.out, HB6.out, HG6.out⟩
          exact P2.from (X := Y.blocks) HTURN.out (fun x hx => .inl hx) (fun b hb => (HSUB.out b hb).imp id (fun k => by omega)) rfl
  · have hri : (r == 0) = false := by simpa using hr
    have ER : Hid (R = (r, D')) := Lib.hid (by rw [E0.out, if_pos hr])
    have H1 := Lib.hid h1; have HT := Lib.hid ht
    clear h1 ht C hr
    go_wp2
    go_ret
    rw [ER.out]
    exact (opPost_same (Y := Y) _ H1.out HT.out (by simp [mem_g]) rfl rfl).from (X := []) (Turn.of_below (X := []) HB0.out) (by simp) (fun b hb => .inl hb) rfl
end Go.Proofs.Ytcfdfpjemonhoaa.Dk
