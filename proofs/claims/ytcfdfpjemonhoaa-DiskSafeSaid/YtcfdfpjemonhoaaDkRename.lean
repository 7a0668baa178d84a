/-
  The contracts of the disk's Rename and Remove.
-/
import Derived.Test.YtcfdfpjemonhoaaDkFiles
namespace Go.Proofs.Ytcfdfpjemonhoaa.Dk
open Go.RowKit Go.Maps Go.WideMaps

theorem OpPost.from {B : Nat} {Y Y1 : Lay} {w w1 : World} {X : List Nat} {v : Value} {D' : Dk} {e : Ending} {w' : World} (h : OpPost B Y1 w1 v D' e w') (ht : Turn X w w1) (hX : ∀ x ∈ X, x ∈ Y.blocks ∨ w.heap.size ≤ x)
    (hY : ∀ b ∈ Y1.blocks, b ∈ Y.blocks ∨ w.heap.size ≤ b) (hg : Y1.g = Y.g) : OpPost B Y w v D' e w' := by
  obtain ⟨Y', rfl, h1, h2, h3, h4⟩ := h
  refine ⟨Y', rfl, h1, ?_, ?_, h4.trans hg⟩
  · have t1 : Turn Y.blocks w w1 := ⟨ht.os, ht.tape, ht.output, ht.size, fun k hk hx => ht.block k hk (fun hm => (hX k hm).elim hx (by omega))⟩
    exact t1.trans h2 hY
  · intro b hb
    rcases h3 b hb with k | k
    · exact hY b k
    · exact .inr (Nat.le_trans ht.size k)
theorem OpPost.val {B : Nat} {Y : Lay} {w w' : World} {v v' : Value} {D' : Dk} {e : Ending} (h : OpPost B Y w v D' e w') : OpPost B Y w v' D' (.returned v') w' := by
  obtain ⟨Y', _, h1, h2, h3, h4⟩ := h
  exact ⟨Y', rfl, h1, h2, h3, h4⟩

theorem Turn.kept {X : List Nat} {w w' : World} (h : Turn X w w') {q : Nat} {o : Obj} (hq : w.heap[q]? = some o) (hx : q ∉ X) : w'.heap[q]? = some o := (h.block q (lt_of_heap hq) hx).trans hq

theorem count_more (D : Dk) : (count D).2.calls ≤ D.calls + 1 ∧ (count D).2.left ≤ D.left := by
  unfold count
  split
  · exact ⟨by dsimp only; omega, Nat.le_refl _⟩
  · dsimp only; split
    · exact ⟨Nat.le_refl _, by dsimp only; omega⟩
    · exact ⟨Nat.le_refl _, by dsimp only; omega⟩
theorem ok_count {D : Dk} (ok : Ok D) (hc : D.calls < 1000000) : Ok (count D).2 := by
  obtain ⟨q1, q2, q3, q4, q5, q6⟩ := count_now D
  obtain ⟨q7, q8⟩ := count_more D
  refine ⟨by rw [q1, q2]; exact ok.now, by rw [q2, q5]; exact ok.safe, by rw [q2, q6]; exact ok.chs, by omega, Nat.le_trans q8 ok.left, by rw [q2]; exact ok.nfiles, by rw [q6]; exact ok.nchs, by rw [q1]; exact ok.nnow, by rw [q2]; exact ok.lens, by rw [q3]; exact ok.quota, by rw [q1, q2, q4]; exact ok.used⟩
theorem openF_count (D : Dk) (k : List UInt8) : (openF D k).2 = (count D).2 := by
  unfold openF
  obtain ⟨⟨r, D'⟩, hcd⟩ : ∃ x, x = count D := ⟨_, rfl⟩
  rw [← hcd]
  dsimp only
  split
  · rfl
  · split <;> rfl
theorem ok_openF {D : Dk} {k : List UInt8} (ok : Ok D) (hc : D.calls < 1000000) : Ok (openF D k).2 := by rw [openF_count]; exact ok_count ok hc

theorem size_toList (S : ByteArray) : S.data.toList.length = S.size := by rw [← Lib.size_eq]

set_option maxHeartbeats 4000000 in
set_option maxRecDepth 100000 in
theorem remove_any (B : Nat) (w : World) (Y : Lay) (D : Dk) (S : ByteArray) (hS : S.size ≤ maxLen) (h : DiskAt B w Y D) (ok : Ok D) (hc : D.calls < 1000000) :
    Calls Try.prog 11 #[ptr Y.g, .string S] w (OpPost B Y w (.int .i64 (remove D S.data.toList).1) (remove D S.data.toList).2) := by
  have hb0 : Below w.heap.size w (w.alloc (.cells #[.string S] 9)) := (Below.refl _ _).alloc (Nat.le_refl _) _
  have h0 := h.below hb0
  have O := Lib.hid (open_any B _ Y D S hS h0 ok)
  have OK := Lib.hid (ok_openF (k := S.data.toList) ok hc)
  have hq0 : (w.alloc (.cells #[.string S] 9)).heap[w.heap.size]? = some (.cells #[.string S] 9) := (MapKept.heap_alloc w _).1
  have hgl : Y.g < w.heap.size := lt_of_heap h.disk
  have hsz0 : (w.alloc (.cells #[.string S] 9)).heap.size = w.heap.size + 1 := by show (w.heap.push _).size = _; simp
  have HB0 := Lib.hid hb0; have HLT := Lib.hid h.lt; have HQ0 := Lib.hid hq0; have HSZ := Lib.hid hsz0
  rcases openF_cases D S.data.toList ok.now with ⟨er, D', e1, hne, hfs⟩ | ⟨n, D', e1, hn, hfs⟩
  · have e2 : remove D S.data.toList = (er, D') := by unfold remove; rw [e1]
    rw [e2]
    rw [e1] at O
    have hri : (er == 0) = false := by simpa using hne
    clear e1 e2 hne ok h OK hq0 hb0 h0 hsz0
    unfold ptr
    go_enter Try.func11, Try.ntmps11
    go_wp2_with fail
    refine O.out.mono ?_
    rintro e w1 ⟨kc', rfl, h1, ht⟩
    have H1 := Lib.hid h1; have HT := Lib.hid ht
    clear h1 ht O
    go_wp2
    go_ret
    exact (opPost_same (Y := Y) _ H1.out HT.out (by simp [mem_g]) rfl rfl).from (X := []) (Turn.of_below (X := []) HB0.out) (by simp) (fun b hb => .inl hb) rfl
  · have e2 : remove D S.data.toList = (0, turn D' (.del S.data.toList)) := by unfold remove; rw [e1]
    rw [e2]
    rw [e1] at O OK
    clear e1 e2 ok h hq0 hb0 h0 hsz0 hfs
    unfold ptr
    go_enter Try.func11, Try.ntmps11
    go_wp2_with fail
    refine O.out.mono ?_
    rintro e w1 ⟨kc', rfl, h1, ht⟩
    have hq1 := ht.kept HQ0.out (by simp; omega)
    have hcl : ClosAt w1 ({ Y with kc := kc' } : Lay).blocks (.func (.func 36) #[] #[ptr w.heap.size]) (.del S.data.toList) :=
      ⟨w.heap.size, rfl, by rw [back_string]; exact hq1, fun hm => by have := HLT.out _ hm; omega⟩
    have TU := Lib.hid (turn_any B w1 { Y with kc := kc' } D' h1 OK.out _ _ hcl ⟨trivial, by show _ ≤ _; rw [size_toList]; exact hS⟩)
    have HT := Lib.hid ht
    clear h1 ht O hcl hq1
    go_wp2_with (go_at_call 32; refine TU.out.mono ?_; rintro e w2 ⟨Y2, rfl, h2, ht2, hb2, hg2⟩; have H2 := Lib.hid h2; have HT2 := Lib.hid ht2; have HB2 := Lib.hid hb2; have HG2 := Lib.hid hg2; clear h2 ht2 hb2 hg2)
    go_ret
    have P2 : OpPost B { Y with kc := kc' } w1 (.int .i64 0) (turn D' (.del S.data.toList)) (.returned (.int .i64 0)) w2 := ⟨Y2, rfl, H2.out, HT2.out, HB2.out, HG2.out⟩
    exact P2.from (X := Y.blocks) ((Turn.of_below (X := Y.blocks) HB0.out).trans HT.out (by intro y hy; simp at hy; subst hy; exact .inl (mem_g Y))) (fun x hx => .inl hx) (fun b hb => .inl hb) rfl

set_option maxHeartbeats 4000000 in
set_option maxRecDepth 100000 in
theorem rename_any (B : Nat) (w : World) (Y : Lay) (D : Dk) (S T : ByteArray) (hS : S.size ≤ maxLen) (hT : T.size ≤ maxLen) (h : DiskAt B w Y D) (ok : Ok D) (hc : D.calls < 1000000) :
    Calls Try.prog 10 #[ptr Y.g, .string S, .string T] w (OpPost B Y w (.int .i64 (rename D S.data.toList T.data.toList).1) (rename D S.data.toList T.data.toList).2) := by
  have hb0 : Below w.heap.size w ((w.alloc (.cells #[.string S] 9)).alloc (.cells #[.string T] 9)) := ((Below.refl _ _).alloc (Nat.le_refl _) _).alloc (by show _ ≤ (w.heap.push _).size; simp) _
  have h0 := h.below hb0
  have O := Lib.hid (open_any B _ Y D S hS h0 ok)
  have OK := Lib.hid (ok_openF (k := S.data.toList) ok hc)
  have hsz0 : (w.alloc (.cells #[.string S] 9)).heap.size = w.heap.size + 1 := by show (w.heap.push _).size = _; simp
  have hq0 : ((w.alloc (.cells #[.string S] 9)).alloc (.cells #[.string T] 9)).heap[w.heap.size]? = some (.cells #[.string S] 9) :=
    (Below.heap_alloc _ _ _ (by rw [hsz0]; omega)).trans (MapKept.heap_alloc w _).1
  have hr0 : ((w.alloc (.cells #[.string S] 9)).alloc (.cells #[.string T] 9)).heap[w.heap.size + 1]? = some (.cells #[.string T] 9) := by
    have := (MapKept.heap_alloc (w.alloc (.cells #[.string S] 9)) (.cells #[.string T] 9)).1
    rwa [hsz0] at this
  have hgl : Y.g < w.heap.size := lt_of_heap h.disk
  have HB0 := Lib.hid hb0; have HLT := Lib.hid h.lt; have HQ0 := Lib.hid hq0; have HSZ := Lib.hid hsz0; have HR0 := Lib.hid hr0
  rcases openF_cases D S.data.toList ok.now with ⟨er, D', e1, hne, hfs⟩ | ⟨n, D', e1, hn, hfs⟩
  · have e2 : rename D S.data.toList T.data.toList = (er, D') := by unfold rename; rw [e1]
    rw [e2]
    rw [e1] at O
    have hri : (er == 0) = false := by simpa using hne
    clear e1 e2 hne ok h OK hq0 hb0 h0 hsz0 hr0
    unfold ptr
    go_enter Try.func10, Try.ntmps10
    go_wp2_with fail
    refine O.out.mono ?_
    rintro e w1 ⟨kc', rfl, h1, ht⟩
    have H1 := Lib.hid h1; have HT := Lib.hid ht
    clear h1 ht O
    go_wp2
    go_ret
    exact (opPost_same (Y := Y) _ H1.out HT.out (by simp [mem_g]) rfl rfl).from (X := []) (Turn.of_below (X := []) HB0.out) (by simp) (fun b hb => .inl hb) rfl
  · obtain ⟨R, hR⟩ : ∃ R, R = rename D S.data.toList T.data.toList := ⟨_, rfl⟩
    have e2 : R = if !label T.data.toList then (10, D') else if S.data.toList = T.data.toList then (0, D') else (0, turn D' (.ren S.data.toList T.data.toList)) := by rw [hR]; unfold rename; rw [e1]
    rw [← hR]
    rw [e1] at O OK
    have E2 := Lib.hid e2
    clear e1 e2 hR ok h hq0 hb0 h0 hsz0 hr0 hfs
    unfold ptr
    go_enter Try.func10, Try.ntmps10
    go_wp2_with fail
    refine O.out.mono ?_
    rintro e w1 ⟨kc', rfl, h1, ht⟩
    have hq1 := ht.kept HQ0.out (by simp; omega)
    have hr1 := ht.kept HR0.out (by simp; omega)
    have c1 : w1.cell? ⟨w.heap.size, 0, none⟩ = some (.string S) := cell_of_heap hq1
    have c2 : w1.cell? ⟨w.heap.size + 1, 0, none⟩ = some (.string T) := cell_of_heap hr1
    have LB := Lib.hid (label_any w1 T hT)
    have HT := Lib.hid ht; have H1 := Lib.hid h1; have HQ1 := Lib.hid hq1; have HR1 := Lib.hid hr1
    clear h1 ht O hq1 hr1
    cases hl : label T.data.toList with
    | false =>
      have ER : Hid (R = (10, D')) := Lib.hid (by rw [E2.out, hl]; rfl)
      rw [hl] at LB
      clear E2 hl c1
      go_wp2_with (go_at_call 31; refine LB.out.mono ?_; rintro e w2 ⟨rfl, hb2⟩; have HB2 := Lib.hid hb2; clear hb2)
      go_ret
      rw [ER.out]
      exact (opPost_same (Y := Y) _ (H1.out.below HB2.out) (HT.out.trans (Turn.of_below (X := []) HB2.out) (by simp)) (by simp [mem_g]) rfl rfl).from (X := []) (Turn.of_below (X := []) HB0.out) (by simp) (fun b hb => .inl hb) rfl
    | true =>
      rw [hl] at LB
      by_cases hST : S.data.toList = T.data.toList
      · have ER : Hid (R = (0, D')) := Lib.hid (by rw [E2.out, hl, if_neg (by simp), if_pos hST])
        have hST' : S = T := by rw [← back_string S, hST, back_string]
        subst hST'
        clear E2 hl
        go_wp2_with (go_at_call 31; refine LB.out.mono ?_; rintro e w2 ⟨rfl, hb2⟩; have c1' : w2.cell? ⟨w.heap.size, 0, none⟩ = some (.string S) := cell_of_heap ((hb2.block _ (lt_of_heap HQ1.out)).trans HQ1.out); have c2' : w2.cell? ⟨w.heap.size + 1, 0, none⟩ = some (.string S) := cell_of_heap ((hb2.block _ (lt_of_heap HR1.out)).trans HR1.out); have HB2 := Lib.hid hb2; clear hb2)
        go_ret
        rw [ER.out]
        exact (opPost_same (Y := Y) _ (H1.out.below HB2.out) (HT.out.trans (Turn.of_below (X := []) HB2.out) (by simp)) (by simp [mem_g]) rfl rfl).from (X := []) (Turn.of_below (X := []) HB0.out) (by simp) (fun b hb => .inl hb) rfl
      · have ER : Hid (R = (0, turn D' (.ren S.data.toList T.data.toList))) := Lib.hid (by rw [E2.out, hl, if_neg (by simp), if_neg hST])
        have hST2 : (S.toList == T.toList) = false := by rw [Lib.toList_data, Lib.toList_data]; simpa using hST
        have hST3 : ¬ S.toList = T.toList := by simpa using hST2
        clear E2 hl hST
        go_wp2_with (first
          | (go_at_call 31; refine LB.out.mono ?_; rintro e w2 ⟨rfl, hb2⟩; have c1' : w2.cell? ⟨w.heap.size, 0, none⟩ = some (.string S) := cell_of_heap ((hb2.block _ (lt_of_heap HQ1.out)).trans HQ1.out); have c2' : w2.cell? ⟨w.heap.size + 1, 0, none⟩ = some (.string T) := cell_of_heap ((hb2.block _ (lt_of_heap HR1.out)).trans HR1.out); have HB2 := Lib.hid hb2; clear hb2)
          | (go_at_call 32; refine (turn_any B w2 { Y with kc := kc' } D' (H1.out.below HB2.out) OK.out (.ren S.data.toList T.data.toList) _ ⟨w.heap.size, w.heap.size + 1, rfl, by rw [back_string]; exact (HB2.out.block _ (lt_of_heap HQ1.out)).trans HQ1.out, by rw [back_string]; exact (HB2.out.block _ (lt_of_heap HR1.out)).trans HR1.out, fun hm => by have := HLT.out _ hm; omega, fun hm => by have := HLT.out _ hm; omega⟩ ⟨Nat.lt_of_le_of_lt (Nat.zero_le _) hn, by rw [size_toList]; exact hS, by rw [size_toList]; exact hT⟩).mono ?_; rintro e w3 ⟨Y2, rfl, h2, ht2, hb3, hg2⟩; have H2 := Lib.hid h2; have HT2 := Lib.hid ht2; have HB3 := Lib.hid hb3; have HG2 := Lib.hid hg2; clear h2 ht2 hb3 hg2))
        go_ret
        rw [ER.out]
        have P2 : OpPost B { Y with kc := kc' } w2 (.int .i64 0) (turn D' (.ren S.data.toList T.data.toList)) (.returned (.int .i64 0)) w3 := ⟨Y2, rfl, H2.out, HT2.out, HB3.out, HG2.out⟩
        exact P2.from (X := Y.blocks) (((Turn.of_below (X := Y.blocks) HB0.out).trans HT.out (by intro y hy; simp at hy; subst hy; exact .inl (mem_g Y))).trans (Turn.of_below (X := []) HB2.out) (by simp)) (fun x hx => .inl hx) (fun b hb => .inl hb) rfl
end Go.Proofs.Ytcfdfpjemonhoaa.Dk
