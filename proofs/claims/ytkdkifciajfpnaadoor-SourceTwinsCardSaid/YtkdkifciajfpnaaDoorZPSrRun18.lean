import Derived.Test.YtkdkifciajfpnaaDoorZPSrIn18
import Derived.Test.YtkdkifciajfpnaaDoorZPSrLink
import Derived.Test.YtkdkifciajfpnaaDoorZPSrHapp
set_option linter.unusedSimpArgs false
set_option linter.unusedVariables false
/-
  The contract of munimentlaw18's run: one call of ten kinds.
-/
namespace Go.Proofs.YtkdkifciajfpnaaDoor.Sr
open Go.RowKit Go.Maps Go.WideMaps Go.Proofs.YtkdkifciajfpnaaDoor.Rf Go.Proofs.YtkdkifciajfpnaaDoor.Nm Go.Proofs.YtkdkifciajfpnaaDoor.St

/-- A step, as it lies. -/
structure Stp where
  kind : Int
  who : Int
  path : List UInt8
  more : List UInt8
  A : XA
  v : Value
def Stp.cells (x : Stp) : List Value := .int .i64 x.kind :: .int .i64 x.who :: .string ⟨x.path.toArray⟩ :: .string ⟨x.more.toArray⟩ :: x.A.cells x.v
structure Stp.Fits (w : World) (x : Stp) : Prop where
  path : x.path.length ≤ 140737488351232
  more : x.more.length ≤ 140737488351232
  target : x.A.target.length ≤ 140737488351232
  xs : XsAt w x.v x.A.xs
  xl : x.A.xs.length * 32 ≤ 140737488351232
def runE (x : Stp) (T : Tr) : Int :=
  if x.kind = 0 then addE x.path [] (asFold x.A) T
  else if x.kind = 1 then addE x.path x.more (asFile x.A) T
  else if x.kind = 2 then addE x.path [] (asLink x.more x.A) T
  else if x.kind = 3 then writeE x.path x.more T
  else if x.kind = 4 then attrE x.path x.A T
  else if x.kind = 5 then xattrE x.path x.A.target x.more T
  else if x.kind = 6 then clearE x.path x.A.target T
  else if x.kind = 7 then moveE x.path x.more T
  else if x.kind = 8 then dropE x.path T
  else if x.kind = 9 then readE x.path T.L
  else 0
def AddIs (p d : List UInt8) (A : XA) (T T' : Tr) : Prop :=
  ∃ n u, u ∈ T.L ∧ u.nm = (splitL p).dropLast ∧ n.nm = splitL p ∧ n.ino = T.most + 1 ∧ n.at_ = A ∧ n.data = d ∧ n.tick = 0 ∧ T' = { T with clock := T.clock + 1, most := T.most + 1, L := tickT [n.p, u.p] ((T.clock + 1 : Nat) : Int) (insT n T.L) }
def SetIs (p : List UInt8) (f : TE → XA) (T T' : Tr) : Prop :=
  ∃ n xv, getT (splitL p) T.L = some n ∧ T' = { T with clock := T.clock + 1, L := tickT [n.p] ((T.clock + 1 : Nat) : Int) (updT { n with at_ := f n, xv := xv } T.L) }
/-- What a step makes of a tree. -/
def RunIs (x : Stp) (T T' : Tr) : Prop :=
  if runE x T ≠ 0 then T' = T
  else if x.kind = 0 then AddIs x.path [] (asFold x.A) T T'
  else if x.kind = 1 then AddIs x.path x.more (asFile x.A) T T'
  else if x.kind = 2 then AddIs x.path [] (asLink x.more x.A) T T'
  else if x.kind = 3 then T' = writeT x.path x.more T
  else if x.kind = 4 then SetIs x.path (fun n => asOf x.A n) T T'
  else if x.kind = 5 then SetIs x.path (fun n => xattrA x.A.target x.more n.at_) T T'
  else if x.kind = 6 then SetIs x.path (fun n => clearA x.A.target n.at_) T T'
  else if x.kind = 7 then T' = moveTr x.path x.more T
  else if x.kind = 8 then T' = dropTr x.path T
  else if x.kind = 9 then T' = { T with reads := T.reads + 1 }
  else T' = T
def RunP (B : Nat) (w : World) (r : Nat) (T : Tr) (x : Stp) (e : Ending) (w' : World) : Prop :=
  e = .returned (.int .i64 (runE x T)) ∧ ∃ T', TreeAt B w' r T' ∧ Turn (r :: ownL T.L) w w' ∧ (∀ b ∈ ownL T'.L ++ xobL T'.L, b ∈ ownL T.L ++ xobL T.L ∨ w.heap.size ≤ b) ∧ ChT T { T' with reads := T.reads } ∧ RunIs x T T'
theorem infoStp (x : Stp) : (Tryd.prog.info? 28).map (·.size) = some x.cells.toArray.size := by show _ = some 11; kernel_rfl
set_option linter.unusedSimpArgs false in
set_option maxHeartbeats 16000000 in
set_option maxRecDepth 100000 in
theorem run18_any (B : Nat) (w : World) (r : Nat) (T : Tr) (x : Stp) (hF : x.Fits w) (n : Nat) (hn : n ≤ 1000) (hG : Good n T) (hrd : T.reads ≤ 1000) (hB : B ≤ w.heap.size) (h : TreeAt B w r T) :
    Calls Tryd.prog 6 #[ptr r, .agg x.cells.toArray] w (RunP B w r T x) := by
  obtain ⟨kind, who, path, more, A, v⟩ := x
  obtain ⟨W, hW⟩ : ∃ W, W = w.alloc (.cells (Stp.mk kind who path more A v).cells.toArray 28) := ⟨_, rfl⟩
  have hb0 : Below w.heap.size w W := by rw [hW]; exact (Below.refl _ _).alloc (Nat.le_refl _) _
  have hq0 : W.heap[w.heap.size]? = some (.cells (Stp.mk kind who path more A v).cells.toArray 28) := by rw [hW]; exact (MapKept.heap_alloc w _).1
  have HB0 := Lib.hid hb0; have HG := Lib.hid hG; have HW := Lib.hid hW; have HH := Lib.hid h; have HRD := Lib.hid hrd
  have hp : path.length ≤ 140737488351232 := hF.path
  have hm : more.length ≤ 140737488351232 := hF.more
  have ht : A.target.length ≤ 140737488351232 := hF.target
  have hxl : A.xs.length * 32 ≤ 140737488351232 := hF.xl
  have hmost : T.most < 18446744073709551615 := by have := hG.most; omega
  have hxs : XsAt W v A.xs := hF.xs.kept hb0.size (fun b hb => hb0.block b (hF.xs.lt b hb))
  have IN := Lib.hid (in18_any W A v hxs hxl)
  have HRG : Hid ((w.alloc (.cells (Stp.mk kind who path more A v).cells.toArray 28)).rangeAt w.heap.size 4 (A.cells v)) := Lib.hid (fun j u hj => by
    rw [← hW, cell_of_heap hq0, List.getElem?_toArray, Nat.add_comm 4 j]
    exact hj)
  have KX : Hid (∀ w', Below W.heap.size W w' → w'.cell? ⟨w.heap.size, 0, none⟩ = some (.int .i64 kind) ∧ w'.cell? ⟨w.heap.size, 2, none⟩ = some (.string ⟨path.toArray⟩) ∧ w'.cell? ⟨w.heap.size, 3, none⟩ = some (.string ⟨more.toArray⟩) ∧ w'.cell? ⟨w.heap.size, 9, none⟩ = some (.string ⟨A.target.toArray⟩)) := Lib.hid (fun w' hb => by
    have h0 := (hb.block _ (lt_of_heap hq0)).trans hq0
    exact ⟨cell_of_heap h0, cell_of_heap h0, cell_of_heap h0, cell_of_heap h0⟩)
  have HLT : Hid (∀ b ∈ r :: (ownL T.L ++ xobL T.L), b < w.heap.size) := Lib.hid h.lt
  have FIN : Hid (∀ (w2 w3 : World) (T' : Tr) (c : Int), Below W.heap.size W w2 → runE ⟨kind, who, path, more, A, v⟩ T = c → TreeAt B w3 r T' → Turn (r :: ownL T.L) w2 w3 → (∀ b ∈ ownL T'.L ++ xobL T'.L, b ∈ ownL T.L ++ xobL T.L ∨ w2.heap.size ≤ b) → ChT T { T' with reads := T.reads } → RunIs ⟨kind, who, path, more, A, v⟩ T T' → RunP B w r T ⟨kind, who, path, more, A, v⟩ (.returned (.int .i64 c)) w3) := Lib.hid (fun w2 w3 T' c hb he htr htu how hch hri => by
    have hb2 : Below w.heap.size w w2 := HB0.out.trans (hb.mono HB0.out.size)
    exact ⟨by rw [he], T', htr, (Turn.of_below hb2).trans htu (fun y hy => .inl hy), fun b hb' => (how b hb').imp id (fun h => Nat.le_trans hb2.size h), hch, hri⟩)
  have CAL : Hid (∀ (w2 w3 : World) (T' : Tr) (c : Int), Below W.heap.size W w2 → runE ⟨kind, who, path, more, A, v⟩ T = c → CallT B w2 r T w3 T' → RunIs ⟨kind, who, path, more, A, v⟩ T T' → RunP B w r T ⟨kind, who, path, more, A, v⟩ (.returned (.int .i64 c)) w3) := Lib.hid (fun w2 w3 T' c hb he hc hri => by
    refine FIN.out w2 w3 T' c hb he hc.tree hc.turn hc.own ?_ hri
    have h2 := hc.ch.reads
    have h3 : ({ T' with reads := T.reads } : Tr) = T' := by rw [← h2]
    rw [h3]; exact hc.ch)
  have HBW := Lib.hid (Nat.le_trans hB hb0.size)
  clear h hb0 hG hB hF hq0 hxs hrd hW
  unfold Stp.cells at HW HRG ⊢
  dsimp only at HW HRG ⊢
  unfold ptr at *
  by_cases e0 : kind = 0
  · subst e0
    go_enter Tryd.func6, Tryd.ntmps6
    go_wp2_with (first
      | (refine wpList_load_mid rfl _ _ rfl w.heap.size 4 rfl (A.cells v) _ HRG.out Tryd.underlying26 rfl (by show _ = some 7; kernel_rfl) ?_)
      | fail)
    rw [← HW.out]
    refine IN.out.mono ?_
    rintro ex w1 ⟨v1, rfl, hx1, hf1, hb1⟩
    have HX1 := Lib.hid hx1; have HF1 := Lib.hid hf1; have HB1 := Lib.hid hb1
    have ON := Lib.hid (atOne A (xs_one hx1))
    clear hx1 hf1 hb1 IN
    go_wp2_with (first
      | (refine wpList_store_new rfl rfl AtT (.tmp 5) (.tmp 9) rfl (A.cells v1).toArray rfl rfl (infoAt _ _) rfl ON.out ?_
         intro w2 hq2 hb2 hs2
         have HQ2 := Lib.hid hq2
         have HB2 := Lib.hid (HB1.out.trans (hb2.mono HB1.out.size))
         have HX2 := Lib.hid (HX1.out.kept hb2.size (fun b hb => hb2.block b (HX1.out.lt b hb)))
         obtain ⟨c0, c2, c3, c9⟩ := KX.out w2 HB2.out
         clear hq2 hb2 hs2)
      | (refine Sh.wpList_load_at (T := AtT) (cs := (A.cells v1).toArray) HQ2.out rfl AtT (.tmp 5) rfl rfl _ Tryd.underlying42 rfl (infoAt _ _) ?_)
      | fail)
    have TB := Lib.hid (HH.out.below (HB0.out.trans (HB2.out.mono HB0.out.size)))
    refine (folder_any B w2 r T path A v1 (by omega) HX2.out (fun b hb => by have h1 := HF1.out b hb; have h2 := HLT.out r (by simp); have h3 := HB0.out.size; omega) hmost TB.out).mono ?_
    rintro ex w3 ⟨W2, hbW, htW, hpost⟩
    obtain ⟨rfl, T', hct, hno, hyes⟩ := hpost.call TB.out hbW (.inl (by simp)) (splitL_16 path)
    have HRI : Hid (RunIs ⟨0, who, path, more, A, v⟩ T T') := Lib.hid (by
      show if addE path [] (asFold A) T ≠ 0 then T' = T else AddIs path [] (asFold A) T T'
      split
      · next h => exact hno h
      · next h => exact hyes (Classical.not_not.1 h))
    have HCT := Lib.hid hct
    clear hpost hct hbW htW hno hyes
    go_wp2
    go_ret
    exact CAL.out w2 _ T' _ HB2.out rfl HCT.out HRI.out
  have b0 : ((kind : Int) == 0) = false := by rw [beq_eq_false_iff_ne]; exact e0
  by_cases e1 : kind = 1
  · subst e1
    go_enter Tryd.func6, Tryd.ntmps6
    go_wp2_with (first
      | (refine wpList_load_mid rfl _ _ rfl w.heap.size 4 rfl (A.cells v) _ HRG.out Tryd.underlying26 rfl (by show _ = some 7; kernel_rfl) ?_)
      | fail)
    rw [← HW.out]
    refine IN.out.mono ?_
    rintro ex w1 ⟨v1, rfl, hx1, hf1, hb1⟩
    have HX1 := Lib.hid hx1; have HF1 := Lib.hid hf1; have HB1 := Lib.hid hb1
    have ON := Lib.hid (atOne A (xs_one hx1))
    clear hx1 hf1 hb1 IN
    go_wp2_with (first
      | (refine wpList_store_new rfl rfl AtT (.tmp 5) (.tmp 9) rfl (A.cells v1).toArray rfl rfl (infoAt _ _) rfl ON.out ?_
         intro w2 hq2 hb2 hs2
         have HQ2 := Lib.hid hq2
         have HB2 := Lib.hid (HB1.out.trans (hb2.mono HB1.out.size))
         have HX2 := Lib.hid (HX1.out.kept hb2.size (fun b hb => hb2.block b (HX1.out.lt b hb)))
         obtain ⟨c0, c2, c3, c9⟩ := KX.out w2 HB2.out
         clear hq2 hb2 hs2)
      | (refine Sh.wpList_load_at (T := AtT) (cs := (A.cells v1).toArray) HQ2.out rfl AtT (.tmp 5) rfl rfl _ Tryd.underlying42 rfl (infoAt _ _) ?_)
      | fail)
    have TB := Lib.hid (HH.out.below (HB0.out.trans (HB2.out.mono HB0.out.size)))
    refine (file_any B w2 r T path more A v1 (by omega) (by omega) HX2.out (fun b hb => by have h1 := HF1.out b hb; have h2 := HLT.out r (by simp); have h3 := HB0.out.size; omega) hmost TB.out).mono ?_
    rintro ex w3 ⟨W2, hbW, htW, hpost⟩
    obtain ⟨rfl, T', hct, hno, hyes⟩ := hpost.call TB.out hbW (by by_cases hb : more.length ≤ 1048576; exact .inl hb; exact .inr (addE_big (by omega))) (splitL_16 path)
    have HRI : Hid (RunIs ⟨1, who, path, more, A, v⟩ T T') := Lib.hid (by
      show if addE path more (asFile A) T ≠ 0 then T' = T else AddIs path more (asFile A) T T'
      split
      · next h => exact hno h
      · next h => exact hyes (Classical.not_not.1 h))
    have HCT := Lib.hid hct
    clear hpost hct hbW htW hno hyes
    go_wp2
    go_ret
    exact CAL.out w2 _ T' _ HB2.out rfl HCT.out HRI.out
  have b1 : ((kind : Int) == 1) = false := by rw [beq_eq_false_iff_ne]; exact e1
  by_cases e2 : kind = 2
  · subst e2
    go_enter Tryd.func6, Tryd.ntmps6
    go_wp2_with (first
      | (refine wpList_load_mid rfl _ _ rfl w.heap.size 4 rfl (A.cells v) _ HRG.out Tryd.underlying26 rfl (by show _ = some 7; kernel_rfl) ?_)
      | fail)
    rw [← HW.out]
    refine IN.out.mono ?_
    rintro ex w1 ⟨v1, rfl, hx1, hf1, hb1⟩
    have HX1 := Lib.hid hx1; have HF1 := Lib.hid hf1; have HB1 := Lib.hid hb1
    have ON := Lib.hid (atOne A (xs_one hx1))
    clear hx1 hf1 hb1 IN
    go_wp2_with (first
      | (refine wpList_store_new rfl rfl AtT (.tmp 5) (.tmp 9) rfl (A.cells v1).toArray rfl rfl (infoAt _ _) rfl ON.out ?_
         intro w2 hq2 hb2 hs2
         have HQ2 := Lib.hid hq2
         have HB2 := Lib.hid (HB1.out.trans (hb2.mono HB1.out.size))
         have HX2 := Lib.hid (HX1.out.kept hb2.size (fun b hb => hb2.block b (HX1.out.lt b hb)))
         obtain ⟨c0, c2, c3, c9⟩ := KX.out w2 HB2.out
         clear hq2 hb2 hs2)
      | (refine Sh.wpList_load_at (T := AtT) (cs := (A.cells v1).toArray) HQ2.out rfl AtT (.tmp 5) rfl rfl _ Tryd.underlying42 rfl (infoAt _ _) ?_)
      | fail)
    have TB := Lib.hid (HH.out.below (HB0.out.trans (HB2.out.mono HB0.out.size)))
    refine (link_any B w2 r T path more A v1 (by omega) (by omega) HX2.out (fun b hb => by have h1 := HF1.out b hb; have h2 := HLT.out r (by simp); have h3 := HB0.out.size; omega) hmost TB.out).mono ?_
    rintro ex w3 ⟨W2, hbW, htW, hpost⟩
    obtain ⟨rfl, T', hct, hno, hyes⟩ := hpost.call TB.out hbW (.inl (by simp)) (splitL_16 path)
    have HRI : Hid (RunIs ⟨2, who, path, more, A, v⟩ T T') := Lib.hid (by
      show if addE path [] (asLink more A) T ≠ 0 then T' = T else AddIs path [] (asLink more A) T T'
      split
      · next h => exact hno h
      · next h => exact hyes (Classical.not_not.1 h))
    have HCT := Lib.hid hct
    clear hpost hct hbW htW hno hyes
    go_wp2
    go_ret
    exact CAL.out w2 _ T' _ HB2.out rfl HCT.out HRI.out
  have b2 : ((kind : Int) == 2) = false := by rw [beq_eq_false_iff_ne]; exact e2
  by_cases e3 : kind = 3
  · subst e3
    go_enter Tryd.func6, Tryd.ntmps6
    go_wp2_with (first
      | (refine wpList_load_mid rfl _ _ rfl w.heap.size 4 rfl (A.cells v) _ HRG.out Tryd.underlying26 rfl (by show _ = some 7; kernel_rfl) ?_)
      | fail)
    rw [← HW.out]
    refine IN.out.mono ?_
    rintro ex w1 ⟨v1, rfl, hx1, hf1, hb1⟩
    have HX1 := Lib.hid hx1; have HF1 := Lib.hid hf1; have HB1 := Lib.hid hb1
    have ON := Lib.hid (atOne A (xs_one hx1))
    clear hx1 hf1 hb1 IN
    go_wp2_with (first
      | (refine wpList_store_new rfl rfl AtT (.tmp 5) (.tmp 9) rfl (A.cells v1).toArray rfl rfl (infoAt _ _) rfl ON.out ?_
         intro w2 hq2 hb2 hs2
         have HQ2 := Lib.hid hq2
         have HB2 := Lib.hid (HB1.out.trans (hb2.mono HB1.out.size))
         have HX2 := Lib.hid (HX1.out.kept hb2.size (fun b hb => hb2.block b (HX1.out.lt b hb)))
         obtain ⟨c0, c2, c3, c9⟩ := KX.out w2 HB2.out
         clear hq2 hb2 hs2)
      | (refine Sh.wpList_load_at (T := AtT) (cs := (A.cells v1).toArray) HQ2.out rfl AtT (.tmp 5) rfl rfl _ Tryd.underlying42 rfl (infoAt _ _) ?_)
      | fail)
    have TB := Lib.hid (HH.out.below (HB0.out.trans (HB2.out.mono HB0.out.size)))
    refine (write_any B w2 r T path more (by omega) (by omega) TB.out).mono ?_
    rintro ex w3 ⟨rfl, ht1, hu1⟩
    have HCT := Lib.hid (write_call TB.out HG.out ht1 hu1)
    have HRI : Hid (RunIs ⟨3, who, path, more, A, v⟩ T (writeT path more T)) := Lib.hid (by
      show if writeE path more T ≠ 0 then writeT path more T = T else writeT path more T = writeT path more T
      split
      · next h => exact if_neg h
      · rfl)
    clear ht1 hu1
    go_wp2
    go_ret
    exact CAL.out w2 _ _ _ HB2.out rfl HCT.out HRI.out
  have b3 : ((kind : Int) == 3) = false := by rw [beq_eq_false_iff_ne]; exact e3
  by_cases e4 : kind = 4
  · subst e4
    go_enter Tryd.func6, Tryd.ntmps6
    go_wp2_with (first
      | (refine wpList_load_mid rfl _ _ rfl w.heap.size 4 rfl (A.cells v) _ HRG.out Tryd.underlying26 rfl (by show _ = some 7; kernel_rfl) ?_)
      | fail)
    rw [← HW.out]
    refine IN.out.mono ?_
    rintro ex w1 ⟨v1, rfl, hx1, hf1, hb1⟩
    have HX1 := Lib.hid hx1; have HF1 := Lib.hid hf1; have HB1 := Lib.hid hb1
    have ON := Lib.hid (atOne A (xs_one hx1))
    clear hx1 hf1 hb1 IN
    go_wp2_with (first
      | (refine wpList_store_new rfl rfl AtT (.tmp 5) (.tmp 9) rfl (A.cells v1).toArray rfl rfl (infoAt _ _) rfl ON.out ?_
         intro w2 hq2 hb2 hs2
         have HQ2 := Lib.hid hq2
         have HB2 := Lib.hid (HB1.out.trans (hb2.mono HB1.out.size))
         have HX2 := Lib.hid (HX1.out.kept hb2.size (fun b hb => hb2.block b (HX1.out.lt b hb)))
         obtain ⟨c0, c2, c3, c9⟩ := KX.out w2 HB2.out
         clear hq2 hb2 hs2)
      | (refine Sh.wpList_load_at (T := AtT) (cs := (A.cells v1).toArray) HQ2.out rfl AtT (.tmp 5) rfl rfl _ Tryd.underlying42 rfl (infoAt _ _) ?_)
      | fail)
    have TB := Lib.hid (HH.out.below (HB0.out.trans (HB2.out.mono HB0.out.size)))
    refine (attr_any B w2 r T path (by omega) A v1 HX2.out HG.out.data (Nat.le_trans HBW.out HB2.out.size) TB.out).mono ?_
    rintro ex w3 ⟨rfl, T', hct, hno, hyes⟩
    have HRI : Hid (RunIs ⟨4, who, path, more, A, v⟩ T T') := Lib.hid (by
      show if attrE path A T ≠ 0 then T' = T else SetIs path (fun n => asOf A n) T T'
      split
      · next h => exact hno h
      · next h => exact hyes (Classical.not_not.1 h))
    have HCT := Lib.hid hct
    clear hct hno hyes
    go_wp2
    go_ret
    exact CAL.out w2 _ T' _ HB2.out rfl HCT.out HRI.out
  have b4 : ((kind : Int) == 4) = false := by rw [beq_eq_false_iff_ne]; exact e4
  by_cases e5 : kind = 5
  · subst e5
    go_enter Tryd.func6, Tryd.ntmps6
    go_wp2_with (first
      | (refine wpList_load_mid rfl _ _ rfl w.heap.size 4 rfl (A.cells v) _ HRG.out Tryd.underlying26 rfl (by show _ = some 7; kernel_rfl) ?_)
      | fail)
    rw [← HW.out]
    refine IN.out.mono ?_
    rintro ex w1 ⟨v1, rfl, hx1, hf1, hb1⟩
    have HX1 := Lib.hid hx1; have HF1 := Lib.hid hf1; have HB1 := Lib.hid hb1
    have ON := Lib.hid (atOne A (xs_one hx1))
    clear hx1 hf1 hb1 IN
    go_wp2_with (first
      | (refine wpList_store_new rfl rfl AtT (.tmp 5) (.tmp 9) rfl (A.cells v1).toArray rfl rfl (infoAt _ _) rfl ON.out ?_
         intro w2 hq2 hb2 hs2
         have HQ2 := Lib.hid hq2
         have HB2 := Lib.hid (HB1.out.trans (hb2.mono HB1.out.size))
         have HX2 := Lib.hid (HX1.out.kept hb2.size (fun b hb => hb2.block b (HX1.out.lt b hb)))
         obtain ⟨c0, c2, c3, c9⟩ := KX.out w2 HB2.out
         clear hq2 hb2 hs2)
      | (refine Sh.wpList_load_at (T := AtT) (cs := (A.cells v1).toArray) HQ2.out rfl AtT (.tmp 5) rfl rfl _ Tryd.underlying42 rfl (infoAt _ _) ?_)
      | fail)
    have TB := Lib.hid (HH.out.below (HB0.out.trans (HB2.out.mono HB0.out.size)))
    refine (xattr_any B w2 r T path A.target more (by omega) (by omega) (by omega) HG.out.data (fun e he => (chkA_parts (HG.out.att e he)).2.2.1) (Nat.le_trans HBW.out HB2.out.size) TB.out).mono ?_
    rintro ex w3 ⟨rfl, T', hct, hno, hyes⟩
    have HRI : Hid (RunIs ⟨5, who, path, more, A, v⟩ T T') := Lib.hid (by
      show if xattrE path A.target more T ≠ 0 then T' = T else SetIs path (fun n => xattrA A.target more n.at_) T T'
      split
      · next h => exact hno h
      · next h => exact hyes (Classical.not_not.1 h))
    have HCT := Lib.hid hct
    clear hct hno hyes
    go_wp2
    go_ret
    exact CAL.out w2 _ T' _ HB2.out rfl HCT.out HRI.out
  have b5 : ((kind : Int) == 5) = false := by rw [beq_eq_false_iff_ne]; exact e5
  by_cases e6 : kind = 6
  · subst e6
    go_enter Tryd.func6, Tryd.ntmps6
    go_wp2_with (first
      | (refine wpList_load_mid rfl _ _ rfl w.heap.size 4 rfl (A.cells v) _ HRG.out Tryd.underlying26 rfl (by show _ = some 7; kernel_rfl) ?_)
      | fail)
    rw [← HW.out]
    refine IN.out.mono ?_
    rintro ex w1 ⟨v1, rfl, hx1, hf1, hb1⟩
    have HX1 := Lib.hid hx1; have HF1 := Lib.hid hf1; have HB1 := Lib.hid hb1
    have ON := Lib.hid (atOne A (xs_one hx1))
    clear hx1 hf1 hb1 IN
    go_wp2_with (first
      | (refine wpList_store_new rfl rfl AtT (.tmp 5) (.tmp 9) rfl (A.cells v1).toArray rfl rfl (infoAt _ _) rfl ON.out ?_
         intro w2 hq2 hb2 hs2
         have HQ2 := Lib.hid hq2
         have HB2 := Lib.hid (HB1.out.trans (hb2.mono HB1.out.size))
         have HX2 := Lib.hid (HX1.out.kept hb2.size (fun b hb => hb2.block b (HX1.out.lt b hb)))
         obtain ⟨c0, c2, c3, c9⟩ := KX.out w2 HB2.out
         clear hq2 hb2 hs2)
      | (refine Sh.wpList_load_at (T := AtT) (cs := (A.cells v1).toArray) HQ2.out rfl AtT (.tmp 5) rfl rfl _ Tryd.underlying42 rfl (infoAt _ _) ?_)
      | fail)
    have TB := Lib.hid (HH.out.below (HB0.out.trans (HB2.out.mono HB0.out.size)))
    refine (clear_any B w2 r T path A.target (by omega) (by omega) HG.out.data (fun e he => (chkA_parts (HG.out.att e he)).2.2.1) (Nat.le_trans HBW.out HB2.out.size) TB.out).mono ?_
    rintro ex w3 ⟨rfl, T', hct, hno, hyes⟩
    have HRI : Hid (RunIs ⟨6, who, path, more, A, v⟩ T T') := Lib.hid (by
      show if clearE path A.target T ≠ 0 then T' = T else SetIs path (fun n => clearA A.target n.at_) T T'
      split
      · next h => exact hno h
      · next h => obtain ⟨n, xv, h1, _, h2⟩ := hyes (Classical.not_not.1 h); exact ⟨n, xv, h1, h2⟩)
    have HCT := Lib.hid hct
    clear hct hno hyes
    go_wp2
    go_ret
    exact CAL.out w2 _ T' _ HB2.out rfl HCT.out HRI.out
  have b6 : ((kind : Int) == 6) = false := by rw [beq_eq_false_iff_ne]; exact e6
  by_cases e7 : kind = 7
  · subst e7
    go_enter Tryd.func6, Tryd.ntmps6
    go_wp2_with (first
      | (refine wpList_load_mid rfl _ _ rfl w.heap.size 4 rfl (A.cells v) _ HRG.out Tryd.underlying26 rfl (by show _ = some 7; kernel_rfl) ?_)
      | fail)
    rw [← HW.out]
    refine IN.out.mono ?_
    rintro ex w1 ⟨v1, rfl, hx1, hf1, hb1⟩
    have HX1 := Lib.hid hx1; have HF1 := Lib.hid hf1; have HB1 := Lib.hid hb1
    have ON := Lib.hid (atOne A (xs_one hx1))
    clear hx1 hf1 hb1 IN
    go_wp2_with (first
      | (refine wpList_store_new rfl rfl AtT (.tmp 5) (.tmp 9) rfl (A.cells v1).toArray rfl rfl (infoAt _ _) rfl ON.out ?_
         intro w2 hq2 hb2 hs2
         have HQ2 := Lib.hid hq2
         have HB2 := Lib.hid (HB1.out.trans (hb2.mono HB1.out.size))
         have HX2 := Lib.hid (HX1.out.kept hb2.size (fun b hb => hb2.block b (HX1.out.lt b hb)))
         obtain ⟨c0, c2, c3, c9⟩ := KX.out w2 HB2.out
         clear hq2 hb2 hs2)
      | (refine Sh.wpList_load_at (T := AtT) (cs := (A.cells v1).toArray) HQ2.out rfl AtT (.tmp 5) rfl rfl _ Tryd.underlying42 rfl (infoAt _ _) ?_)
      | fail)
    have TB := Lib.hid (HH.out.below (HB0.out.trans (HB2.out.mono HB0.out.size)))
    refine (move_any B w2 r T path more (by omega) (by omega) HG.out.deep (by have := HG.out.len; omega) TB.out).mono ?_
    rintro ex w3 ⟨rfl, hct⟩
    have HRI : Hid (RunIs ⟨7, who, path, more, A, v⟩ T (moveTr path more T)) := Lib.hid (by
      show if moveE path more T ≠ 0 then moveTr path more T = T else moveTr path more T = moveTr path more T
      split
      · next h => exact moveTr_no h
      · rfl)
    have HCT := Lib.hid hct
    clear hct
    go_wp2
    go_ret
    exact CAL.out w2 _ _ _ HB2.out rfl HCT.out HRI.out
  have b7 : ((kind : Int) == 7) = false := by rw [beq_eq_false_iff_ne]; exact e7
  by_cases e8 : kind = 8
  · subst e8
    go_enter Tryd.func6, Tryd.ntmps6
    go_wp2_with (first
      | (refine wpList_load_mid rfl _ _ rfl w.heap.size 4 rfl (A.cells v) _ HRG.out Tryd.underlying26 rfl (by show _ = some 7; kernel_rfl) ?_)
      | fail)
    rw [← HW.out]
    refine IN.out.mono ?_
    rintro ex w1 ⟨v1, rfl, hx1, hf1, hb1⟩
    have HX1 := Lib.hid hx1; have HF1 := Lib.hid hf1; have HB1 := Lib.hid hb1
    have ON := Lib.hid (atOne A (xs_one hx1))
    clear hx1 hf1 hb1 IN
    go_wp2_with (first
      | (refine wpList_store_new rfl rfl AtT (.tmp 5) (.tmp 9) rfl (A.cells v1).toArray rfl rfl (infoAt _ _) rfl ON.out ?_
         intro w2 hq2 hb2 hs2
         have HQ2 := Lib.hid hq2
         have HB2 := Lib.hid (HB1.out.trans (hb2.mono HB1.out.size))
         have HX2 := Lib.hid (HX1.out.kept hb2.size (fun b hb => hb2.block b (HX1.out.lt b hb)))
         obtain ⟨c0, c2, c3, c9⟩ := KX.out w2 HB2.out
         clear hq2 hb2 hs2)
      | (refine Sh.wpList_load_at (T := AtT) (cs := (A.cells v1).toArray) HQ2.out rfl AtT (.tmp 5) rfl rfl _ Tryd.underlying42 rfl (infoAt _ _) ?_)
      | fail)
    have TB := Lib.hid (HH.out.below (HB0.out.trans (HB2.out.mono HB0.out.size)))
    refine (drop_any B w2 r T path (by omega) TB.out).mono ?_
    rintro ex w3 ⟨rfl, hct⟩
    have HRI : Hid (RunIs ⟨8, who, path, more, A, v⟩ T (dropTr path T)) := Lib.hid (by
      show if dropE path T ≠ 0 then dropTr path T = T else dropTr path T = dropTr path T
      split
      · next h => exact dropTr_no h
      · rfl)
    have HCT := Lib.hid hct
    clear hct
    go_wp2
    go_ret
    exact CAL.out w2 _ _ _ HB2.out rfl HCT.out HRI.out
  have b8 : ((kind : Int) == 8) = false := by rw [beq_eq_false_iff_ne]; exact e8
  by_cases e9 : kind = 9
  · subst e9
    go_enter Tryd.func6, Tryd.ntmps6
    go_wp2_with (first
      | (refine wpList_load_mid rfl _ _ rfl w.heap.size 4 rfl (A.cells v) _ HRG.out Tryd.underlying26 rfl (by show _ = some 7; kernel_rfl) ?_)
      | fail)
    rw [← HW.out]
    refine IN.out.mono ?_
    rintro ex w1 ⟨v1, rfl, hx1, hf1, hb1⟩
    have HX1 := Lib.hid hx1; have HF1 := Lib.hid hf1; have HB1 := Lib.hid hb1
    have ON := Lib.hid (atOne A (xs_one hx1))
    clear hx1 hf1 hb1 IN
    go_wp2_with (first
      | (refine wpList_store_new rfl rfl AtT (.tmp 5) (.tmp 9) rfl (A.cells v1).toArray rfl rfl (infoAt _ _) rfl ON.out ?_
         intro w2 hq2 hb2 hs2
         have HQ2 := Lib.hid hq2
         have HB2 := Lib.hid (HB1.out.trans (hb2.mono HB1.out.size))
         have HX2 := Lib.hid (HX1.out.kept hb2.size (fun b hb => hb2.block b (HX1.out.lt b hb)))
         obtain ⟨c0, c2, c3, c9⟩ := KX.out w2 HB2.out
         clear hq2 hb2 hs2)
      | (refine Sh.wpList_load_at (T := AtT) (cs := (A.cells v1).toArray) HQ2.out rfl AtT (.tmp 5) rfl rfl _ Tryd.underlying42 rfl (infoAt _ _) ?_)
      | fail)
    have TB := Lib.hid (HH.out.below (HB0.out.trans (HB2.out.mono HB0.out.size)))
    refine (read_any B w2 r T path (by omega) (by have := HRD.out; omega) TB.out).mono ?_
    rintro ex w3 ⟨rfl, ht1, hu1⟩
    obtain ⟨T', hT'⟩ : ∃ T' : Tr, T' = (if readE path T.L = 0 then { T with reads := T.reads + 1 } else T) := ⟨_, rfl⟩
    rw [← hT'] at ht1
    have hL : T'.L = T.L ∧ ({ T' with reads := T.reads } : Tr) = T := by
      rw [hT']; split <;> exact ⟨rfl, rfl⟩
    have HRI : Hid (RunIs ⟨9, who, path, more, A, v⟩ T T') := Lib.hid (by
      show if readE path T.L ≠ 0 then T' = T else T' = { T with reads := T.reads + 1 }
      by_cases h : readE path T.L = 0
      · rw [if_neg (by simp [h]), hT', if_pos h]
      · rw [if_pos h, hT', if_neg h])
    have HT1 := Lib.hid ht1; have HU1 := Lib.hid hu1; have HLL := Lib.hid hL
    clear ht1 hu1 hT' hL
    go_wp2
    go_ret
    exact FIN.out w2 _ T' _ HB2.out rfl HT1.out (HU1.out.mono (fun y hy => by rw [List.mem_singleton] at hy; rw [hy]; simp)) (fun b hb => .inl (by rw [HLL.out.1] at hb; exact hb)) (by rw [HLL.out.2]; exact .same T) HRI.out
  have b9 : ((kind : Int) == 9) = false := by rw [beq_eq_false_iff_ne]; exact e9
  have HE : Hid (runE ⟨kind, who, path, more, A, v⟩ T = 0) := Lib.hid (by
    unfold runE; dsimp only
    rw [if_neg e0, if_neg e1, if_neg e2, if_neg e3, if_neg e4, if_neg e5, if_neg e6, if_neg e7, if_neg e8, if_neg e9])
  have HRI : Hid (RunIs ⟨kind, who, path, more, A, v⟩ T T) := Lib.hid (by
    unfold RunIs
    rw [HE.out]; dsimp only
    rw [if_neg (by simp), if_neg e0, if_neg e1, if_neg e2, if_neg e3, if_neg e4, if_neg e5, if_neg e6, if_neg e7, if_neg e8, if_neg e9])
  go_enter Tryd.func6, Tryd.ntmps6
  go_wp2_with (first
    | (refine wpList_load_mid rfl _ _ rfl w.heap.size 4 rfl (A.cells v) _ HRG.out Tryd.underlying26 rfl (by show _ = some 7; kernel_rfl) ?_)
    | fail)
  rw [← HW.out]
  refine IN.out.mono ?_
  rintro ex w1 ⟨v1, rfl, hx1, hf1, hb1⟩
  have HX1 := Lib.hid hx1; have HF1 := Lib.hid hf1; have HB1 := Lib.hid hb1
  have ON := Lib.hid (atOne A (xs_one hx1))
  clear hx1 hf1 hb1 IN
  go_wp2_with (first
    | (refine wpList_store_new rfl rfl AtT (.tmp 5) (.tmp 9) rfl (A.cells v1).toArray rfl rfl (infoAt _ _) rfl ON.out ?_
       intro w2 hq2 hb2 hs2
       have HQ2 := Lib.hid hq2
       have HB2 := Lib.hid (HB1.out.trans (hb2.mono HB1.out.size))
       have HX2 := Lib.hid (HX1.out.kept hb2.size (fun b hb => hb2.block b (HX1.out.lt b hb)))
       obtain ⟨c0, c2, c3, c9⟩ := KX.out w2 HB2.out
       clear hq2 hb2 hs2)
    | fail)
  go_ret
  exact CAL.out w2 w2 T 0 HB2.out HE.out (.same (HH.out.below (HB0.out.trans (HB2.out.mono HB0.out.size))) (Below.refl _ _)) HRI.out
end Go.Proofs.YtkdkifciajfpnaaDoor.Sr
