import Derived.Test.YthcjjekkjbidlaaDoorZPShSum
import Derived.Test.YthcjjekkjbidlaaDoorZPStIn
set_option linter.unusedSimpArgs false
set_option linter.unusedVariables false
/-
  The contracts of the sums of bytes: the program's and the reference's.
-/
namespace Go.Proofs.YthcjjekkjbidlaaDoor.Sh
open Go.RowKit Go.Maps Go.Proofs.YthcjjekkjbidlaaDoor.Rf Go.Proofs.YthcjjekkjbidlaaDoor.Rd Go.Proofs.YthcjjekkjbidlaaDoor.St

abbrev sumV (s : List UInt8) : Value := .agg (Lib.byteCells (sum s)).toArray
theorem infoSum (s : List UInt8) : (Tryd.prog.info? IdT').map (·.size) = some (Lib.byteCells (sum s)).toArray.size := infoId (sum_length s)
set_option linter.unusedSimpArgs false in
set_option maxHeartbeats 2000000 in
set_option maxRecDepth 100000 in
theorem quick_any (w : World) (s : List UInt8) (hs : s.length ≤ 140737488351232) :
    Calls Tryd.prog 49 #[.string ⟨s.toArray⟩] w fun e w' => e = .returned (sumV s) ∧ Below w.heap.size w w' := by
  have HB0 := Lib.hid ((Below.refl w.heap.size w).alloc (Nat.le_refl _) (.cells zeroI IdT'))
  have HA0 : Hid ((w.alloc (.cells zeroI IdT')).heap[w.heap.size]? = some (.cells zeroI IdT')) := Lib.hid (at_new _ _)
  obtain ⟨a, ha⟩ : ∃ a, a = w.heap.size := ⟨_, rfl⟩
  obtain ⟨b, hb⟩ : ∃ b, b = w.heap.size + 1 := ⟨_, rfl⟩
  rw [← ha] at HA0
  have HZ32 : Hid (zeroI.size = (Lib.byteCells (sum s)).toArray.size) := Lib.hid (by
    have e : (Lib.byteCells (sum s)).toArray.size = 32 := by rw [List.size_toArray, Lib.byteCells_length, sum_length]
    exact e.symm)
  have HQ := Lib.hid (fun w => sum_any w s hs)
  obtain ⟨l, hl⟩ : ∃ l, l = sum s := ⟨_, rfl⟩
  have IS := Lib.hid (infoSum s)
  rw [← hl] at HQ HZ32 IS
  have ON := Lib.hid (oneId l)
  have HL := Lib.hid hl
  have HZ1 : Hid (w.heap.size + 1 = (w.alloc (.cells zeroI IdT')).heap.size) := Lib.hid (one_size w _).symm
  have HZ2 : Hid ((#[.int .u32 0, .int .u32 0, .int .u32 0, .int .u32 0, .int .u32 0, .int .u32 0, .int .u32 0, .int .u32 0] : Array Value).size = H0.cells.size) := Lib.hid rfl
  clear hl
  go_enter Tryd.func49, Tryd.ntmps49
  go_wp2_with (first
    | (refine wpList_store_new HZ1.out rfl T8 (.tmp 3) (.tmp 4) rfl H0.cells rfl rfl (info8 H0) HZ2.out (one8 H0) ?_
       intro w1 hq1 hb1 hs1
       have HH1 : Hid (w1.heap[b]? = some (.cells H0.cells T8)) := Lib.hid (by rw [hb]; exact hq1)
       have HA1 : Hid (w1.heap[a]? = some (.cells zeroI IdT')) := Lib.hid ((hb1.block a (by omega)).trans HA0.out)
       have HB1 : Hid (Below w.heap.size w w1) := Lib.hid (HB0.out.trans (hb1.mono (by omega)))
       rw [← hb, ← ha]
       clear hq1 hb1 hs1))
  have hba : a < b := by omega
  have HAW := Lib.hid ha
  clear HA0 HB0 hb ha HZ1 HZ2
  have hr1 : w1.drew.rangeAt b 0 H0.cells.toList := range_block (w := w1.drew) HH1.out
  refine wp_region_held_drew (S := (fun w' : World => w'.rangeAt b 0 H0.cells.toList)) (by kernel_rfl) hr1 (fun hHeld => ?_)
  clear hr1
  refine wpAnyH_take (i := 0) (v := ?_) rfl (by kernel_rfl) (by kernel_rfl) (by kernel_rfl) (fun _ _ _ h => h) (Or.inl ⟨by rfl, ?rf0⟩) hHeld ?_
  case rf0 =>
    intro wS hSw
    clear hSw
    go_simp
    try with_reducible rfl
  try simp only [Act.put, List.getElem_toArray, List.getElem_cons_zero, List.getElem_cons_succ, List.setIfInBounds_toArray, List.set_cons_zero, List.set_cons_succ]
  refine' wpAnyH_take (i := 1) (v := _) rfl (by kernel_rfl) (by kernel_rfl) (by kernel_rfl) (fun _ _ _ h => h) (yieldsIf_load_mid (by rfl) _ _ rfl b 0 rfl H0.cells.toList _ ?rf1S ?rf1u ?rf1d ?rf1i) hHeld ?rf1x
  case rf1S => exact fun _ h => h
  case rf1u => exact Tryd.underlying125
  case rf1d => rfl
  case rf1i => exact info8 H0
  try simp only [Act.put, List.getElem_toArray, List.getElem_cons_zero, List.getElem_cons_succ, List.setIfInBounds_toArray, List.set_cons_zero, List.set_cons_succ]
  refine wpAnyH_ready (rs := [2]) (by kernel_rfl) (by simp) ?_
  refine AllReadyH.cons rfl (fun K hK => ?_) AllReadyH.nil
  go_simp
  refine (ref_constants w1.drew).mono ?_
  rintro ex w2 ⟨rfl, hb2⟩
  have HH2 : Hid (w2.heap[b]? = some (.cells H0.cells T8)) := Lib.hid ((hb2.block b (lt_of_heap HH1.out)).trans HH1.out)
  have HA2 : Hid (w2.heap[a]? = some (.cells zeroI IdT')) := Lib.hid ((hb2.block a (lt_of_heap HA1.out)).trans HA1.out)
  have HB2 : Hid (Below w.heap.size w w2) := Lib.hid (HB1.out.drew.trans (hb2.mono HB1.out.size))
  clear hb2
  go_wp2_with fail
  refine hK.out _ _ (range_block HH2.out) (fun hHeld2 => ?_)
  clear hK K hHeld
  have hHeld := hHeld2
  clear hHeld2
  try simp only [Act.put, List.getElem_toArray, List.getElem_cons_zero, List.getElem_cons_succ, List.setIfInBounds_toArray, List.set_cons_zero, List.set_cons_succ]
  refine wpAnyH_ready (rs := [3]) (by kernel_rfl) (by simp) ?_
  refine AllReadyH.cons rfl (fun K hK => ?_) AllReadyH.nil
  go_simp
  refine (HQ.out w2).mono ?_
  rintro ex w3 ⟨rfl, hb3⟩
  have HH3 : Hid (w3.heap[b]? = some (.cells H0.cells T8)) := Lib.hid ((hb3.block b (lt_of_heap HH2.out)).trans HH2.out)
  have HA3 : Hid (w3.heap[a]? = some (.cells zeroI IdT')) := Lib.hid ((hb3.block a (lt_of_heap HA2.out)).trans HA2.out)
  have HB3 : Hid (Below w.heap.size w w3) := Lib.hid (HB2.out.trans (hb3.mono HB2.out.size))
  clear hb3
  go_wp2_with fail
  refine hK.out _ _ (range_block HH3.out) (fun hHeld2 => ?_)
  clear hK K hHeld
  have hHeld := hHeld2
  clear hHeld2
  try simp only [Act.put, List.getElem_toArray, List.getElem_cons_zero, List.getElem_cons_succ, List.setIfInBounds_toArray, List.set_cons_zero, List.set_cons_succ]
  refine wpAnyH_ready (rs := [4]) (by kernel_rfl) (by simp) ?_
  refine AllReadyH.cons rfl (fun K hK => ?_) AllReadyH.nil
  refine step_wp rfl ?_
  refine wp_store_row IdT' (.tmp 2) (.tmp 8) rfl a (Lib.byteCells l).toArray rfl rfl IdT' zeroI HA3.out IS.out HZ32.out ON.out ?_
  obtain ⟨w4, hw4⟩ : ∃ w4, w4 = w3.setRow a (Lib.byteCells l).toArray := ⟨_, rfl⟩
  have HQ4 : Hid (w4.heap[a]? = some (.cells (Lib.byteCells l).toArray IdT')) := Lib.hid (by rw [hw4]; exact setRow_heap _ _ _ _ _ _ HA3.out)
  have HH4 : Hid (w4.heap[b]? = some (.cells H0.cells T8)) := Lib.hid (by rw [hw4]; exact (setRow_other _ _ _ _ (by omega)).trans HH3.out)
  have HB4 : Hid (Below w.heap.size w w4) := Lib.hid (by rw [hw4]; exact Go.below_setRow HB3.out (by rw [HAW.out]; exact Nat.le_refl _) _)
  rw [← hw4]
  refine hK.out _ _ (range_block HH4.out) (fun hHeld2 => ?_)
  clear hK K hHeld hHeld2 hw4
  try simp only [Act.put, List.getElem_toArray, List.getElem_cons_zero, List.getElem_cons_succ, List.setIfInBounds_toArray, List.set_cons_zero, List.set_cons_succ]
  refine wpAnyH_done (by kernel_rfl) ?_ _
  try simp only [Act.put, List.getElem_toArray, List.getElem_cons_zero, List.getElem_cons_succ, List.setIfInBounds_toArray, List.set_cons_zero, List.set_cons_succ]
  go_wp2
  refine bodyPost_ret (v := .agg (Lib.byteCells l).toArray) (results_cell_row rfl _ _ a IdT' _ (0, 0) _ rfl HQ4.out Tryd.underlying63 rfl IS.out) rfl ⟨by rw [HL.out], HB4.out⟩
end Go.Proofs.YthcjjekkjbidlaaDoor.Sh
/-
  The contract of the statements' enter: a file is read, and entered.
-/
namespace Go.Proofs.YthcjjekkjbidlaaDoor.Sr
open Go.RowKit Go.Maps Go.WideMaps Go.Proofs.YthcjjekkjbidlaaDoor.Rf Go.Proofs.YthcjjekkjbidlaaDoor.Nm Go.Proofs.YthcjjekkjbidlaaDoor.St

/-- The entry that is made. -/
def entN (p : List UInt8) (L : List TE) : SE := { statN p L with path := p, kind := 1, id := Sh.sum (readD p L) }
/-- What enter leaves. -/
def EntPost (B : Nat) (w : World) (r : Nat) (T : Tr) (g b : Nat) (X : List SE) (db : Nat) (D : MV (List UInt8)) (kb : Nat) (K : MV (Nat × Int)) (p : List UInt8) (e : Ending) (w' : World) : Prop :=
  e = .returned (.tuple #[]) ∧ ∃ T', T'.L = T.L ∧ T'.clock = T.clock ∧ T'.most = T.most ∧ T'.reads ≤ T.reads + 1 ∧ Turn [r, b, db, kb] w w' ∧
    ((readE p T.L = 0 ∧ (setX (entN p T.L) X).1 = 0 ∧ LawSt B w' r T' g b (setX (entN p T.L) X).2 db (putM D p (readD p T.L)) kb (putM K p ((statN p T.L).ino, (statN p T.L).tick))) ∨
     (¬ (readE p T.L = 0 ∧ (setX (entN p T.L) X).1 = 0) ∧ LawSt B w' r T' g b X db D kb K))
theorem read_find {p : List UInt8} {L : List TE} (h : readE p L = 0) : ∃ n, getT (splitL p) L = some n ∧ findN p L = some n ∧ findE p L = 0 ∧ n.at_.node = 1 ∧ statN p L = statT n L ∧ readD p L = n.data := by
  have hr := h
  rw [readE] at h
  split at h
  · cases h
  · next hs =>
    cases hg : getT (splitL p) L with
    | none => rw [hg] at h; cases h
    | some n =>
      rw [hg] at h
      dsimp only at h
      split at h
      · cases h
      · next hn =>
        have hs : splitE p = 0 := by simpa using hs
        have h1 : findN p L = some n := by rw [findN, if_pos hs, hg]
        refine ⟨n, rfl, h1, by rw [findE, if_pos hs, hg]; rfl, by simpa using hn, by rw [statN, h1], by rw [readD, if_pos hr, hg]⟩
theorem setX_no {e : SE} {X : List SE} (h : (setX e X).1 ≠ 0) : (setX e X).2 = X := by
  rw [setX] at h ⊢
  split
  · rfl
  · next h1 =>
    rw [if_neg h1] at h
    split
    · rfl
    · next h2 => rw [if_neg h2] at h; exact absurd rfl h
theorem oneV (l : List Value) (h : ∀ v ∈ l, v.oneCell' = true) : l.toArray.all (·.oneCell') = true := Array.all_eq_true_iff_forall_mem.2 (fun v hv => h v (by simpa using hv))
set_option linter.unusedSimpArgs false in
set_option maxHeartbeats 16000000 in
set_option maxRecDepth 100000 in
theorem enter_any (B : Nat) (w : World) (r : Nat) (T : Tr) (g b : Nat) (X : List SE) (db : Nat) (D : MV (List UInt8)) (kb : Nat) (K : MV (Nat × Int)) (p : List UInt8) (hp : p.length ≤ 140737488351232) (k : Nat) (hk : k ≤ 1000) (G : Good k T) (hrd : T.reads ≤ 100000) (hD : D.length ≤ 100000) (hK : K.length ≤ 100000) (h : LawSt B w r T g b X db D kb K) :
    Calls Tryd.prog 24 #[ptr r, ptr g, .string ⟨p.toArray⟩, .map (some db), .map (some kb)] w (EntPost B w r T g b X db D kb K p) := by
  have HL := Lib.hid h
  have ST := Lib.hid (stat_any B w r T p (by omega) h.tree)
  obtain ⟨S0, hS0⟩ : ∃ S0, S0 = statN p T.L := ⟨_, rfl⟩
  obtain ⟨d, hd⟩ : ∃ d, d = readD p T.L := ⟨_, rfl⟩
  obtain ⟨E0, hE0⟩ : ∃ E0, E0 = entN p T.L := ⟨_, rfl⟩
  have HE0 : Hid (E0 = entN p T.L) := Lib.hid hE0
  have HS0 := Lib.hid hS0; have HD0 := Lib.hid hd
  have HDL := Lib.hid hD; have HKL := Lib.hid hK; have HPL : Hid (p.length ≤ maxLen) := Lib.hid (by unfold maxLen; omega)
  have HRL := Lib.hid hrd
  have hdl : d.length ≤ 1048576 := by
    rw [hd, readD]
    split
    · next h0 =>
      obtain ⟨n, hg, _⟩ := read_find h0
      rw [hg]; exact G.data n (getT_nm hg).1
    · exact Nat.zero_le _
  have HF : Hid (E0.Fits) := Lib.hid (by
    rw [hE0, entN]
    have hs : (statN p T.L).node < 256 ∧ (-9223372036854775808 ≤ (statN p T.L).size ∧ (statN p T.L).size < 9223372036854775808) ∧ (statN p T.L).ino < 18446744073709551616 ∧ (-9223372036854775808 ≤ (statN p T.L).tick ∧ (statN p T.L).tick < 9223372036854775808) := by
      rw [statN]
      cases hf : findN p T.L with
      | none => exact ⟨zero_fits.node, zero_fits.size, zero_fits.ino, zero_fits.tick⟩
      | some n =>
        have hn : n ∈ T.L := by
          rw [findN] at hf
          split at hf
          · exact (getT_nm hf).1
          · cases hf
        have h1 := chkA_parts (G.att n hn); have h2 := G.data n hn; have h3 := G.ino n hn; have h4 := G.tick n hn; have h5 := G.clock; have h6 := G.most; have h7 := G.len; have h8 := kids_le T.L n.nm
        refine ⟨by show n.at_.node < 256; omega, ?_, by show n.ino < _; omega, by show -9223372036854775808 ≤ n.tick ∧ n.tick < _; omega⟩
        show -9223372036854775808 ≤ sizeT n T.L ∧ sizeT n T.L < _
        rw [sizeT]
        split
        · omega
        · split
          · omega
          · split
            · omega
            · omega
    exact ⟨by show p.length ≤ _; omega, hs.1, hs.2.1, hs.2.2.1, hs.2.2.2, by show (1 : Nat) < 256; decide, Sh.sum_length _⟩)
  have HCE : Hid (enV E0 = .agg (.string ⟨p.toArray⟩ :: .int .u8 (S0.node : Int) :: .int .i64 S0.size :: .int .u64 (S0.ino : Int) :: .int .i64 S0.tick :: .int .u8 1 :: Lib.byteCells (Sh.sum d)).toArray) := Lib.hid (by rw [hE0, hS0, hd]; rfl)
  rw [← hS0] at ST
  have HXL := Lib.hid (show X.length ≤ 65536 from h.idx.len)
  clear h hS0 hd hE0 hD hK
  unfold ptr at *
  go_enter Tryd.func24, Tryd.ntmps24
  go_wp2_with fail
  refine ST.out.mono ?_
  rintro ex w1 ⟨rfl, hb1⟩
  have HL1 := Lib.hid (HL.out.below hb1); have HB1 := Lib.hid hb1
  clear hb1 ST
  go_wp2_with (first
    | (refine Sh.wpList_store_new rfl rfl 25 (.tmp 10) (.tmp 18) rfl S0.stat.toArray rfl rfl infoSt rfl (oneV _ (by intro v hv; simp [SE.stat] at hv; rcases hv with rfl | rfl | rfl | rfl <;> rfl)) ?_
       intro w2 hq2 hb2 hs2
       have HQ2 := Lib.hid hq2
       have HL2 := Lib.hid (HL1.out.below hb2); have HB2 := Lib.hid (HB1.out.trans (hb2.mono HB1.out.size))
       clear hq2 hb2 hs2)
    | fail)
  obtain ⟨q, hq⟩ : ∃ q, q = w1.heap.size := ⟨_, rfl⟩
  rw [← hq] at HQ2 ⊢
  have HQW : Hid (w.heap.size ≤ q) := Lib.hid (by rw [hq]; exact HB1.out.size)
  clear hq
  have RD := Lib.hid (read_any B w2 r T p (by omega) (by have := HRL.out; omega) HL2.out.tree)
  unfold ptr at RD
  refine RD.out.mono ?_
  rintro ex w3 ⟨rfl, ht3, hu3⟩
  have HL3 : Hid (LawSt B w3 r (if readE p T.L = 0 then { T with reads := T.reads + 1 } else T) g b X db D kb K) := Lib.hid (by
    split at ht3
    · next h0 => rw [if_pos h0]; exact HL2.out.read ht3 hu3
    · next h0 => rw [if_neg h0]; exact HL2.out.turnT ht3 hu3 (fun y hy => by rw [List.mem_singleton] at hy; rw [hy]; simp) (fun _ h => .inl h))
  have HQ3 : Hid (w3.heap[q]? = some (.cells S0.stat.toArray 25)) := Lib.hid ((hu3.block q (lt_of_heap HQ2.out) (by
    have := HL.out.tree.lt r (by simp)
    have := HQW.out
    simp; omega)).trans HQ2.out)
  have HB3 : Hid (Turn [r, b, db, kb] w w3) := Lib.hid ((Turn.of_below HB2.out).trans hu3 (fun y hy => .inl (by rw [List.mem_singleton] at hy; simp [hy])))
  rw [← HD0.out]
  clear ht3 hu3 RD
  obtain ⟨T', hT'⟩ : ∃ T', T' = (if readE p T.L = 0 then { T with reads := T.reads + 1 } else T) := ⟨_, rfl⟩
  rw [← hT'] at HL3
  have HT : Hid (T'.L = T.L ∧ T'.clock = T.clock ∧ T'.most = T.most ∧ T'.reads ≤ T.reads + 1) := Lib.hid (by
    rw [hT']; split
    · exact ⟨rfl, rfl, rfl, Nat.le_refl _⟩
    · exact ⟨rfl, rfl, rfl, Nat.le_succ _⟩)
  clear hT'
  have KS : Hid (∀ w', Below w3.heap.size w3 w' → w'.rangeAt q 0 S0.stat) := Lib.hid (fun w' hb => range_block ((hb.block q (lt_of_heap HQ3.out)).trans HQ3.out))
  have KT : Hid (∀ w' w'', Below w3.heap.size w3 w' → Turn [b] w' w'' → w''.rangeAt q 0 S0.stat) := Lib.hid (fun w' w'' hb ht => range_block ((ht.block q (Nat.lt_of_lt_of_le (lt_of_heap HQ3.out) hb.size) (by
    have := HL.out.idx.lt_b
    have := HQW.out
    simp; omega)).trans ((hb.block q (lt_of_heap HQ3.out)).trans HQ3.out)))
  by_cases hf : findE p T.L = 0
  case neg =>
    have hbf : (findE p T.L == 0) = false := by rw [beq_eq_false_iff_ne]; exact hf
    have hbf2 : (findE p T.L != 0) = true := by rw [bne, hbf]; rfl
    have HNO : Hid (¬ (readE p T.L = 0 ∧ (setX (entN p T.L) X).1 = 0)) := Lib.hid (fun h => hf (by obtain ⟨n, _, _, h3, _⟩ := read_find h.1; exact h3))
    clear hf
    go_wp2
    refine wp_region_held_drew (S := (fun w' : World => w'.rangeAt q 0 S0.stat)) (by kernel_rfl) (KS.out _ (Below.refl _ _).drew) (fun hHeld => ?_)
    refine wpAnyH_take (i := 0) (v := ?_) rfl (by kernel_rfl) (by kernel_rfl) (by kernel_rfl) (fun _ _ _ h => h) (Or.inl ⟨by rfl, ?ra0⟩) hHeld ?_
    case ra0 =>
      intro wS hSw
      go_simp
      try with_reducible rfl
    try simp only [Act.put, List.getElem_toArray, List.getElem_cons_zero, List.getElem_cons_succ, List.setIfInBounds_toArray, List.set_cons_zero, List.set_cons_succ]
    refine wpAnyH_take (i := 1) (v := ?_) rfl (by kernel_rfl) (by kernel_rfl) (by kernel_rfl) (fun _ _ _ h => h) (Or.inl ⟨by rfl, ?ra1⟩) hHeld ?_
    case ra1 =>
      intro wS hSw
      go_simp
      try with_reducible rfl
    try simp only [Act.put, List.getElem_toArray, List.getElem_cons_zero, List.getElem_cons_succ, List.setIfInBounds_toArray, List.set_cons_zero, List.set_cons_succ]
    refine wpAnyH_take (i := 2) (v := ?_) rfl (by kernel_rfl) (by kernel_rfl) (by kernel_rfl) (fun _ _ _ h => h) (Or.inl ⟨by rfl, ?ra2⟩) hHeld ?_
    case ra2 =>
      intro wS hSw
      go_simp
      try with_reducible rfl
    try simp only [Act.put, List.getElem_toArray, List.getElem_cons_zero, List.getElem_cons_succ, List.setIfInBounds_toArray, List.set_cons_zero, List.set_cons_succ]
    refine wpAnyH_take (i := 3) (v := undef) rfl (by kernel_rfl) (by kernel_rfl) (by kernel_rfl) (fun _ _ _ h => h) (Or.inr ⟨by rfl, rfl⟩) hHeld ?_
    try simp only [Act.put, List.getElem_toArray, List.getElem_cons_zero, List.getElem_cons_succ, List.setIfInBounds_toArray, List.set_cons_zero, List.set_cons_succ]
    refine wpAnyH_take (i := 4) (v := undef) rfl (by kernel_rfl) (by kernel_rfl) (by kernel_rfl) (fun _ _ _ h => h) (Or.inr ⟨by rfl, rfl⟩) hHeld ?_
    try simp only [Act.put, List.getElem_toArray, List.getElem_cons_zero, List.getElem_cons_succ, List.setIfInBounds_toArray, List.set_cons_zero, List.set_cons_succ]
    refine wpAnyH_take (i := 5) (v := ?_) rfl (by kernel_rfl) (by kernel_rfl) (by kernel_rfl) (fun _ _ _ h => h) (Or.inl ⟨by rfl, ?ra5⟩) hHeld ?_
    case ra5 =>
      intro wS hSw
      go_simp
      try with_reducible rfl
    try simp only [Act.put, List.getElem_toArray, List.getElem_cons_zero, List.getElem_cons_succ, List.setIfInBounds_toArray, List.set_cons_zero, List.set_cons_succ]
    refine wpAnyH_take (i := 6) (v := ?_) rfl (by kernel_rfl) (by kernel_rfl) (by kernel_rfl) (fun _ _ _ h => h) (Or.inl ⟨by rfl, ?ra6⟩) hHeld ?_
    case ra6 =>
      intro wS hSw
      go_simp
      try with_reducible rfl
    try simp only [Act.put, List.getElem_toArray, List.getElem_cons_zero, List.getElem_cons_succ, List.setIfInBounds_toArray, List.set_cons_zero, List.set_cons_succ]
    refine wpAnyH_take (i := 7) (v := undef) rfl (by kernel_rfl) (by kernel_rfl) (by kernel_rfl) (fun _ _ _ h => h) (Or.inr ⟨by rfl, rfl⟩) hHeld ?_
    try simp only [Act.put, List.getElem_toArray, List.getElem_cons_zero, List.getElem_cons_succ, List.setIfInBounds_toArray, List.set_cons_zero, List.set_cons_succ]
    refine wpAnyH_take (i := 8) (v := undef) rfl (by kernel_rfl) (by kernel_rfl) (by kernel_rfl) (fun _ _ _ h => h) (Or.inr ⟨by rfl, rfl⟩) hHeld ?_
    try simp only [Act.put, List.getElem_toArray, List.getElem_cons_zero, List.getElem_cons_succ, List.setIfInBounds_toArray, List.set_cons_zero, List.set_cons_succ]
    refine wpAnyH_take (i := 9) (v := undef) rfl (by kernel_rfl) (by kernel_rfl) (by kernel_rfl) (fun _ _ _ h => h) (Or.inr ⟨by rfl, rfl⟩) hHeld ?_
    try simp only [Act.put, List.getElem_toArray, List.getElem_cons_zero, List.getElem_cons_succ, List.setIfInBounds_toArray, List.set_cons_zero, List.set_cons_succ]
    refine wpAnyH_take (i := 10) (v := undef) rfl (by kernel_rfl) (by kernel_rfl) (by kernel_rfl) (fun _ _ _ h => h) (Or.inr ⟨by rfl, rfl⟩) hHeld ?_
    try simp only [Act.put, List.getElem_toArray, List.getElem_cons_zero, List.getElem_cons_succ, List.setIfInBounds_toArray, List.set_cons_zero, List.set_cons_succ]
    refine wpAnyH_take (i := 11) (v := undef) rfl (by kernel_rfl) (by kernel_rfl) (by kernel_rfl) (fun _ _ _ h => h) (Or.inr ⟨by rfl, rfl⟩) hHeld ?_
    try simp only [Act.put, List.getElem_toArray, List.getElem_cons_zero, List.getElem_cons_succ, List.setIfInBounds_toArray, List.set_cons_zero, List.set_cons_succ]
    refine wpAnyH_take (i := 12) (v := undef) rfl (by kernel_rfl) (by kernel_rfl) (by kernel_rfl) (fun _ _ _ h => h) (Or.inr ⟨by rfl, rfl⟩) hHeld ?_
    try simp only [Act.put, List.getElem_toArray, List.getElem_cons_zero, List.getElem_cons_succ, List.setIfInBounds_toArray, List.set_cons_zero, List.set_cons_succ]
    refine wpAnyH_take (i := 13) (v := undef) rfl (by kernel_rfl) (by kernel_rfl) (by kernel_rfl) (fun _ _ _ h => h) (Or.inr ⟨by rfl, rfl⟩) hHeld ?_
    try simp only [Act.put, List.getElem_toArray, List.getElem_cons_zero, List.getElem_cons_succ, List.setIfInBounds_toArray, List.set_cons_zero, List.set_cons_succ]
    refine wpAnyH_take (i := 14) (v := undef) rfl (by kernel_rfl) (by kernel_rfl) (by kernel_rfl) (fun _ _ _ h => h) (Or.inr ⟨by rfl, rfl⟩) hHeld ?_
    try simp only [Act.put, List.getElem_toArray, List.getElem_cons_zero, List.getElem_cons_succ, List.setIfInBounds_toArray, List.set_cons_zero, List.set_cons_succ]
    refine wpAnyH_take (i := 15) (v := ?_) rfl (by kernel_rfl) (by kernel_rfl) (by kernel_rfl) (fun _ _ _ h => h) (Or.inl ⟨by rfl, ?ra15⟩) hHeld ?_
    case ra15 =>
      intro wS hSw
      go_simp
      try with_reducible rfl
    try simp only [Act.put, List.getElem_toArray, List.getElem_cons_zero, List.getElem_cons_succ, List.setIfInBounds_toArray, List.set_cons_zero, List.set_cons_succ]
    refine wpAnyH_done (by kernel_rfl) ?_ _
    clear hHeld
    try simp only [Act.put, List.getElem_toArray, List.getElem_cons_zero, List.getElem_cons_succ, List.setIfInBounds_toArray, List.set_cons_zero, List.set_cons_succ]
    go_wp2
    exact bodyPost_end (results_none rfl _ _ _) rfl ⟨rfl, T', HT.out.1, HT.out.2.1, HT.out.2.2.1, HT.out.2.2.2, HB3.out.trans (Turn.of_below (X := []) ((Below.refl _ w3).drew)) (fun y hy => by cases hy), .inr ⟨HNO.out, HL3.out.below (Below.refl _ _).drew⟩⟩
  rw [hf]
  by_cases hr : readE p T.L = 0
  case neg =>
    have hbf : (readE p T.L == 0) = false := by rw [beq_eq_false_iff_ne]; exact hr
    have hbf2 : (readE p T.L != 0) = true := by rw [bne, hbf]; rfl
    have HNO : Hid (¬ (readE p T.L = 0 ∧ (setX (entN p T.L) X).1 = 0)) := Lib.hid (fun h => hr h.1)
    clear hf hr
    go_wp2
    refine wp_region_held_drew (S := (fun w' : World => w'.rangeAt q 0 S0.stat)) (by kernel_rfl) (KS.out _ (Below.refl _ _).drew) (fun hHeld => ?_)
    refine wpAnyH_take (i := 0) (v := ?_) rfl (by kernel_rfl) (by kernel_rfl) (by kernel_rfl) (fun _ _ _ h => h) (Or.inl ⟨by rfl, ?rb0⟩) hHeld ?_
    case rb0 =>
      intro wS hSw
      go_simp
      try with_reducible rfl
    try simp only [Act.put, List.getElem_toArray, List.getElem_cons_zero, List.getElem_cons_succ, List.setIfInBounds_toArray, List.set_cons_zero, List.set_cons_succ]
    refine wpAnyH_take (i := 1) (v := ?_) rfl (by kernel_rfl) (by kernel_rfl) (by kernel_rfl) (fun _ _ _ h => h) (Or.inl ⟨by rfl, ?rb1⟩) hHeld ?_
    case rb1 =>
      intro wS hSw
      go_simp
      try with_reducible rfl
    try simp only [Act.put, List.getElem_toArray, List.getElem_cons_zero, List.getElem_cons_succ, List.setIfInBounds_toArray, List.set_cons_zero, List.set_cons_succ]
    refine wpAnyH_take (i := 2) (v := ?_) rfl (by kernel_rfl) (by kernel_rfl) (by kernel_rfl) (fun _ _ _ h => h) (Or.inl ⟨by rfl, ?rb2⟩) hHeld ?_
    case rb2 =>
      intro wS hSw
      go_simp
      try with_reducible rfl
    try simp only [Act.put, List.getElem_toArray, List.getElem_cons_zero, List.getElem_cons_succ, List.setIfInBounds_toArray, List.set_cons_zero, List.set_cons_succ]
    refine wpAnyH_take (i := 3) (v := ?_) rfl (by kernel_rfl) (by kernel_rfl) (by kernel_rfl) (fun _ _ _ h => h) (Or.inl ⟨by rfl, ?rb3⟩) hHeld ?_
    case rb3 =>
      intro wS hSw
      go_simp
      try with_reducible rfl
    try simp only [Act.put, List.getElem_toArray, List.getElem_cons_zero, List.getElem_cons_succ, List.setIfInBounds_toArray, List.set_cons_zero, List.set_cons_succ]
    refine wpAnyH_take (i := 4) (v := ?_) rfl (by kernel_rfl) (by kernel_rfl) (by kernel_rfl) (fun _ _ _ h => h) (Or.inl ⟨by rfl, ?rb4⟩) hHeld ?_
    case rb4 =>
      intro wS hSw
      go_simp
      try with_reducible rfl
    try simp only [Act.put, List.getElem_toArray, List.getElem_cons_zero, List.getElem_cons_succ, List.setIfInBounds_toArray, List.set_cons_zero, List.set_cons_succ]
    refine wpAnyH_take (i := 5) (v := ?_) rfl (by kernel_rfl) (by kernel_rfl) (by kernel_rfl) (fun _ _ _ h => h) (Or.inl ⟨by rfl, ?rb5⟩) hHeld ?_
    case rb5 =>
      intro wS hSw
      go_simp
      try with_reducible rfl
    try simp only [Act.put, List.getElem_toArray, List.getElem_cons_zero, List.getElem_cons_succ, List.setIfInBounds_toArray, List.set_cons_zero, List.set_cons_succ]
    refine wpAnyH_take (i := 6) (v := ?_) rfl (by kernel_rfl) (by kernel_rfl) (by kernel_rfl) (fun _ _ _ h => h) (Or.inl ⟨by rfl, ?rb6⟩) hHeld ?_
    case rb6 =>
      intro wS hSw
      go_simp
      try with_reducible rfl
    try simp only [Act.put, List.getElem_toArray, List.getElem_cons_zero, List.getElem_cons_succ, List.setIfInBounds_toArray, List.set_cons_zero, List.set_cons_succ]
    refine wpAnyH_take (i := 7) (v := undef) rfl (by kernel_rfl) (by kernel_rfl) (by kernel_rfl) (fun _ _ _ h => h) (Or.inr ⟨by rfl, rfl⟩) hHeld ?_
    try simp only [Act.put, List.getElem_toArray, List.getElem_cons_zero, List.getElem_cons_succ, List.setIfInBounds_toArray, List.set_cons_zero, List.set_cons_succ]
    refine wpAnyH_take (i := 8) (v := undef) rfl (by kernel_rfl) (by kernel_rfl) (by kernel_rfl) (fun _ _ _ h => h) (Or.inr ⟨by rfl, rfl⟩) hHeld ?_
    try simp only [Act.put, List.getElem_toArray, List.getElem_cons_zero, List.getElem_cons_succ, List.setIfInBounds_toArray, List.set_cons_zero, List.set_cons_succ]
    refine wpAnyH_take (i := 9) (v := undef) rfl (by kernel_rfl) (by kernel_rfl) (by kernel_rfl) (fun _ _ _ h => h) (Or.inr ⟨by rfl, rfl⟩) hHeld ?_
    try simp only [Act.put, List.getElem_toArray, List.getElem_cons_zero, List.getElem_cons_succ, List.setIfInBounds_toArray, List.set_cons_zero, List.set_cons_succ]
    refine wpAnyH_take (i := 10) (v := undef) rfl (by kernel_rfl) (by kernel_rfl) (by kernel_rfl) (fun _ _ _ h => h) (Or.inr ⟨by rfl, rfl⟩) hHeld ?_
    try simp only [Act.put, List.getElem_toArray, List.getElem_cons_zero, List.getElem_cons_succ, List.setIfInBounds_toArray, List.set_cons_zero, List.set_cons_succ]
    refine wpAnyH_take (i := 11) (v := undef) rfl (by kernel_rfl) (by kernel_rfl) (by kernel_rfl) (fun _ _ _ h => h) (Or.inr ⟨by rfl, rfl⟩) hHeld ?_
    try simp only [Act.put, List.getElem_toArray, List.getElem_cons_zero, List.getElem_cons_succ, List.setIfInBounds_toArray, List.set_cons_zero, List.set_cons_succ]
    refine wpAnyH_take (i := 12) (v := undef) rfl (by kernel_rfl) (by kernel_rfl) (by kernel_rfl) (fun _ _ _ h => h) (Or.inr ⟨by rfl, rfl⟩) hHeld ?_
    try simp only [Act.put, List.getElem_toArray, List.getElem_cons_zero, List.getElem_cons_succ, List.setIfInBounds_toArray, List.set_cons_zero, List.set_cons_succ]
    refine wpAnyH_take (i := 13) (v := undef) rfl (by kernel_rfl) (by kernel_rfl) (by kernel_rfl) (fun _ _ _ h => h) (Or.inr ⟨by rfl, rfl⟩) hHeld ?_
    try simp only [Act.put, List.getElem_toArray, List.getElem_cons_zero, List.getElem_cons_succ, List.setIfInBounds_toArray, List.set_cons_zero, List.set_cons_succ]
    refine wpAnyH_take (i := 14) (v := undef) rfl (by kernel_rfl) (by kernel_rfl) (by kernel_rfl) (fun _ _ _ h => h) (Or.inr ⟨by rfl, rfl⟩) hHeld ?_
    try simp only [Act.put, List.getElem_toArray, List.getElem_cons_zero, List.getElem_cons_succ, List.setIfInBounds_toArray, List.set_cons_zero, List.set_cons_succ]
    refine wpAnyH_take (i := 15) (v := ?_) rfl (by kernel_rfl) (by kernel_rfl) (by kernel_rfl) (fun _ _ _ h => h) (Or.inl ⟨by rfl, ?rb15⟩) hHeld ?_
    case rb15 =>
      intro wS hSw
      go_simp
      try with_reducible rfl
    try simp only [Act.put, List.getElem_toArray, List.getElem_cons_zero, List.getElem_cons_succ, List.setIfInBounds_toArray, List.set_cons_zero, List.set_cons_succ]
    refine wpAnyH_done (by kernel_rfl) ?_ _
    clear hHeld
    try simp only [Act.put, List.getElem_toArray, List.getElem_cons_zero, List.getElem_cons_succ, List.setIfInBounds_toArray, List.set_cons_zero, List.set_cons_succ]
    go_wp2
    exact bodyPost_end (results_none rfl _ _ _) rfl ⟨rfl, T', HT.out.1, HT.out.2.1, HT.out.2.2.1, HT.out.2.2.2, HB3.out.trans (Turn.of_below (X := []) ((Below.refl _ w3).drew)) (fun y hy => by cases hy), .inr ⟨HNO.out, HL3.out.below (Below.refl _ _).drew⟩⟩
  have HR := Lib.hid hr
  rw [hr]
  clear hf hr
  have QU : Hid (∀ w', Below w3.heap.size w3 w' → Calls Tryd.prog 49 #[.string ⟨d.toArray⟩] w' fun e w'' => e = .returned (Sh.sumV d) ∧ Below w'.heap.size w' w'') := Lib.hid (fun w' _ => Sh.quick_any w' d (by omega))
  have SET : Hid (∀ w', Below w3.heap.size w3 w' → Calls Tryd.prog 27 #[.pointer (some ⟨g, 0, none⟩), (.agg (.string ⟨p.toArray⟩ :: .int .u8 (S0.node : Int) :: .int .i64 S0.size :: .int .u64 (S0.ino : Int) :: .int .i64 S0.tick :: .int .u8 1 :: Lib.byteCells (Sh.sum d)).toArray)] w' fun x w'' => x = .returned (.int .i64 (setX E0 X).1) ∧ IndexAt B w'' g b (setX E0 X).2 ∧ Turn [b] w' w'') := Lib.hid (fun w' hb => by rw [← HCE.out]; exact set_any B w' g b X E0 HF.out (HL3.out.below hb).idx)
  have HBD : Hid (Below w3.heap.size w3 w3.drew) := Lib.hid (Below.refl _ w3).drew
  unfold Sh.sumV at QU
  go_wp2
  refine wp_region_held_drew (S := (fun w' : World => w'.rangeAt q 0 S0.stat)) (by kernel_rfl) (KS.out _ (Below.refl _ _).drew) (fun hHeld => ?_)
  refine wpAnyH_take (i := 0) (v := ?_) rfl (by kernel_rfl) (by kernel_rfl) (by kernel_rfl) (fun _ _ _ h => h) (Or.inl ⟨by rfl, ?rc0⟩) hHeld ?_
  case rc0 =>
    intro wS hSw
    go_simp
    try with_reducible rfl
  try simp only [Act.put, List.getElem_toArray, List.getElem_cons_zero, List.getElem_cons_succ, List.setIfInBounds_toArray, List.set_cons_zero, List.set_cons_succ]
  refine wpAnyH_take (i := 1) (v := ?_) rfl (by kernel_rfl) (by kernel_rfl) (by kernel_rfl) (fun _ _ _ h => h) (Or.inl ⟨by rfl, ?rc1⟩) hHeld ?_
  case rc1 =>
    intro wS hSw
    go_simp
    try with_reducible rfl
  try simp only [Act.put, List.getElem_toArray, List.getElem_cons_zero, List.getElem_cons_succ, List.setIfInBounds_toArray, List.set_cons_zero, List.set_cons_succ]
  refine wpAnyH_take (i := 2) (v := ?_) rfl (by kernel_rfl) (by kernel_rfl) (by kernel_rfl) (fun _ _ _ h => h) (Or.inl ⟨by rfl, ?rc2⟩) hHeld ?_
  case rc2 =>
    intro wS hSw
    go_simp
    try with_reducible rfl
  try simp only [Act.put, List.getElem_toArray, List.getElem_cons_zero, List.getElem_cons_succ, List.setIfInBounds_toArray, List.set_cons_zero, List.set_cons_succ]
  refine wpAnyH_take (i := 3) (v := ?_) rfl (by kernel_rfl) (by kernel_rfl) (by kernel_rfl) (fun _ _ _ h => h) (Or.inl ⟨by rfl, ?rc3⟩) hHeld ?_
  case rc3 =>
    intro wS hSw
    go_simp
    try with_reducible rfl
  try simp only [Act.put, List.getElem_toArray, List.getElem_cons_zero, List.getElem_cons_succ, List.setIfInBounds_toArray, List.set_cons_zero, List.set_cons_succ]
  refine wpAnyH_take (i := 4) (v := ?_) rfl (by kernel_rfl) (by kernel_rfl) (by kernel_rfl) (fun _ _ _ h => h) (Or.inl ⟨by rfl, ?rc4⟩) hHeld ?_
  case rc4 =>
    intro wS hSw
    go_simp
    try with_reducible rfl
  try simp only [Act.put, List.getElem_toArray, List.getElem_cons_zero, List.getElem_cons_succ, List.setIfInBounds_toArray, List.set_cons_zero, List.set_cons_succ]
  refine wpAnyH_take (i := 5) (v := ?_) rfl (by kernel_rfl) (by kernel_rfl) (by kernel_rfl) (fun _ _ _ h => h) (Or.inl ⟨by rfl, ?rc5⟩) hHeld ?_
  case rc5 =>
    intro wS hSw
    go_simp
    try with_reducible rfl
  try simp only [Act.put, List.getElem_toArray, List.getElem_cons_zero, List.getElem_cons_succ, List.setIfInBounds_toArray, List.set_cons_zero, List.set_cons_succ]
  refine wpAnyH_take (i := 6) (v := ?_) rfl (by kernel_rfl) (by kernel_rfl) (by kernel_rfl) (fun _ _ _ h => h) (Or.inl ⟨by rfl, ?rc6⟩) hHeld ?_
  case rc6 =>
    intro wS hSw
    go_simp
    try with_reducible rfl
  try simp only [Act.put, List.getElem_toArray, List.getElem_cons_zero, List.getElem_cons_succ, List.setIfInBounds_toArray, List.set_cons_zero, List.set_cons_succ]
  refine wpAnyH_take (i := 7) (v := ?_) rfl (by kernel_rfl) (by kernel_rfl) (by kernel_rfl) (fun _ _ _ h => h) (Or.inl ⟨by rfl, ?rc7⟩) hHeld ?_
  case rc7 =>
    intro wS hSw
    go_simp
    try with_reducible rfl
  try simp only [Act.put, List.getElem_toArray, List.getElem_cons_zero, List.getElem_cons_succ, List.setIfInBounds_toArray, List.set_cons_zero, List.set_cons_succ]
  refine wpAnyH_take (i := 8) (v := ?_) rfl (by kernel_rfl) (by kernel_rfl) (by kernel_rfl) (fun _ _ _ h => h) (Or.inl ⟨by rfl, ?rc8⟩) hHeld ?_
  case rc8 =>
    intro wS hSw
    go_simp
    try with_reducible rfl
  try simp only [Act.put, List.getElem_toArray, List.getElem_cons_zero, List.getElem_cons_succ, List.setIfInBounds_toArray, List.set_cons_zero, List.set_cons_succ]
  refine' wpAnyH_take (i := 9) (v := _) rfl (by kernel_rfl) (by kernel_rfl) (by kernel_rfl) (fun _ _ _ h => h) (yieldsIf_load_mid (by rfl) _ _ rfl q 0 rfl S0.stat _ ?rc9S ?rc9u ?rc9d ?rc9i) hHeld ?rc9x
  case rc9S =>
    intro wS hSw
    exact hSw
  case rc9u => exact Tryd.underlying25
  case rc9d => rfl
  case rc9i => exact infoSt
  try simp only [Act.put, List.getElem_toArray, List.getElem_cons_zero, List.getElem_cons_succ, List.setIfInBounds_toArray, List.set_cons_zero, List.set_cons_succ]
  refine wpAnyH_take (i := 10) (v := ?_) rfl (by kernel_rfl) (by kernel_rfl) (by kernel_rfl) (fun _ _ _ h => h) (Or.inl ⟨by rfl, ?rc10⟩) hHeld ?_
  case rc10 =>
    intro wS hSw
    go_simp
    try with_reducible rfl
  try simp only [Act.put, List.getElem_toArray, List.getElem_cons_zero, List.getElem_cons_succ, List.setIfInBounds_toArray, List.set_cons_zero, List.set_cons_succ]
  refine wpAnyH_ready (rs := [11]) (by kernel_rfl) (by simp) ?_
  refine AllReadyH.cons rfl (fun K hK => ?_) AllReadyH.nil
  go_simp
  refine (QU.out _ HBD.out).mono ?_
  rintro ex w4 ⟨rfl, hb4⟩
  have HB4 : Hid (Below w3.heap.size w3 w4) := Lib.hid (HBD.out.trans (hb4.mono HBD.out.size))
  clear hb4
  refine hK.out _ _ (KS.out _ HB4.out) (fun hHeld2 => ?_)
  clear hK K hHeld
  have hHeld := hHeld2
  clear hHeld2
  try simp only [Act.put, List.getElem_toArray, List.getElem_cons_zero, List.getElem_cons_succ, List.setIfInBounds_toArray, List.set_cons_zero, List.set_cons_succ]
  refine wpAnyH_take (i := 12) (v := (.agg (.string ⟨p.toArray⟩ :: .int .u8 (S0.node : Int) :: .int .i64 S0.size :: .int .u64 (S0.ino : Int) :: .int .i64 S0.tick :: .int .u8 1 :: Lib.byteCells (Sh.sum d)).toArray)) rfl (by kernel_rfl) (by kernel_rfl) (by kernel_rfl) (fun _ _ _ h => h) (Or.inl ⟨by rfl, ?rc12⟩) hHeld ?_
  case rc12 =>
    intro wS hSw
    refine exec_ben (x0 := .tmp 34) (x1 := .tmp 35) (x2 := .const (.int .u8 1)) (x3 := .tmp 37) ⟨p.toArray⟩ (S0.node : Int) S0.size (S0.ino : Int) S0.tick 1 (Sh.sum d) (Sh.sum_length d) ?_ ?_ ?_ ?_ ?_
    all_goals first | kernel_rfl | rfl
  try simp only [Act.put, List.getElem_toArray, List.getElem_cons_zero, List.getElem_cons_succ, List.setIfInBounds_toArray, List.set_cons_zero, List.set_cons_succ]
  refine wpAnyH_ready (rs := [13]) (by kernel_rfl) (by simp) ?_
  refine AllReadyH.cons rfl (fun K hK => ?_) AllReadyH.nil
  go_simp
  refine (SET.out _ HB4.out).mono ?_
  rintro ex w5 ⟨rfl, hi5, hu5⟩
  have HL5 := Lib.hid ((HL3.out.below HB4.out).set hi5 hu5)
  have KS5 : Hid (w5.rangeAt q 0 S0.stat) := Lib.hid (KT.out _ _ HB4.out hu5)
  have HB5 : Hid (Turn [r, b, db, kb] w w5) := Lib.hid ((HB3.out.trans (Turn.of_below (X := []) HB4.out) (fun y hy => by cases hy)).trans hu5 (fun y hy => .inl (by rw [List.mem_singleton] at hy; simp [hy])))
  have HQ5 : Hid (w5.heap[q]? = some (.cells S0.stat.toArray 25)) := Lib.hid ((hu5.block q (Nat.lt_of_lt_of_le (lt_of_heap HQ3.out) HB4.out.size) (by have := HL.out.idx.lt_b; have := HQW.out; simp; omega)).trans ((HB4.out.block q (lt_of_heap HQ3.out)).trans HQ3.out))
  clear hi5 hu5
  refine hK.out _ _ KS5.out (fun hHeld2 => ?_)
  clear hK K hHeld
  have hHeld := hHeld2
  clear hHeld2
  try simp only [Act.put, List.getElem_toArray, List.getElem_cons_zero, List.getElem_cons_succ, List.setIfInBounds_toArray, List.set_cons_zero, List.set_cons_succ]
  refine wpAnyH_take (i := 14) (v := ?_) rfl (by kernel_rfl) (by kernel_rfl) (by kernel_rfl) (fun _ _ _ h => h) (Or.inl ⟨by rfl, ?rc14⟩) hHeld ?_
  case rc14 =>
    intro wS hSw
    go_simp
    try with_reducible rfl
  try simp only [Act.put, List.getElem_toArray, List.getElem_cons_zero, List.getElem_cons_succ, List.setIfInBounds_toArray, List.set_cons_zero, List.set_cons_succ]
  refine wpAnyH_take (i := 15) (v := ?_) rfl (by kernel_rfl) (by kernel_rfl) (by kernel_rfl) (fun _ _ _ h => h) (Or.inl ⟨by rfl, ?rc15⟩) hHeld ?_
  case rc15 =>
    intro wS hSw
    go_simp
    try with_reducible rfl
  try simp only [Act.put, List.getElem_toArray, List.getElem_cons_zero, List.getElem_cons_succ, List.setIfInBounds_toArray, List.set_cons_zero, List.set_cons_succ]
  refine wpAnyH_done (by kernel_rfl) ?_ _
  clear hHeld
  try simp only [Act.put, List.getElem_toArray, List.getElem_cons_zero, List.getElem_cons_succ, List.setIfInBounds_toArray, List.set_cons_zero, List.set_cons_succ]
  rw [HE0.out] at HL5 ⊢
  by_cases hse : (setX (entN p T.L) X).1 = 0
  case neg =>
    have hbf : ((setX (entN p T.L) X).1 == 0) = false := by rw [beq_eq_false_iff_ne]; exact hse
    have hbf2 : ((setX (entN p T.L) X).1 != 0) = true := by rw [bne, hbf]; rfl
    have HX2 := Lib.hid (setX_no hse)
    have HNO : Hid (¬ (readE p T.L = 0 ∧ (setX (entN p T.L) X).1 = 0)) := Lib.hid (fun h => hse h.2)
    clear hse
    go_wp2
    have hl := HL5.out
    rw [HX2.out] at hl
    exact bodyPost_end (results_none rfl _ _ _) rfl ⟨rfl, T', HT.out.1, HT.out.2.1, HT.out.2.2.1, HT.out.2.2.2, HB5.out, .inr ⟨HNO.out, hl⟩⟩
  have HSE := Lib.hid hse
  rw [hse]
  clear hse
  obtain ⟨w6, hrun6, hm6, hu6⟩ := map_store Tryd.underlying49 HL5.out.dat p HPL.out d (by have := putM_len D p d; have := HDL.out; omega)
  have HL6 := Lib.hid (HL5.out.putD hm6 hu6)
  have HB6 : Hid (Turn [r, b, db, kb] w w6) := Lib.hid (HB5.out.trans hu6 (fun y hy => .inl (by rw [List.mem_singleton] at hy; simp [hy])))
  have hq6 : w6.heap[q]? = some (.cells S0.stat.toArray 25) := (hu6.block q (lt_of_heap HQ5.out) (by have := HL.out.dat.lt; have := HQW.out; simp; omega)).trans HQ5.out
  have c2 : w6.cell? ⟨q, 2, none⟩ = some (.int .u64 (S0.ino : Int)) := cell_of_heap hq6
  have c3 : w6.cell? ⟨q, 3, none⟩ = some (.int .i64 S0.tick) := cell_of_heap hq6
  obtain ⟨w7, hrun7, hm7, hu7⟩ := map_store Tryd.underlying50 HL6.out.kep p HPL.out (S0.ino, S0.tick) (by have := putM_len K p (S0.ino, S0.tick); have := HKL.out; omega)
  have HL7 := Lib.hid (HL6.out.putK hm7 hu7)
  have HB7 : Hid (Turn [r, b, db, kb] w w7) := Lib.hid (HB6.out.trans hu7 (fun y hy => .inl (by rw [List.mem_singleton] at hy; simp [hy])))
  unfold strD at hrun6
  have hrun7 : (Instr.mapUpdate 50 (.map (some kb)) (.string ⟨p.toArray⟩) (.agg #[.string ⟨#[]⟩, .int .u8 0, .int .u32 0, .int .u32 0, .int .u32 0, .int .i64 0, .string ⟨#[]⟩, .slice none 0 0, .string ⟨#[]⟩, .int .u64 (S0.ino : Int), .int .i64 S0.tick])).run Tryd.prog w6 = .ok () w7 := hrun7
  clear hm6 hu6 hq6 hm7 hu7
  go_wp2
  refine bodyPost_end (results_none rfl _ _ _) rfl ⟨rfl, T', HT.out.1, HT.out.2.1, HT.out.2.2.1, HT.out.2.2.2, HB7.out, .inl ⟨HR.out, HSE.out, ?_⟩⟩
  have hl := HL7.out
  rw [HS0.out, HD0.out] at hl
  exact hl
end Go.Proofs.YthcjjekkjbidlaaDoor.Sr
