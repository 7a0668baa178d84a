/-
  The contract of the law's own test of a copy.
-/
import Derived.Test.YtjfmboiokplngaaRfEq
namespace Go.Proofs.Ytjfmboiokplngaa.Rf
open Go.RowKit Go.Maps Go.WideMaps
variable {X : Spect}

/-- A call's six cells. -/
def opCells (kind : Int) (S T : ByteArray) (c : UInt8) (t n : Int) : Array Value := #[.int .i64 kind, .string S, .string T, .int .u8 (c.toNat : Int), .int .i64 t, .int .i64 n]

theorem delM_lt {α : Type} {m : MV α} {k : List UInt8} {n : α} (h : getM m k = some n) : (delM m k).length < m.length := by
  refine List.length_filter_lt_length_iff_exists.2 ⟨(k, n), getM_mem h, by simp⟩
/-- A branch that is written keeps the limits. -/
theorem okb_put {K : BK} (ok : OkB K) {k : List UInt8} {l : List En} (hk : (getM K k).isSome = true ∨ K.length < 64) (hkl : k.length ≤ 255) (h1 : l ≠ []) (h2 : l.length ≤ 4096) (h3 : ∀ e ∈ l, e.c.length = 32 ∧ 0 ≤ e.t ∧ e.t ≤ 1099511627776) : OkB (putM K k l) := by
  have hm : ∀ p, p ∈ putM K k l → p = (k, l) ∨ p ∈ K := fun p hp => (mem_ins.1 hp).imp id (fun e => (mem_del.1 e).1)
  refine ⟨?_, fun p hp => ?_, fun p hp => ?_, fun p hp => ?_, fun p hp => ?_⟩
  · rw [(put_perm k l K).length_eq, List.length_cons]
    rcases hk with hk | hk
    · obtain ⟨n, hn⟩ := Option.isSome_iff_exists.1 hk
      have := delM_lt hn; have := ok.size; omega
    · have := delM_length K k; omega
  · rcases hm p hp with rfl | e
    · exact hkl
    · exact ok.keys p e
  · rcases hm p hp with rfl | e
    · exact h1
    · exact ok.ne p e
  · rcases hm p hp with rfl | e
    · exact h2
    · exact ok.len p e
  · rcases hm p hp with rfl | e
    · exact h3
    · exact ok.ent p e
theorem zget {Z : BM} {k : List UInt8} {l : List En} (h : getM (plainB Z) k = some l) : ∃ v, getM Z k = some (v, l) := by
  rw [plain_get] at h
  obtain ⟨p, hp, he⟩ := Option.map_eq_some_iff.1 h
  exact ⟨p.1, by rw [hp, ← he]⟩

theorem addM {K : BK} {k : List UInt8} {l : List En} (hk : getM K k = some l) (hc : Nm.chk k = true) (hl : ∀ e ∈ l, e.t ≤ 1099511627776) :
    addB K k enM = if 4096 ≤ l.length then (3, K) else (0, putM K k (l ++ [enM])) := by
  have hlast : ¬ enM.t < (l.getLast?.getD enM).t := by
    cases h : l.getLast? with
    | none => simp
    | some e =>
      have := hl e (List.mem_of_getLast? h)
      show ¬ (1099511627776 : Int) < e.t
      omega
  rw [addB, if_neg (by simp [hc]), if_neg (by decide), hk]
  show (if enM.t < (l.getLast?.getD enM).t then _ else _) = _
  rw [if_neg hlast]

/-- IN A QUIET REGION: an operation that is wanted. -/
theorem wpQuiet_want {P : Program} {ops : Array Oper} {C : World → Prop} {Q : Act → Prop} {a : Act} {o : Oper} {rest : List Oper} (hw : Region.wanted o (yielded ops a.tmps) = true)
    (h : o.quiet P a C (wpQuiet P ops C Q rest)) : wpQuiet P ops C Q (o :: rest) a := by
  unfold wpQuiet
  rw [if_pos hw]
  exact h
/-- .. the load of many cells. -/
theorem quiet_load {P : Program} {o : Oper} {a : Act} {C : World → Prop} {K : Act → Prop} (ty : TypeId) (x : Operand) (ho : o.op = .load ty x)
    (b off : Nat) (hx : a.eval x = .pointer (some ⟨b, off, none⟩)) (cs : List Value) (d : TypeDesc) (hS : ∀ w, C w → w.rangeAt b off cs)
    (hu : P.underlying ty = some d) (hd : d.isRow = true) (hi : (P.info? ty).map (·.size) = some cs.length) (h : K (a.put o.dst (.agg cs.toArray))) : o.quiet P a C K := by
  refine ⟨_, fun w hw => ?_, h⟩
  unfold Oper.quietAt execOp
  simp only [ho, hx, Instr.loadAt, Instr.sureAddr, Sem.run_bind, Sem.run_pure, Result.andThen_ok, run_loadVar_mid w b off ty cs d (hS w hw) hu hd hi]
  exact ⟨rfl, rfl⟩
/-- .. two snapshots that are the same. -/
theorem quiet_neq {o : Oper} {a : Act} {C : World → Prop} {K : Act → Prop} (x y : Operand) (e : En) (he : e.c.length = 32) (ho : o.op = .binOp .neq 34 x y 34)
    (hx : a.eval x = enV e) (hy : a.eval y = enV e) (h : K (a.put o.dst (.bool false))) : o.quiet Try.prog a C K := by
  refine ⟨_, fun w hw => ?_, h⟩
  have hr := neqEn w e he
  have hg := guardEn w x y e
  unfold Oper.quietAt execOp
  generalize enV e = v at *
  simp only [ho, hx, hy, Sem.run_bind, hg, hr, Result.andThen_ok]
  exact ⟨rfl, rfl⟩
/-- A snapshot's cells among its list's. -/
theorem range_at {w : World} {g : Nat} {l : List En} {j : Nat} {e : En} (hl : ∀ e ∈ l, e.c.length = 32) (hr : ∀ (i : Nat) x, (cellsL l)[i]? = some x → w.cell? ⟨g, i, none⟩ = some x) (he : l[j]? = some e) : w.rangeAt g (j * 33) e.cells := by
  intro i v hv
  exact hr _ _ (cellsL_at hl he hv)

set_option maxHeartbeats 8000000 in
set_option maxRecDepth 100000 in
theorem copied_any (B : Nat) (w : World) (g b : Nat) (Z : BM) (S T : ByteArray) (c : UInt8) (kind t n : Int) (l : List En) (hS : S.size ≤ maxLen) (hT : T.size ≤ maxLen) (h : BookAt X B w g b Z) (ok : OkB (plainB Z))
    (h1 : getM (plainB Z) S.data.toList = some l) (h2 : getM (plainB Z) T.data.toList = some l) (hne : S.data.toList ≠ T.data.toList) (hc : Nm.chk T.data.toList = true) :
    Calls Try.prog 10 #[ptr g, .agg (opCells kind S T c t n)] w fun e w' => e = .returned (.bool true) ∧ Below w.heap.size w w' := by
  have okl : l ≠ [] ∧ l.length ≤ 4096 ∧ ∀ e ∈ l, e.c.length = 32 ∧ 0 ≤ e.t ∧ e.t ≤ 1099511627776 := by
    have := getM_mem h1
    exact ⟨ok.ne _ this, ok.len _ this, ok.ent _ this⟩
  obtain ⟨W, hW⟩ : ∃ W, W = w.alloc (.cells (opCells kind S T c t n) 29) := ⟨_, rfl⟩
  have hq0 : W.heap[w.heap.size]? = some (.cells (opCells kind S T c t n) 29) := by rw [hW]; exact (MapKept.heap_alloc w _).1
  have hb0 : Below w.heap.size w W := by rw [hW]; exact (Below.refl _ _).alloc (Nat.le_refl _) _
  have hz1 : ∃ v, getM Z S.data.toList = some (v, l) := by
    rw [plain_get] at h1
    obtain ⟨p, hp, he⟩ := Option.map_eq_some_iff.1 h1
    exact ⟨p.1, by rw [hp, ← he]⟩
  have hz2 : ∃ v, getM Z T.data.toList = some (v, l) := by
    rw [plain_get] at h2
    obtain ⟨p, hp, he⟩ := Option.map_eq_some_iff.1 h2
    exact ⟨p.1, by rw [hp, ← he]⟩
  obtain ⟨v1, hz1⟩ := hz1
  obtain ⟨v2, hz2⟩ := hz2
  have hW0 := h.below hb0
  have L1 := Lib.hid (bookLog_any B W g b Z S hS hW0 ok)
  rw [hz1] at L1
  have H := Lib.hid h; have HOK := Lib.hid ok; have HB0 := Lib.hid hb0; have HQ0 := Lib.hid hq0; have HW := Lib.hid hW; have HZ2 := Lib.hid hz2
  have HKL := Lib.hid okl; have H1 := Lib.hid h1; have H2 := Lib.hid h2; have HNE := Lib.hid hne; have HC := Lib.hid hc
  clear hW0 h ok hb0 hq0 hz1 hz2 okl h1 h2 hne hc hW
  have HS : Hid (S.size ≤ maxLen) := Lib.hid hS
  have HT : Hid (T.size ≤ maxLen) := Lib.hid hT
  unfold ptr opCells at *
  go_enter Try.func10, Try.ntmps10
  go_wp2_with fail
  rw [← HW.out]
  refine L1.out.mono ?_
  rintro e w1 ⟨hb1, v3, rfl, ho3⟩
  have hq1 := (hb1.block _ (lt_of_heap HQ0.out)).trans HQ0.out
  have c2 : w1.cell? ⟨w.heap.size, 2, none⟩ = some (.string T) := cell_of_heap hq1
  have hb01 := HB0.out.trans (hb1.mono HB0.out.size)
  have L2 := Lib.hid (bookLog_any B w1 g b Z T HT.out (H.out.below hb01) HOK.out)
  rw [HZ2.out] at L2
  have HB1 := Lib.hid hb01; have HQ1 := Lib.hid hq1; have HO3 := Lib.hid ho3
  clear L1 hb1 ho3 hq1 hb01
  unfold ptr at *
  go_wp2_with fail
  refine L2.out.mono ?_
  rintro e w2 ⟨hb2, v4, rfl, ho4⟩
  dsimp only at ho4
  obtain ⟨m, hm⟩ : ∃ m, m = l.length := ⟨_, rfl⟩
  have hm0 : m ≠ 0 := by rw [hm]; simpa using HKL.out.1
  have hm4 : m ≤ 4096 := by rw [hm]; exact HKL.out.2.1
  have ho3 := HO3.out
  rw [← hm] at ho3 ho4
  obtain ⟨g3, cap3, rfl, hg3, _, hr3⟩ := rowS_form ho3 hm0
  obtain ⟨g4, cap4, rfl, hg4, _, hr4⟩ := rowS_form ho4 hm0
  have hq2 := (hb2.block _ (lt_of_heap HQ1.out)).trans HQ1.out
  have hb02 := HB1.out.trans (hb2.mono HB1.out.size)
  have TW := Lib.hid (twin_any B w2 g b Z (H.out.below hb02) HOK.out)
  have R3 : Hid (∀ (j : Nat) x, (cellsL l)[j]? = some x → w2.cell? ⟨g3, j, none⟩ = some x) := Lib.hid (fun j x hx => (World.cell?_of_block (a := ⟨g3, j, none⟩) (hb2.block g3 hg3)).trans (hr3 j x hx))
  have hg3' : g3 < w2.heap.size := Nat.lt_of_lt_of_le hg3 hb2.size
  have HB2 := Lib.hid hb02; have HQ2 := Lib.hid hq2; have R4 := Lib.hid hr4; have HM := Lib.hid hm
  clear hb2 hb02 hq2 hr3 hr4 ho3 ho4 HO3 L2 hm c2
  unfold ptr at *
  go_wp2_with fail
  refine TW.out.mono ?_
  rintro e w3 ⟨gt, bt, TT, rfl, htt, hb3, hokt, hget⟩
  have hq3 := (hb3.block _ (lt_of_heap HQ2.out)).trans HQ2.out
  have c32 : w3.cell? ⟨w.heap.size, 2, none⟩ = some (.string T) := cell_of_heap hq3
  have AD := add_any w2.heap.size w3 gt bt TT T enM HT.out (by decide) htt hokt
  have h2t : getM (plainB TT) T.data.toList = some l := by rw [hget]; exact H2.out
  rw [addM h2t HC.out (fun e he => (HKL.out.2.2 e he).2.2), ← HM.out] at AD
  have HGET := Lib.hid hget; have HTT := Lib.hid htt; have HOKT := Lib.hid hokt; have HB3 := Lib.hid hb3; have HQ3 := Lib.hid hq3
  have hs23 : w2.heap.size ≤ w3.heap.size := hb3.size
  clear TW htt hb3 hokt hget hq3 h2t
  by_cases hf : 4096 ≤ m
  · rw [if_pos hf] at AD
    have AD2 := Lib.hid AD
    have hmm : (m : Int) = 4096 := by omega
    clear AD
    unfold ptr at *
    go_wp2_with (first
      | (refine wpList_plain rfl fun K hK => ?_; refine wpM _ rfl rfl ?_; refine hK _ _ ?_; clear hK K))
    refine AD2.out.mono ?_
    rintro e w4 ⟨Z4, rfl, _, _, hb4⟩
    have HB4 := Lib.hid hb4
    clear hb4 AD2
    go_wp2
    go_ret
    refine ⟨rfl, HB2.out.trans ((HB3.out.trans HB4.out).mono HB2.out.size)⟩
  · rw [if_neg hf] at AD
    have AD2 := Lib.hid AD
    clear AD
    unfold ptr at *
    go_wp2_with (first
      | (refine wpList_plain rfl fun K hK => ?_; refine wpM _ rfl rfl ?_; refine hK _ _ ?_; clear hK K))
    refine AD2.out.mono ?_
    rintro e w4 ⟨Z4, rfl, h4, hp4, hb4⟩
    have hmf : m + 1 ≤ 4096 := by omega
    have ok4 : OkB (plainB Z4) := by
      rw [hp4]
      refine okb_put HOKT.out (.inl (by rw [HGET.out, H2.out]; rfl)) (HOKT.out.keys _ (getM_mem (show getM (plainB TT) T.data.toList = some l by rw [HGET.out]; exact H2.out))) (by simp) (by rw [List.length_append, ← HM.out]; exact hmf) (fun e he => ?_)
      rcases List.mem_append.1 he with h | h
      · exact HKL.out.2.2 e h
      · rw [List.mem_singleton.1 h]; exact ⟨by decide, by decide, by decide⟩
    have hsn : getM (plainB Z4) S.data.toList = some l := by rw [hp4, get_put_other _ _ (fun e => HNE.out e.symm), HGET.out]; exact H1.out
    have hto : getM (plainB Z4) T.data.toList = some (l ++ [enM]) := by rw [hp4, get_put_same]
    obtain ⟨v5, hz5⟩ := zget hsn
    obtain ⟨v6, hz6⟩ := zget hto
    have hb04 : Below w2.heap.size w2 w4 := HB3.out.trans hb4
    have hq4 := (hb04.block _ (lt_of_heap HQ2.out)).trans HQ2.out
    have c41 : w4.cell? ⟨w.heap.size, 1, none⟩ = some (.string S) := cell_of_heap hq4
    have L5 := Lib.hid (bookLog_any w2.heap.size w4 gt bt Z4 S HS.out h4 ok4)
    rw [hz5] at L5
    have H4 := Lib.hid h4; have OK4 := Lib.hid ok4; have HB4 := Lib.hid hb04; have HZ6 := Lib.hid hz6; have HQ4 := Lib.hid hq4
    clear AD2 h4 ok4 hb4 hb04 hsn hto hz5 hz6 hp4 hq4 c32
    unfold ptr at *
    go_wp2_with fail
    refine L5.out.mono ?_
    rintro e w5 ⟨hb5, v7, rfl, ho7⟩
    dsimp only at ho7
    have hq5 := (hb5.block _ (lt_of_heap HQ4.out)).trans HQ4.out
    have c52 : w5.cell? ⟨w.heap.size, 2, none⟩ = some (.string T) := cell_of_heap hq5
    have L6 := Lib.hid (bookLog_any w2.heap.size w5 gt bt Z4 T HT.out (H4.out.below hb5) OK4.out)
    rw [HZ6.out] at L6
    rw [← HM.out] at ho7
    obtain ⟨g7, cap7, rfl, hg7, _, hr7⟩ := rowS_form ho7 hm0
    have HB5 := Lib.hid (HB4.out.trans (hb5.mono HB4.out.size)); have R7 := Lib.hid hr7
    clear L5 ho7 hq5 hb5 hr7 c41
    unfold ptr at *
    go_wp2_with fail
    refine L6.out.mono ?_
    rintro e w6 ⟨hb6, v8, rfl, ho8⟩
    dsimp only at ho8
    rw [List.length_append, ← HM.out] at ho8
    change w6.ownsRow w5.heap.size 34 33 v8 (m + 1) _ at ho8
    obtain ⟨g8, cap8, rfl, _, _, _⟩ := rowS_form ho8 (by omega)
    have HB6 := Lib.hid (HB5.out.trans (hb6.mono HB5.out.size))
    have R7' : Hid (∀ (j : Nat) x, (cellsL l)[j]? = some x → w6.cell? ⟨g7, j, none⟩ = some x) := Lib.hid (fun j x hx => (World.cell?_of_block (a := ⟨g7, j, none⟩) (hb6.block g7 hg7)).trans (R7.out j x hx))
    have hg7' : g7 < w6.heap.size := Nat.lt_of_lt_of_le hg7 hb6.size
    clear L6 ho8 hb6 c52 R7
    go_wp2
    go_loopw [14] (fun s14 wr => ∃ j n : Nat, j ≤ m ∧ s14 = .int .i64 j ∧ wr = w6.drewN n) (fun s14 _ => m - (RowKit.intOf s14).toNat)
    case atStart => exact ⟨0, 0, by omega, rfl, rfl⟩
    case round =>
      obtain ⟨j, n, hj, rfl, rfl⟩ := hrel
      by_cases hlt : (j : Int) < (m : Int)
      · have hj' : j < m := by omega
        have hjl : j < l.length := by rw [← HM.out]; exact hj'
        obtain ⟨e, he⟩ : ∃ e, l[j]? = some e := ⟨_, List.getElem?_eq_getElem hjl⟩
        have hec : e.c.length = 32 := (HKL.out.2.2 e (List.mem_of_getElem? he)).1
        have E : (w6.drewN n).rangeAt g3 (j * 33) e.cells := range_at (fun e he => (HKL.out.2.2 e he).1) (fun i x hx => (World.cell?_of_block (a := ⟨g3, i, none⟩) (HB6.out.block g3 hg3')).trans (R3.out i x hx)) he
        have E4 : (w6.drewN n).rangeAt g4 (j * 33) e.cells := range_at (fun e he => (HKL.out.2.2 e he).1) (fun i x hx => (World.cell?_of_block (a := ⟨g4, i, none⟩) (HB6.out.block g4 hg4)).trans (R4.out i x hx)) he
        have hln : e.cells.length = 33 := by simp [En.cells, Lib.byteCells_length, hec]
        have hsz : (Try.prog.info? 34).map (·.size) = some e.cells.length := by rw [hln]; rfl
        have E' := Lib.hid E; have E4' := Lib.hid E4
        clear E E4
        have E7 := Lib.hid <| show (w6.drewN n).rangeAt g7 (j * 33) e.cells from range_at (fun e he => (HKL.out.2.2 e he).1) (fun i x hx => R7'.out i x hx) he
        go_wp2
        refine wp_region_quiet_lit (by kernel_rfl) (by kernel_rfl) ?_
        repeat (quiet_step (fail))
        refine wpQuiet_want (by rfl) (quiet_load _ _ rfl g3 (j * 33) rfl e.cells _ (fun u hu => by obtain ⟨k, rfl⟩ := hu; exact E'.out) Try.underlying34 rfl hsz ?_)
        repeat (quiet_step (fail))
        refine wpQuiet_want (by rfl) (quiet_load _ _ rfl g4 (j * 33) rfl e.cells _ (fun u hu => by obtain ⟨k, rfl⟩ := hu; exact E4'.out) Try.underlying34 rfl hsz ?_)
        refine wpQuiet_want (by rfl) (quiet_neq _ _ e hec rfl rfl rfl ?_)
        repeat (quiet_step (fail))
        refine wpQuiet_want (by rfl) (quiet_load _ _ rfl g7 (j * 33) rfl e.cells _ (fun u hu => by obtain ⟨k, rfl⟩ := hu; exact E7.out) Try.underlying34 rfl hsz ?_)
        repeat (quiet_step (fail))
        refine wpQuiet_want (by rfl) (quiet_load _ _ rfl g3 (j * 33) rfl e.cells _ (fun u hu => by obtain ⟨k, rfl⟩ := hu; exact E'.out) Try.underlying34 rfl hsz ?_)
        refine wpQuiet_want (by rfl) (quiet_neq _ _ e hec rfl rfl rfl ?_)
        repeat (quiet_step (fail))
        refine wpQuiet_nil ?_
        intro _ hw'
        obtain ⟨nq, rfl⟩ := hw'
        go_wp2
        go_roundw
        case rel => exact ⟨j + 1, n + nq, by omega, by simp, rfl⟩
        case measure => simp [RowKit.intOf]; omega
      · go_wp2
        go_ret
        exact ⟨rfl, below_drewN' (HB2.out.trans (HB6.out.mono HB2.out.size)) _⟩
end Go.Proofs.Ytjfmboiokplngaa.Rf
