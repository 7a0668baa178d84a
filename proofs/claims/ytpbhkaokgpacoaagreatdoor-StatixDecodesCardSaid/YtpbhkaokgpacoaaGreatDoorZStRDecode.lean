import Derived.Test.YtpbhkaokgpacoaaGreatDoorZStREntry
import Derived.Test.YtpbhkaokgpacoaaGreatDoorZStRDecBack
import Derived.Test.YtpbhkaokgpacoaaGreatDoorZStRefAt
import Derived.Test.YtpbhkaokgpacoaaGreatDoorZStMay
import Derived.Test.YtpbhkaokgpacoaaGreatDoorZStRefSet
import Derived.Deep.QuietTactic
import Derived.BigQuiet
set_option linter.unusedSimpArgs false
set_option linter.unusedVariables false
/-
  The contract of the reference's Decode, at any bytes. 
-/
namespace Go.Proofs.YtpbhkaokgpacoaaGreatDoor.St
open Go.RowKit Go.Maps Go.WideMaps Go.Proofs.YtpbhkaokgpacoaaGreatDoor.Rf Go.Proofs.YtpbhkaokgpacoaaGreatDoor.Rd Go.Proofs.YtpbhkaokgpacoaaGreatDoor.Nm

/-- The state of a round. -/
structure RDs (w : World) (q x : Nat) (v : Value) (L : List SE) (R : List UInt8) (wr : World) : Prop where
  rd : RReaderAt wr q R
  ix : RefAt w.heap.size wr x v L
  qv : q ∉ ob v
  bl : Below w.heap.size w wr
def RDecPost (w : World) : Option (List SE) → Ending → World → Prop
  | some L, e, w' => ∃ r v, e = .returned (.tuple #[ptr r, .int .i64 0]) ∧ RefAt w.heap.size w' r v L ∧ Below w.heap.size w w'
  | none, e, w' => e = .returned (.tuple #[.pointer none, .int .i64 4]) ∧ Below w.heap.size w w'
/-- What the test of a new entry reads. -/
structure RS12 (x g : Nat) (e : SE) (va : Option Addr) (n vc : Nat) (w : World) : Prop where
  hd : w.cell? ⟨x, 0, none⟩ = some (.slice va n vc)
  rg : w.rangeAt g 0 e.cells
  en : w.cell? ⟨g, 0, none⟩ = some (.string ⟨e.path.toArray⟩)
theorem turn_grown {X : List Nat} {w w' w'' : World} {row : Option Nat} (h : Turn X w w') (hg : w'.grownBy w'' row) (hX : ∀ k, row = some k → k ∈ X) : Turn X w w'' :=
  ⟨hg.os.trans h.os, hg.tape.trans h.tape, hg.output.trans h.output, Nat.le_trans h.size hg.size, fun k hk hn => (hg.block k (Nat.lt_of_lt_of_le hk h.size) (fun e => hn (hX k e.symm))).trans (h.block k hk hn)⟩
/-- The state behind an append. -/
theorem rds_put {w w5 w7 : World} {q x i : Nat} {v v7 : Value} {L : List SE} {R2 : List UInt8} {e : SE} (hl : L.length = i) (hI : RefAt w.heap.size w5 x v L) (hR : RReaderAt w5 q R2) (hqv : q ∉ ob v) (hqx : q < x) (hB : Below w.heap.size w w5)
    (hT : Turn (ob v) w5 w7) (ho : w7.ownsRow w.heap.size EnT 38 v7 (i + 1) (cellsS L ++ e.cells)) (hx : v7.ownBlock = v.ownBlock ∨ ∃ n, v7.ownBlock = some n ∧ w5.heap.size ≤ n) (hS : Srt (L ++ [e])) (hE : e.Fits) (hi : i < 65536) :
    RDs w q x v7 (L ++ [e]) R2 (w7.setCell ⟨x, 0, none⟩ v7) := by
  have hxl := hI.lt
  have hql := lt_of_heap hR
  have b7 := (hT.block x hxl (fun h => hI.off x h rfl)).trans hI.book
  have r7 := (hT.block q hql hqv).trans hR
  have hoff : ∀ y ∈ ob v7, y ≠ x ∧ y ≠ q := by
    intro y hy
    rcases hx with hx | ⟨n, hx, hn⟩
    · have hy2 : y ∈ ob v := by unfold ob at hy ⊢; rw [← hx]; exact hy
      exact ⟨hI.off y hy2, fun h => hqv (h ▸ hy2)⟩
    · rw [ob, hx] at hy
      have : y = n := by simpa using hy
      subst this
      exact ⟨by omega, by omega⟩
  refine ⟨?_, ⟨?_, ?_, fun y hy => (hoff y hy).1, hI.base, hS, fun z hz => ?_, by rw [List.length_append, hl]; simp; omega⟩, fun h => (hoff q h).2 rfl, ?_⟩
  · exact (Below.heap_setCell _ _ _ _ (show q ≠ x by omega)).trans r7
  · rw [setCell_heap _ _ _ _ _ _ b7]; rfl
  · rw [List.length_append, hl, cellsS_append, show cellsS [e] = e.cells by simp [cellsS]]
    exact rowS_kept ho (fun y hy _ => Below.heap_setCell _ _ _ _ (hoff y hy).1)
  · rcases List.mem_append.1 hz with hz | hz
    · exact hI.fits z hz
    · rw [List.mem_singleton] at hz; subst hz; exact hE
  · refine hB.trans (((hT.below (fun y hy => rowS_ge hI.row y hy) hB.size)).trans ?_)
    exact ((Turn.refl [x] w7).setCell (.inl (by simp)) _).below (by simpa using hI.base) (Nat.le_trans hB.size hT.size)
set_option linter.unusedSimpArgs false in
set_option maxHeartbeats 8000000 in
set_option maxRecDepth 100000 in
theorem rdecode_any (w : World) (hT : Nm.Tabs w) (s : List UInt8) (hl : s.length ≤ 140737488355328) :
    Calls Tryz.prog 26 #[.string ⟨s.toArray⟩] w (RDecPost w (decX s)) := by
  have HTB := Lib.hid hT
  clear hT
  obtain ⟨X, hX⟩ : ∃ X, X = decX s := ⟨_, rfl⟩
  have HX := Lib.hid hX
  rw [← hX]
  clear hX
  by_cases h4 : (s.length : Int) < 4
  · have HNO : Hid (X = none) := Lib.hid (by
      rw [HX.out, decX, if_neg]
      rintro ⟨h, _⟩
      have := congrArg List.length h
      rw [List.length_take] at this
      simp [mst] at this
      omega)
    go_enter Tryz.func26, Tryz.ntmps26
    go_wp2
    go_ret2
    rw [HNO.out]
    exact ⟨rfl, Below.refl _ _⟩
  · have h4n : 4 ≤ s.length := by omega
    have hs4 : (4 : Int) ≤ (s.length : Int) := by omega
    obtain ⟨P, hP⟩ : ∃ P, P = s.take 4 := ⟨_, rfl⟩
    have HP := Lib.hid hP
    have hEX : (⟨s.toArray⟩ : ByteArray).extract 0 4 = ⟨P.toArray⟩ := by rw [extract_list, hP]; rfl
    have HS : Hid (s.length ≤ 140737488355328) := Lib.hid hl
    clear hP hl
    by_cases hm : P = mst
    · have heq : (P == [109, 115, 116, 49]) = true := by rw [hm]; rfl
      go_enter Tryz.func26, Tryz.ntmps26
      have hER : (⟨s.toArray⟩ : ByteArray).extract 4 s.length = ⟨(s.drop 4).toArray⟩ := by rw [extract_list, List.take_of_length_le (by rw [List.length_drop]; omega)]
      obtain ⟨q, hq⟩ : ∃ q, q = w.heap.size := ⟨_, rfl⟩
      obtain ⟨R0, hR0⟩ : ∃ R0, R0 = s.drop 4 := ⟨_, rfl⟩
      have l0 : R0.length ≤ 140737488355328 := by rw [hR0, List.length_drop]; have := HS.out; omega
      have HX1 : Hid (X = if numB 65536 R0 = true then (match refGo (shN R0) [] (shR R0) with | some (L, []) => some L | _ => none) else none) := Lib.hid (by
        rw [HX.out, decX_ref, hR0]
        by_cases hn : numB 65536 (s.drop 4) = true
        · rw [if_pos ⟨HP.out.symm.trans hm, hn⟩, if_pos hn]; rfl
        · rw [if_neg (fun h => hn h.2), if_neg hn])
      have HR0 : Hid (RReaderAt (w.alloc (.cells #[.string ⟨R0.toArray⟩] RRdT)) q R0) := Lib.hid (by rw [hq]; exact Sh.at_new _ _)
      have HB0 : Hid (Below w.heap.size w (w.alloc (.cells #[.string ⟨R0.toArray⟩] RRdT))) := Lib.hid ((Below.refl _ _).alloc (Nat.le_refl _) _)
      rw [← hR0] at hER
      clear hR0 HX hm
      go_wp2_with fail
      rw [← hq]
      refine (ruint_any _ q R0 l0 HR0.out).mono ?_
      rintro ex w1 ⟨rfl, hr1, ht1⟩
      have HR1 := Lib.hid hr1
      have HB1 : Hid (Below w.heap.size w w1) := Lib.hid (HB0.out.trans (ht1.below (by simp; omega) (by rw [Sh.one_size]; omega)))
      clear hr1 ht1 HR0 HB0
      obtain ⟨E1, hE1⟩ : ∃ x, x = shE R0 := ⟨_, rfl⟩
      obtain ⟨n, hn⟩ : ∃ x, x = shN R0 := ⟨_, rfl⟩
      have HNB := Lib.hid (shE_cases R0 65536)
      rw [← hE1, ← hn] at HNB ⊢
      clear hE1
      by_cases hE : E1 = 0
      case neg =>
        have HNO : Hid (X = none) := Lib.hid (by rw [HX1.out, if_neg]; intro h; exact hE (HNB.out.1 h).1)
        have hb : (E1 == 0) = false := by rw [beq_eq_false_iff_ne]; exact hE
        have hb2 : (E1 != 0) = true := by rw [bne, hb]; rfl
        go_wp2
        go_ret2
        rw [HNO.out]
        exact ⟨rfl, HB1.out⟩
      subst hE
      by_cases hn6 : n ≤ 65536
      case neg =>
        have HNO : Hid (X = none) := Lib.hid (by rw [HX1.out, if_neg]; intro h; exact hn6 (HNB.out.1 h).2)
        have hb : (65536 : Int) < (n : Int) := by omega
        go_wp2
        go_ret2
        rw [HNO.out]
        exact ⟨rfl, HB1.out⟩
      have hb : ¬ (65536 : Int) < (n : Int) := by omega
      have HX2 : Hid (X = (match refGo n [] (shR R0) with | some (L, []) => some L | _ => none)) := Lib.hid (by rw [HX1.out, if_pos (HNB.out.2 ⟨rfl, hn6⟩), ← hn])
      obtain ⟨x, hx⟩ : ∃ x, x = w1.heap.size := ⟨_, rfl⟩
      have hqx : q < x := by rw [hx]; exact lt_of_heap HR1.out
      have HI0 : Hid (RDs w q x (.slice none 0 0) [] (shR R0) (w1.alloc (.cells #[.slice none 0 0] 29))) := Lib.hid ⟨Sh.at_alloc HR1.out _, ⟨by rw [hx]; exact Sh.at_new _ _, ⟨rfl, .inl ⟨rfl, rfl⟩⟩, (by intro y hy; simp [ob, Value.ownBlock] at hy), by omega, List.Pairwise.nil, (by intro _ h; cases h), by simp⟩, (by simp [ob, Value.ownBlock]), HB1.out.alloc HB1.out.size _⟩
      clear hn HX1 HNB
      subst hq hx
      go_wp2
      go_loopw [8] (fun v8 wr => ∃ (i : Nat) (v : Value) (L : List SE) (R : List UInt8), i ≤ n ∧ v8 = .int .u64 (i : Int) ∧ L.length = i ∧ R.length ≤ 140737488355328 ∧ Hid (refGo n [] (shR R0) = refGo (n - i) L R) ∧ Hid (RDs w w.heap.size w1.heap.size v L R wr)) (fun v8 _ => n - (RowKit.intOf v8).toNat)
      case atStart => exact ⟨0, _, [], shR R0, by omega, rfl, rfl, (by have := shR_le R0; omega), Lib.hid rfl, HI0⟩
      case round =>
        obtain ⟨i, v, L, R, hi, rfl, hLi, hRl, HG, HSt⟩ := hrel
        by_cases hlt : (i : Int) < (n : Int)
        · go_wp2_with fail
          have hin : i < n := by omega
          obtain ⟨k, hk⟩ : ∃ k, n - i = k + 1 := ⟨n - i - 1, by omega⟩
          have hk2 : n - (i + 1) = k := by omega
          have HG1 : Hid (refGo n [] (shR R0) = if nextB L R = true then refGo k (L ++ [entE R]) (r7 R) else none) := Lib.hid (by rw [HG.out, hk]; rfl)
          clear HG hk
          go_wp2_with fail
          refine (rentry_any _ _ R hRl HSt.out.rd).mono ?_
          rintro ex w3 hp3
          rw [REntPost] at hp3
          cases hen : entB R with
          | false =>
            rw [hen, if_neg (by decide)] at hp3
            obtain ⟨rfl, ht3⟩ := hp3
            have HB3 : Hid (Below w.heap.size w w3) := Lib.hid (HSt.out.bl.trans (ht3.below (by simp) HSt.out.bl.size))
            have HNO : Hid (X = none) := Lib.hid (by rw [HX2.out, HG1.out, if_neg (by rw [nextB, hen, Bool.false_and]; decide)])
            clear ht3
            go_wp2_with (first
              | (refine Sh.wpList_store_new rfl rfl EnT (.tmp 9) (.tmp 44) rfl zeroS.cells.toArray rfl rfl (infoEnR zero_fits.id) rfl (cells_all zeroS) ?_
                 intro w4 hq4 hb4 hs4
                 have HB4 : Hid (Below w.heap.size w w4) := Lib.hid (HB3.out.trans (hb4.mono HB3.out.size))
                 clear hq4 hb4 hs4)
              | fail)
            go_quiet (fail)
            go_wp2
            go_ret2
            rw [HNO.out]
            exact ⟨rfl, HB4.out.trans ((below_drewN _ _).mono HB4.out.size)⟩
          | true =>
            rw [hen, if_pos rfl] at hp3
            obtain ⟨rfl, hr3, ht3⟩ := hp3
            have HF := ent_fits hRl
            have HNX : Hid (nextB L R = (decide (mayN (entE R) = 0) && (decide (L = []) || lt (lastP L) (entE R).path))) := Lib.hid (by rw [nextB, hen, Bool.true_and])
            have HSX : Hid (nextB L R = true → Srt (L ++ [entE R])) := Lib.hid (fun h => srt_next HSt.out.ix.srt (nextB_lt h).2.2)
            have l7 : (r7 R).length ≤ 140737488355328 := by have := congrArg List.length (ent_back hen); rw [List.length_append] at this; omega
            have HI3 : Hid (RefAt w.heap.size w3 w1.heap.size v L) := Lib.hid (HSt.out.ix.kept (ht3.block _ HSt.out.ix.lt (by simp; omega)) (fun y hy => ht3.block y (rowS_lt HSt.out.ix.row y hy) (by simp; rintro rfl; exact HSt.out.qv hy)))
            have HB3 : Hid (Below w.heap.size w w3) := Lib.hid (HSt.out.bl.trans (ht3.below (by simp) HSt.out.bl.size))
            have HR3 := Lib.hid hr3
            have HQV := Lib.hid HSt.out.qv
            obtain ⟨e, he⟩ : ∃ e, e = entE R := ⟨_, rfl⟩
            obtain ⟨R2, hR2⟩ : ∃ R2, R2 = r7 R := ⟨_, rfl⟩
            obtain ⟨nb, hnb⟩ : ∃ nb, nb = nextB L R := ⟨_, rfl⟩
            rw [← he] at HNX HSX HG1 HF ⊢
            rw [← hR2] at HG1 HR3 l7
            rw [← hnb] at HNX HG1 HSX
            clear hr3 ht3 HSt hen he hR2 hnb hRl
            have HE := Lib.hid HF
            have HE38 : Hid (e.cells.length = 38) := Lib.hid (cells_size HF.id)
            have HZ : Hid (zeroS.cells.toArray.size = e.cells.toArray.size) := Lib.hid (by rw [List.size_toArray, List.size_toArray, HE38.out]; rfl)
            clear HF
            obtain ⟨va, vc, rfl⟩ : ∃ va vc, v = .slice va i vc := by rw [← hLi]; exact rowS_slice HI3.out.row
            have HLI := Lib.hid hLi
            obtain ⟨g, hg⟩ : ∃ g, g = w3.heap.size := ⟨_, rfl⟩
            clear hLi
            go_wp2_with (first
              | (refine Sh.wpList_store_new rfl rfl EnT (.tmp 9) (.tmp 44) rfl e.cells.toArray rfl rfl (infoEnR HE.out.id) HZ.out (cells_all e) ?_
                 intro w4 hq4 hb4 hs4)
              | fail)
            rw [← hg] at hq4 hb4 hs4 ⊢
            have HB4 : Hid (Below w.heap.size w w4) := Lib.hid (HB3.out.trans (hb4.mono (by have := HB3.out.size; omega)))
            have HI4 : Hid (RefAt w.heap.size w4 w1.heap.size (.slice va i vc) L) := Lib.hid (HI3.out.below (hg ▸ hb4))
            have HR4 : Hid (RReaderAt w4 w.heap.size R2) := Lib.hid ((hb4.block _ (by rw [hg]; exact lt_of_heap HR3.out)).trans HR3.out)
            have HVG : Hid (∀ y ∈ ob (.slice va i vc), y < g) := Lib.hid (fun y hy => by rw [hg]; exact rowS_lt HI3.out.row y hy)
            have HQ4 := Lib.hid hq4
            clear hq4 hb4 hs4 hg HI3 HR3 HB3 HZ HI0
            have HQX : Hid (w.heap.size < w1.heap.size) := Lib.hid hqx
            have HBX : Hid (Below w.heap.size w w4) := HB4
            have MY : Hid (∀ w', Below w.heap.size w w' → Calls Tryz.prog 10 #[enV e] w' fun x w'' => x = .returned (.int .i64 (mayN e)) ∧ Below w'.heap.size w' w'') := Lib.hid (fun w' hb => ref_may w' (HTB.out.below hb) e HE.out)
            obtain ⟨mn, hmn⟩ : ∃ mn, mn = mayN e := ⟨_, rfl⟩
            rw [← hmn] at HNX MY
            clear hmn
            have KS0 : Hid (∀ w', Below w4.heap.size w4 w' → RS12 w1.heap.size g e va i vc w') := Lib.hid (fun w' hb => by
              have g5 := (hb.block g (lt_of_heap HQ4.out)).trans HQ4.out
              have b5 := (HI4.out.below hb).book
              exact ⟨cell_of_heap b5, range_block g5, by rw [cell_of_heap g5]; rfl⟩)
            by_cases hm0 : mn = 0
            case neg =>
              have HNO : Hid (X = none) := Lib.hid (by rw [HX2.out, HG1.out, HNX.out, decide_eq_false hm0, Bool.false_and, if_neg (by decide)])
              have hb1 : (mn == 0) = false := by rw [beq_eq_false_iff_ne]; exact hm0
              have hb2 : (mn != 0) = true := by rw [bne, hb1]; rfl
              have KS : Hid (∀ w', Below w4.heap.size w4 w' → RS12 w1.heap.size g e va i vc w' ∧ True) := Lib.hid (fun w' hb => ⟨KS0.out w' hb, trivial⟩)
              clear HNX HG1 HSX hm0 KS0
              go_upto_region 12 with (fail)
              refine wp_region_held_drew (S := (fun w' : World => RS12 w1.heap.size g e va i vc w' ∧ True)) (by kernel_rfl) (KS.out _ (Below.refl w4.heap.size w4).drew) (fun hHeld => ?_)
              refine wpAnyH_take (i := 0) (v := ?_) rfl (by kernel_rfl) (by kernel_rfl) (by kernel_rfl) (fun _ _ _ h => h) (Or.inl ⟨by rfl, ?e1_0⟩) hHeld ?_
              case e1_0 =>
                intro wS hSw
                have k0 := hSw.1.hd
                have k1 := hSw.1.en
                have k2 := hSw.2
                clear hSw
                go_simp
                try with_reducible rfl
              try simp only [Act.put, List.getElem_toArray, List.getElem_cons_zero, List.getElem_cons_succ, List.setIfInBounds_toArray, List.set_cons_zero, List.set_cons_succ]
              refine wpAnyH_take (i := 1) (v := ?_) rfl (by kernel_rfl) (by kernel_rfl) (by kernel_rfl) (fun _ _ _ h => h) (Or.inl ⟨by rfl, ?e1_1⟩) hHeld ?_
              case e1_1 =>
                intro wS hSw
                have k0 := hSw.1.hd
                have k1 := hSw.1.en
                have k2 := hSw.2
                clear hSw
                go_simp
                try with_reducible rfl
              try simp only [Act.put, List.getElem_toArray, List.getElem_cons_zero, List.getElem_cons_succ, List.setIfInBounds_toArray, List.set_cons_zero, List.set_cons_succ]
              refine wpAnyH_take (i := 2) (v := ?_) rfl (by kernel_rfl) (by kernel_rfl) (by kernel_rfl) (fun _ _ _ h => h) (Or.inl ⟨by rfl, ?e1_2⟩) hHeld ?_
              case e1_2 =>
                intro wS hSw
                have k0 := hSw.1.hd
                have k1 := hSw.1.en
                have k2 := hSw.2
                clear hSw
                go_simp
                try with_reducible rfl
              try simp only [Act.put, List.getElem_toArray, List.getElem_cons_zero, List.getElem_cons_succ, List.setIfInBounds_toArray, List.set_cons_zero, List.set_cons_succ]
              refine' wpAnyH_take (i := 3) (v := _) rfl (by kernel_rfl) (by kernel_rfl) (by kernel_rfl) (fun _ _ _ h => h) (yieldsIf_load_mid (by rfl) _ _ rfl g 0 rfl e.cells _ ?e1_3S ?e1_3u ?e1_3d ?e1_3i) hHeld ?e1_3x
              case e1_3S =>
                intro wS hSw
                exact hSw.1.rg
              case e1_3u => exact Tryz.underlying49
              case e1_3d => rfl
              case e1_3i => exact HE.out.enR.infoL
              try simp only [Act.put, List.getElem_toArray, List.getElem_cons_zero, List.getElem_cons_succ, List.setIfInBounds_toArray, List.set_cons_zero, List.set_cons_succ]
              refine wpAnyH_ready (rs := [4]) (by kernel_rfl) (by simp) ?_
              refine AllReadyH.cons rfl (fun K hK => ?_) AllReadyH.nil
              go_simp
              refine (MY.out _ (HBX.out.trans ((Below.refl w4.heap.size w4).drew.mono HBX.out.size))).mono ?_
              rintro ex w5 ⟨rfl, hb5⟩
              have HB5 : Hid (Below w4.heap.size w4 w5) := Lib.hid ((Below.refl w4.heap.size w4).drew.trans (hb5.mono (Below.refl w4.heap.size w4).drew.size))
              clear hb5
              go_wp2_with fail
              refine hK.out _ _ (KS.out _ HB5.out) (fun hHeld2 => ?_)
              clear hK K hHeld
              have hHeld := hHeld2
              clear hHeld2
              try simp only [Act.put, List.getElem_toArray, List.getElem_cons_zero, List.getElem_cons_succ, List.setIfInBounds_toArray, List.set_cons_zero, List.set_cons_succ]
              refine wpAnyH_take (i := 5) (v := ?_) rfl (by kernel_rfl) (by kernel_rfl) (by kernel_rfl) (fun _ _ _ h => h) (Or.inl ⟨by rfl, ?e1_5⟩) hHeld ?_
              case e1_5 =>
                intro wS hSw
                have k0 := hSw.1.hd
                have k1 := hSw.1.en
                have k2 := hSw.2
                clear hSw
                go_simp
                try with_reducible rfl
              try simp only [Act.put, List.getElem_toArray, List.getElem_cons_zero, List.getElem_cons_succ, List.setIfInBounds_toArray, List.set_cons_zero, List.set_cons_succ]
              refine wpAnyH_take (i := 6) (v := ?_) rfl (by kernel_rfl) (by kernel_rfl) (by kernel_rfl) (fun _ _ _ h => h) (Or.inl ⟨by rfl, ?e1_6⟩) hHeld ?_
              case e1_6 =>
                intro wS hSw
                have k0 := hSw.1.hd
                have k1 := hSw.1.en
                have k2 := hSw.2
                clear hSw
                go_simp
                try with_reducible rfl
              try simp only [Act.put, List.getElem_toArray, List.getElem_cons_zero, List.getElem_cons_succ, List.setIfInBounds_toArray, List.set_cons_zero, List.set_cons_succ]
              refine wpAnyH_take (i := 7) (v := ?_) rfl (by kernel_rfl) (by kernel_rfl) (by kernel_rfl) (fun _ _ _ h => h) (Or.inl ⟨by rfl, ?e1_7⟩) hHeld ?_
              case e1_7 =>
                intro wS hSw
                have k0 := hSw.1.hd
                have k1 := hSw.1.en
                have k2 := hSw.2
                clear hSw
                go_simp
                try with_reducible rfl
              try simp only [Act.put, List.getElem_toArray, List.getElem_cons_zero, List.getElem_cons_succ, List.setIfInBounds_toArray, List.set_cons_zero, List.set_cons_succ]
              refine wpAnyH_take (i := 8) (v := undef) rfl (by kernel_rfl) (by kernel_rfl) (by kernel_rfl) (fun _ _ _ h => h) (Or.inr ⟨by rfl, rfl⟩) hHeld ?_
              try simp only [Act.put, List.getElem_toArray, List.getElem_cons_zero, List.getElem_cons_succ, List.setIfInBounds_toArray, List.set_cons_zero, List.set_cons_succ]
              refine wpAnyH_take (i := 9) (v := undef) rfl (by kernel_rfl) (by kernel_rfl) (by kernel_rfl) (fun _ _ _ h => h) (Or.inr ⟨by rfl, rfl⟩) hHeld ?_
              try simp only [Act.put, List.getElem_toArray, List.getElem_cons_zero, List.getElem_cons_succ, List.setIfInBounds_toArray, List.set_cons_zero, List.set_cons_succ]
              refine wpAnyH_take (i := 10) (v := undef) rfl (by kernel_rfl) (by kernel_rfl) (by kernel_rfl) (fun _ _ _ h => h) (Or.inr ⟨by rfl, rfl⟩) hHeld ?_
              try simp only [Act.put, List.getElem_toArray, List.getElem_cons_zero, List.getElem_cons_succ, List.setIfInBounds_toArray, List.set_cons_zero, List.set_cons_succ]
              refine wpAnyH_take (i := 11) (v := undef) rfl (by kernel_rfl) (by kernel_rfl) (by kernel_rfl) (fun _ _ _ h => h) (Or.inr ⟨by rfl, rfl⟩) hHeld ?_
              try simp only [Act.put, List.getElem_toArray, List.getElem_cons_zero, List.getElem_cons_succ, List.setIfInBounds_toArray, List.set_cons_zero, List.set_cons_succ]
              refine wpAnyH_take (i := 12) (v := undef) rfl (by kernel_rfl) (by kernel_rfl) (by kernel_rfl) (fun _ _ _ h => h) (Or.inr ⟨by rfl, rfl⟩) hHeld ?_
              try simp only [Act.put, List.getElem_toArray, List.getElem_cons_zero, List.getElem_cons_succ, List.setIfInBounds_toArray, List.set_cons_zero, List.set_cons_succ]
              refine wpAnyH_take (i := 13) (v := undef) rfl (by kernel_rfl) (by kernel_rfl) (by kernel_rfl) (fun _ _ _ h => h) (Or.inr ⟨by rfl, rfl⟩) hHeld ?_
              try simp only [Act.put, List.getElem_toArray, List.getElem_cons_zero, List.getElem_cons_succ, List.setIfInBounds_toArray, List.set_cons_zero, List.set_cons_succ]
              refine wpAnyH_take (i := 14) (v := undef) rfl (by kernel_rfl) (by kernel_rfl) (by kernel_rfl) (fun _ _ _ h => h) (Or.inr ⟨by rfl, rfl⟩) hHeld ?_
              try simp only [Act.put, List.getElem_toArray, List.getElem_cons_zero, List.getElem_cons_succ, List.setIfInBounds_toArray, List.set_cons_zero, List.set_cons_succ]
              refine wpAnyH_take (i := 15) (v := undef) rfl (by kernel_rfl) (by kernel_rfl) (by kernel_rfl) (fun _ _ _ h => h) (Or.inr ⟨by rfl, rfl⟩) hHeld ?_
              try simp only [Act.put, List.getElem_toArray, List.getElem_cons_zero, List.getElem_cons_succ, List.setIfInBounds_toArray, List.set_cons_zero, List.set_cons_succ]
              refine wpAnyH_take (i := 16) (v := undef) rfl (by kernel_rfl) (by kernel_rfl) (by kernel_rfl) (fun _ _ _ h => h) (Or.inr ⟨by rfl, rfl⟩) hHeld ?_
              try simp only [Act.put, List.getElem_toArray, List.getElem_cons_zero, List.getElem_cons_succ, List.setIfInBounds_toArray, List.set_cons_zero, List.set_cons_succ]
              refine wpAnyH_take (i := 17) (v := undef) rfl (by kernel_rfl) (by kernel_rfl) (by kernel_rfl) (fun _ _ _ h => h) (Or.inr ⟨by rfl, rfl⟩) hHeld ?_
              try simp only [Act.put, List.getElem_toArray, List.getElem_cons_zero, List.getElem_cons_succ, List.setIfInBounds_toArray, List.set_cons_zero, List.set_cons_succ]
              refine wpAnyH_take (i := 18) (v := undef) rfl (by kernel_rfl) (by kernel_rfl) (by kernel_rfl) (fun _ _ _ h => h) (Or.inr ⟨by rfl, rfl⟩) hHeld ?_
              try simp only [Act.put, List.getElem_toArray, List.getElem_cons_zero, List.getElem_cons_succ, List.setIfInBounds_toArray, List.set_cons_zero, List.set_cons_succ]
              refine wpAnyH_take (i := 19) (v := undef) rfl (by kernel_rfl) (by kernel_rfl) (by kernel_rfl) (fun _ _ _ h => h) (Or.inr ⟨by rfl, rfl⟩) hHeld ?_
              try simp only [Act.put, List.getElem_toArray, List.getElem_cons_zero, List.getElem_cons_succ, List.setIfInBounds_toArray, List.set_cons_zero, List.set_cons_succ]
              refine wpAnyH_take (i := 20) (v := undef) rfl (by kernel_rfl) (by kernel_rfl) (by kernel_rfl) (fun _ _ _ h => h) (Or.inr ⟨by rfl, rfl⟩) hHeld ?_
              try simp only [Act.put, List.getElem_toArray, List.getElem_cons_zero, List.getElem_cons_succ, List.setIfInBounds_toArray, List.set_cons_zero, List.set_cons_succ]
              refine wpAnyH_take (i := 21) (v := undef) rfl (by kernel_rfl) (by kernel_rfl) (by kernel_rfl) (fun _ _ _ h => h) (Or.inr ⟨by rfl, rfl⟩) hHeld ?_
              try simp only [Act.put, List.getElem_toArray, List.getElem_cons_zero, List.getElem_cons_succ, List.setIfInBounds_toArray, List.set_cons_zero, List.set_cons_succ]
              refine wpAnyH_take (i := 22) (v := undef) rfl (by kernel_rfl) (by kernel_rfl) (by kernel_rfl) (fun _ _ _ h => h) (Or.inr ⟨by rfl, rfl⟩) hHeld ?_
              try simp only [Act.put, List.getElem_toArray, List.getElem_cons_zero, List.getElem_cons_succ, List.setIfInBounds_toArray, List.set_cons_zero, List.set_cons_succ]
              refine wpAnyH_take (i := 23) (v := undef) rfl (by kernel_rfl) (by kernel_rfl) (by kernel_rfl) (fun _ _ _ h => h) (Or.inr ⟨by rfl, rfl⟩) hHeld ?_
              try simp only [Act.put, List.getElem_toArray, List.getElem_cons_zero, List.getElem_cons_succ, List.setIfInBounds_toArray, List.set_cons_zero, List.set_cons_succ]
              refine wpAnyH_take (i := 24) (v := ?_) rfl (by kernel_rfl) (by kernel_rfl) (by kernel_rfl) (fun _ _ _ h => h) (Or.inl ⟨by rfl, ?e1_24⟩) hHeld ?_
              case e1_24 =>
                intro wS hSw
                have k0 := hSw.1.hd
                have k1 := hSw.1.en
                have k2 := hSw.2
                clear hSw
                go_simp
                try with_reducible rfl
              try simp only [Act.put, List.getElem_toArray, List.getElem_cons_zero, List.getElem_cons_succ, List.setIfInBounds_toArray, List.set_cons_zero, List.set_cons_succ]
              refine wpAnyH_done (by kernel_rfl) ?_ _
              clear hHeld
              try simp only [Act.put, List.getElem_toArray, List.getElem_cons_zero, List.getElem_cons_succ, List.setIfInBounds_toArray, List.set_cons_zero, List.set_cons_succ]
              go_wp2
              go_ret2
              rw [HNO.out]
              exact ⟨rfl, HB4.out.trans (HB5.out.mono HB4.out.size)⟩
            subst hm0
            have HNX1 : Hid (nb = (decide (L = []) || lt (lastP L) e.path)) := Lib.hid (by rw [HNX.out]; rfl)
            clear HNX
            cases i with
            | zero =>
              have HYES : Hid (nb = true) := Lib.hid (by rw [HNX1.out, decide_eq_true (List.length_eq_zero_iff.1 HLI.out)]; rfl)
              have HSN : Hid (Srt (L ++ [e])) := Lib.hid (HSX.out HYES.out)
              have KS : Hid (∀ w', Below w4.heap.size w4 w' → RS12 w1.heap.size g e va 0 vc w' ∧ True) := Lib.hid (fun w' hb => ⟨KS0.out w' hb, trivial⟩)
              clear HNX1 HSX KS0
              go_upto_region 12 with (fail)
              refine wp_region_held_drew (S := (fun w' : World => RS12 w1.heap.size g e va 0 vc w' ∧ True)) (by kernel_rfl) (KS.out _ (Below.refl w4.heap.size w4).drew) (fun hHeld => ?_)
              refine wpAnyH_take (i := 0) (v := ?_) rfl (by kernel_rfl) (by kernel_rfl) (by kernel_rfl) (fun _ _ _ h => h) (Or.inl ⟨by rfl, ?e2_0⟩) hHeld ?_
              case e2_0 =>
                intro wS hSw
                have k0 := hSw.1.hd
                have k1 := hSw.1.en
                have k2 := hSw.2
                clear hSw
                go_simp
                try with_reducible rfl
              try simp only [Act.put, List.getElem_toArray, List.getElem_cons_zero, List.getElem_cons_succ, List.setIfInBounds_toArray, List.set_cons_zero, List.set_cons_succ]
              refine wpAnyH_take (i := 1) (v := ?_) rfl (by kernel_rfl) (by kernel_rfl) (by kernel_rfl) (fun _ _ _ h => h) (Or.inl ⟨by rfl, ?e2_1⟩) hHeld ?_
              case e2_1 =>
                intro wS hSw
                have k0 := hSw.1.hd
                have k1 := hSw.1.en
                have k2 := hSw.2
                clear hSw
                go_simp
                try with_reducible rfl
              try simp only [Act.put, List.getElem_toArray, List.getElem_cons_zero, List.getElem_cons_succ, List.setIfInBounds_toArray, List.set_cons_zero, List.set_cons_succ]
              refine wpAnyH_take (i := 2) (v := ?_) rfl (by kernel_rfl) (by kernel_rfl) (by kernel_rfl) (fun _ _ _ h => h) (Or.inl ⟨by rfl, ?e2_2⟩) hHeld ?_
              case e2_2 =>
                intro wS hSw
                have k0 := hSw.1.hd
                have k1 := hSw.1.en
                have k2 := hSw.2
                clear hSw
                go_simp
                try with_reducible rfl
              try simp only [Act.put, List.getElem_toArray, List.getElem_cons_zero, List.getElem_cons_succ, List.setIfInBounds_toArray, List.set_cons_zero, List.set_cons_succ]
              refine' wpAnyH_take (i := 3) (v := _) rfl (by kernel_rfl) (by kernel_rfl) (by kernel_rfl) (fun _ _ _ h => h) (yieldsIf_load_mid (by rfl) _ _ rfl g 0 rfl e.cells _ ?e2_3S ?e2_3u ?e2_3d ?e2_3i) hHeld ?e2_3x
              case e2_3S =>
                intro wS hSw
                exact hSw.1.rg
              case e2_3u => exact Tryz.underlying49
              case e2_3d => rfl
              case e2_3i => exact HE.out.enR.infoL
              try simp only [Act.put, List.getElem_toArray, List.getElem_cons_zero, List.getElem_cons_succ, List.setIfInBounds_toArray, List.set_cons_zero, List.set_cons_succ]
              refine wpAnyH_ready (rs := [4]) (by kernel_rfl) (by simp) ?_
              refine AllReadyH.cons rfl (fun K hK => ?_) AllReadyH.nil
              go_simp
              refine (MY.out _ (HBX.out.trans ((Below.refl w4.heap.size w4).drew.mono HBX.out.size))).mono ?_
              rintro ex w5 ⟨rfl, hb5⟩
              have HB5 : Hid (Below w4.heap.size w4 w5) := Lib.hid ((Below.refl w4.heap.size w4).drew.trans (hb5.mono (Below.refl w4.heap.size w4).drew.size))
              clear hb5
              go_wp2_with fail
              refine hK.out _ _ (KS.out _ HB5.out) (fun hHeld2 => ?_)
              clear hK K hHeld
              have hHeld := hHeld2
              clear hHeld2
              try simp only [Act.put, List.getElem_toArray, List.getElem_cons_zero, List.getElem_cons_succ, List.setIfInBounds_toArray, List.set_cons_zero, List.set_cons_succ]
              refine wpAnyH_take (i := 5) (v := ?_) rfl (by kernel_rfl) (by kernel_rfl) (by kernel_rfl) (fun _ _ _ h => h) (Or.inl ⟨by rfl, ?e2_5⟩) hHeld ?_
              case e2_5 =>
                intro wS hSw
                have k0 := hSw.1.hd
                have k1 := hSw.1.en
                have k2 := hSw.2
                clear hSw
                go_simp
                try with_reducible rfl
              try simp only [Act.put, List.getElem_toArray, List.getElem_cons_zero, List.getElem_cons_succ, List.setIfInBounds_toArray, List.set_cons_zero, List.set_cons_succ]
              refine wpAnyH_take (i := 6) (v := ?_) rfl (by kernel_rfl) (by kernel_rfl) (by kernel_rfl) (fun _ _ _ h => h) (Or.inl ⟨by rfl, ?e2_6⟩) hHeld ?_
              case e2_6 =>
                intro wS hSw
                have k0 := hSw.1.hd
                have k1 := hSw.1.en
                have k2 := hSw.2
                clear hSw
                go_simp
                try with_reducible rfl
              try simp only [Act.put, List.getElem_toArray, List.getElem_cons_zero, List.getElem_cons_succ, List.setIfInBounds_toArray, List.set_cons_zero, List.set_cons_succ]
              refine wpAnyH_take (i := 7) (v := ?_) rfl (by kernel_rfl) (by kernel_rfl) (by kernel_rfl) (fun _ _ _ h => h) (Or.inl ⟨by rfl, ?e2_7⟩) hHeld ?_
              case e2_7 =>
                intro wS hSw
                have k0 := hSw.1.hd
                have k1 := hSw.1.en
                have k2 := hSw.2
                clear hSw
                go_simp
                try with_reducible rfl
              try simp only [Act.put, List.getElem_toArray, List.getElem_cons_zero, List.getElem_cons_succ, List.setIfInBounds_toArray, List.set_cons_zero, List.set_cons_succ]
              refine wpAnyH_take (i := 8) (v := ?_) rfl (by kernel_rfl) (by kernel_rfl) (by kernel_rfl) (fun _ _ _ h => h) (Or.inl ⟨by rfl, ?e2_8⟩) hHeld ?_
              case e2_8 =>
                intro wS hSw
                have k0 := hSw.1.hd
                have k1 := hSw.1.en
                have k2 := hSw.2
                clear hSw
                go_simp
                try with_reducible rfl
              try simp only [Act.put, List.getElem_toArray, List.getElem_cons_zero, List.getElem_cons_succ, List.setIfInBounds_toArray, List.set_cons_zero, List.set_cons_succ]
              refine wpAnyH_take (i := 9) (v := ?_) rfl (by kernel_rfl) (by kernel_rfl) (by kernel_rfl) (fun _ _ _ h => h) (Or.inl ⟨by rfl, ?e2_9⟩) hHeld ?_
              case e2_9 =>
                intro wS hSw
                have k0 := hSw.1.hd
                have k1 := hSw.1.en
                have k2 := hSw.2
                clear hSw
                go_simp
                try with_reducible rfl
              try simp only [Act.put, List.getElem_toArray, List.getElem_cons_zero, List.getElem_cons_succ, List.setIfInBounds_toArray, List.set_cons_zero, List.set_cons_succ]
              refine wpAnyH_take (i := 10) (v := ?_) rfl (by kernel_rfl) (by kernel_rfl) (by kernel_rfl) (fun _ _ _ h => h) (Or.inl ⟨by rfl, ?e2_10⟩) hHeld ?_
              case e2_10 =>
                intro wS hSw
                have k0 := hSw.1.hd
                have k1 := hSw.1.en
                have k2 := hSw.2
                clear hSw
                go_simp
                try with_reducible rfl
              try simp only [Act.put, List.getElem_toArray, List.getElem_cons_zero, List.getElem_cons_succ, List.setIfInBounds_toArray, List.set_cons_zero, List.set_cons_succ]
              refine wpAnyH_take (i := 11) (v := undef) rfl (by kernel_rfl) (by kernel_rfl) (by kernel_rfl) (fun _ _ _ h => h) (Or.inr ⟨by rfl, rfl⟩) hHeld ?_
              try simp only [Act.put, List.getElem_toArray, List.getElem_cons_zero, List.getElem_cons_succ, List.setIfInBounds_toArray, List.set_cons_zero, List.set_cons_succ]
              refine wpAnyH_take (i := 12) (v := undef) rfl (by kernel_rfl) (by kernel_rfl) (by kernel_rfl) (fun _ _ _ h => h) (Or.inr ⟨by rfl, rfl⟩) hHeld ?_
              try simp only [Act.put, List.getElem_toArray, List.getElem_cons_zero, List.getElem_cons_succ, List.setIfInBounds_toArray, List.set_cons_zero, List.set_cons_succ]
              refine wpAnyH_take (i := 13) (v := undef) rfl (by kernel_rfl) (by kernel_rfl) (by kernel_rfl) (fun _ _ _ h => h) (Or.inr ⟨by rfl, rfl⟩) hHeld ?_
              try simp only [Act.put, List.getElem_toArray, List.getElem_cons_zero, List.getElem_cons_succ, List.setIfInBounds_toArray, List.set_cons_zero, List.set_cons_succ]
              refine wpAnyH_take (i := 14) (v := undef) rfl (by kernel_rfl) (by kernel_rfl) (by kernel_rfl) (fun _ _ _ h => h) (Or.inr ⟨by rfl, rfl⟩) hHeld ?_
              try simp only [Act.put, List.getElem_toArray, List.getElem_cons_zero, List.getElem_cons_succ, List.setIfInBounds_toArray, List.set_cons_zero, List.set_cons_succ]
              refine wpAnyH_take (i := 15) (v := undef) rfl (by kernel_rfl) (by kernel_rfl) (by kernel_rfl) (fun _ _ _ h => h) (Or.inr ⟨by rfl, rfl⟩) hHeld ?_
              try simp only [Act.put, List.getElem_toArray, List.getElem_cons_zero, List.getElem_cons_succ, List.setIfInBounds_toArray, List.set_cons_zero, List.set_cons_succ]
              refine wpAnyH_take (i := 16) (v := undef) rfl (by kernel_rfl) (by kernel_rfl) (by kernel_rfl) (fun _ _ _ h => h) (Or.inr ⟨by rfl, rfl⟩) hHeld ?_
              try simp only [Act.put, List.getElem_toArray, List.getElem_cons_zero, List.getElem_cons_succ, List.setIfInBounds_toArray, List.set_cons_zero, List.set_cons_succ]
              refine wpAnyH_take (i := 17) (v := undef) rfl (by kernel_rfl) (by kernel_rfl) (by kernel_rfl) (fun _ _ _ h => h) (Or.inr ⟨by rfl, rfl⟩) hHeld ?_
              try simp only [Act.put, List.getElem_toArray, List.getElem_cons_zero, List.getElem_cons_succ, List.setIfInBounds_toArray, List.set_cons_zero, List.set_cons_succ]
              refine wpAnyH_take (i := 18) (v := undef) rfl (by kernel_rfl) (by kernel_rfl) (by kernel_rfl) (fun _ _ _ h => h) (Or.inr ⟨by rfl, rfl⟩) hHeld ?_
              try simp only [Act.put, List.getElem_toArray, List.getElem_cons_zero, List.getElem_cons_succ, List.setIfInBounds_toArray, List.set_cons_zero, List.set_cons_succ]
              refine wpAnyH_take (i := 19) (v := undef) rfl (by kernel_rfl) (by kernel_rfl) (by kernel_rfl) (fun _ _ _ h => h) (Or.inr ⟨by rfl, rfl⟩) hHeld ?_
              try simp only [Act.put, List.getElem_toArray, List.getElem_cons_zero, List.getElem_cons_succ, List.setIfInBounds_toArray, List.set_cons_zero, List.set_cons_succ]
              refine wpAnyH_take (i := 20) (v := undef) rfl (by kernel_rfl) (by kernel_rfl) (by kernel_rfl) (fun _ _ _ h => h) (Or.inr ⟨by rfl, rfl⟩) hHeld ?_
              try simp only [Act.put, List.getElem_toArray, List.getElem_cons_zero, List.getElem_cons_succ, List.setIfInBounds_toArray, List.set_cons_zero, List.set_cons_succ]
              refine wpAnyH_take (i := 21) (v := undef) rfl (by kernel_rfl) (by kernel_rfl) (by kernel_rfl) (fun _ _ _ h => h) (Or.inr ⟨by rfl, rfl⟩) hHeld ?_
              try simp only [Act.put, List.getElem_toArray, List.getElem_cons_zero, List.getElem_cons_succ, List.setIfInBounds_toArray, List.set_cons_zero, List.set_cons_succ]
              refine wpAnyH_take (i := 22) (v := undef) rfl (by kernel_rfl) (by kernel_rfl) (by kernel_rfl) (fun _ _ _ h => h) (Or.inr ⟨by rfl, rfl⟩) hHeld ?_
              try simp only [Act.put, List.getElem_toArray, List.getElem_cons_zero, List.getElem_cons_succ, List.setIfInBounds_toArray, List.set_cons_zero, List.set_cons_succ]
              refine wpAnyH_take (i := 23) (v := ?_) rfl (by kernel_rfl) (by kernel_rfl) (by kernel_rfl) (fun _ _ _ h => h) (Or.inl ⟨by rfl, ?e2_23⟩) hHeld ?_
              case e2_23 =>
                intro wS hSw
                have k0 := hSw.1.hd
                have k1 := hSw.1.en
                have k2 := hSw.2
                clear hSw
                go_simp
                try with_reducible rfl
              try simp only [Act.put, List.getElem_toArray, List.getElem_cons_zero, List.getElem_cons_succ, List.setIfInBounds_toArray, List.set_cons_zero, List.set_cons_succ]
              refine wpAnyH_take (i := 24) (v := ?_) rfl (by kernel_rfl) (by kernel_rfl) (by kernel_rfl) (fun _ _ _ h => h) (Or.inl ⟨by rfl, ?e2_24⟩) hHeld ?_
              case e2_24 =>
                intro wS hSw
                have k0 := hSw.1.hd
                have k1 := hSw.1.en
                have k2 := hSw.2
                clear hSw
                go_simp
                try with_reducible rfl
              try simp only [Act.put, List.getElem_toArray, List.getElem_cons_zero, List.getElem_cons_succ, List.setIfInBounds_toArray, List.set_cons_zero, List.set_cons_succ]
              refine wpAnyH_done (by kernel_rfl) ?_ _
              clear hHeld
              try simp only [Act.put, List.getElem_toArray, List.getElem_cons_zero, List.getElem_cons_succ, List.setIfInBounds_toArray, List.set_cons_zero, List.set_cons_succ]
              have HI5 := Lib.hid (HI4.out.below HB5.out)
              have HR5 : Hid (RReaderAt w5 w.heap.size R2) := Lib.hid ((HB5.out.block _ (lt_of_heap HR4.out)).trans HR4.out)
              have HBW : Hid (Below w.heap.size w w5) := Lib.hid (HB4.out.trans (HB5.out.mono HB4.out.size))
              have HSZ : Hid (w.heap.size ≤ w5.heap.size) := Lib.hid HBW.out.size
              have HOWN : Hid (w5.ownsRow w.heap.size EnT 38 (.slice va 0 vc) 0 (cellsS L)) := Lib.hid (by have := HI5.out.row; rw [HLI.out] at this; exact this)
              have KR : Hid (∀ w', Turn (ob (.slice va 0 vc)) w5 w' → w'.cell? ⟨w1.heap.size, 0, none⟩ = some (.slice va 0 vc) ∧ w'.rangeAt g 0 e.cells) := Lib.hid (fun w' ht => by
                have a1 := (ht.block w1.heap.size HI5.out.lt (fun h => HI5.out.off w1.heap.size h rfl)).trans HI5.out.book
                have g5 : w5.heap[g]? = _ := (HB5.out.block g (lt_of_heap HQ4.out)).trans HQ4.out
                have a2 := (ht.block g (lt_of_heap g5) (fun h => by have := HVG.out g h; omega)).trans g5
                exact ⟨cell_of_heap a1, range_block a2⟩)
              have KF : Hid (∀ w', Turn (ob (.slice va 0 vc)) w5 w' → w'.frozen? ⟨w1.heap.size, 0, none⟩ = false) := Lib.hid (fun w' ht => frozen_of_heap ((ht.block w1.heap.size HI5.out.lt (fun h => HI5.out.off w1.heap.size h rfl)).trans HI5.out.book))
              obtain ⟨i0, hi0, hz0, hz1, hz2⟩ := info_parts infoZR
              have hz3 : (enV zeroS).cells.size = 38 := by kernel_rfl
              have HG2 : Hid (refGo n [] (shR R0) = refGo (n - (0 + 1)) (L ++ [e]) R2) := Lib.hid (by rw [HG1.out, HYES.out, if_pos rfl, hk2])
              go_wp2
              refine region_held (S := (fun w' : World => w'.cell? ⟨w1.heap.size, 0, none⟩ = some (.slice va 0 vc) ∧ w'.rangeAt g 0 e.cells)) (k := 10) (by kernel_rfl) (KR.out _ (Turn.of_below (Below.refl w5.heap.size w5).drew)) (fun hHeld => ?_)
              refine held_take (i := 0) (v := ?_) rfl (by kernel_rfl) (by kernel_rfl) (by kernel_rfl) (by kernel_rfl) (fun _ _ _ h => h) (Or.inl ⟨by rfl, ?d0_0⟩) hHeld ?_
              case d0_0 =>
                intro wS hSw
                have k0 := hSw.1
                clear hSw
                go_simp
                try with_reducible rfl
              try simp only [Act.put, List.getElem_toArray, List.getElem_cons_zero, List.getElem_cons_succ, List.setIfInBounds_toArray, List.set_cons_zero, List.set_cons_succ]
              refine held_take (i := 1) (v := ?_) rfl (by kernel_rfl) (by kernel_rfl) (by kernel_rfl) (by kernel_rfl) (fun _ _ _ h => h) (Or.inl ⟨by rfl, ?d0_1⟩) hHeld ?_
              case d0_1 =>
                intro wS hSw
                have k0 := hSw.1
                clear hSw
                go_simp
                try with_reducible rfl
              try simp only [Act.put, List.getElem_toArray, List.getElem_cons_zero, List.getElem_cons_succ, List.setIfInBounds_toArray, List.set_cons_zero, List.set_cons_succ]
              refine held_take (i := 2) (v := ?_) rfl (by kernel_rfl) (by kernel_rfl) (by kernel_rfl) (by kernel_rfl) (fun _ _ _ h => h) (Or.inl ⟨by rfl, ?d0_2⟩) hHeld ?_
              case d0_2 =>
                intro wS hSw
                have k0 := hSw.1
                clear hSw
                go_simp
                try with_reducible rfl
              try simp only [Act.put, List.getElem_toArray, List.getElem_cons_zero, List.getElem_cons_succ, List.setIfInBounds_toArray, List.set_cons_zero, List.set_cons_succ]
              refine held_take (i := 3) (v := ?_) rfl (by kernel_rfl) (by kernel_rfl) (by kernel_rfl) (by kernel_rfl) (fun _ _ _ h => h) (Or.inl ⟨by rfl, ?d0_3⟩) hHeld ?_
              case d0_3 =>
                intro wS hSw
                have k0 := hSw.1
                clear hSw
                go_simp
                try with_reducible rfl
              try simp only [Act.put, List.getElem_toArray, List.getElem_cons_zero, List.getElem_cons_succ, List.setIfInBounds_toArray, List.set_cons_zero, List.set_cons_succ]
              refine held_take (i := 4) (v := ?_) rfl (by kernel_rfl) (by kernel_rfl) (by kernel_rfl) (by kernel_rfl) (fun _ _ _ h => h) (Or.inl ⟨by rfl, ?d0_4⟩) hHeld ?_
              case d0_4 =>
                intro wS hSw
                have k0 := hSw.1
                clear hSw
                go_simp
                try with_reducible rfl
              try simp only [Act.put, List.getElem_toArray, List.getElem_cons_zero, List.getElem_cons_succ, List.setIfInBounds_toArray, List.set_cons_zero, List.set_cons_succ]
              refine' held_take (i := 5) (v := _) rfl (by kernel_rfl) (by kernel_rfl) (by kernel_rfl) (by kernel_rfl) (fun _ _ _ h => h) (yieldsIf_load_mid (by rfl) _ _ rfl g 0 rfl e.cells _ ?d0_5S ?d0_5u ?d0_5d ?d0_5i) hHeld ?d0_5x
              case d0_5S =>
                intro wS hSw
                exact hSw.2
              case d0_5u => exact Tryz.underlying49
              case d0_5d => rfl
              case d0_5i => exact HE.out.enR.infoL
              try simp only [Act.put, List.getElem_toArray, List.getElem_cons_zero, List.getElem_cons_succ, List.setIfInBounds_toArray, List.set_cons_zero, List.set_cons_succ]
              refine held_ready (rs := [6]) (by kernel_rfl) (by simp) ?_
              refine AllHeld.cons rfl (fun K hK => ?_) AllHeld.nil
              refine step_wp rfl ?_
              refine wp_one 27 49 (.tmp 76) e.cells i0 _ rfl rfl Tryz.underlying27 hi0 hz0 hz1 HE38.out ?_
              intro x6 w6 hh6 hg6 hx6 hs6
              have HB6 : Hid (Below w5.heap.size w5 w6) := Lib.hid ((Below.refl w5.heap.size w5).drew.grown hg6 (Below.refl w5.heap.size w5).drew.size (fun k hk => nomatch hk))
              have HH6 := Lib.hid hh6
              clear hh6 hg6 hx6 hs6
              have ka := KR.out w6 (Turn.of_below HB6.out)
              refine hK.out _ _ (fun _ => ka) (fun hHeld => ?_)
              clear hK K
              have hHeld := hHeld (by decide)
              try simp only [Act.put, List.getElem_toArray, List.getElem_cons_zero, List.getElem_cons_succ, List.setIfInBounds_toArray, List.set_cons_zero, List.set_cons_succ]
              refine held_ready (rs := [7]) (by kernel_rfl) (by simp) ?_
              refine AllHeld.cons rfl (fun K hK => ?_) AllHeld.nil
              refine step_wp rfl ?_
              refine wp_append_holds (.tmp 75) (.tmp 77) 27 rfl w.heap.size 49 i0 _ 88 Tryz.underlying27 hi0 hz0 hz1 hz2 hz3 (.slice va 0 vc) 0 (cellsS L) ?aa0 (rowS_kept HOWN.out (fun y _ hl => HB6.out.block y hl)) x6 1 e.cells ?ab0 HH6.out ?ac0 ?ad0 ?ae0 ?af0 ?ag0 ?ah0
              case aa0 => rfl
              case ab0 => rfl
              case ac0 => rw [HE38.out]
              case ad0 => exact cells_one e
              case ae0 => unfold maxLen; omega
              case af0 => omega
              case ag0 => have := HB6.out.size; have := HSZ.out; omega
              intro v7 w7 ho7 hg7 hx7
              obtain ⟨a7, c7, rfl⟩ := rowS_slice ho7
              have HT7 : Hid (Turn (ob (.slice va 0 vc)) w5 w7) := Lib.hid (turn_grown (Turn.of_below HB6.out) hg7 (fun k hk => by simp [ob, hk]))
              have HP7 : Hid (RDs w w.heap.size w1.heap.size (.slice a7 (0 + 1) c7) (L ++ [e]) R2 (w7.setCell ⟨w1.heap.size, 0, none⟩ (.slice a7 (0 + 1) c7))) := Lib.hid (rds_put (i := 0) HLI.out HI5.out HR5.out HQV.out HQX.out HBW.out HT7.out ho7 (hx7.imp id (fun h => ⟨w6.heap.size, h, HB6.out.size⟩)) HSN.out HE.out (by omega))
              clear ho7 hg7 hx7
              have ka := KR.out w7 HT7.out
              have kf : w7.frozen? ⟨w1.heap.size, 0, none⟩ = false := KF.out w7 HT7.out
              refine hK.out _ _ (fun _ => ka) (fun hHeld => ?_)
              clear hK K
              have hHeld := hHeld (by decide)
              try simp only [Act.put, List.getElem_toArray, List.getElem_cons_zero, List.getElem_cons_succ, List.setIfInBounds_toArray, List.set_cons_zero, List.set_cons_succ]
              refine held_ready (rs := [8]) (by kernel_rfl) (by simp) ?_
              refine AllHeld.cons rfl (fun K hK => ?_) AllHeld.nil
              have ka1 := ka.1
              go_simp
              refine hK.out _ _ (fun _ => ka) (fun hHeld => ?_)
              clear hK K
              have hHeld := hHeld (by decide)
              try simp only [Act.put, List.getElem_toArray, List.getElem_cons_zero, List.getElem_cons_succ, List.setIfInBounds_toArray, List.set_cons_zero, List.set_cons_succ]
              refine held_ready (rs := [9]) (by kernel_rfl) (by simp) ?_
              refine AllHeld.cons rfl (fun K hK => ?_) AllHeld.nil
              have ka1 := ka.1
              go_simp
              refine hK.out _ _ (fun _ => ka) (fun hHeld => ?_)
              clear hK K
              have hHeld := hHeld (by decide)
              try simp only [Act.put, List.getElem_toArray, List.getElem_cons_zero, List.getElem_cons_succ, List.setIfInBounds_toArray, List.set_cons_zero, List.set_cons_succ]
              refine held_ready (rs := [10]) (by kernel_rfl) (by simp) ?_
              refine AllHeld.cons rfl (fun K hK => ?_) AllHeld.nil
              have ka1 := ka.1
              go_simp
              refine hK.out _ _ (fun h => absurd rfl h) (fun _ => ?_)
              clear hK K
              try simp only [Act.put, List.getElem_toArray, List.getElem_cons_zero, List.getElem_cons_succ, List.setIfInBounds_toArray, List.set_cons_zero, List.set_cons_succ]
              refine held_done (by kernel_rfl) ?_ _
              clear hHeld
              try simp only [Act.put, List.getElem_toArray, List.getElem_cons_zero, List.getElem_cons_succ, List.setIfInBounds_toArray, List.set_cons_zero, List.set_cons_succ]
              go_wp2
              go_roundw
              case rel => exact ⟨0 + 1, _, L ++ [e], R2, by omega, by go_num, by rw [List.length_append, HLI.out]; rfl, l7, HG2, HP7⟩
              case measure => simp [RowKit.intOf]; omega
            | succ m =>
              obtain ⟨last, hlast⟩ : ∃ last, last = lastP L := ⟨_, rfl⟩
              have hLl : L.length = m + 1 := HLI.out
              have hwm : IntKind.u64.wrap (m : Int) = (m : Int) := by rw [IntKind.wrap_u64]; omega
              have hml : (m : Int) < (m : Int) + 1 := by omega
              obtain ⟨z, hz⟩ : ∃ z, L[m]? = some z := ⟨_, List.getElem?_eq_getElem (by omega)⟩
              have hzl : z.path = last := by
                rw [hlast, lastP, List.getLast?_eq_getElem?, hLl, Nat.add_sub_cancel, hz]; rfl
              obtain ⟨gv, cap, hv, hgv, _, _, _⟩ := rowS_form HI4.out.row (by omega)
              injection hv with e1 e2 e3
              subst e1 e3
              have KS : Hid (∀ w', Below w4.heap.size w4 w' → RS12 w1.heap.size g e (some ⟨gv, 0, none⟩) (m + 1) vc w' ∧ w'.cell? ⟨gv, m * 38, none⟩ = some (.string ⟨last.toArray⟩)) := Lib.hid (fun w' hb => ⟨KS0.out w' hb, by rw [← hzl]; exact (HI4.out.below hb).path hz⟩)
              have HNX2 : Hid (nb = lt last e.path) := Lib.hid (by rw [HNX1.out, decide_eq_false (by intro h; rw [h] at hLl; cases hLl), hlast]; rfl)
              clear HNX1 hlast hLl hz hzl e2 KS0
              cases hlt2 : lt last e.path with
              | false =>
                have HNO : Hid (X = none) := Lib.hid (by rw [HX2.out, HG1.out, HNX2.out, hlt2, if_neg (by decide)])
                have hlp : Op.bytesLess last e.path = false := by rw [lt_less]; exact hlt2
                clear HNX2 HG1 HSX hlt2
                go_upto_region 12 with (fail)
                refine wp_region_held_drew (S := (fun w' : World => RS12 w1.heap.size g e (some ⟨gv, 0, none⟩) (m + 1) vc w' ∧ w'.cell? ⟨gv, m * 38, none⟩ = some (.string ⟨last.toArray⟩))) (by kernel_rfl) (KS.out _ (Below.refl w4.heap.size w4).drew) (fun hHeld => ?_)
                refine wpAnyH_take (i := 0) (v := ?_) rfl (by kernel_rfl) (by kernel_rfl) (by kernel_rfl) (fun _ _ _ h => h) (Or.inl ⟨by rfl, ?e3_0⟩) hHeld ?_
                case e3_0 =>
                  intro wS hSw
                  have k0 := hSw.1.hd
                  have k1 := hSw.1.en
                  have k2 := hSw.2
                  clear hSw
                  go_simp
                  try with_reducible rfl
                try simp only [Act.put, List.getElem_toArray, List.getElem_cons_zero, List.getElem_cons_succ, List.setIfInBounds_toArray, List.set_cons_zero, List.set_cons_succ]
                refine wpAnyH_take (i := 1) (v := ?_) rfl (by kernel_rfl) (by kernel_rfl) (by kernel_rfl) (fun _ _ _ h => h) (Or.inl ⟨by rfl, ?e3_1⟩) hHeld ?_
                case e3_1 =>
                  intro wS hSw
                  have k0 := hSw.1.hd
                  have k1 := hSw.1.en
                  have k2 := hSw.2
                  clear hSw
                  go_simp
                  try with_reducible rfl
                try simp only [Act.put, List.getElem_toArray, List.getElem_cons_zero, List.getElem_cons_succ, List.setIfInBounds_toArray, List.set_cons_zero, List.set_cons_succ]
                refine wpAnyH_take (i := 2) (v := ?_) rfl (by kernel_rfl) (by kernel_rfl) (by kernel_rfl) (fun _ _ _ h => h) (Or.inl ⟨by rfl, ?e3_2⟩) hHeld ?_
                case e3_2 =>
                  intro wS hSw
                  have k0 := hSw.1.hd
                  have k1 := hSw.1.en
                  have k2 := hSw.2
                  clear hSw
                  go_simp
                  try with_reducible rfl
                try simp only [Act.put, List.getElem_toArray, List.getElem_cons_zero, List.getElem_cons_succ, List.setIfInBounds_toArray, List.set_cons_zero, List.set_cons_succ]
                refine' wpAnyH_take (i := 3) (v := _) rfl (by kernel_rfl) (by kernel_rfl) (by kernel_rfl) (fun _ _ _ h => h) (yieldsIf_load_mid (by rfl) _ _ rfl g 0 rfl e.cells _ ?e3_3S ?e3_3u ?e3_3d ?e3_3i) hHeld ?e3_3x
                case e3_3S =>
                  intro wS hSw
                  exact hSw.1.rg
                case e3_3u => exact Tryz.underlying49
                case e3_3d => rfl
                case e3_3i => exact HE.out.enR.infoL
                try simp only [Act.put, List.getElem_toArray, List.getElem_cons_zero, List.getElem_cons_succ, List.setIfInBounds_toArray, List.set_cons_zero, List.set_cons_succ]
                refine wpAnyH_ready (rs := [4]) (by kernel_rfl) (by simp) ?_
                refine AllReadyH.cons rfl (fun K hK => ?_) AllReadyH.nil
                go_simp
                refine (MY.out _ (HBX.out.trans ((Below.refl w4.heap.size w4).drew.mono HBX.out.size))).mono ?_
                rintro ex w5 ⟨rfl, hb5⟩
                have HB5 : Hid (Below w4.heap.size w4 w5) := Lib.hid ((Below.refl w4.heap.size w4).drew.trans (hb5.mono (Below.refl w4.heap.size w4).drew.size))
                clear hb5
                go_wp2_with fail
                refine hK.out _ _ (KS.out _ HB5.out) (fun hHeld2 => ?_)
                clear hK K hHeld
                have hHeld := hHeld2
                clear hHeld2
                try simp only [Act.put, List.getElem_toArray, List.getElem_cons_zero, List.getElem_cons_succ, List.setIfInBounds_toArray, List.set_cons_zero, List.set_cons_succ]
                refine wpAnyH_take (i := 5) (v := ?_) rfl (by kernel_rfl) (by kernel_rfl) (by kernel_rfl) (fun _ _ _ h => h) (Or.inl ⟨by rfl, ?e3_5⟩) hHeld ?_
                case e3_5 =>
                  intro wS hSw
                  have k0 := hSw.1.hd
                  have k1 := hSw.1.en
                  have k2 := hSw.2
                  clear hSw
                  go_simp
                  try with_reducible rfl
                try simp only [Act.put, List.getElem_toArray, List.getElem_cons_zero, List.getElem_cons_succ, List.setIfInBounds_toArray, List.set_cons_zero, List.set_cons_succ]
                refine wpAnyH_take (i := 6) (v := ?_) rfl (by kernel_rfl) (by kernel_rfl) (by kernel_rfl) (fun _ _ _ h => h) (Or.inl ⟨by rfl, ?e3_6⟩) hHeld ?_
                case e3_6 =>
                  intro wS hSw
                  have k0 := hSw.1.hd
                  have k1 := hSw.1.en
                  have k2 := hSw.2
                  clear hSw
                  go_simp
                  try with_reducible rfl
                try simp only [Act.put, List.getElem_toArray, List.getElem_cons_zero, List.getElem_cons_succ, List.setIfInBounds_toArray, List.set_cons_zero, List.set_cons_succ]
                refine wpAnyH_take (i := 7) (v := ?_) rfl (by kernel_rfl) (by kernel_rfl) (by kernel_rfl) (fun _ _ _ h => h) (Or.inl ⟨by rfl, ?e3_7⟩) hHeld ?_
                case e3_7 =>
                  intro wS hSw
                  have k0 := hSw.1.hd
                  have k1 := hSw.1.en
                  have k2 := hSw.2
                  clear hSw
                  go_simp
                  try with_reducible rfl
                try simp only [Act.put, List.getElem_toArray, List.getElem_cons_zero, List.getElem_cons_succ, List.setIfInBounds_toArray, List.set_cons_zero, List.set_cons_succ]
                refine wpAnyH_take (i := 8) (v := ?_) rfl (by kernel_rfl) (by kernel_rfl) (by kernel_rfl) (fun _ _ _ h => h) (Or.inl ⟨by rfl, ?e3_8⟩) hHeld ?_
                case e3_8 =>
                  intro wS hSw
                  have k0 := hSw.1.hd
                  have k1 := hSw.1.en
                  have k2 := hSw.2
                  clear hSw
                  go_simp
                  try with_reducible rfl
                try simp only [Act.put, List.getElem_toArray, List.getElem_cons_zero, List.getElem_cons_succ, List.setIfInBounds_toArray, List.set_cons_zero, List.set_cons_succ]
                refine wpAnyH_take (i := 9) (v := ?_) rfl (by kernel_rfl) (by kernel_rfl) (by kernel_rfl) (fun _ _ _ h => h) (Or.inl ⟨by rfl, ?e3_9⟩) hHeld ?_
                case e3_9 =>
                  intro wS hSw
                  have k0 := hSw.1.hd
                  have k1 := hSw.1.en
                  have k2 := hSw.2
                  clear hSw
                  go_simp
                  try with_reducible rfl
                try simp only [Act.put, List.getElem_toArray, List.getElem_cons_zero, List.getElem_cons_succ, List.setIfInBounds_toArray, List.set_cons_zero, List.set_cons_succ]
                refine wpAnyH_take (i := 10) (v := ?_) rfl (by kernel_rfl) (by kernel_rfl) (by kernel_rfl) (fun _ _ _ h => h) (Or.inl ⟨by rfl, ?e3_10⟩) hHeld ?_
                case e3_10 =>
                  intro wS hSw
                  have k0 := hSw.1.hd
                  have k1 := hSw.1.en
                  have k2 := hSw.2
                  clear hSw
                  go_simp
                  try with_reducible rfl
                try simp only [Act.put, List.getElem_toArray, List.getElem_cons_zero, List.getElem_cons_succ, List.setIfInBounds_toArray, List.set_cons_zero, List.set_cons_succ]
                refine wpAnyH_take (i := 11) (v := ?_) rfl (by kernel_rfl) (by kernel_rfl) (by kernel_rfl) (fun _ _ _ h => h) (Or.inl ⟨by rfl, ?e3_11⟩) hHeld ?_
                case e3_11 =>
                  intro wS hSw
                  have k0 := hSw.1.hd
                  have k1 := hSw.1.en
                  have k2 := hSw.2
                  clear hSw
                  go_simp
                  try with_reducible rfl
                try simp only [Act.put, List.getElem_toArray, List.getElem_cons_zero, List.getElem_cons_succ, List.setIfInBounds_toArray, List.set_cons_zero, List.set_cons_succ]
                refine wpAnyH_take (i := 12) (v := ?_) rfl (by kernel_rfl) (by kernel_rfl) (by kernel_rfl) (fun _ _ _ h => h) (Or.inl ⟨by rfl, ?e3_12⟩) hHeld ?_
                case e3_12 =>
                  intro wS hSw
                  have k0 := hSw.1.hd
                  have k1 := hSw.1.en
                  have k2 := hSw.2
                  clear hSw
                  go_simp
                  try with_reducible rfl
                try simp only [Act.put, List.getElem_toArray, List.getElem_cons_zero, List.getElem_cons_succ, List.setIfInBounds_toArray, List.set_cons_zero, List.set_cons_succ]
                refine wpAnyH_take (i := 13) (v := ?_) rfl (by kernel_rfl) (by kernel_rfl) (by kernel_rfl) (fun _ _ _ h => h) (Or.inl ⟨by rfl, ?e3_13⟩) hHeld ?_
                case e3_13 =>
                  intro wS hSw
                  have k0 := hSw.1.hd
                  have k1 := hSw.1.en
                  have k2 := hSw.2
                  clear hSw
                  go_simp
                  try with_reducible rfl
                try simp only [Act.put, List.getElem_toArray, List.getElem_cons_zero, List.getElem_cons_succ, List.setIfInBounds_toArray, List.set_cons_zero, List.set_cons_succ]
                refine wpAnyH_take (i := 14) (v := ?_) rfl (by kernel_rfl) (by kernel_rfl) (by kernel_rfl) (fun _ _ _ h => h) (Or.inl ⟨by rfl, ?e3_14⟩) hHeld ?_
                case e3_14 =>
                  intro wS hSw
                  have k0 := hSw.1.hd
                  have k1 := hSw.1.en
                  have k2 := hSw.2
                  clear hSw
                  go_simp
                  try with_reducible rfl
                try simp only [Act.put, List.getElem_toArray, List.getElem_cons_zero, List.getElem_cons_succ, List.setIfInBounds_toArray, List.set_cons_zero, List.set_cons_succ]
                refine wpAnyH_take (i := 15) (v := ?_) rfl (by kernel_rfl) (by kernel_rfl) (by kernel_rfl) (fun _ _ _ h => h) (Or.inl ⟨by rfl, ?e3_15⟩) hHeld ?_
                case e3_15 =>
                  intro wS hSw
                  have k0 := hSw.1.hd
                  have k1 := hSw.1.en
                  have k2 := hSw.2
                  clear hSw
                  go_simp
                  try with_reducible rfl
                try simp only [Act.put, List.getElem_toArray, List.getElem_cons_zero, List.getElem_cons_succ, List.setIfInBounds_toArray, List.set_cons_zero, List.set_cons_succ]
                refine wpAnyH_take (i := 16) (v := ?_) rfl (by kernel_rfl) (by kernel_rfl) (by kernel_rfl) (fun _ _ _ h => h) (Or.inl ⟨by rfl, ?e3_16⟩) hHeld ?_
                case e3_16 =>
                  intro wS hSw
                  have k0 := hSw.1.hd
                  have k1 := hSw.1.en
                  have k2 := hSw.2
                  clear hSw
                  go_simp
                  try with_reducible rfl
                try simp only [Act.put, List.getElem_toArray, List.getElem_cons_zero, List.getElem_cons_succ, List.setIfInBounds_toArray, List.set_cons_zero, List.set_cons_succ]
                refine wpAnyH_take (i := 17) (v := ?_) rfl (by kernel_rfl) (by kernel_rfl) (by kernel_rfl) (fun _ _ _ h => h) (Or.inl ⟨by rfl, ?e3_17⟩) hHeld ?_
                case e3_17 =>
                  intro wS hSw
                  have k0 := hSw.1.hd
                  have k1 := hSw.1.en
                  have k2 := hSw.2
                  clear hSw
                  go_simp
                  try with_reducible rfl
                try simp only [Act.put, List.getElem_toArray, List.getElem_cons_zero, List.getElem_cons_succ, List.setIfInBounds_toArray, List.set_cons_zero, List.set_cons_succ]
                refine wpAnyH_take (i := 18) (v := ?_) rfl (by kernel_rfl) (by kernel_rfl) (by kernel_rfl) (fun _ _ _ h => h) (Or.inl ⟨by rfl, ?e3_18⟩) hHeld ?_
                case e3_18 =>
                  intro wS hSw
                  have k0 := hSw.1.hd
                  have k1 := hSw.1.en
                  have k2 := hSw.2
                  clear hSw
                  go_simp
                  try with_reducible rfl
                try simp only [Act.put, List.getElem_toArray, List.getElem_cons_zero, List.getElem_cons_succ, List.setIfInBounds_toArray, List.set_cons_zero, List.set_cons_succ]
                refine wpAnyH_take (i := 19) (v := ?_) rfl (by kernel_rfl) (by kernel_rfl) (by kernel_rfl) (fun _ _ _ h => h) (Or.inl ⟨by rfl, ?e3_19⟩) hHeld ?_
                case e3_19 =>
                  intro wS hSw
                  have k0 := hSw.1.hd
                  have k1 := hSw.1.en
                  have k2 := hSw.2
                  clear hSw
                  go_simp
                  try with_reducible rfl
                try simp only [Act.put, List.getElem_toArray, List.getElem_cons_zero, List.getElem_cons_succ, List.setIfInBounds_toArray, List.set_cons_zero, List.set_cons_succ]
                refine wpAnyH_take (i := 20) (v := ?_) rfl (by kernel_rfl) (by kernel_rfl) (by kernel_rfl) (fun _ _ _ h => h) (Or.inl ⟨by rfl, ?e3_20⟩) hHeld ?_
                case e3_20 =>
                  intro wS hSw
                  have k0 := hSw.1.hd
                  have k1 := hSw.1.en
                  have k2 := hSw.2
                  clear hSw
                  go_simp
                  try with_reducible rfl
                try simp only [Act.put, List.getElem_toArray, List.getElem_cons_zero, List.getElem_cons_succ, List.setIfInBounds_toArray, List.set_cons_zero, List.set_cons_succ]
                refine wpAnyH_take (i := 21) (v := ?_) rfl (by kernel_rfl) (by kernel_rfl) (by kernel_rfl) (fun _ _ _ h => h) (Or.inl ⟨by rfl, ?e3_21⟩) hHeld ?_
                case e3_21 =>
                  intro wS hSw
                  have k0 := hSw.1.hd
                  have k1 := hSw.1.en
                  have k2 := hSw.2
                  clear hSw
                  go_simp
                  try with_reducible rfl
                try simp only [Act.put, List.getElem_toArray, List.getElem_cons_zero, List.getElem_cons_succ, List.setIfInBounds_toArray, List.set_cons_zero, List.set_cons_succ]
                refine wpAnyH_take (i := 22) (v := ?_) rfl (by kernel_rfl) (by kernel_rfl) (by kernel_rfl) (fun _ _ _ h => h) (Or.inl ⟨by rfl, ?e3_22⟩) hHeld ?_
                case e3_22 =>
                  intro wS hSw
                  have k0 := hSw.1.hd
                  have k1 := hSw.1.en
                  have k2 := hSw.2
                  clear hSw
                  go_simp
                  try with_reducible rfl
                try simp only [Act.put, List.getElem_toArray, List.getElem_cons_zero, List.getElem_cons_succ, List.setIfInBounds_toArray, List.set_cons_zero, List.set_cons_succ]
                refine wpAnyH_take (i := 23) (v := ?_) rfl (by kernel_rfl) (by kernel_rfl) (by kernel_rfl) (fun _ _ _ h => h) (Or.inl ⟨by rfl, ?e3_23⟩) hHeld ?_
                case e3_23 =>
                  intro wS hSw
                  have k0 := hSw.1.hd
                  have k1 := hSw.1.en
                  have k2 := hSw.2
                  clear hSw
                  go_simp
                  try with_reducible rfl
                try simp only [Act.put, List.getElem_toArray, List.getElem_cons_zero, List.getElem_cons_succ, List.setIfInBounds_toArray, List.set_cons_zero, List.set_cons_succ]
                refine wpAnyH_take (i := 24) (v := ?_) rfl (by kernel_rfl) (by kernel_rfl) (by kernel_rfl) (fun _ _ _ h => h) (Or.inl ⟨by rfl, ?e3_24⟩) hHeld ?_
                case e3_24 =>
                  intro wS hSw
                  have k0 := hSw.1.hd
                  have k1 := hSw.1.en
                  have k2 := hSw.2
                  clear hSw
                  go_simp
                  try with_reducible rfl
                try simp only [Act.put, List.getElem_toArray, List.getElem_cons_zero, List.getElem_cons_succ, List.setIfInBounds_toArray, List.set_cons_zero, List.set_cons_succ]
                refine wpAnyH_done (by kernel_rfl) ?_ _
                clear hHeld
                try simp only [Act.put, List.getElem_toArray, List.getElem_cons_zero, List.getElem_cons_succ, List.setIfInBounds_toArray, List.set_cons_zero, List.set_cons_succ]
                go_wp2
                go_ret2
                rw [HNO.out]
                exact ⟨rfl, HB4.out.trans (HB5.out.mono HB4.out.size)⟩
              | true =>
                have HYES : Hid (nb = true) := Lib.hid (by rw [HNX2.out, hlt2])
                have HSN : Hid (Srt (L ++ [e])) := Lib.hid (HSX.out HYES.out)
                have hlp : Op.bytesLess last e.path = true := by rw [lt_less]; exact hlt2
                clear HNX2 HSX hlt2
                go_upto_region 12 with (fail)
                refine wp_region_held_drew (S := (fun w' : World => RS12 w1.heap.size g e (some ⟨gv, 0, none⟩) (m + 1) vc w' ∧ w'.cell? ⟨gv, m * 38, none⟩ = some (.string ⟨last.toArray⟩))) (by kernel_rfl) (KS.out _ (Below.refl w4.heap.size w4).drew) (fun hHeld => ?_)
                refine wpAnyH_take (i := 0) (v := ?_) rfl (by kernel_rfl) (by kernel_rfl) (by kernel_rfl) (fun _ _ _ h => h) (Or.inl ⟨by rfl, ?e4_0⟩) hHeld ?_
                case e4_0 =>
                  intro wS hSw
                  have k0 := hSw.1.hd
                  have k1 := hSw.1.en
                  have k2 := hSw.2
                  clear hSw
                  go_simp
                  try with_reducible rfl
                try simp only [Act.put, List.getElem_toArray, List.getElem_cons_zero, List.getElem_cons_succ, List.setIfInBounds_toArray, List.set_cons_zero, List.set_cons_succ]
                refine wpAnyH_take (i := 1) (v := ?_) rfl (by kernel_rfl) (by kernel_rfl) (by kernel_rfl) (fun _ _ _ h => h) (Or.inl ⟨by rfl, ?e4_1⟩) hHeld ?_
                case e4_1 =>
                  intro wS hSw
                  have k0 := hSw.1.hd
                  have k1 := hSw.1.en
                  have k2 := hSw.2
                  clear hSw
                  go_simp
                  try with_reducible rfl
                try simp only [Act.put, List.getElem_toArray, List.getElem_cons_zero, List.getElem_cons_succ, List.setIfInBounds_toArray, List.set_cons_zero, List.set_cons_succ]
                refine wpAnyH_take (i := 2) (v := ?_) rfl (by kernel_rfl) (by kernel_rfl) (by kernel_rfl) (fun _ _ _ h => h) (Or.inl ⟨by rfl, ?e4_2⟩) hHeld ?_
                case e4_2 =>
                  intro wS hSw
                  have k0 := hSw.1.hd
                  have k1 := hSw.1.en
                  have k2 := hSw.2
                  clear hSw
                  go_simp
                  try with_reducible rfl
                try simp only [Act.put, List.getElem_toArray, List.getElem_cons_zero, List.getElem_cons_succ, List.setIfInBounds_toArray, List.set_cons_zero, List.set_cons_succ]
                refine' wpAnyH_take (i := 3) (v := _) rfl (by kernel_rfl) (by kernel_rfl) (by kernel_rfl) (fun _ _ _ h => h) (yieldsIf_load_mid (by rfl) _ _ rfl g 0 rfl e.cells _ ?e4_3S ?e4_3u ?e4_3d ?e4_3i) hHeld ?e4_3x
                case e4_3S =>
                  intro wS hSw
                  exact hSw.1.rg
                case e4_3u => exact Tryz.underlying49
                case e4_3d => rfl
                case e4_3i => exact HE.out.enR.infoL
                try simp only [Act.put, List.getElem_toArray, List.getElem_cons_zero, List.getElem_cons_succ, List.setIfInBounds_toArray, List.set_cons_zero, List.set_cons_succ]
                refine wpAnyH_ready (rs := [4]) (by kernel_rfl) (by simp) ?_
                refine AllReadyH.cons rfl (fun K hK => ?_) AllReadyH.nil
                go_simp
                refine (MY.out _ (HBX.out.trans ((Below.refl w4.heap.size w4).drew.mono HBX.out.size))).mono ?_
                rintro ex w5 ⟨rfl, hb5⟩
                have HB5 : Hid (Below w4.heap.size w4 w5) := Lib.hid ((Below.refl w4.heap.size w4).drew.trans (hb5.mono (Below.refl w4.heap.size w4).drew.size))
                clear hb5
                go_wp2_with fail
                refine hK.out _ _ (KS.out _ HB5.out) (fun hHeld2 => ?_)
                clear hK K hHeld
                have hHeld := hHeld2
                clear hHeld2
                try simp only [Act.put, List.getElem_toArray, List.getElem_cons_zero, List.getElem_cons_succ, List.setIfInBounds_toArray, List.set_cons_zero, List.set_cons_succ]
                refine wpAnyH_take (i := 5) (v := ?_) rfl (by kernel_rfl) (by kernel_rfl) (by kernel_rfl) (fun _ _ _ h => h) (Or.inl ⟨by rfl, ?e4_5⟩) hHeld ?_
                case e4_5 =>
                  intro wS hSw
                  have k0 := hSw.1.hd
                  have k1 := hSw.1.en
                  have k2 := hSw.2
                  clear hSw
                  go_simp
                  try with_reducible rfl
                try simp only [Act.put, List.getElem_toArray, List.getElem_cons_zero, List.getElem_cons_succ, List.setIfInBounds_toArray, List.set_cons_zero, List.set_cons_succ]
                refine wpAnyH_take (i := 6) (v := ?_) rfl (by kernel_rfl) (by kernel_rfl) (by kernel_rfl) (fun _ _ _ h => h) (Or.inl ⟨by rfl, ?e4_6⟩) hHeld ?_
                case e4_6 =>
                  intro wS hSw
                  have k0 := hSw.1.hd
                  have k1 := hSw.1.en
                  have k2 := hSw.2
                  clear hSw
                  go_simp
                  try with_reducible rfl
                try simp only [Act.put, List.getElem_toArray, List.getElem_cons_zero, List.getElem_cons_succ, List.setIfInBounds_toArray, List.set_cons_zero, List.set_cons_succ]
                refine wpAnyH_take (i := 7) (v := ?_) rfl (by kernel_rfl) (by kernel_rfl) (by kernel_rfl) (fun _ _ _ h => h) (Or.inl ⟨by rfl, ?e4_7⟩) hHeld ?_
                case e4_7 =>
                  intro wS hSw
                  have k0 := hSw.1.hd
                  have k1 := hSw.1.en
                  have k2 := hSw.2
                  clear hSw
                  go_simp
                  try with_reducible rfl
                try simp only [Act.put, List.getElem_toArray, List.getElem_cons_zero, List.getElem_cons_succ, List.setIfInBounds_toArray, List.set_cons_zero, List.set_cons_succ]
                refine wpAnyH_take (i := 8) (v := ?_) rfl (by kernel_rfl) (by kernel_rfl) (by kernel_rfl) (fun _ _ _ h => h) (Or.inl ⟨by rfl, ?e4_8⟩) hHeld ?_
                case e4_8 =>
                  intro wS hSw
                  have k0 := hSw.1.hd
                  have k1 := hSw.1.en
                  have k2 := hSw.2
                  clear hSw
                  go_simp
                  try with_reducible rfl
                try simp only [Act.put, List.getElem_toArray, List.getElem_cons_zero, List.getElem_cons_succ, List.setIfInBounds_toArray, List.set_cons_zero, List.set_cons_succ]
                refine wpAnyH_take (i := 9) (v := ?_) rfl (by kernel_rfl) (by kernel_rfl) (by kernel_rfl) (fun _ _ _ h => h) (Or.inl ⟨by rfl, ?e4_9⟩) hHeld ?_
                case e4_9 =>
                  intro wS hSw
                  have k0 := hSw.1.hd
                  have k1 := hSw.1.en
                  have k2 := hSw.2
                  clear hSw
                  go_simp
                  try with_reducible rfl
                try simp only [Act.put, List.getElem_toArray, List.getElem_cons_zero, List.getElem_cons_succ, List.setIfInBounds_toArray, List.set_cons_zero, List.set_cons_succ]
                refine wpAnyH_take (i := 10) (v := ?_) rfl (by kernel_rfl) (by kernel_rfl) (by kernel_rfl) (fun _ _ _ h => h) (Or.inl ⟨by rfl, ?e4_10⟩) hHeld ?_
                case e4_10 =>
                  intro wS hSw
                  have k0 := hSw.1.hd
                  have k1 := hSw.1.en
                  have k2 := hSw.2
                  clear hSw
                  go_simp
                  try with_reducible rfl
                try simp only [Act.put, List.getElem_toArray, List.getElem_cons_zero, List.getElem_cons_succ, List.setIfInBounds_toArray, List.set_cons_zero, List.set_cons_succ]
                refine wpAnyH_take (i := 11) (v := ?_) rfl (by kernel_rfl) (by kernel_rfl) (by kernel_rfl) (fun _ _ _ h => h) (Or.inl ⟨by rfl, ?e4_11⟩) hHeld ?_
                case e4_11 =>
                  intro wS hSw
                  have k0 := hSw.1.hd
                  have k1 := hSw.1.en
                  have k2 := hSw.2
                  clear hSw
                  go_simp
                  try with_reducible rfl
                try simp only [Act.put, List.getElem_toArray, List.getElem_cons_zero, List.getElem_cons_succ, List.setIfInBounds_toArray, List.set_cons_zero, List.set_cons_succ]
                refine wpAnyH_take (i := 12) (v := ?_) rfl (by kernel_rfl) (by kernel_rfl) (by kernel_rfl) (fun _ _ _ h => h) (Or.inl ⟨by rfl, ?e4_12⟩) hHeld ?_
                case e4_12 =>
                  intro wS hSw
                  have k0 := hSw.1.hd
                  have k1 := hSw.1.en
                  have k2 := hSw.2
                  clear hSw
                  go_simp
                  try with_reducible rfl
                try simp only [Act.put, List.getElem_toArray, List.getElem_cons_zero, List.getElem_cons_succ, List.setIfInBounds_toArray, List.set_cons_zero, List.set_cons_succ]
                refine wpAnyH_take (i := 13) (v := ?_) rfl (by kernel_rfl) (by kernel_rfl) (by kernel_rfl) (fun _ _ _ h => h) (Or.inl ⟨by rfl, ?e4_13⟩) hHeld ?_
                case e4_13 =>
                  intro wS hSw
                  have k0 := hSw.1.hd
                  have k1 := hSw.1.en
                  have k2 := hSw.2
                  clear hSw
                  go_simp
                  try with_reducible rfl
                try simp only [Act.put, List.getElem_toArray, List.getElem_cons_zero, List.getElem_cons_succ, List.setIfInBounds_toArray, List.set_cons_zero, List.set_cons_succ]
                refine wpAnyH_take (i := 14) (v := ?_) rfl (by kernel_rfl) (by kernel_rfl) (by kernel_rfl) (fun _ _ _ h => h) (Or.inl ⟨by rfl, ?e4_14⟩) hHeld ?_
                case e4_14 =>
                  intro wS hSw
                  have k0 := hSw.1.hd
                  have k1 := hSw.1.en
                  have k2 := hSw.2
                  clear hSw
                  go_simp
                  try with_reducible rfl
                try simp only [Act.put, List.getElem_toArray, List.getElem_cons_zero, List.getElem_cons_succ, List.setIfInBounds_toArray, List.set_cons_zero, List.set_cons_succ]
                refine wpAnyH_take (i := 15) (v := ?_) rfl (by kernel_rfl) (by kernel_rfl) (by kernel_rfl) (fun _ _ _ h => h) (Or.inl ⟨by rfl, ?e4_15⟩) hHeld ?_
                case e4_15 =>
                  intro wS hSw
                  have k0 := hSw.1.hd
                  have k1 := hSw.1.en
                  have k2 := hSw.2
                  clear hSw
                  go_simp
                  try with_reducible rfl
                try simp only [Act.put, List.getElem_toArray, List.getElem_cons_zero, List.getElem_cons_succ, List.setIfInBounds_toArray, List.set_cons_zero, List.set_cons_succ]
                refine wpAnyH_take (i := 16) (v := ?_) rfl (by kernel_rfl) (by kernel_rfl) (by kernel_rfl) (fun _ _ _ h => h) (Or.inl ⟨by rfl, ?e4_16⟩) hHeld ?_
                case e4_16 =>
                  intro wS hSw
                  have k0 := hSw.1.hd
                  have k1 := hSw.1.en
                  have k2 := hSw.2
                  clear hSw
                  go_simp
                  try with_reducible rfl
                try simp only [Act.put, List.getElem_toArray, List.getElem_cons_zero, List.getElem_cons_succ, List.setIfInBounds_toArray, List.set_cons_zero, List.set_cons_succ]
                refine wpAnyH_take (i := 17) (v := ?_) rfl (by kernel_rfl) (by kernel_rfl) (by kernel_rfl) (fun _ _ _ h => h) (Or.inl ⟨by rfl, ?e4_17⟩) hHeld ?_
                case e4_17 =>
                  intro wS hSw
                  have k0 := hSw.1.hd
                  have k1 := hSw.1.en
                  have k2 := hSw.2
                  clear hSw
                  go_simp
                  try with_reducible rfl
                try simp only [Act.put, List.getElem_toArray, List.getElem_cons_zero, List.getElem_cons_succ, List.setIfInBounds_toArray, List.set_cons_zero, List.set_cons_succ]
                refine wpAnyH_take (i := 18) (v := ?_) rfl (by kernel_rfl) (by kernel_rfl) (by kernel_rfl) (fun _ _ _ h => h) (Or.inl ⟨by rfl, ?e4_18⟩) hHeld ?_
                case e4_18 =>
                  intro wS hSw
                  have k0 := hSw.1.hd
                  have k1 := hSw.1.en
                  have k2 := hSw.2
                  clear hSw
                  go_simp
                  try with_reducible rfl
                try simp only [Act.put, List.getElem_toArray, List.getElem_cons_zero, List.getElem_cons_succ, List.setIfInBounds_toArray, List.set_cons_zero, List.set_cons_succ]
                refine wpAnyH_take (i := 19) (v := ?_) rfl (by kernel_rfl) (by kernel_rfl) (by kernel_rfl) (fun _ _ _ h => h) (Or.inl ⟨by rfl, ?e4_19⟩) hHeld ?_
                case e4_19 =>
                  intro wS hSw
                  have k0 := hSw.1.hd
                  have k1 := hSw.1.en
                  have k2 := hSw.2
                  clear hSw
                  go_simp
                  try with_reducible rfl
                try simp only [Act.put, List.getElem_toArray, List.getElem_cons_zero, List.getElem_cons_succ, List.setIfInBounds_toArray, List.set_cons_zero, List.set_cons_succ]
                refine wpAnyH_take (i := 20) (v := ?_) rfl (by kernel_rfl) (by kernel_rfl) (by kernel_rfl) (fun _ _ _ h => h) (Or.inl ⟨by rfl, ?e4_20⟩) hHeld ?_
                case e4_20 =>
                  intro wS hSw
                  have k0 := hSw.1.hd
                  have k1 := hSw.1.en
                  have k2 := hSw.2
                  clear hSw
                  go_simp
                  try with_reducible rfl
                try simp only [Act.put, List.getElem_toArray, List.getElem_cons_zero, List.getElem_cons_succ, List.setIfInBounds_toArray, List.set_cons_zero, List.set_cons_succ]
                refine wpAnyH_take (i := 21) (v := ?_) rfl (by kernel_rfl) (by kernel_rfl) (by kernel_rfl) (fun _ _ _ h => h) (Or.inl ⟨by rfl, ?e4_21⟩) hHeld ?_
                case e4_21 =>
                  intro wS hSw
                  have k0 := hSw.1.hd
                  have k1 := hSw.1.en
                  have k2 := hSw.2
                  clear hSw
                  go_simp
                  try with_reducible rfl
                try simp only [Act.put, List.getElem_toArray, List.getElem_cons_zero, List.getElem_cons_succ, List.setIfInBounds_toArray, List.set_cons_zero, List.set_cons_succ]
                refine wpAnyH_take (i := 22) (v := ?_) rfl (by kernel_rfl) (by kernel_rfl) (by kernel_rfl) (fun _ _ _ h => h) (Or.inl ⟨by rfl, ?e4_22⟩) hHeld ?_
                case e4_22 =>
                  intro wS hSw
                  have k0 := hSw.1.hd
                  have k1 := hSw.1.en
                  have k2 := hSw.2
                  clear hSw
                  go_simp
                  try with_reducible rfl
                try simp only [Act.put, List.getElem_toArray, List.getElem_cons_zero, List.getElem_cons_succ, List.setIfInBounds_toArray, List.set_cons_zero, List.set_cons_succ]
                refine wpAnyH_take (i := 23) (v := ?_) rfl (by kernel_rfl) (by kernel_rfl) (by kernel_rfl) (fun _ _ _ h => h) (Or.inl ⟨by rfl, ?e4_23⟩) hHeld ?_
                case e4_23 =>
                  intro wS hSw
                  have k0 := hSw.1.hd
                  have k1 := hSw.1.en
                  have k2 := hSw.2
                  clear hSw
                  go_simp
                  try with_reducible rfl
                try simp only [Act.put, List.getElem_toArray, List.getElem_cons_zero, List.getElem_cons_succ, List.setIfInBounds_toArray, List.set_cons_zero, List.set_cons_succ]
                refine wpAnyH_take (i := 24) (v := ?_) rfl (by kernel_rfl) (by kernel_rfl) (by kernel_rfl) (fun _ _ _ h => h) (Or.inl ⟨by rfl, ?e4_24⟩) hHeld ?_
                case e4_24 =>
                  intro wS hSw
                  have k0 := hSw.1.hd
                  have k1 := hSw.1.en
                  have k2 := hSw.2
                  clear hSw
                  go_simp
                  try with_reducible rfl
                try simp only [Act.put, List.getElem_toArray, List.getElem_cons_zero, List.getElem_cons_succ, List.setIfInBounds_toArray, List.set_cons_zero, List.set_cons_succ]
                refine wpAnyH_done (by kernel_rfl) ?_ _
                clear hHeld
                try simp only [Act.put, List.getElem_toArray, List.getElem_cons_zero, List.getElem_cons_succ, List.setIfInBounds_toArray, List.set_cons_zero, List.set_cons_succ]
                have HI5 := Lib.hid (HI4.out.below HB5.out)
                have HR5 : Hid (RReaderAt w5 w.heap.size R2) := Lib.hid ((HB5.out.block _ (lt_of_heap HR4.out)).trans HR4.out)
                have HBW : Hid (Below w.heap.size w w5) := Lib.hid (HB4.out.trans (HB5.out.mono HB4.out.size))
                have HSZ : Hid (w.heap.size ≤ w5.heap.size) := Lib.hid HBW.out.size
                have HOWN : Hid (w5.ownsRow w.heap.size EnT 38 (.slice (some ⟨gv, 0, none⟩) (m + 1) vc) (m + 1) (cellsS L)) := Lib.hid (by have := HI5.out.row; rw [HLI.out] at this; exact this)
                have KR : Hid (∀ w', Turn (ob (.slice (some ⟨gv, 0, none⟩) (m + 1) vc)) w5 w' → w'.cell? ⟨w1.heap.size, 0, none⟩ = some (.slice (some ⟨gv, 0, none⟩) (m + 1) vc) ∧ w'.rangeAt g 0 e.cells) := Lib.hid (fun w' ht => by
                  have a1 := (ht.block w1.heap.size HI5.out.lt (fun h => HI5.out.off w1.heap.size h rfl)).trans HI5.out.book
                  have g5 : w5.heap[g]? = _ := (HB5.out.block g (lt_of_heap HQ4.out)).trans HQ4.out
                  have a2 := (ht.block g (lt_of_heap g5) (fun h => by have := HVG.out g h; omega)).trans g5
                  exact ⟨cell_of_heap a1, range_block a2⟩)
                have KF : Hid (∀ w', Turn (ob (.slice (some ⟨gv, 0, none⟩) (m + 1) vc)) w5 w' → w'.frozen? ⟨w1.heap.size, 0, none⟩ = false) := Lib.hid (fun w' ht => frozen_of_heap ((ht.block w1.heap.size HI5.out.lt (fun h => HI5.out.off w1.heap.size h rfl)).trans HI5.out.book))
                obtain ⟨i0, hi0, hz0, hz1, hz2⟩ := info_parts infoZR
                have hz3 : (enV zeroS).cells.size = 38 := by kernel_rfl
                have HG2 : Hid (refGo n [] (shR R0) = refGo (n - ((m + 1) + 1)) (L ++ [e]) R2) := Lib.hid (by rw [HG1.out, HYES.out, if_pos rfl, hk2])
                go_wp2
                refine region_held (S := (fun w' : World => w'.cell? ⟨w1.heap.size, 0, none⟩ = some (.slice (some ⟨gv, 0, none⟩) (m + 1) vc) ∧ w'.rangeAt g 0 e.cells)) (k := 10) (by kernel_rfl) (KR.out _ (Turn.of_below (Below.refl w5.heap.size w5).drew)) (fun hHeld => ?_)
                refine held_take (i := 0) (v := ?_) rfl (by kernel_rfl) (by kernel_rfl) (by kernel_rfl) (by kernel_rfl) (fun _ _ _ h => h) (Or.inl ⟨by rfl, ?d1_0⟩) hHeld ?_
                case d1_0 =>
                  intro wS hSw
                  have k0 := hSw.1
                  clear hSw
                  go_simp
                  try with_reducible rfl
                try simp only [Act.put, List.getElem_toArray, List.getElem_cons_zero, List.getElem_cons_succ, List.setIfInBounds_toArray, List.set_cons_zero, List.set_cons_succ]
                refine held_take (i := 1) (v := ?_) rfl (by kernel_rfl) (by kernel_rfl) (by kernel_rfl) (by kernel_rfl) (fun _ _ _ h => h) (Or.inl ⟨by rfl, ?d1_1⟩) hHeld ?_
                case d1_1 =>
                  intro wS hSw
                  have k0 := hSw.1
                  clear hSw
                  go_simp
                  try with_reducible rfl
                try simp only [Act.put, List.getElem_toArray, List.getElem_cons_zero, List.getElem_cons_succ, List.setIfInBounds_toArray, List.set_cons_zero, List.set_cons_succ]
                refine held_take (i := 2) (v := ?_) rfl (by kernel_rfl) (by kernel_rfl) (by kernel_rfl) (by kernel_rfl) (fun _ _ _ h => h) (Or.inl ⟨by rfl, ?d1_2⟩) hHeld ?_
                case d1_2 =>
                  intro wS hSw
                  have k0 := hSw.1
                  clear hSw
                  go_simp
                  try with_reducible rfl
                try simp only [Act.put, List.getElem_toArray, List.getElem_cons_zero, List.getElem_cons_succ, List.setIfInBounds_toArray, List.set_cons_zero, List.set_cons_succ]
                refine held_take (i := 3) (v := ?_) rfl (by kernel_rfl) (by kernel_rfl) (by kernel_rfl) (by kernel_rfl) (fun _ _ _ h => h) (Or.inl ⟨by rfl, ?d1_3⟩) hHeld ?_
                case d1_3 =>
                  intro wS hSw
                  have k0 := hSw.1
                  clear hSw
                  go_simp
                  try with_reducible rfl
                try simp only [Act.put, List.getElem_toArray, List.getElem_cons_zero, List.getElem_cons_succ, List.setIfInBounds_toArray, List.set_cons_zero, List.set_cons_succ]
                refine held_take (i := 4) (v := ?_) rfl (by kernel_rfl) (by kernel_rfl) (by kernel_rfl) (by kernel_rfl) (fun _ _ _ h => h) (Or.inl ⟨by rfl, ?d1_4⟩) hHeld ?_
                case d1_4 =>
                  intro wS hSw
                  have k0 := hSw.1
                  clear hSw
                  go_simp
                  try with_reducible rfl
                try simp only [Act.put, List.getElem_toArray, List.getElem_cons_zero, List.getElem_cons_succ, List.setIfInBounds_toArray, List.set_cons_zero, List.set_cons_succ]
                refine' held_take (i := 5) (v := _) rfl (by kernel_rfl) (by kernel_rfl) (by kernel_rfl) (by kernel_rfl) (fun _ _ _ h => h) (yieldsIf_load_mid (by rfl) _ _ rfl g 0 rfl e.cells _ ?d1_5S ?d1_5u ?d1_5d ?d1_5i) hHeld ?d1_5x
                case d1_5S =>
                  intro wS hSw
                  exact hSw.2
                case d1_5u => exact Tryz.underlying49
                case d1_5d => rfl
                case d1_5i => exact HE.out.enR.infoL
                try simp only [Act.put, List.getElem_toArray, List.getElem_cons_zero, List.getElem_cons_succ, List.setIfInBounds_toArray, List.set_cons_zero, List.set_cons_succ]
                refine held_ready (rs := [6]) (by kernel_rfl) (by simp) ?_
                refine AllHeld.cons rfl (fun K hK => ?_) AllHeld.nil
                refine step_wp rfl ?_
                refine wp_one 27 49 (.tmp 76) e.cells i0 _ rfl rfl Tryz.underlying27 hi0 hz0 hz1 HE38.out ?_
                intro x6 w6 hh6 hg6 hx6 hs6
                have HB6 : Hid (Below w5.heap.size w5 w6) := Lib.hid ((Below.refl w5.heap.size w5).drew.grown hg6 (Below.refl w5.heap.size w5).drew.size (fun k hk => nomatch hk))
                have HH6 := Lib.hid hh6
                clear hh6 hg6 hx6 hs6
                have ka := KR.out w6 (Turn.of_below HB6.out)
                refine hK.out _ _ (fun _ => ka) (fun hHeld => ?_)
                clear hK K
                have hHeld := hHeld (by decide)
                try simp only [Act.put, List.getElem_toArray, List.getElem_cons_zero, List.getElem_cons_succ, List.setIfInBounds_toArray, List.set_cons_zero, List.set_cons_succ]
                refine held_ready (rs := [7]) (by kernel_rfl) (by simp) ?_
                refine AllHeld.cons rfl (fun K hK => ?_) AllHeld.nil
                refine step_wp rfl ?_
                refine wp_append_holds (.tmp 75) (.tmp 77) 27 rfl w.heap.size 49 i0 _ 88 Tryz.underlying27 hi0 hz0 hz1 hz2 hz3 (.slice (some ⟨gv, 0, none⟩) (m + 1) vc) (m + 1) (cellsS L) ?aa1 (rowS_kept HOWN.out (fun y _ hl => HB6.out.block y hl)) x6 1 e.cells ?ab1 HH6.out ?ac1 ?ad1 ?ae1 ?af1 ?ag1 ?ah1
                case aa1 => rfl
                case ab1 => rfl
                case ac1 => rw [HE38.out]
                case ad1 => exact cells_one e
                case ae1 => unfold maxLen; omega
                case af1 => omega
                case ag1 => have := HB6.out.size; have := HSZ.out; omega
                intro v7 w7 ho7 hg7 hx7
                obtain ⟨a7, c7, rfl⟩ := rowS_slice ho7
                have HT7 : Hid (Turn (ob (.slice (some ⟨gv, 0, none⟩) (m + 1) vc)) w5 w7) := Lib.hid (turn_grown (Turn.of_below HB6.out) hg7 (fun k hk => by simp [ob, hk]))
                have HP7 : Hid (RDs w w.heap.size w1.heap.size (.slice a7 ((m + 1) + 1) c7) (L ++ [e]) R2 (w7.setCell ⟨w1.heap.size, 0, none⟩ (.slice a7 ((m + 1) + 1) c7))) := Lib.hid (rds_put (i := (m + 1)) HLI.out HI5.out HR5.out HQV.out HQX.out HBW.out HT7.out ho7 (hx7.imp id (fun h => ⟨w6.heap.size, h, HB6.out.size⟩)) HSN.out HE.out (by omega))
                clear ho7 hg7 hx7
                have ka := KR.out w7 HT7.out
                have kf : w7.frozen? ⟨w1.heap.size, 0, none⟩ = false := KF.out w7 HT7.out
                refine hK.out _ _ (fun _ => ka) (fun hHeld => ?_)
                clear hK K
                have hHeld := hHeld (by decide)
                try simp only [Act.put, List.getElem_toArray, List.getElem_cons_zero, List.getElem_cons_succ, List.setIfInBounds_toArray, List.set_cons_zero, List.set_cons_succ]
                refine held_ready (rs := [8]) (by kernel_rfl) (by simp) ?_
                refine AllHeld.cons rfl (fun K hK => ?_) AllHeld.nil
                have ka1 := ka.1
                go_simp
                refine hK.out _ _ (fun _ => ka) (fun hHeld => ?_)
                clear hK K
                have hHeld := hHeld (by decide)
                try simp only [Act.put, List.getElem_toArray, List.getElem_cons_zero, List.getElem_cons_succ, List.setIfInBounds_toArray, List.set_cons_zero, List.set_cons_succ]
                refine held_ready (rs := [9]) (by kernel_rfl) (by simp) ?_
                refine AllHeld.cons rfl (fun K hK => ?_) AllHeld.nil
                have ka1 := ka.1
                go_simp
                refine hK.out _ _ (fun _ => ka) (fun hHeld => ?_)
                clear hK K
                have hHeld := hHeld (by decide)
                try simp only [Act.put, List.getElem_toArray, List.getElem_cons_zero, List.getElem_cons_succ, List.setIfInBounds_toArray, List.set_cons_zero, List.set_cons_succ]
                refine held_ready (rs := [10]) (by kernel_rfl) (by simp) ?_
                refine AllHeld.cons rfl (fun K hK => ?_) AllHeld.nil
                have ka1 := ka.1
                go_simp
                refine hK.out _ _ (fun h => absurd rfl h) (fun _ => ?_)
                clear hK K
                try simp only [Act.put, List.getElem_toArray, List.getElem_cons_zero, List.getElem_cons_succ, List.setIfInBounds_toArray, List.set_cons_zero, List.set_cons_succ]
                refine held_done (by kernel_rfl) ?_ _
                clear hHeld
                try simp only [Act.put, List.getElem_toArray, List.getElem_cons_zero, List.getElem_cons_succ, List.setIfInBounds_toArray, List.set_cons_zero, List.set_cons_succ]
                go_wp2
                go_roundw
                case rel => exact ⟨(m + 1) + 1, _, L ++ [e], R2, by omega, by go_num, by rw [List.length_append, HLI.out]; rfl, l7, HG2, HP7⟩
                case measure => simp [RowKit.intOf]; omega
          
        · obtain rfl : i = n := by omega
          have c0 : wr.cell? ⟨w.heap.size, 0, none⟩ = some (.string ⟨R.toArray⟩) := cell_of_heap HSt.out.rd
          have HE : Hid (refGo i [] (shR R0) = some (L, R)) := Lib.hid (by rw [HG.out, Nat.sub_self]; rfl)
          cases R with
          | nil =>
            have HYES : Hid (X = some L) := Lib.hid (by rw [HX2.out, HE.out])
            go_wp2
            go_ret2
            rw [HYES.out]
            exact ⟨_, _, rfl, HSt.out.ix, HSt.out.bl⟩
          | cons a r =>
            have HNO : Hid (X = none) := Lib.hid (by rw [HX2.out, HE.out])
            have hne : ¬ ((r.length : Int) + 1 = 0) := by omega
            go_wp2
            go_ret2
            rw [HNO.out]
            exact ⟨rfl, HSt.out.bl⟩
    · have HNO : Hid (X = none) := Lib.hid (by rw [HX.out, decX, if_neg]; rintro ⟨h, _⟩; exact hm (HP.out.trans h))
      have hne : (P == [109, 115, 116, 49]) = false := by rw [beq_eq_false_iff_ne]; exact hm
      clear hm
      go_enter Tryz.func26, Tryz.ntmps26
      go_wp2
      go_ret2
      rw [HNO.out]
      exact ⟨rfl, Below.refl _ _⟩
end Go.Proofs.YtpbhkaokgpacoaaGreatDoor.St
