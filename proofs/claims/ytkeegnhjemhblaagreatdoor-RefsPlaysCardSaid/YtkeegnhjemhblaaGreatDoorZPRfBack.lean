import Derived.Test.YtkeegnhjemhblaaGreatDoorZPRfAdd
import Derived.Test.YtkeegnhjemhblaaGreatDoorZPRfShelf
import Derived.Lib.BufferRead
import Derived.Lib.SlKeysI
import Derived.Laws.Tables
import Derived.Great.BuildSlice
import Derived.Maps.RangeWalk
import Derived.Laws.Bits64b
set_option linter.unusedSimpArgs false
set_option linter.unusedVariables false
/-
  The contracts of a book's New, Drop, Back.
-/
namespace Go.Proofs.YtkeegnhjemhblaaGreatDoor.Rf
open Go.RowKit Go.Maps Go.WideMaps
variable {X : Spect}

set_option maxRecDepth 100000 in
theorem new_any (w : World) :
    Calls Tryz.prog 11 #[] w fun e w' => ∃ g b, e = .returned (ptr g) ∧ BookAt noSp w.heap.size w' g b [] ∧ Below w.heap.size w w' := by
  have hmm := @run_makeMap Tryz.prog
  go_enter Tryz.func11, Tryz.ntmps11
  go_wp2
  go_ret
  have hs : (w.alloc (.map #[] 0)).heap.size = w.heap.size + 1 := by show (w.heap.push _).size = _; simp
  refine ⟨w.heap.size + 1, w.heap.size, rfl, ?_, ((Below.refl _ _).alloc (Nat.le_refl _) _).alloc (by rw [hs]; omega) _⟩
  refine ⟨?_, ?_, by simp, by omega, by simp, by simp, by omega, by omega, fun _ hp => False.elim hp⟩
  · have := (MapKept.heap_alloc (w.alloc (.map #[] 0)) (.cells #[.map (some w.heap.size)] 109)).1
    rwa [hs] at this
  · exact map_tight (enc := (Prod.fst : Value × List En → Value)) (m := []) ((World.ownsMap_made w Tryz.prog 9 Rv).alloc _) (by decide)

/-- A branch taken away. -/
def dropB (K : BK) (k : List UInt8) : Int × BK := if (getM K k).isSome then (0, delM K k) else (6, K)

set_option maxHeartbeats 2000000 in
set_option maxRecDepth 100000 in
theorem drop_any (B : Nat) (w : World) (g b : Nat) (Z : BM) (S : ByteArray) (hS : S.size ≤ maxLen) (h : BookAt X B w g b Z) (ok : OkB (plainB Z)) :
    Calls Tryz.prog 60 #[ptr g, .string S] w (BkPost X B w g b (.int .i64 (dropB (plainB Z) S.data.toList).1) (dropB (plainB Z) S.data.toList).2) := by
  have K := Lib.hid (log_any B w g b Z S hS h)
  have H := Lib.hid h
  have c0 : w.cell? ⟨g, 0, none⟩ = some (.map (some b)) := cell_of_heap h.book
  have HN : Hid (Z.length ≤ 64) := Lib.hid (by rw [← plain_length]; exact ok.size)
  have HBw : Hid (B ≤ w.heap.size) := Lib.hid (Nat.le_trans h.baseg (Nat.le_of_lt h.lt_g))
  obtain ⟨R, hR⟩ : ∃ R, R = dropB (plainB Z) S.data.toList := ⟨_, rfl⟩
  have ER := Lib.hid hR
  rw [← hR]
  clear hR h ok
  unfold ptr at *
  go_enter Tryz.func60, Tryz.ntmps60
  go_wp2_with fail
  refine K.out.mono ?_
  rintro e w1 ⟨rfl, rfl⟩
  unfold logV
  cases hg : getM Z S.data.toList with
  | none =>
    have ER2 : Hid (R = (6, plainB Z)) := Lib.hid (by rw [ER.out, dropB, plain_get, hg]; rfl)
    clear hg K
    go_wp2
    go_ret
    rw [ER2.out]
    exact ⟨Z, rfl, H.out, rfl, Below.refl _ _⟩
  | some p =>
    have ER2 : Hid (R = (0, delM (plainB Z) S.data.toList)) := Lib.hid (by rw [ER.out, dropB, plain_get, hg]; rfl)
    have HM := Lib.hid H.out.map
    clear hg K
    go_wp2_with (at_delete; refine wpList_delete_own _ rfl _ _ 107 9 rfl 96 law Tryz.underlying107 _ b 1000000 _ rfl HM.out _ _ rfl (keyK S hS) ?_; intro w2 hown2 hturn2)
    have HO := Lib.hid hown2; have HT := Lib.hid hturn2
    clear hown2 hturn2
    go_wp2
    go_ret
    rw [ER2.out]
    have t2 := HT.out.grown
    refine ⟨delM Z S.data.toList, rfl, H.out.del _ (fun x hx hne => t2.block x hx (by simpa using hne)) ?_, plain_del _ _, (Below.refl B w1).grown t2 HBw.out (fun y hy => by obtain rfl := Option.some.inj hy; exact H.out.baseb)⟩
    have := HO.out
    rw [toD_del] at this
    exact map_tight this (by have := delM_length Z S.data.toList; have := HN.out; omega)

/-- A branch without its last snapshots. -/
def backB (K : BK) (k : List UInt8) (n : Int) : Int × BK :=
  match getM K k with
  | none => (6, K)
  | some l => if n < 0 ∨ (l.length : Int) ≤ n then (1, K) else (0, putM K k (l.take (l.length - n.toNat)))

theorem cellsL_take {l : List En} (h : ∀ e ∈ l, e.c.length = 32) (d : Nat) : cellsL (l.take d) = (cellsL l).take (33 * d) := by
  have e1 : cellsL l = cellsL (l.take d) ++ cellsL (l.drop d) := by
    rw [cellsL, cellsL, cellsL, ← List.flatMap_append, List.take_append_drop]
  by_cases hd : d ≤ l.length
  · have h2 : (cellsL (l.take d)).length = 33 * d := by
      rw [cellsL_length (fun e he => h e (List.mem_of_mem_take he)), List.length_take, Nat.min_eq_left hd]
    rw [e1, ← h2, List.take_left]
  · rw [List.take_of_length_le (by omega), List.take_of_length_le (by rw [cellsL_length h]; omega)]
/-- A row's front is a row. -/
theorem row_front {w : World} {B g cap n d : Nat} {l : List En} (h : w.ownsRow B 84 33 (.slice (some ⟨g, 0, none⟩) n cap) n (cellsL l)) (hn : n = l.length) (hl : ∀ e ∈ l, e.c.length = 32) (hd : d ≤ n) :
    w.ownsRow B 84 33 (.slice (some ⟨g, 0, none⟩) d cap) d (cellsL (l.take d)) := by
  obtain ⟨h1, ⟨e, _⟩ | ⟨g', cap', cur, e, a1, a2, a3, a4, a5, a6⟩⟩ := h
  · cases e
  · injection e with e1 e2 e3
    injection e1 with e1
    injection e1 with e1
    subst e1 e3
    refine ⟨?_, .inr ⟨g, cap, cur, rfl, a1, a2, by omega, a4, a5, ?_⟩⟩
    · rw [cellsL_take hl, List.length_take, cellsL_length hl]; omega
    · rw [cellsL_take hl, ← a6, List.take_take]
      congr 1
      omega

set_option maxHeartbeats 2000000 in
set_option maxRecDepth 100000 in
theorem back_any (B : Nat) (w : World) (g b : Nat) (Z : BM) (S : ByteArray) (n : Int) (hS : S.size ≤ maxLen) (h : BookAt X B w g b Z) (ok : OkB (plainB Z)) :
    Calls Tryz.prog 56 #[ptr g, .string S, .int .i64 n] w (BkPost X B w g b (.int .i64 (backB (plainB Z) S.data.toList n).1) (backB (plainB Z) S.data.toList n).2) := by
  have K := Lib.hid (log_any B w g b Z S hS h)
  have H := Lib.hid h
  have c0 : w.cell? ⟨g, 0, none⟩ = some (.map (some b)) := cell_of_heap h.book
  have HN : Hid (Z.length ≤ 64) := Lib.hid (by rw [← plain_length]; exact ok.size)
  have HOK := Lib.hid ok
  have HBw : Hid (B ≤ w.heap.size) := Lib.hid (Nat.le_trans h.baseg (Nat.le_of_lt h.lt_g))
  obtain ⟨R, hR⟩ : ∃ R, R = backB (plainB Z) S.data.toList n := ⟨_, rfl⟩
  have ER := Lib.hid hR
  rw [← hR]
  clear hR h ok
  unfold ptr at *
  go_enter Tryz.func56, Tryz.ntmps56
  go_wp2_with fail
  refine K.out.mono ?_
  rintro e w1 ⟨rfl, rfl⟩
  unfold logV
  cases hg : getM Z S.data.toList with
  | none =>
    have ER2 : Hid (R = (6, plainB Z)) := Lib.hid (by rw [ER.out, backB, plain_get, hg]; rfl)
    clear hg K
    go_wp2
    go_ret
    rw [ER2.out]
    exact ⟨Z, rfl, H.out, rfl, Below.refl _ _⟩
  | some p =>
    obtain ⟨pv, pl⟩ := p
    obtain ⟨_, ok1, ok2, ok3⟩ := HOK.out.row hg
    have hrow := H.out.row hg
    have HIN := Lib.hid (getM_mem hg)
    dsimp only at ok1 ok2 ok3 hrow ⊢
    obtain ⟨m, hm⟩ : ∃ m, m = pl.length := ⟨_, rfl⟩
    have hm0 : m ≠ 0 := by rw [hm]; simpa using ok1
    rw [← hm] at hrow
    obtain ⟨gb, cap, rfl, hgb, _, hcell⟩ := rowS_form hrow hm0
    have HROW := Lib.hid hrow
    have HM := Lib.hid hm
    have HE := Lib.hid (fun e he => (ok3 e he).1)
    have hm4 : m ≤ 4096 := by rw [hm]; exact ok2
    have EB : Hid (R = if n < 0 ∨ (m : Int) ≤ n then (1, plainB Z) else (0, putM (plainB Z) S.data.toList (pl.take (m - n.toNat)))) := Lib.hid (by rw [ER.out, backB, plain_get, hg, hm]; rfl)
    clear hrow hcell ok1 ok2 ok3 hm hg K ER
    by_cases h1 : n < 0
    · have ER2 : Hid (R = (1, plainB Z)) := Lib.hid (by rw [EB.out, if_pos (.inl h1)])
      have d1 : decide (n < 0) = true := by simpa using h1
      go_wp2
      go_ret
      rw [ER2.out]
      exact ⟨Z, rfl, H.out, rfl, Below.refl _ _⟩
    · have d1 : decide (n < 0) = false := by simpa using h1
      by_cases h2 : (m : Int) ≤ n
      · have ER2 : Hid (R = (1, plainB Z)) := Lib.hid (by rw [EB.out, if_pos (.inr h2)])
        go_wp2
        go_ret
        rw [ER2.out]
        exact ⟨Z, rfl, H.out, rfl, Below.refl _ _⟩
      · obtain ⟨j, rfl⟩ : ∃ j : Nat, n = (j : Int) := ⟨n.toNat, by omega⟩
        obtain ⟨d, hd⟩ : ∃ d, m = d + j := ⟨m - j, by omega⟩
        have ER2 : Hid (R = (0, putM (plainB Z) S.data.toList (pl.take d))) := Lib.hid (by rw [EB.out, if_neg (by omega), Int.toNat_natCast, show m - j = d by omega])
        have hsub : (m : Int) - (j : Int) = (d : Int) := by omega
        have h3 : decide ((m : Int) ≤ (j : Int)) = false := by simpa using h2
        have h4 : (d : Int) ≤ (m : Int) := by omega
        have hj : (j : Int) < (m : Int) := by omega
        have hcapm : m ≤ cap := by
          obtain ⟨_, ⟨e, _⟩ | ⟨g', cap', cur, e, _, _, a3, _⟩⟩ := HROW.out
          · cases e
          · injection e with e1 e2 e3; omega
        have hcap : (d : Int) ≤ (cap : Int) := by omega
        have h0 : (0 : Int) ≤ (d : Int) := by omega
        have hcn : ¬ (cap : Int) < (d : Int) := by omega
        have HD := Lib.hid hd
        clear EB h2 hd h1 hcapm
        go_wp2
        obtain ⟨w2, hrun, hown2, hturn2⟩ := (ownsMap_block (w' := w1.drew) H.out.map rfl).store law Tryz.underlying107 (by decide) (val := .slice (some ⟨gb, 0, none⟩) d cap) (keyK S hS) rfl
        have t2 := hturn2.grown
        go_region
        go_wp2
        go_ret
        rw [ER2.out]
        rw [toD_put Prod.fst Z S.data.toList (.slice (some ⟨gb, 0, none⟩) d cap, pl.take d)] at hown2
        have hlen : (pl.take d).length = d := by rw [List.length_take, ← HM.out]; have := HD.out; omega
        have hnb : ∀ x ∈ ob (Value.slice (some ⟨gb, 0, none⟩) d cap), x = gb := by intro x hx; simp [ob, Value.ownBlock] at hx; exact hx
        have hgbb : gb ≠ b := (H.out.off _ HIN.out gb (by simp [ob, Value.ownBlock])).2
        refine ⟨_, rfl, H.out.put S.data.toList (.slice (some ⟨gb, 0, none⟩) d cap) (pl.take d) (fun x hx hne _ => t2.block x hx (by simpa using hne)) (map_tight hown2 (by have := putM_length Z S.data.toList (Value.slice (some ⟨gb, 0, none⟩) d cap, pl.take d); have := HN.out; omega)) ?_ ?_, plain_put _ _ _ _, ?_⟩
        · rw [hlen]
          refine rowS_kept (row_front HROW.out HM.out HE.out (by have := HD.out; omega)) (fun x hx hl => t2.block x hl ?_)
          rw [hnb x hx]; simpa using hgbb
        · intro x hx
          rw [hnb x hx]
          exact .inr ⟨_, HIN.out, by simp [ob, Value.ownBlock]⟩
        · have := ((Below.refl B w1).drew).grown t2 HBw.out (fun y hy => by obtain rfl := Option.some.inj hy; exact H.out.baseb)
          exact this
end Go.Proofs.YtkeegnhjemhblaaGreatDoor.Rf
/-
  The contract of a book's Copy.
-/
namespace Go.Proofs.YtkeegnhjemhblaaGreatDoor.Rf
open Go.RowKit Go.Maps Go.WideMaps
variable {X : Spect}

/-- A branch that has another one's snapshots. -/
def copyB (K : BK) (k j : List UInt8) : Int × BK :=
  match getM K k with
  | none => (6, K)
  | some l => if Nm.chk j = false then (10, K) else if (getM K j).isSome then (7, K) else if 64 ≤ K.length then (3, K) else (0, putM K j l)

/-- A clone stands in the map. -/
theorem clone_end {B : Nat} {w2 w3 w4 : World} {g b : Nat} {Z : BM} {k : List UInt8} {v' : Value} {l : List En} (h : BookAt X B w2 g b Z) (hb : Below w2.heap.size w2 w3)
    (hown : w3.ownsRow w2.heap.size 84 33 v' l.length (cellsL l)) (hm : w4.ownsMap Tryz.prog 9 Rv b 1000001 ((toD Prod.fst Z).put (.string k) (.held v'))) (hz : Z.length ≤ 64) (ht : w3.mapTurned w4 b) :
    BookAt X B w4 g b (putM Z k (v', l)) ∧ Below B w2 w4 := by
  have hlb := h.lt_b; have hlg := h.lt_g; have hs := hb.size
  have t4 := ht.grown
  have hBw : B ≤ w2.heap.size := Nat.le_trans h.baseg (Nat.le_of_lt hlg)
  refine ⟨h.put k v' l ?_ ?_ ?_ ?_, ?_⟩
  · intro y hy hyb _
    rw [t4.block y (by omega) (by simpa using hyb), hb.block y hy]
  · rw [toD_put Prod.fst Z k (v', l)] at hm
    exact map_tight hm (by have := putM_length Z k (v', l); omega)
  · refine rowS_kept (row_mono hown hBw) (fun y hy hl => t4.block y hl ?_)
    have := rowS_ge hown y hy
    have hyb : y ≠ b := by omega
    simpa using hyb
  · intro y hy
    exact .inl (rowS_ge hown y hy)
  · exact (hb.mono hBw).grown t4 (Nat.le_trans hBw hs) (fun y hy => by obtain rfl := Option.some.inj hy; exact h.baseb)

set_option maxHeartbeats 4000000 in
set_option maxRecDepth 100000 in
theorem copy_any (B : Nat) (w : World) (g b : Nat) (Z : BM) (S T : ByteArray) (hS : S.size ≤ maxLen) (hT : T.size ≤ maxLen) (h : BookAt X B w g b Z) (ok : OkB (plainB Z)) :
    Calls Tryz.prog 58 #[ptr g, .string S, .string T] w (BkPost X B w g b (.int .i64 (copyB (plainB Z) S.data.toList T.data.toList).1) (copyB (plainB Z) S.data.toList T.data.toList).2) := by
  have K := Lib.hid (log_any B w g b Z S hS h)
  have H := Lib.hid h
  have C := Lib.hid (fun w => Nm.check_any T w hT)
  have c0 : w.cell? ⟨g, 0, none⟩ = some (.map (some b)) := cell_of_heap h.book
  have HN : Hid (Z.length ≤ 64) := Lib.hid (by rw [← plain_length]; exact ok.size)
  have HOK := Lib.hid ok
  have HBw : Hid (B ≤ w.heap.size) := Lib.hid (Nat.le_trans h.baseg (Nat.le_of_lt h.lt_g))
  obtain ⟨R, hR⟩ : ∃ R, R = copyB (plainB Z) S.data.toList T.data.toList := ⟨_, rfl⟩
  have ER := Lib.hid hR
  rw [← hR]
  have hlk := h.look T hT
  clear hR h ok
  unfold ptr at *
  unfold Nm.chkN at C
  go_enter Tryz.func58, Tryz.ntmps58
  go_wp2_with fail
  refine K.out.mono ?_
  rintro e w1 ⟨rfl, rfl⟩
  unfold logV
  cases hg : getM Z S.data.toList with
  | none =>
    have ER2 : Hid (R = (6, plainB Z)) := Lib.hid (by rw [ER.out, copyB, plain_get, hg]; rfl)
    clear hg K C hlk
    go_wp2
    go_ret
    rw [ER2.out]
    exact ⟨Z, rfl, H.out, rfl, Below.refl _ _⟩
  | some p =>
    obtain ⟨pv, pl⟩ := p
    obtain ⟨_, ok1, ok2, ok3⟩ := HOK.out.row hg
    have hrow := H.out.row hg
    dsimp only at ok1 ok2 ok3 hrow ⊢
    have EB : Hid (R = if Nm.chk T.data.toList = false then (10, plainB Z) else if (getM (plainB Z) T.data.toList).isSome then (7, plainB Z) else if 64 ≤ (plainB Z).length then (3, plainB Z) else (0, putM (plainB Z) T.data.toList pl)) := Lib.hid (by rw [ER.out, copyB, plain_get, hg]; rfl)
    have HROW := Lib.hid hrow
    have HO1 := Lib.hid ok1; have HO2 := Lib.hid ok2
    clear hrow ok1 ok2 ok3 hg K ER
    cases hc : Nm.chk T.data.toList with
    | false =>
      rw [hc] at C
      have ER2 : Hid (R = (10, plainB Z)) := Lib.hid (by rw [EB.out, if_pos hc])
      clear hc EB
      go_wp2_with fail
      refine (C.out _).mono ?_
      rintro e w2 ⟨rfl, hb2⟩
      have HB2 := Lib.hid hb2
      clear hb2 C
      go_wp2
      go_ret
      rw [ER2.out]
      exact ⟨Z, rfl, H.out.below HB2.out, rfl, HB2.out.mono HBw.out⟩
    | true =>
      rw [hc] at C
      cases hj : getM Z T.data.toList with
      | some q =>
        rw [hj] at hlk
        have ER2 : Hid (R = (7, plainB Z)) := Lib.hid (by rw [EB.out, if_neg (by simp [hc]), plain_get, hj]; rfl)
        clear hc EB hj
        go_wp2_with fail
        refine (C.out _).mono ?_
        rintro e w2 ⟨rfl, hb2⟩
        have HB2 := Lib.hid hb2
        clear hb2 C
        go_wp2
        go_ret
        rw [ER2.out]
        exact ⟨Z, rfl, H.out.below HB2.out, rfl, HB2.out.mono HBw.out⟩
      | none =>
        rw [hj] at hlk
        by_cases hz : 64 ≤ Z.length
        · have ER2 : Hid (R = (3, plainB Z)) := Lib.hid (by rw [EB.out, if_neg (by simp [hc]), plain_get, hj, plain_length]; exact if_pos hz)
          clear hc EB hj
          go_wp2_with fail
          refine (C.out _).mono ?_
          rintro e w2 ⟨rfl, hb2⟩
          have h2 := H.out.below hb2
          have c2 : w2.cell? ⟨g, 0, none⟩ = some (.map (some b)) := cell_of_heap h2.book
          have hlen := h2.map.len Tryz.underlying107
          simp only [toD_size] at hlen
          have hz2 : (64 : Int) ≤ (Z.length : Int) := by omega
          have HB2 := Lib.hid hb2; have H2 := Lib.hid h2
          clear hb2 C h2 c0 hlk
          go_wp2
          go_ret
          rw [ER2.out]
          exact ⟨Z, rfl, H2.out, rfl, HB2.out.mono HBw.out⟩
        · have ER2 : Hid (R = (0, putM (plainB Z) T.data.toList pl)) := Lib.hid (by rw [EB.out, if_neg (by simp [hc]), plain_get, hj, plain_length]; exact if_neg hz)
          clear hc EB hj
          go_wp2_with fail
          refine (C.out _).mono ?_
          rintro e w2 ⟨rfl, hb2⟩
          have h2 := H.out.below hb2
          have c2 : w2.cell? ⟨g, 0, none⟩ = some (.map (some b)) := cell_of_heap h2.book
          have hlen := h2.map.len Tryz.underlying107
          simp only [toD_size] at hlen
          have hz2 : ¬ (64 : Int) ≤ (Z.length : Int) := by omega
          have CL := Lib.hid (clone_any B w2.drew pv pl (rowS_kept (w' := w2.drew) HROW.out (fun y _ hy => hb2.block y hy)) (by have := HO2.out; omega) HO1.out)
          have HB2 := Lib.hid hb2; have H2 := Lib.hid h2
          clear hb2 C h2 c0 hlk
          go_wp2
          go_region_held3 (fun w' => w'.cell? ⟨g, 0, none⟩ = some (.map (some b)))
            (first
              | exact c4
              | exact c3
              | exact c2)
            (first
              | (go_at_call 62
                 refine CL.out.mono ?_
                 rintro e w3 ⟨v', rfl, ho3, hb3⟩
                 have h3 : BookAt X B w3 g b Z := (H2.out.kept (w' := w2.drew) (fun _ _ => rfl)).below hb3
                 have c3 : w3.cell? ⟨g, 0, none⟩ = some (.map (some b)) := cell_of_heap h3.book
                 obtain ⟨w4, hrun4, hown4, hturn4⟩ := h3.map.store law Tryz.underlying107 (by decide) (val := v') (keyK T hT) rfl
                 have c4 : w4.cell? ⟨g, 0, none⟩ = some (.map (some b)) := (World.cell?_of_block (a := ⟨g, 0, none⟩) (hturn4.grown.block g h3.lt_g (by simpa using h3.gb))).trans c3))
          have HO3 := Lib.hid ho3; have HB3 := Lib.hid hb3; have HO4 := Lib.hid hown4; have HT4 := Lib.hid hturn4
          clear ho3 hb3 hown4 hturn4 h3 c3 c4 hrun4
          go_wp2
          go_ret
          rw [ER2.out]
          obtain ⟨P1, P2⟩ := clone_end (w2 := w2.drew) (k := T.data.toList) (l := pl) (H2.out.kept (w' := w2.drew) (fun _ _ => rfl)) HB3.out HO3.out HO4.out HN.out HT4.out
          exact ⟨_, rfl, P1, plain_put _ _ _ _, (HB2.out.mono HBw.out).drew.trans P2⟩
end Go.Proofs.YtkeegnhjemhblaaGreatDoor.Rf
/-
  The names of a book's branches, in order: plain, and the contract of Branches.
-/
namespace Go.Proofs.YtkeegnhjemhblaaGreatDoor.Rf
open Go.RowKit Go.Maps Go.WideMaps
variable {X : Spect}

/-- The keys of a map, in order. -/
def names {α : Type} (m : MV α) : List (List UInt8) := (m.map (·.1)).mergeSort (fun x y => decide (x ≤ y))
theorem names_perm {α : Type} (m : MV α) : (names m).Perm (m.map (·.1)) := List.mergeSort_perm _ _
theorem strKeys_toD {α : Type} (enc : α → Value) (m : MV α) : strKeys (toD enc m) = m.map (·.1) := by
  show (m.map fun p => ((Lit.string p.1, DataW.held (enc p.2)) : Lit × DataW Value)).map (fun p => strOf p.1) = _
  rw [List.map_map]; rfl
theorem names_of {α : Type} {enc : α → Value} {m : MV α} {ss : List (List UInt8)} (h : ss.Perm (strKeys (toD enc m))) : ss.mergeSort (fun x y => decide (x ≤ y)) = names m := by
  rw [strKeys_toD] at h
  exact mergeSort_of_perm h
theorem names_length {α : Type} (m : MV α) : (names m).length = m.length := by rw [(names_perm m).length_eq, List.length_map]
theorem names_get {α : Type} {m : MV α} {k : List UInt8} (h : k ∈ names m) : ∃ n, getM m k = some n := by
  have h1 := (names_perm m).mem_iff.1 h
  obtain ⟨p, hp, rfl⟩ := List.mem_map.1 h1
  rw [getM]
  cases hf : m.find? fun q => q.1 == p.1 with
  | some q => exact ⟨q.2, rfl⟩
  | none =>
    have := List.find?_eq_none.1 hf p hp
    simp at this
theorem names_map {α β : Type} (f : α → β) (m : MV α) : names (mapM' f m) = names m := by
  simp [names, mapM', List.map_map, Function.comp_def]

theorem one_size (w : World) (A : Obj) : (w.alloc A).heap.size = w.heap.size + 1 := by show (w.heap.push _).size = _; simp

set_option maxHeartbeats 2000000 in
set_option maxRecDepth 100000 in
theorem branches_any (B : Nat) (w : World) (g b : Nat) (Z : BM) (h : BookAt X B w g b Z) (ok : OkB (plainB Z)) :
    Calls Tryz.prog 47 #[ptr g] w fun e w' => ∃ v, e = .returned v ∧ w'.ownsRow w.heap.size 9 1 v (names (plainB Z)).length ((names (plainB Z)).map encStr) ∧ Below w.heap.size w w' := by
  have c0 : w.cell? ⟨g, 0, none⟩ = some (.map (some b)) := cell_of_heap h.book
  have hn : Z.length ≤ 64 := by rw [← plain_length]; exact ok.size
  have KE := Lib.hid (Tryz.keys (some b) w)
  have SK := Lib.hid (Tryz.sortedKeys b 1000000 _ _ w h.map (by rw [toD_size]; unfold maxLen; omega) (by rw [toD_size]; omega))
  clear h ok
  unfold ptr at *
  go_enter Tryz.func47, Tryz.ntmps47
  go_wp2_with (first
    | (go_at_call 110; refine KE.out.mono ?_; rintro e w2 ⟨rfl, rfl⟩)
    | (go_at_call 109; refine SK.out.mono ?_; rintro e w3 ⟨v, ss, rfl, hp, ho, _, hb⟩; rw [names_of hp] at ho; have HP := Lib.hid hp; have HO := Lib.hid ho; have HB := Lib.hid hb; clear hp ho hb))
  go_ret
  have e1 : names (plainB Z) = names Z := names_map _ _
  have hlen : (names Z).length = ss.length := by rw [← names_of HP.out, List.length_mergeSort]
  have hb0 : Below w.heap.size w (w.alloc (.cells #[.map (some b)] 107)) := (Below.refl _ _).alloc (Nat.le_refl _) _
  refine ⟨v, rfl, ?_, hb0.trans (HB.out.mono (by rw [one_size]; omega))⟩
  rw [e1, hlen]
  exact row_mono HO.out (by rw [one_size]; omega)
end Go.Proofs.YtkeegnhjemhblaaGreatDoor.Rf
/-
  A book's bytes: plain, and the contract of Encode.
-/
namespace Go.Proofs.YtkeegnhjemhblaaGreatDoor.Rf
open Go.RowKit Go.Maps Go.WideMaps
variable {X : Spect}

def encE (e : En) : List UInt8 := e.c ++ sh e.t.toNat
def encL (l : List En) : List UInt8 := l.flatMap encE
def encBr (K : BK) (k : List UInt8) : List UInt8 := putText k ++ sh ((getM K k).getD []).length ++ encL ((getM K k).getD [])
def payload (K : BK) : List UInt8 := sh K.length ++ (names K).flatMap (encBr K)
/-- A book's bytes. -/
def encodeB (K : BK) : List UInt8 := frameN (payload K)

theorem encE_len {e : En} (h : e.c.length = 32) : (encE e).length ≤ 42 := by
  rw [encE, List.length_append, h]; have := sh_length e.t.toNat; omega
theorem encL_len {l : List En} (h : ∀ e ∈ l, e.c.length = 32) : (encL l).length ≤ 42 * l.length := by
  induction l with
  | nil => simp [encL]
  | cons e r ih =>
    have h1 := encE_len (h e (by simp))
    have h2 := ih (fun x hx => h x (by simp [hx]))
    rw [encL, List.flatMap_cons, List.length_append, ← encL, List.length_cons]; omega
theorem encL_take {l : List En} {k : Nat} (h : k < l.length) : encL (l.take (k + 1)) = encL (l.take k) ++ encE l[k] := by
  rw [encL, encL, List.take_add_one, List.flatMap_append, List.getElem?_eq_getElem h]; simp

theorem cellsL_at {l : List En} (h : ∀ e ∈ l, e.c.length = 32) {j : Nat} {e : En} (hj : l[j]? = some e) {t : Nat} {v : Value} (hv : e.cells[t]? = some v) : (cellsL l)[j * 33 + t]? = some v := by
  obtain ⟨hjl, rfl⟩ := List.getElem?_eq_some_iff.1 hj
  have e1 : l = l.take j ++ (l[j] :: l.drop (j + 1)) := by rw [← List.drop_eq_getElem_cons hjl, List.take_append_drop]
  have h2 : (cellsL (l.take j)).length = 33 * j := by
    rw [cellsL_length (fun e he => h e (List.mem_of_mem_take he)), List.length_take, Nat.min_eq_left (by omega)]
  have ht := (List.getElem?_eq_some_iff.1 hv).1
  have e2 : cellsL l = cellsL (l.take j) ++ (l[j].cells ++ cellsL (l.drop (j + 1))) := by
    conv => lhs; rw [e1]
    rw [cellsL, List.flatMap_append, List.flatMap_cons]; rfl
  rw [e2, List.getElem?_append_right (by omega), h2, show j * 33 + t - 33 * j = t by omega, List.getElem?_append_left ht]
  exact hv
theorem cells_size {e : En} (h : e.c.length = 32) : e.cells.length = 33 := by simp [En.cells, Lib.byteCells_length, h]

/-- A snapshot of noughts. -/
def zer33 : Array Value := (List.replicate 32 (Value.int .u8 0) ++ [Value.int .i64 0]).toArray
/-- A fresh snapshot's variable that was written. -/
theorem store_new (w : World) (cs : Array Value) : ((w.alloc (.cells zer33 84)).setRow w.heap.size cs).heap[w.heap.size]? = some (.cells cs 84) ∧ Below w.heap.size w ((w.alloc (.cells zer33 84)).setRow w.heap.size cs) := by
  refine ⟨setRow_heap _ _ _ _ _ _ (MapKept.heap_alloc w _).1, ?_⟩
  refine ((Below.refl _ w).alloc (Nat.le_refl _) (.cells zer33 84)).trans ⟨rfl, rfl, rfl, by simp [World.setRow], fun k hk => ?_⟩
  exact setRow_other _ _ _ _ (by omega)

theorem arr32 : Tryz.prog.arrayLen 81 = 32 := by kernel_rfl
theorem und32 : Tryz.prog.underlying 81 = some (.array (Tryz.prog.arrayLen 81) (Tryz.prog.elem 81)) := by kernel_rfl
theorem elem32 : (Tryz.prog.info? (Tryz.prog.elem 81)).map (fun i => i.size) = some 1 := by kernel_rfl
theorem slice32 (w : World) (b : Nat) :
    (Instr.sliceAt 81 (.pointer (some ⟨b, 0, none⟩)) none none none).run Tryz.prog w = .ok (.slice (some ⟨b, 0, none⟩) 32 32) w := by
  rw [run_sliceAt_array_all (P := Tryz.prog) w 81 ⟨b, 0, none⟩ und32]
  obtain ⟨i, hi, hs⟩ := Option.map_eq_some_iff.1 elem32
  have hz : (sizeOf (Tryz.prog.elem 81)).run Tryz.prog w = .ok 1 w := by simp [sizeOf, typeInfo, hi, hs]
  rw [hz]
  simp only [Result.andThen, arr32, slicedAt]
  rw [if_neg (by omega), Addr.add_lit]

theorem rowS_slice {w : World} {B : Nat} {e : TypeId} {s : Nat} {v : Value} {n : Nat} {xs : List Value} (h : w.ownsRow B e s v n xs) : ∃ a cap, v = .slice a n cap := by
  obtain ⟨_, ⟨rfl, rfl⟩ | ⟨g, cap, cur, rfl, _⟩⟩ := h
  · exact ⟨_, _, rfl⟩
  · exact ⟨_, _, rfl⟩
theorem encBr_len {Z : BM} (ok : OkB (plainB Z)) {k : List UInt8} {p : Value × List En} (hk : getM Z k = some p) : (encBr (plainB Z) k).length ≤ 200000 := by
  obtain ⟨a1, a2, a3, a4⟩ := ok.row hk
  have e1 : (getM (plainB Z) k).getD [] = p.2 := by rw [plain_get, hk]; rfl
  have h1 := encL_len (fun e he => (a4 e he).1)
  have h2 := sh_length k.length; have h3 := sh_length p.2.length
  rw [encBr, e1, putText, List.length_append, List.length_append, List.length_append]; omega

theorem conv_row {w : World} {g o c : Nat} (l : List UInt8) (h : w.rangeAt g o (Lib.byteCells l)) : (convert 82 9 (.slice (some ⟨g, o, none⟩) l.length c)).run Tryz.prog w = .ok (.string ⟨l.toArray⟩) w :=
  run_convert_bytes_back w _ _ 5 ⟨g, o, none⟩ c l Tryz.underlying82 Tryz.underlying5 Tryz.underlying9 (fun j hj => by
    rw [Addr.add_lit]
    exact h j _ (by rw [Lib.byteCells, List.getElem?_map, List.getElem?_eq_getElem hj]; rfl))

set_option linter.unusedSimpArgs false in
set_option maxHeartbeats 4000000 in
set_option maxRecDepth 100000 in
theorem encode_any (B : Nat) (w : World) (g b : Nat) (Z : BM) (h : BookAt X B w g b Z) (ok : OkB (plainB Z)) :
    Calls Tryz.prog 17 #[ptr g] w fun e w' => e = .returned (.tuple #[.string ⟨(encodeB (plainB Z)).toArray⟩, .int .i64 0]) ∧ Below w.heap.size w w' := by
  have c0 : w.cell? ⟨g, 0, none⟩ = some (.map (some b)) := cell_of_heap h.book
  have H := Lib.hid h; have HOK := Lib.hid ok
  have hn : Z.length ≤ 64 := by rw [← plain_length]; exact ok.size
  have hlen := h.map.len Tryz.underlying107
  simp only [toD_size] at hlen
  have P0 := Lib.hid (put_any w ⟨#[]⟩ Z.length (by omega) (by decide))
  simp only [List.nil_append] at P0
  clear h ok
  unfold ptr at *
  go_enter Tryz.func17, Tryz.ntmps17
  go_wp2_with fail
  refine P0.out.mono ?_
  rintro e w1 ⟨rfl, hb1⟩
  have h1 := H.out.below hb1
  have c1 : w1.cell? ⟨g, 0, none⟩ = some (.map (some b)) := cell_of_heap h1.book
  have BR := Lib.hid (branches_any B w1 g b Z h1 HOK.out)
  have HB1 := Lib.hid hb1
  clear hlen c0 h1 hb1 P0
  unfold ptr at *
  go_wp2_with fail
  refine BR.out.mono ?_
  rintro e w2 ⟨nv, rfl, ho2, hb2⟩
  have HB2 := Lib.hid (HB1.out.trans (hb2.mono HB1.out.size))
  have H2 := Lib.hid (H.out.below HB2.out)
  obtain ⟨N, hN⟩ : ∃ N, N = names (plainB Z) := ⟨_, rfl⟩
  have HNL : Hid (N.length = Z.length) := Lib.hid (by rw [hN, names_length, plain_length])
  rw [← hN] at ho2
  have HN := Lib.hid hN
  have HO2 := Lib.hid ho2
  clear hb2 ho2 hN BR c1 HB1
  obtain ⟨na, nc, rfl⟩ := rowS_slice HO2.out
  obtain ⟨s0, hs0⟩ : ∃ s0, s0 = sh Z.length := ⟨_, rfl⟩
  have HS0 : Hid (s0 = sh Z.length) := Lib.hid hs0
  rw [← hs0]
  have hs0l : s0.length ≤ 10 := by rw [hs0]; exact sh_length _
  clear hs0
  go_wp2
  go_loopw [4, 22] (fun vs vi wr => ∃ i : Nat, i ≤ N.length ∧ vi = .int .i64 i ∧ vs = .string ⟨(s0 ++ (N.take i).flatMap (encBr (plainB Z))).toArray⟩ ∧ Below w2.heap.size w2 wr ∧ Hid ((s0 ++ (N.take i).flatMap (encBr (plainB Z))).length ≤ 20 + i * 200000)) (fun _ vi _ => N.length - (RowKit.intOf vi).toNat)
  case atStart => exact ⟨0, by omega, rfl, by simp, Below.refl _ _, Lib.hid (by simp; omega)⟩
  case round =>
    obtain ⟨i, hi, rfl, rfl, hbr, hbound⟩ := hrel
    obtain ⟨wo, hwo⟩ : ∃ wo, wo = wr := ⟨_, rfl⟩
    subst hwo
    by_cases hlt : (i : Int) < (N.length : Int)
    · have hi' : i < N.length := by omega
      have hi64 : i < 64 := by have := HNL.out; omega
      obtain ⟨gn, ncap, hnv, hgn, _, hcell⟩ := rowS_form HO2.out (by omega)
      injection hnv with e1 e2 e3
      subst e1 e3
      obtain ⟨k, hk⟩ : ∃ k, k = N[i] := ⟨_, rfl⟩
      have hck : wo.cell? ⟨gn, i, none⟩ = some (.string ⟨k.toArray⟩) := (World.cell?_of_block (a := ⟨gn, i, none⟩) (hbr.block gn hgn)).trans (hcell i _ (by rw [List.getElem?_map, List.getElem?_eq_getElem hi', ← hk]; rfl))
      have hkm : k ∈ names (plainB Z) := by rw [← HN.out, hk]; exact List.getElem_mem hi'
      obtain ⟨p, hp⟩ : ∃ p, getM Z k = some p := by
        obtain ⟨l, hl⟩ := names_get hkm
        rw [plain_get] at hl
        obtain ⟨p, hp, _⟩ := Option.map_eq_some_iff.1 hl
        exact ⟨p, hp⟩
      have hrb := H2.out.below hbr
      have c2 : wo.cell? ⟨g, 0, none⟩ = some (.map (some b)) := cell_of_heap hrb.book
      obtain ⟨a1, a2, a3, a4⟩ := HOK.out.row hp
      have hks : (⟨k.toArray⟩ : ByteArray).size ≤ 255 := a1
      have hlk := look_run1 Tryz.underlying107 zeroRow hrb.map ⟨k.toArray⟩ (by unfold maxLen; omega)
      rw [ba_data, hp] at hlk
      have hrow := hrb.row hp
      obtain ⟨pv, pl⟩ := p
      obtain ⟨m, hm⟩ : ∃ m, m = pl.length := ⟨_, rfl⟩
      dsimp only at a2 a3 a4 hrow hlk
      have hm0 : m ≠ 0 := by rw [hm]; simpa using a2
      rw [← hm] at hrow
      obtain ⟨gb, cap, rfl, hgb, _, hrc⟩ := rowS_form hrow hm0
      obtain ⟨s, hs⟩ : ∃ s, s = s0 ++ (N.take i).flatMap (encBr (plainB Z)) := ⟨_, rfl⟩
      have hsl : s.length ≤ 20 + i * 200000 := by rw [hs]; exact hbound.out
      have hst : Hid (s0 ++ (N.take (i + 1)).flatMap (encBr (plainB Z)) = s ++ (putText k ++ sh m ++ encL pl)) := Lib.hid (by
        rw [hs, List.take_add_one, List.flatMap_append, List.getElem?_eq_getElem hi', ← hk, Option.toList_some, List.flatMap_cons, List.flatMap_nil, List.append_nil, ← List.append_assoc, encBr, plain_get, hp, hm]; rfl)
      rw [← hs]
      have hbb := encBr_len HOK.out hp
      have HEB : Hid ((putText k ++ sh m ++ encL pl).length ≤ 200000) := Lib.hid (by
        have e : encBr (plainB Z) k = putText k ++ sh m ++ encL pl := by rw [encBr, plain_get, hp, hm]; rfl
        rw [← e]; exact hbb)
      have PT := Lib.hid (putText_any wo ⟨s.toArray⟩ ⟨k.toArray⟩ (by show s.length ≤ _; omega) (by omega))
      rw [ba_data, ba_data] at PT
      have hmb : m ≤ 4096 := by rw [hm]; exact a3
      have hptl : (putText k).length ≤ 265 := by rw [putText, List.length_append]; have := sh_length k.length; have : k.length ≤ 255 := a1; omega
      have PP := Lib.hid (fun w => put_any w ⟨(s ++ putText k).toArray⟩ m (by omega) (by show (s ++ putText k).length ≤ _; rw [List.length_append]; omega))
      rw [ba_data] at PP
      have HRC := Lib.hid hrc; have HM := Lib.hid hm; have HA4 := Lib.hid a4; have HBR := Lib.hid hbr; have HK := Lib.hid hk
      clear hbound hrow hrc a1 a2 a3 a4 hm hs hbb hcell hkm hp hrb hbr hk
      go_wp2_with fail
      refine PT.out.mono ?_
      rintro e w4 ⟨rfl, hb4⟩
      have HB4 := Lib.hid hb4
      clear hb4 PT
      go_wp2_with fail
      refine (PP.out _).mono ?_
      rintro e w5 ⟨rfl, hb5⟩
      have HB5 := Lib.hid (HB4.out.trans (hb5.mono HB4.out.size))
      clear hb5 PP
      go_wp2
      go_loopw [4, 41] (fun vs vj wq => ∃ (j : Nat) (Q : List UInt8), j ≤ m ∧ vj = .int .i64 j ∧ vs = .string ⟨Q.toArray⟩ ∧ Below wo.heap.size wo wq ∧ Hid (Q = s ++ (putText k ++ (sh m ++ encL (pl.take j))))) (fun _ vj _ => m - (RowKit.intOf vj).toNat)
      case atStart => exact ⟨0, s ++ (putText k ++ sh m), by omega, rfl, by simp, HB5.out, Lib.hid (by simp [encL])⟩
      case round =>
        obtain ⟨j, Q, hj, rfl, rfl, hbq, hQ⟩ := hrel
        have hQl : Q.length ≤ 14000000 := by
          have h1 := encL_len (l := pl.take j) (fun e he => (HA4.out e (List.mem_of_mem_take he)).1)
          have h2 := sh_length m
          rw [List.length_take] at h1
          rw [hQ.out, List.length_append, List.length_append, List.length_append]
          omega
        by_cases hjm : (j : Int) < (m : Int)
        · have hjl : j < pl.length := by rw [← HM.out]; omega
          obtain ⟨e, he⟩ : ∃ e, e = pl[j] := ⟨_, rfl⟩
          obtain ⟨ec, et0, et1⟩ := HA4.out e (by rw [he]; exact List.getElem_mem hjl)
          have hcs := cells_size ec
          have hrg : wr.rangeAt gb (j * 33) e.cells := fun t v hv => (World.cell?_of_block (a := ⟨gb, j * 33 + t, none⟩) (hbq.block gb hgb)).trans (HRC.out _ _ (cellsL_at (fun e he => (HA4.out e he).1) (by rw [List.getElem?_eq_getElem hjl, ← he]) hv))
          have HRG := Lib.hid hrg
          have hi33 : (Tryz.prog.info? 84).map (·.size) = some e.cells.length := by rw [hcs]; kernel_rfl
          have HI := Lib.hid hi33
          have HCS := Lib.hid hcs
          have HBQ := Lib.hid hbq
          clear hrg hi33 hcs hbq
          have HE := Lib.hid he
          have HONE : Hid (e.cells.toArray.all (·.oneCell') = true) := Lib.hid (Array.all_eq_true_iff_forall_mem.2 (fun u hu => row_one (l := [e]) u (by simpa [cellsL] using hu)))
          have HS2 : Hid (zer33.size = e.cells.toArray.size) := Lib.hid (by show 33 = _; rw [List.size_toArray]; exact HCS.out.symm)
          have HI2 : Hid ((Tryz.prog.info? 84).map (·.size) = some e.cells.toArray.size) := Lib.hid (by rw [List.size_toArray]; exact HI.out)
          clear he
          go_wp2_with (first
            | (refine wpList_load_mid rfl _ _ rfl gb (j * 33) rfl e.cells _ HRG.out Tryz.underlying84 rfl HI.out ?_)
            | (refine wpList_store_row rfl _ _ _ rfl wr.heap.size e.cells.toArray rfl rfl 84 zer33 (MapKept.heap_alloc wr (.cells zer33 84)).1 HI2.out HS2.out HONE.out ?_
               obtain ⟨hq6, hb6⟩ := store_new wr e.cells.toArray
               change wpList _ _ _ _ _ ((wr.alloc (.cells zer33 84)).setRow wr.heap.size e.cells.toArray)
               generalize (wr.alloc (.cells zer33 84)).setRow wr.heap.size e.cells.toArray = w6 at hq6 hb6 ⊢
               have HQ6 := Lib.hid hq6; have HB6 := Lib.hid hb6
               clear hq6 hb6))
          obtain ⟨tn, htn⟩ : ∃ tn : Nat, e.t = (tn : Int) := ⟨e.t.toNat, by omega⟩
          have hc32 : w6.cell? ⟨wr.heap.size, 32, none⟩ = some (.int .i64 (tn : Int)) := by
            rw [cell_of_heap HQ6.out, List.getElem?_toArray, En.cells, List.getElem?_append_right (by rw [Lib.byteCells_length, ec]; omega), Lib.byteCells_length, ec, htn]; rfl
          have hcvA : ∀ w' : World, w'.heap[wr.heap.size]? = some (.cells e.cells.toArray 84) → (convert 82 9 (.slice (some ⟨wr.heap.size, 0, none⟩) 32 32)).run Tryz.prog w' = .ok (.string ⟨e.c.toArray⟩) w' := fun w' hw' => by
            have := conv_row (w := w') (g := wr.heap.size) (o := 0) (c := 32) e.c (fun t v hv => by
              rw [Nat.zero_add]
              refine (cell_of_heap hw').trans ?_
              rw [List.getElem?_toArray, En.cells, List.getElem?_append_left (List.getElem?_eq_some_iff.1 hv).1]; exact hv)
            rwa [ec] at this
          have hcv := hcvA w6.drew HQ6.out
          have HCVA := Lib.hid hcvA
          clear hcvA
          have hsl := fun w => slice32 w wr.heap.size
          have PE := Lib.hid (fun w => put_any w ⟨(Q ++ e.c).toArray⟩ tn (by omega) (by show (Q ++ e.c).length ≤ _; rw [List.length_append, ec]; omega))
          have hecs : (⟨e.c.toArray⟩ : ByteArray).size = 32 := ec
          have hqs : (⟨Q.toArray⟩ : ByteArray).size = Q.length := rfl
          have hcat := cat_list ⟨Q.toArray⟩ e.c
          have hwt : (tn : Int) % 18446744073709551616 = (tn : Int) := by omega
          have hnl : Q.length ≤ 9223372036854775775 := by omega
          have HTN := Lib.hid htn; have HEC := Lib.hid ec
          clear htn ec et0 et1
          refine wp_region_held_drew (S := (fun w' : World => w'.cell? ⟨wr.heap.size, 32, none⟩ = some (.int .i64 (tn : Int)) ∧ (convert 82 9 (.slice (some ⟨wr.heap.size, 0, none⟩) 32 32)).run Tryz.prog w' = .ok (.string ⟨e.c.toArray⟩) w')) (by kernel_rfl) ⟨hc32, hcv⟩ (fun hHeld => ?_)
          refine wpAnyH_take (i := 0) (v := ?_) rfl (by kernel_rfl) (by kernel_rfl) (by kernel_rfl) (fun _ _ _ h => h) (Or.inl ⟨by rfl, ?hz0⟩) hHeld ?_
          case hz0 =>
            intro w hSw
            try dsimp only at hSw
            go_simp
            try with_reducible rfl
          try simp only [Act.put, List.setIfInBounds_toArray, List.set_cons_zero, List.set_cons_succ]
          refine wpAnyH_take (i := 1) (v := ?_) rfl (by kernel_rfl) (by kernel_rfl) (by kernel_rfl) (fun _ _ _ h => h) (Or.inl ⟨by rfl, ?hz1⟩) hHeld ?_
          case hz1 =>
            intro w hSw
            try dsimp only at hSw
            go_simp
            try with_reducible rfl
          try simp only [Act.put, List.setIfInBounds_toArray, List.set_cons_zero, List.set_cons_succ]
          refine wpAnyH_take (i := 2) (v := ?_) rfl (by kernel_rfl) (by kernel_rfl) (by kernel_rfl) (fun _ _ _ h => h) (Or.inl ⟨by rfl, ?hz2⟩) hHeld ?_
          case hz2 =>
            intro w hSw
            try dsimp only at hSw
            go_simp
            try with_reducible rfl
          try simp only [Act.put, List.setIfInBounds_toArray, List.set_cons_zero, List.set_cons_succ]
          refine wpAnyH_take (i := 3) (v := ?_) rfl (by kernel_rfl) (by kernel_rfl) (by kernel_rfl) (fun _ _ _ h => h) (Or.inl ⟨by rfl, ?hz3⟩) hHeld ?_
          case hz3 =>
            intro w hSw
            try dsimp only at hSw
            go_simp
            try with_reducible rfl
          try simp only [Act.put, List.setIfInBounds_toArray, List.set_cons_zero, List.set_cons_succ]
          refine wpAnyH_take (i := 4) (v := .string ⟨(Q ++ e.c).toArray⟩) rfl (by kernel_rfl) (by kernel_rfl) (by kernel_rfl) (fun _ _ _ h => h) (Or.inl ⟨by rfl, ?hz4⟩) hHeld ?_
          case hz4 =>
            intro w hSw
            clear hSw hHeld
            clear hcat
            go_simp
            rw [if_neg (by omega), cat_list]
          try simp only [Act.put, List.setIfInBounds_toArray, List.set_cons_zero, List.set_cons_succ]
          refine wpAnyH_take (i := 5) (v := ?_) rfl (by kernel_rfl) (by kernel_rfl) (by kernel_rfl) (fun _ _ _ h => h) (Or.inl ⟨by rfl, ?hz5⟩) hHeld ?_
          case hz5 =>
            intro w hSw
            try dsimp only at hSw
            go_simp
            try with_reducible rfl
          try simp only [Act.put, List.setIfInBounds_toArray, List.set_cons_zero, List.set_cons_succ]
          refine wpAnyH_take (i := 6) (v := ?_) rfl (by kernel_rfl) (by kernel_rfl) (by kernel_rfl) (fun _ _ _ h => h) (Or.inl ⟨by rfl, ?hz6⟩) hHeld ?_
          case hz6 =>
            intro w hSw
            try dsimp only at hSw
            go_simp
            try with_reducible rfl
          try simp only [Act.put, List.setIfInBounds_toArray, List.set_cons_zero, List.set_cons_succ]
          refine wpAnyH_take (i := 7) (v := ?_) rfl (by kernel_rfl) (by kernel_rfl) (by kernel_rfl) (fun _ _ _ h => h) (Or.inl ⟨by rfl, ?hz7⟩) hHeld ?_
          case hz7 =>
            intro w hSw
            try dsimp only at hSw
            go_simp
            try with_reducible rfl
          try simp only [Act.put, List.setIfInBounds_toArray, List.set_cons_zero, List.set_cons_succ]
          refine wpAnyH_ready (rs := [8]) (by kernel_rfl) (by simp) ?_
          refine AllReadyH.cons (o := { dst := some 53, op := .call { callee := .value (.func 65), args := #[.tmp 49, .tmp 52], argTypes := #[9, 73] }, type := 9, pos := _, after := _, guard := none }) rfl (fun K hK => ?_) AllReadyH.nil
          go_simp
          rw [show IntKind.u64.wrap (tn : Int) = (tn : Int) by rw [IntKind.wrap_u64]; omega]
          refine (PE.out _).mono ?_
          rintro e7 w7 ⟨rfl, hb7⟩
          have hc7 : w7.cell? ⟨wr.heap.size, 32, none⟩ = some (.int .i64 (tn : Int)) := (World.cell?_of_block (a := ⟨wr.heap.size, 32, none⟩) (hb7.block _ (lt_of_heap HQ6.out))).trans hc32
          have hcv7 := HCVA.out w7 ((hb7.block _ (lt_of_heap HQ6.out)).trans HQ6.out)
          go_wp2_with fail
          refine hK.out _ _ ⟨hc7, hcv7⟩ (fun hHeld2 => ?_)
          clear hK K hHeld
          try simp only [Act.put, List.setIfInBounds_toArray, List.set_cons_zero, List.set_cons_succ]
          refine wpAnyH_ready (rs := [9]) (by kernel_rfl) (by simp) ?_
          refine AllReadyH.cons (o := { dst := some 4, op := .assign (.tmp 53), type := 9, pos := _, after := _, guard := none }) rfl (fun K hK => ?_) AllReadyH.nil
          go_simp
          refine hK.out _ _ ⟨hc7, hcv7⟩ (fun hHeld3 => ?_)
          clear hK K hHeld2
          refine wpAnyH_done (by kernel_rfl) ?_ _
          clear hHeld3
          have HB7 := Lib.hid hb7
          clear hb7 hc7 hc32 hcv hcv7 hsl PE
          go_wp2
          go_roundw
          case rel =>
            refine ⟨j + 1, Q ++ (e.c ++ sh tn), by omega, by simp, rfl, ?_, Lib.hid ?_⟩
            · have b6 := HBQ.out.trans (HB6.out.mono HBQ.out.size)
              exact b6.trans ((((Below.refl _ w6).drew).trans HB7.out).mono b6.size)
            · rw [hQ.out, encL_take hjl, ← HE.out, encE, HTN.out]
              simp [List.append_assoc]
          case measure => simp [RowKit.intOf]; omega
        · obtain rfl : j = m := by omega
          have hQ2 : Hid (Q = s ++ (putText k ++ sh j ++ encL pl)) := Lib.hid (by rw [hQ.out, HM.out, List.take_length, List.append_assoc])
          have HBQ := Lib.hid hbq
          clear hbq
          go_wp2
          go_roundw
          case rel =>
            refine ⟨i + 1, by omega, by simp, ?_, HBR.out.trans (HBQ.out.mono HBR.out.size), Lib.hid ?_⟩
            · rw [hst.out, ← hQ2.out]
            · rw [hst.out, List.length_append]
              have := HEB.out
              rw [← HM.out] at *
              omega
          case measure => simp [RowKit.intOf]; omega
    · obtain rfl : i = N.length := by omega
      rw [List.take_length] at hbound ⊢
      have hFs : (⟨(s0 ++ N.flatMap (encBr (plainB Z))).toArray⟩ : ByteArray).size ≤ 67108864 := by
        show (s0 ++ N.flatMap (encBr (plainB Z))).length ≤ _
        have := hbound.out
        have := HNL.out
        omega
      have FR := Lib.hid (frame_any wo _ hFs)
      rw [ba_data] at FR
      have HBR := Lib.hid hbr
      clear hbr hFs
      go_wp2_with fail
      refine FR.out.mono ?_
      rintro e w7 ⟨rfl, hb7⟩
      have HB7 := Lib.hid hb7
      clear hb7
      go_wp2
      go_ret2
      refine ⟨?_, ?_⟩
      · rw [encodeB, payload, plain_length, ← HN.out, ← HS0.out]; rfl
      · have b1 := HB2.out.trans (HBR.out.mono HB2.out.size)
        exact b1.trans (HB7.out.mono b1.size)
end Go.Proofs.YtkeegnhjemhblaaGreatDoor.Rf
/-
  The contract of a book's Twin: another book that answers alike.
-/
namespace Go.Proofs.YtkeegnhjemhblaaGreatDoor.Rf
open Go.RowKit Go.Maps Go.WideMaps
variable {X : Spect}

/-- How far the twin has come: the keys that are left are none of its own; the others answer alike. -/
structure TwinSo (K T : BK) (left : Lit → Bool) : Prop where
  mem : ∀ p ∈ T, p ∈ K
  done : ∀ k, left (.string k) = false → getM T k = getM K k
  todo : ∀ k, left (.string k) = true → getM T k = none
theorem TwinSo.step {K T : BK} {left : Lit → Bool} (h : TwinSo K T left) {k : List UInt8} {l : List En} (hk : getM K k = some l) : TwinSo K (putM T k l) (fun z => left z && !z.sameKey (.string k)) := by
  refine ⟨fun p hp => ?_, fun j hj => ?_, fun j hj => ?_⟩
  · rcases mem_ins.1 hp with rfl | h2
    · exact getM_mem hk
    · exact h.mem p (mem_del.1 h2).1
  · by_cases e : k = j
    · subst e; rw [get_put_same, hk]
    · rw [get_put_other _ _ e]
      refine h.done j ?_
      simp [sameKey_string, Ne.symm e] at hj
      exact hj
  · simp [sameKey_string] at hj
    rw [get_put_other _ _ (fun e => hj.2 e.symm)]
    exact h.todo j hj.1

/-- What Twin leaves. -/
def TwinPost (w : World) (Z : BM) (e : Ending) (w' : World) : Prop :=
  ∃ g b T, e = .returned (ptr g) ∧ BookAt noSp w.heap.size w' g b T ∧ Below w.heap.size w w' ∧ OkB (plainB T) ∧ ∀ k, getM (plainB T) k = getM (plainB Z) k

theorem nodup_sub {α : Type} : ∀ {l m : List α}, l.Nodup → (∀ x ∈ l, x ∈ m) → l.length ≤ m.length
  | [], m, _, _ => by simp
  | a :: r, m, hn, hs => by
    classical
    obtain ⟨m1, m2, rfl⟩ := List.append_of_mem (hs a (by simp))
    rw [List.nodup_cons] at hn
    have := nodup_sub (l := r) (m := m1 ++ m2) hn.2 (fun x hx => by
      have h := hs x (by simp [hx])
      have hne : x ≠ a := fun e => hn.1 (e ▸ hx)
      simp only [List.mem_append, List.mem_cons] at h ⊢
      rcases h with h | h | h
      · exact .inl h
      · exact absurd h hne
      · exact .inr h)
    simp at this ⊢
    omega
/-- A map in memory names each key once. -/
theorem keys_nodup {w : World} {b n : Nat} {α : Type} {enc : α → Value} {m : MV α} (h : w.ownsMap Tryz.prog 9 Rv b n (toD enc m)) : (m.map (·.1)).Nodup := by
  obtain ⟨es, he, hp⟩ := h.tidy law
  rw [toD] at he
  injection he with he
  rw [← he, List.pairwise_map] at hp
  rw [List.Nodup, List.pairwise_map]
  exact hp.imp (fun h e => h (by rw [e]))
theorem TwinSo.ok {K T : BK} {left : Lit → Bool} (h : TwinSo K T left) (ok : OkB K) (hn : (T.map (·.1)).Nodup) : OkB T := by
  refine ⟨?_, fun p hp => ok.keys p (h.mem p hp), fun p hp => ok.ne p (h.mem p hp), fun p hp => ok.len p (h.mem p hp), fun p hp => ok.ent p (h.mem p hp)⟩
  have := nodup_sub (m := K.map (·.1)) hn (fun x hx => by
    obtain ⟨p, hp, rfl⟩ := List.mem_map.1 hx
    exact List.mem_map.2 ⟨p, h.mem p hp, rfl⟩)
  simp at this
  have := ok.size
  omega

theorem ranges_block {w w' : World} {b r n cnt : Nat} {D : DataW Value} {left : Lit → Bool} (h : w.ranges Tryz.prog 9 Rv b r n D left cnt) (hb : w'.heap[b]? = w.heap[b]?) (hr : w'.heap[r]? = w.heap[r]?) : w'.ranges Tryz.prog 9 Rv b r n D left cnt := by
  obtain ⟨es, clock, since, seen, c0, h1, h2, h3, h4, h5, h6⟩ := h
  exact ⟨es, clock, since, seen, c0, hb.trans h1, h2, h3, h4, hr.trans h5, h6⟩
theorem string_inv' (key : Value) (kl : Lit) (h : keyOf Tryz.prog 9 key = some kl) : ∃ x, key = Value.string x := by
  obtain ⟨s, rfl, _⟩ := string_of_keyOf Tryz.underlying9 h
  exact ⟨s, rfl⟩
theorem rv_inv (v : Value) (y : DataW Value × List MemPlace) (_h : Rv v = some y) : ∃ c, v = id c := ⟨v, rfl⟩
/-- The iterator has turned, and nothing of the book. -/
theorem BookAt.iter {B : Nat} {w w' : World} {g b r n cnt bz : Nat} {D : DataW Value} {left : Lit → Bool} {T : BM} (h : BookAt noSp B w g b T) (hr : w.ranges Tryz.prog 9 Rv bz r n D left cnt) (hg : w.grownBy w' (some r)) (hgr : g ≠ r) (hbr : b ≠ r) : BookAt noSp B w' g b T := by
  obtain ⟨es, clock, since, seen, c0, h1, h2, h3, h4, h5, h6⟩ := hr
  have hk : ∀ x, x < w.heap.size → x ≠ r → w'.heap[x]? = w.heap[x]? := fun x hx hne => hg.block x hx (by simpa using hne)
  refine ⟨(hk g h.lt_g hgr).trans h.book, ownsMap_block h.map (hk b h.lt_b hbr), fun p hp => rowS_kept (h.each p hp) (fun x hx hl => hk x hl ?_), h.gb, h.off, h.apart, h.baseg, h.baseb, fun _ hp => False.elim hp⟩
  obtain ⟨_, ⟨e, _⟩ | ⟨g', cap, cur, e, _, hh, _⟩⟩ := h.each p hp
  · rw [e] at hx; simp [ob, Value.ownBlock] at hx
  · rw [e] at hx
    simp [ob, Value.ownBlock] at hx
    intro ex
    rw [hx] at ex
    rw [ex, h5] at hh
    cases hh

set_option maxHeartbeats 4000000 in
set_option maxRecDepth 100000 in
theorem twin_any (B : Nat) (w : World) (g b : Nat) (Z : BM) (h : BookAt X B w g b Z) (ok : OkB (plainB Z)) :
    Calls Tryz.prog 13 #[ptr g] w (TwinPost w Z) := by
  have mixed : Tryz.prog.follows Departure.mixedOrders = true := by kernel_rfl
  have NW := Lib.hid (new_any w)
  have H := Lib.hid h; have HOK := Lib.hid ok
  clear h ok
  unfold ptr at *
  go_enter Tryz.func13, Tryz.ntmps13
  go_wp2_with fail
  refine NW.out.mono ?_
  rintro e w1 ⟨gt, bt, rfl, ht1, hb1⟩
  have h1 := H.out.below hb1
  have c1 : w1.cell? ⟨g, 0, none⟩ = some (.map (some b)) := cell_of_heap h1.book
  have HB1 := Lib.hid hb1; have HT1 := Lib.hid ht1; have H1 := Lib.hid h1.map
  clear h1 hb1 ht1 NW
  go_wp2_with (first
    | (at_range; refine wpList_range_own _ rfl _ 107 rfl 9 96 law Tryz.underlying107 Rv b 1000000 (toD Prod.fst Z) rfl H1.out ?_; intro w0 hrg0 hg0 hs0)
    | go_in)
  go_frame
  have hgt : gt < w1.heap.size := HT1.out.lt_g
  have hbt : bt < w1.heap.size := HT1.out.lt_b
  have hb0 : Below w.heap.size w w0 := HB1.out.grown hg0 HB1.out.size (by simp)
  have ht0 : BookAt noSp w.heap.size w0 gt bt [] := HT1.out.kept (fun x hx => hg0.block x hx (by simp))
  have HRG0 := Lib.hid hrg0; have HB0 := Lib.hid hb0; have HT0 := Lib.hid ht0
  have hw1 := HB1.out.size
  have HGB : Hid (w.heap.size ≤ gt ∧ w.heap.size ≤ bt) := Lib.hid ⟨HT1.out.baseg, HT1.out.baseb⟩
  have hbl : b < w.heap.size := H.out.lt_b
  clear hrg0 hg0 hs0 c1 hb0 ht0
  go_loopw [4] (fun _ wr => ∃ (left : Lit → Bool) (cnt : Nat) (T : BM), Hid (wr.ranges Tryz.prog 9 Rv b w1.heap.size 1000000 (toD Prod.fst Z) left cnt) ∧ Hid (BookAt noSp w.heap.size wr gt bt T) ∧ Hid (TwinSo (plainB Z) (plainB T) left) ∧ Hid (Below w.heap.size w wr)) (fun _ wr => wr.rangeLeft b w1.heap.size)
  case atStart =>
    refine ⟨_, _, [], HRG0, HT0, Lib.hid ⟨fun p hp => by simp [plainB, mapM'] at hp, fun k hk => ?_, fun k _ => rfl⟩, HB0⟩
    rw [toD_has] at hk
    have : getM Z k = none := by simpa using hk
    have e : getM (plainB Z) k = none := by rw [plain_get, this]; rfl
    rw [e]; rfl
  case round =>
    obtain ⟨left, cnt, T, HR, HT, HS, HB⟩ := hrel
    go_wp2_with (first
      | (at_next; refine wpList_next_ranges (α := ByteArray) (β := Value) _ rfl _ rfl 9 law Rv Value.string id string_inv' rv_inv b w1.heap.size 1000000 _ _ _ (by first | rfl | simp [Act.eval, World.setCell]) HR.out ?_ ?_)
      | go_in)
    · intro _ hl0
      have hs := Lib.hid (fun k => HS.out.done k (hl0 _))
      clear hl0
      go_wp2
      go_ret
      exact ⟨gt, bt, T, rfl, HT.out, HB.out, HS.out.ok HOK.out (by simpa [plainB, mapM', List.map_map, Function.comp_def] using keys_nodup HT.out.map), hs.out⟩
    · intro x c kl yd yp w2 cnt1 hkey hlx hv hat hrg1 hlt hg1 hs1 hen
      obtain ⟨x', ex, ekl, hxl⟩ := string_of_keyOf Tryz.underlying9 hkey
      injection ex with ex
      subst ex
      subst ekl
      have hv2 : yd = .held c := by
        have := congrArg Prod.fst (Option.some.inj hv)
        exact this.symm
      subst hv2
      have hhas := has_true_of_atKey hat
      rw [toD_has] at hhas
      obtain ⟨p, hp⟩ := Option.isSome_iff_exists.1 hhas
      have hcn := hat (.held .nilIface)
      rw [toD_at, hp] at hcn
      injection hcn with hcn
      have hcn' : p.1 = c := hcn
      subst hcn'
      obtain ⟨pv, pl⟩ := p
      obtain ⟨a1, a2, a3, a4⟩ := HOK.out.row hp
      have hb2 : Below w.heap.size w w2 := HB.out.grown hg1 HB.out.size (fun y hy => by obtain rfl := Option.some.inj hy; exact hw1)
      have h2 := H.out.below hb2
      have hT2 : BookAt noSp w.heap.size w2 gt bt T := HT.out.iter HR.out hg1 (by omega) (by omega)
      have hok2 := HS.out.ok HOK.out (by simpa [plainB, mapM', List.map_map, Function.comp_def] using keys_nodup HT.out.map)
      have HTN : Hid (T.length ≤ 64) := Lib.hid (by rw [← plain_length]; exact hok2.size)
      have c2 : w2.cell? ⟨gt, 0, none⟩ = some (.map (some bt)) := cell_of_heap hT2.book
      have hst := HS.out.step (k := x.data.toList) (l := pl) (by rw [plain_get, hp]; rfl)
      rw [← plain_put T x.data.toList .nilIface pl] at hst
      have CL := Lib.hid (clone_any B w2.drew pv pl (rowS_kept (w' := w2.drew) (h2.row hp) (fun y _ _ => rfl)) (by have : pl.length ≤ 4096 := a3; omega) a2)
      have HST := Lib.hid hst; have HT2 := Lib.hid hT2; have HB2 := Lib.hid hb2; have HRG := Lib.hid hrg1; have HLT := Lib.hid hlt
      have hbw : w.heap.size ≤ w2.heap.size := hb2.size
      have hrw : w1.heap.size < w2.heap.size := by
        obtain ⟨_, _, _, _, _, _, _, _, _, h5, _⟩ := hrg1
        exact lt_of_heap h5
      clear hv hat hhas hcn hp a1 a2 a3 a4 hb2 h2 hT2 hok2 hst hrg1 hlt hkey hlx hg1
      dsimp only at hen CL ⊢
      go_wp2
      go_region_held3 (fun w' => w'.cell? ⟨gt, 0, none⟩ = some (.map (some bt)))
        (first
          | exact c4
          | exact c3
          | exact c2)
        (first
          | (go_at_call 62
             refine CL.out.mono ?_
             rintro e w3 ⟨v', rfl, ho3, hb3⟩
             have h3 : BookAt noSp w.heap.size w3 gt bt T := (HT2.out.kept (w' := w2.drew) (fun _ _ => rfl)).below hb3
             have c3 : w3.cell? ⟨gt, 0, none⟩ = some (.map (some bt)) := cell_of_heap h3.book
             obtain ⟨w4, hrun4, hown4, hturn4⟩ := h3.map.store law Tryz.underlying107 (by decide) (val := v') (keyK x hxl) rfl
             have c4 : w4.cell? ⟨gt, 0, none⟩ = some (.map (some bt)) := (World.cell?_of_block (a := ⟨gt, 0, none⟩) (hturn4.grown.block gt h3.lt_g (by simpa using h3.gb))).trans c3))
      have HO3 := Lib.hid ho3; have HB3 := Lib.hid hb3; have HO4 := Lib.hid hown4; have HT4 := Lib.hid hturn4
      clear ho3 hb3 hown4 hturn4 h3 c3 c4 hrun4
      have t4 := HT4.out.grown
      have hs3 : w2.heap.size ≤ w3.heap.size := HB3.out.size
      have hr4 : w4.ranges Tryz.prog 9 Rv b w1.heap.size 1000000 (toD Prod.fst Z) (fun z => left z && !z.sameKey (.string x.data.toList)) cnt1 :=
        ranges_block HRG.out ((t4.block b (by omega) (by have := HGB.out; simp; omega)).trans (HB3.out.block b (by show b < w2.heap.size; omega)))
          ((t4.block _ (by omega) (by simp; omega)).trans (HB3.out.block w1.heap.size hrw))
      have HR4 := Lib.hid hr4
      clear hr4 t4
      go_wp2
      go_roundw
      case rel =>
        obtain ⟨P1, P2⟩ := clone_end (w2 := w2.drew) (k := x.data.toList) (l := pl) (HT2.out.kept (w' := w2.drew) (fun _ _ => rfl)) HB3.out HO3.out HO4.out HTN.out HT4.out
        refine ⟨_, cnt1, putM T x.data.toList (v', pl), HR4, Lib.hid P1, Lib.hid ?_, Lib.hid (HB2.out.drew.trans P2)⟩
        have := HST.out
        rwa [plain_put] at this ⊢
      case measure =>
        rw [HR4.out.left_eq, HR.out.left_eq]; exact HLT.out
end Go.Proofs.YtkeegnhjemhblaaGreatDoor.Rf
/-
  The contracts of the reader where it finds what is asked for, the short numbers of one byte.
-/
namespace Go.Proofs.YtkeegnhjemhblaaGreatDoor.Rf
open Go.RowKit Go.Maps Go.WideMaps

set_option maxHeartbeats 2000000 in
set_option maxRecDepth 100000 in
theorem short_small (w : World) (b : UInt8) (r : List UInt8) (hb : b.toNat < 128) (hl : r.length ≤ 1099511627776) :
    Calls Tryz.prog 96 #[.string ⟨(b :: r).toArray⟩] w fun e w' => e = .returned (.tuple #[.int .u64 (b.toNat : Int), .int .i64 1]) ∧ w' = w := by
  have hs : (⟨(b :: r).toArray⟩ : ByteArray).size = r.length + 1 := rfl
  have h127 : bits .and .u8 (b.toNat : Int) 127 = (b.toNat : Int) := by
    have h1 := u8_and_nat b.toNat 127 (by omega) (by decide)
    rw [show (127 : Nat) = 2 ^ 7 - 1 from rfl, Nat.and_two_pow_sub_one_eq_mod, Nat.mod_eq_of_lt (by omega)] at h1
    exact h1
  have hor : bits .or .u64 0 (b.toNat : Int) = (b.toNat : Int) := by
    have h1 := bits_or_u64_nat 0 b.toNat (by decide) (by omega)
    simpa using h1
  have hidx : (⟨(b :: r).toArray⟩ : ByteArray)[0]'(by rw [hs]; omega) = b := rfl
  have hbi : (b.toNat : Int) < 128 := by omega
  have hwr : IntKind.u64.wrap (b.toNat : Int) = (b.toNat : Int) := by rw [IntKind.wrap_u64]; omega
  go_enter Tryz.func96, Tryz.ntmps96
  go_wp2
  go_loopw [2, 9] (fun v2 v9 wr => v2 = .int .u64 0 ∧ v9 = .int .i64 0 ∧ wr = w) (fun _ _ _ => 0)
  case atStart => exact ⟨rfl, rfl, rfl⟩
  case round =>
    obtain ⟨rfl, rfl, rfl⟩ := hrel
    go_wp2
    go_ret2
    exact ⟨rfl, rfl⟩

theorem ba_ext {A B : ByteArray} (h : A.data.toList = B.data.toList) : A = B := by
  cases A; cases B
  congr 1
  exact Array.toList_inj.1 h
/-- A piece of a text. -/
theorem extract_list (L : List UInt8) (i j : Nat) : (⟨L.toArray⟩ : ByteArray).extract i j = ⟨((L.drop i).take (j - i)).toArray⟩ := by
  apply ba_ext
  rw [Lib.extract_data]
theorem extract_rest (L : List UInt8) (i j : Nat) (h : L.length ≤ j) : (⟨L.toArray⟩ : ByteArray).extract i j = ⟨(L.drop i).toArray⟩ := by
  rw [extract_list, List.take_of_length_le (by rw [List.length_drop]; omega)]

abbrev RdT : TypeId := 171
/-- A reader: what is left. -/
def ReaderAt (w : World) (q : Nat) (L : List UInt8) : Prop := w.heap[q]? = some (.cells #[.string ⟨L.toArray⟩] RdT)

set_option maxHeartbeats 2000000 in
set_option maxRecDepth 100000 in
/-- A short number of one byte. -/
theorem uint_small (w : World) (q : Nat) (b : UInt8) (r : List UInt8) (hb : b.toNat < 128) (hl : r.length ≤ 1099511627776) (h : ReaderAt w q (b :: r)) :
    Calls Tryz.prog 34 #[ptr q] w fun e w' => e = .returned (.tuple #[.int .u64 (b.toNat : Int), .int .i64 0]) ∧ ReaderAt w' q r ∧ Turn [q] w w' := by
  have c0 : w.cell? ⟨q, 0, none⟩ = some (.string ⟨(b :: r).toArray⟩) := cell_of_heap h
  have f0 : w.frozen? ⟨q, 0, none⟩ = false := frozen_of_heap h
  have hq : q < w.heap.size := lt_of_heap h
  have SS := Lib.hid (fun w => short_small w b r hb hl)
  have hs : (⟨(b :: r).toArray⟩ : ByteArray).size = r.length + 1 := rfl
  unfold ptr
  go_enter Tryz.func34, Tryz.ntmps34
  go_wp2_with (first
    | (go_at_call 96; refine (SS.out _).mono ?_; rintro e w1 ⟨rfl, rfl⟩)
    | go_in)
  go_ret2
  rw [extract_rest _ _ _ (by simp)]
  refine ⟨rfl, ?_, ((Turn.refl [q] w).setCell (.inl (by simp)) _).alloc _⟩
  refine (Below.heap_alloc _ _ _ (by simpa [World.setCell] using hq)).trans ?_
  rw [setCell_heap _ _ _ _ _ _ h]; rfl
end Go.Proofs.YtkeegnhjemhblaaGreatDoor.Rf
