/-
  The contracts of a book's New, Drop, Back.
-/
import Derived.Test.YtjfmboiokplngaaRfAdd
namespace Go.Proofs.Ytjfmboiokplngaa.Rf
open Go.RowKit Go.Maps Go.WideMaps
variable {X : Spect}

set_option maxRecDepth 100000 in
theorem new_any (w : World) :
    Calls Try.prog 4 #[] w fun e w' => ∃ g b, e = .returned (ptr g) ∧ BookAt none w.heap.size w' g b [] ∧ Below w.heap.size w w' := by
  have hmm := @run_makeMap Try.prog
  go_enter Try.func4, Try.ntmps4
  go_wp2
  go_ret
  have hs : (w.alloc (.map #[] 0)).heap.size = w.heap.size + 1 := by show (w.heap.push _).size = _; simp
  refine ⟨w.heap.size + 1, w.heap.size, rfl, ?_, ((Below.refl _ _).alloc (Nat.le_refl _) _).alloc (by rw [hs]; omega) _⟩
  refine ⟨?_, ?_, by simp, by omega, by simp, by simp, by omega, by omega, fun _ hp => nomatch hp⟩
  · have := (MapKept.heap_alloc (w.alloc (.map #[] 0)) (.cells #[.map (some w.heap.size)] 43)).1
    rwa [hs] at this
  · exact map_tight (enc := (Prod.fst : Value × List En → Value)) (m := []) ((World.ownsMap_made w Try.prog 9 Rv).alloc _) (by decide)

/-- A branch taken away. -/
def dropB (K : BK) (k : List UInt8) : Int × BK := if (getM K k).isSome then (0, delM K k) else (6, K)

set_option maxHeartbeats 2000000 in
set_option maxRecDepth 100000 in
theorem drop_any (B : Nat) (w : World) (g b : Nat) (Z : BM) (S : ByteArray) (hS : S.size ≤ maxLen) (h : BookAt X B w g b Z) (ok : OkB (plainB Z)) :
    Calls Try.prog 9 #[ptr g, .string S] w (BkPost X B w g b (.int .i64 (dropB (plainB Z) S.data.toList).1) (dropB (plainB Z) S.data.toList).2) := by
  have K := Lib.hid (log_any B w g b Z S hS h)
  have H := Lib.hid h
  have c0 : w.cell? ⟨g, 0, none⟩ = some (.map (some b)) := cell_of_heap h.book
  have HN : Hid (Z.length ≤ 64) := Lib.hid (by rw [← plain_length]; exact ok.size)
  have HBw : Hid (B ≤ w.heap.size) := Lib.hid (Nat.le_trans h.baseg (Nat.le_of_lt h.lt_g))
  obtain ⟨R, hR⟩ : ∃ R, R = dropB (plainB Z) S.data.toList := ⟨_, rfl⟩
  have ER := Lib.hid hR
  rw [← hR]
  clear hR h ok
  unfold ptr at *
  go_enter Try.func9, Try.ntmps9
  go_wp2_with fail
  refine K.out.mono ?_
  rintro e w1 ⟨rfl, rfl⟩
  unfold logV
  cases hg : getM Z S.data.toList with
  | none =>
    have ER2 : Hid (R = (6, plainB Z)) := Lib.hid (by rw [ER.out, dropB, plain_get, hg]; rfl)
    clear hg K
    go_wp2
    go_ret
    rw [ER2.out]
    exact ⟨Z, rfl, H.out, rfl, Below.refl _ _⟩
  | some p =>
    have ER2 : Hid (R = (0, delM (plainB Z) S.data.toList)) := Lib.hid (by rw [ER.out, dropB, plain_get, hg]; rfl)
    have HM := Lib.hid H.out.map
    clear hg K
    go_wp2_with (at_delete; refine wpList_delete_own _ rfl _ _ 41 9 rfl 48 law Try.underlying41 _ b 1000000 _ rfl HM.out _ _ rfl (keyK S hS) ?_; intro w2 hown2 hturn2)
    have HO := Lib.hid hown2; have HT := Lib.hid hturn2
    clear hown2 hturn2
    go_wp2
    go_ret
    rw [ER2.out]
    have t2 := HT.out.grown
    refine ⟨delM Z S.data.toList, rfl, H.out.del _ (fun x hx hne => t2.block x hx (by simpa using hne)) ?_, plain_del _ _, (Below.refl B w1).grown t2 HBw.out (fun y hy => by obtain rfl := Option.some.inj hy; exact H.out.baseb)⟩
    have := HO.out
    rw [toD_del] at this
    exact map_tight this (by have := delM_length Z S.data.toList; have := HN.out; omega)

/-- A branch without its last snapshots. -/
def backB (K : BK) (k : List UInt8) (n : Int) : Int × BK :=
  match getM K k with
  | none => (6, K)
  | some l => if n < 0 ∨ (l.length : Int) ≤ n then (1, K) else (0, putM K k (l.take (l.length - n.toNat)))

theorem cellsL_take {l : List En} (h : ∀ e ∈ l, e.c.length = 32) (d : Nat) : cellsL (l.take d) = (cellsL l).take (33 * d) := by
  have e1 : cellsL l = cellsL (l.take d) ++ cellsL (l.drop d) := by
    rw [cellsL, cellsL, cellsL, ← List.flatMap_append, List.take_append_drop]
  by_cases hd : d ≤ l.length
  · have h2 : (cellsL (l.take d)).length = 33 * d := by
      rw [cellsL_length (fun e he => h e (List.mem_of_mem_take he)), List.length_take, Nat.min_eq_left hd]
    rw [e1, ← h2, List.take_left]
  · rw [List.take_of_length_le (by omega), List.take_of_length_le (by rw [cellsL_length h]; omega)]
/-- A row's front is a row. -/
theorem row_front {w : World} {B g cap n d : Nat} {l : List En} (h : w.ownsRow B 34 33 (.slice (some ⟨g, 0, none⟩) n cap) n (cellsL l)) (hn : n = l.length) (hl : ∀ e ∈ l, e.c.length = 32) (hd : d ≤ n) :
    w.ownsRow B 34 33 (.slice (some ⟨g, 0, none⟩) d cap) d (cellsL (l.take d)) := by
  obtain ⟨h1, ⟨e, _⟩ | ⟨g', cap', cur, e, a1, a2, a3, a4, a5, a6⟩⟩ := h
  · cases e
  · injection e with e1 e2 e3
    injection e1 with e1
    injection e1 with e1
    subst e1 e3
    refine ⟨?_, .inr ⟨g, cap, cur, rfl, a1, a2, by omega, a4, a5, ?_⟩⟩
    · rw [cellsL_take hl, List.length_take, cellsL_length hl]; omega
    · rw [cellsL_take hl, ← a6, List.take_take]
      congr 1
      omega

set_option maxHeartbeats 2000000 in
set_option maxRecDepth 100000 in
theorem back_any (B : Nat) (w : World) (g b : Nat) (Z : BM) (S : ByteArray) (n : Int) (hS : S.size ≤ maxLen) (h : BookAt X B w g b Z) (ok : OkB (plainB Z)) :
    Calls Try.prog 7 #[ptr g, .string S, .int .i64 n] w (BkPost X B w g b (.int .i64 (backB (plainB Z) S.data.toList n).1) (backB (plainB Z) S.data.toList n).2) := by
  have K := Lib.hid (log_any B w g b Z S hS h)
  have H := Lib.hid h
  have c0 : w.cell? ⟨g, 0, none⟩ = some (.map (some b)) := cell_of_heap h.book
  have HN : Hid (Z.length ≤ 64) := Lib.hid (by rw [← plain_length]; exact ok.size)
  have HOK := Lib.hid ok
  have HBw : Hid (B ≤ w.heap.size) := Lib.hid (Nat.le_trans h.baseg (Nat.le_of_lt h.lt_g))
  obtain ⟨R, hR⟩ : ∃ R, R = backB (plainB Z) S.data.toList n := ⟨_, rfl⟩
  have ER := Lib.hid hR
  rw [← hR]
  clear hR h ok
  unfold ptr at *
  go_enter Try.func7, Try.ntmps7
  go_wp2_with fail
  refine K.out.mono ?_
  rintro e w1 ⟨rfl, rfl⟩
  unfold logV
  cases hg : getM Z S.data.toList with
  | none =>
    have ER2 : Hid (R = (6, plainB Z)) := Lib.hid (by rw [ER.out, backB, plain_get, hg]; rfl)
    clear hg K
    go_wp2
    go_ret
    rw [ER2.out]
    exact ⟨Z, rfl, H.out, rfl, Below.refl _ _⟩
  | some p =>
    obtain ⟨pv, pl⟩ := p
    obtain ⟨_, ok1, ok2, ok3⟩ := HOK.out.row hg
    have hrow := H.out.row hg
    have HIN := Lib.hid (getM_mem hg)
    dsimp only at ok1 ok2 ok3 hrow ⊢
    obtain ⟨m, hm⟩ : ∃ m, m = pl.length := ⟨_, rfl⟩
    have hm0 : m ≠ 0 := by rw [hm]; simpa using ok1
    rw [← hm] at hrow
    obtain ⟨gb, cap, rfl, hgb, _, hcell⟩ := rowS_form hrow hm0
    have HROW := Lib.hid hrow
    have HM := Lib.hid hm
    have HE := Lib.hid (fun e he => (ok3 e he).1)
    have hm4 : m ≤ 4096 := by rw [hm]; exact ok2
    have EB : Hid (R = if n < 0 ∨ (m : Int) ≤ n then (1, plainB Z) else (0, putM (plainB Z) S.data.toList (pl.take (m - n.toNat)))) := Lib.hid (by rw [ER.out, backB, plain_get, hg, hm]; rfl)
    clear hrow hcell ok1 ok2 ok3 hm hg K ER
    by_cases h1 : n < 0
    · have ER2 : Hid (R = (1, plainB Z)) := Lib.hid (by rw [EB.out, if_pos (.inl h1)])
      have d1 : decide (n < 0) = true := by simpa using h1
      go_wp2
      go_ret
      rw [ER2.out]
      exact ⟨Z, rfl, H.out, rfl, Below.refl _ _⟩
    · have d1 : decide (n < 0) = false := by simpa using h1
      by_cases h2 : (m : Int) ≤ n
      · have ER2 : Hid (R = (1, plainB Z)) := Lib.hid (by rw [EB.out, if_pos (.inr h2)])
        go_wp2
        go_ret
        rw [ER2.out]
        exact ⟨Z, rfl, H.out, rfl, Below.refl _ _⟩
      · obtain ⟨j, rfl⟩ : ∃ j : Nat, n = (j : Int) := ⟨n.toNat, by omega⟩
        obtain ⟨d, hd⟩ : ∃ d, m = d + j := ⟨m - j, by omega⟩
        have ER2 : Hid (R = (0, putM (plainB Z) S.data.toList (pl.take d))) := Lib.hid (by rw [EB.out, if_neg (by omega), Int.toNat_natCast, show m - j = d by omega])
        have hsub : (m : Int) - (j : Int) = (d : Int) := by omega
        have h3 : decide ((m : Int) ≤ (j : Int)) = false := by simpa using h2
        have h4 : (d : Int) ≤ (m : Int) := by omega
        have hj : (j : Int) < (m : Int) := by omega
        have hcapm : m ≤ cap := by
          obtain ⟨_, ⟨e, _⟩ | ⟨g', cap', cur, e, _, _, a3, _⟩⟩ := HROW.out
          · cases e
          · injection e with e1 e2 e3; omega
        have hcap : (d : Int) ≤ (cap : Int) := by omega
        have h0 : (0 : Int) ≤ (d : Int) := by omega
        have hcn : ¬ (cap : Int) < (d : Int) := by omega
        have HD := Lib.hid hd
        clear EB h2 hd h1 hcapm
        go_wp2
        obtain ⟨w2, hrun, hown2, hturn2⟩ := (ownsMap_block (w' := w1.drew) H.out.map rfl).store law Try.underlying41 (by decide) (val := .slice (some ⟨gb, 0, none⟩) d cap) (keyK S hS) rfl
        have t2 := hturn2.grown
        go_region
        go_wp2
        go_ret
        rw [ER2.out]
        rw [toD_put Prod.fst Z S.data.toList (.slice (some ⟨gb, 0, none⟩) d cap, pl.take d)] at hown2
        have hlen : (pl.take d).length = d := by rw [List.length_take, ← HM.out]; have := HD.out; omega
        have hnb : ∀ x ∈ ob (Value.slice (some ⟨gb, 0, none⟩) d cap), x = gb := by intro x hx; simp [ob, Value.ownBlock] at hx; exact hx
        have hgbb : gb ≠ b := (H.out.off _ HIN.out gb (by simp [ob, Value.ownBlock])).2
        refine ⟨_, rfl, H.out.put S.data.toList (.slice (some ⟨gb, 0, none⟩) d cap) (pl.take d) (fun x hx hne _ => t2.block x hx (by simpa using hne)) (map_tight hown2 (by have := putM_length Z S.data.toList (Value.slice (some ⟨gb, 0, none⟩) d cap, pl.take d); have := HN.out; omega)) ?_ ?_, plain_put _ _ _ _, ?_⟩
        · rw [hlen]
          refine rowS_kept (row_front HROW.out HM.out HE.out (by have := HD.out; omega)) (fun x hx hl => t2.block x hl ?_)
          rw [hnb x hx]; simpa using hgbb
        · intro x hx
          rw [hnb x hx]
          exact .inr ⟨_, HIN.out, by simp [ob, Value.ownBlock]⟩
        · have := ((Below.refl B w1).drew).grown t2 HBw.out (fun y hy => by obtain rfl := Option.some.inj hy; exact H.out.baseb)
          exact this
end Go.Proofs.Ytjfmboiokplngaa.Rf
