import Derived.Test.YtkdkifciajfpnaaDoorZPSrXattr
import Derived.Test.YtkdkifciajfpnaaDoorZPSrXdel
set_option linter.unusedSimpArgs false
set_option linter.unusedVariables false
/-
  The contract of Clear.
-/
namespace Go.Proofs.YtkdkifciajfpnaaDoor.Sr
open Go.RowKit Go.Maps Go.WideMaps Go.Proofs.YtkdkifciajfpnaaDoor.Rf Go.Proofs.YtkdkifciajfpnaaDoor.Nm Go.Proofs.YtkdkifciajfpnaaDoor.St

def clearA (s : List UInt8) (A : XA) : XA := { A with xs := delX A.xs (seatN s A.xs) }
def clearE (p s : List UInt8) (T : Tr) : Int :=
  if splitE p ≠ 0 then 10 else match getT (splitL p) T.L with
    | none => 6
    | some n => if seatB s n.at_.xs = false then 6 else chgE (clearA s n.at_) n T
def ClrP (B : Nat) (w : World) (r : Nat) (T : Tr) (p s : List UInt8) (e : Ending) (w' : World) : Prop :=
  e = .returned (.int .i64 (clearE p s T)) ∧ ∃ T', CallT B w r T w' T' ∧ (clearE p s T ≠ 0 → T' = T) ∧
    (clearE p s T = 0 → ∃ n xv, getT (splitL p) T.L = some n ∧ seatB s n.at_.xs = true ∧ T' = { T with clock := T.clock + 1, L := tickT [n.p] ((T.clock + 1 : Nat) : Int) (updT { n with at_ := clearA s n.at_, xv := xv } T.L) })
set_option linter.unusedSimpArgs false in
set_option maxHeartbeats 8000000 in
set_option maxRecDepth 100000 in
theorem clear_any (B : Nat) (w : World) (r : Nat) (T : Tr) (p s : List UInt8) (hp : p.length ≤ 4611686018427387904) (_ : s.length ≤ 4611686018427387904) (hD : ∀ e ∈ T.L, e.data.length ≤ 1048576) (hX : ∀ e ∈ T.L, e.at_.xs.length ≤ 16) (hB : B ≤ w.heap.size) (h : TreeAt B w r T) :
    Calls Tryd.prog 22 #[ptr r, .string ⟨p.toArray⟩, .string ⟨s.toArray⟩] w (ClrP B w r T p s) := by
  have FI := Lib.hid (find_any B w r T p hp h)
  have H := Lib.hid h; have HD := Lib.hid hD; have HX := Lib.hid hX; have HBS := Lib.hid hB
  clear h hD hX hB
  unfold ptr at *
  go_enter Tryd.func22, Tryd.ntmps22
  go_wp2_with fail
  refine FI.out.mono ?_
  rintro ex w1 ⟨vl, rfl, hp1, hb1⟩
  have HB := Lib.hid hb1
  obtain ⟨la, lc, rfl⟩ := rowS_slice hp1.row
  clear FI hp1 hb1
  rw [findE, findN]
  rcases splitE_cases p with h0 | ⟨h0, _⟩
  case inr =>
    have hc : clearE p s T = 10 := by rw [clearE, if_pos (by rw [h0]; decide)]
    have HC := Lib.hid hc
    rw [if_neg (by rw [h0]; decide), if_neg (by rw [h0]; decide)]
    unfold ptrO
    clear h0 hc
    go_wp2
    go_ret
    exact ⟨by rw [HC.out]; rfl, T, .same H.out HB.out, fun _ => rfl, fun h => by rw [HC.out] at h; cases h⟩
  rw [if_pos h0, if_pos h0]
  have HE1 : Hid (clearE p s T = match getT (splitL p) T.L with
    | none => 6
    | some n => (if seatB s n.at_.xs = false then 6 else chgE (clearA s n.at_) n T)) := Lib.hid (by rw [clearE, if_neg (by rw [h0]; decide)])
  clear h0
  cases hg : getT (splitL p) T.L with
  | none =>
    have HC := Lib.hid (show clearE p s T = 6 by rw [HE1.out, hg])
    unfold ptrO
    clear hg HE1
    go_wp2
    go_ret
    exact ⟨by rw [HC.out]; rfl, T, .same H.out HB.out, fun _ => rfl, fun h => by rw [HC.out] at h; cases h⟩
  | some n =>
    have HC := Lib.hid (show clearE p s T = (if seatB s n.at_.xs = false then 6 else chgE (clearA s n.at_) n T) by rw [HE1.out, hg])
    have HG := Lib.hid hg
    obtain ⟨hn, _⟩ := getT_nm hg
    have HN := Lib.hid hn
    have nd := (H.out.below HB.out).node n hn
    have HRG : Hid (w1.rangeAt n.p 2 (n.at_.cells n.xv)) := Lib.hid (fun j u hj => by
      rw [cell_of_heap nd.cells]
      have hjl := (List.getElem?_eq_some_iff.1 hj).1
      rw [List.getElem?_toArray, Nat.add_comm 2 j, TE.cells, List.getElem?_cons_succ, List.getElem?_cons_succ, List.getElem?_append_left hjl]
      exact hj)
    have hxl := HX.out n hn
    have hxb := (nd.xs : XsAt w1 n.xv n.at_.xs)
    have OW := Lib.hid (own_own w1 n.at_ n.xv hxb (by omega))
    unfold ptrO
    clear hg HE1 hn nd hxb
    go_wp2_with (first
      | (refine wpList_load_mid rfl _ _ rfl n.p 2 rfl (n.at_.cells n.xv) _ HRG.out Tryd.underlying42 rfl (by show _ = some 7; kernel_rfl) ?_)
      | fail)
    refine OW.out.mono ?_
    rintro ex w2 ⟨v2, rfl, hx2, hf2, hb2, ho2⟩
    have HB2 := Lib.hid hb2; have HO2 := Lib.hid ho2
    have HGQ := Lib.hid (rowS_lt ho2)
    have hv1 : v2.oneCell' = true := xs_one hx2
    have HX2 := Lib.hid hx2
    have ON := Lib.hid (atOne n.at_ hv1)
    obtain ⟨va, vc, rfl⟩ := rowS_slice ho2
    clear hx2 hf2 hb2 ho2 OW
    go_wp2_with (first
      | (refine wpList_store_new rfl rfl AtT (.tmp 10) (.tmp 27) rfl (n.at_.cells (.slice va n.at_.xs.length vc)).toArray rfl rfl (infoAt _ _) rfl ON.out ?_
         intro w3 hq3 hb3 hs3
         have HQ3 := Lib.hid hq3; have HB3 := Lib.hid hb3
         have c6 : w3.cell? ⟨w2.heap.size, 6, none⟩ = some (.slice va n.at_.xs.length vc) := cell_of_heap hq3
         clear hq3 hb3 hs3)
      | fail)
    refine (seat_any w3 n.at_.xs _ s (HX2.out.kept HB3.out.size (fun b hb => HB3.out.block b (HX2.out.lt b hb)))).mono ?_
    rintro ex w4 ⟨rfl, hb4⟩
    have HB4 := Lib.hid hb4
    have HQ4 : Hid (w4.heap[w2.heap.size]? = some (.cells (n.at_.cells (.slice va n.at_.xs.length vc)).toArray AtT)) := Lib.hid ((hb4.block _ (lt_of_heap HQ3.out)).trans HQ3.out)
    have c6 : w4.cell? ⟨w2.heap.size, 6, none⟩ = some (.slice va n.at_.xs.length vc) := cell_of_heap HQ4.out
    have HO4 := Lib.hid (rowS_kept HO2.out (fun b hb hl => (hb4.block b (Nat.lt_of_lt_of_le hl HB3.out.size)).trans (HB3.out.block b hl)))
    have HB1 : Hid (Below w.heap.size w w4) := Lib.hid (((HB.out.trans (HB2.out.mono HB.out.size)).trans (HB3.out.mono (Nat.le_trans HB.out.size HB2.out.size))).trans (hb4.mono (Nat.le_trans (Nat.le_trans HB.out.size HB2.out.size) HB3.out.size)))
    have HXL : Hid (∀ x ∈ n.at_.xs, x.1.length ≤ maxLen ∧ x.2.length ≤ maxLen) := Lib.hid (by obtain ⟨_, _, _, _, hl, _⟩ := HX2.out; exact hl)
    clear hb4 HQ3
    cases hsb : seatB s n.at_.xs with
    | false =>
      have HC2 := Lib.hid (show clearE p s T = 6 by rw [HC.out, if_pos hsb])
      clear hsb c6
      go_wp2
      go_ret
      exact ⟨by rw [HC2.out]; rfl, T, .same H.out HB1.out, fun _ => rfl, fun h => by rw [HC2.out] at h; cases h⟩
    | true =>
      have HSB := Lib.hid hsb
      have HC2 := Lib.hid (show clearE p s T = chgE (clearA s n.at_) n T by rw [HC.out, if_neg (by rw [hsb]; decide)])
      have hil := seatB_lt hsb
      have hpx : (clearA s n.at_).xs = delX n.at_.xs (seatN s n.at_.xs) := rfl
      obtain ⟨i, hi⟩ : ∃ i, i = seatN s n.at_.xs := ⟨_, rfl⟩
      rw [← hi] at hil hpx ⊢
      have HIL := Lib.hid hil
      have hil2 : (i : Int) < (n.at_.xs.length : Int) := by omega
      have HXI := Lib.hid (xdel_any w1.heap.size w4 _ n.at_.xs i hil (by omega) HO4.out)
      have HL5 : Hid (w2.heap.size < w4.heap.size) := Lib.hid (lt_of_heap HQ4.out)
      have HOG := Lib.hid (rowS_ge HO2.out)
      have HPX := Lib.hid hpx
      clear hi hsb hpx hil
      go_wp2_with fail
      refine HXI.out.mono ?_
      rintro ex w6 ⟨v6, rfl, ho6, ht6, hob6⟩
      have hq6 : w6.heap[w2.heap.size]? = some (.cells (n.at_.cells (.slice va n.at_.xs.length vc)).toArray AtT) := (ht6.block _ HL5.out (fun hb => Nat.lt_irrefl _ (HGQ.out _ hb))).trans HQ4.out
      have c7 : w6.cell? ⟨w2.heap.size, 6, none⟩ = some (.slice va n.at_.xs.length vc) := cell_of_heap hq6
      have f7 : w6.frozen? ⟨w2.heap.size, 6, none⟩ = false := frozen_of_heap hq6
      obtain ⟨w7, hw7⟩ : ∃ w7, w7 = w6.setCell ⟨w2.heap.size, 6, none⟩ v6 := ⟨_, rfl⟩
      have hq7 : w7.heap[w2.heap.size]? = some (.cells (n.at_.cells v6).toArray AtT) := by rw [hw7, setCell_heap _ _ _ _ _ _ hq6]; rfl
      have hb6 : Below w.heap.size w w6 := HB1.out.trans (ht6.below (fun b hb => Nat.le_trans HB.out.size (HOG.out b hb)) HB1.out.size)
      have HB7 : Hid (Below w.heap.size w w7) := Lib.hid (by rw [hw7]; exact hb6.setCell (Nat.le_trans HB.out.size HB2.out.size) _)
      have hx6 : XsAt w6 v6 (delX n.at_.xs i) := (xs_of_own (by rw [delX_len _ HIL.out]; exact ho6) (fun y hy => by
        rcases List.mem_append.1 hy with h1 | h1
        · exact HXL.out y (List.mem_of_mem_take h1)
        · exact HXL.out y (List.mem_of_mem_drop h1))).1
      have HX7 : Hid (XsAt w7 v6 (clearA s n.at_).xs) := Lib.hid (by
        rw [HPX.out, hw7]
        refine hx6.kept (by rw [World.size_setCell]; exact Nat.le_refl _) (fun b hb => Below.heap_setCell _ _ _ _ ?_)
        have hbo : b ∈ ob v6 := by
          obtain ⟨ya, yc, rfl, _, _, hbl⟩ := hx6
          cases hxs : delX n.at_.xs i with
          | nil => rw [hxs] at hb; simp [xob] at hb
          | cons y r =>
            obtain ⟨b', o', rfl, _, _⟩ := hbl (by rw [hxs]; simp)
            rw [hxs] at hb
            simpa [xob, ob, Value.ownBlock] using hb
        have := HGQ.out b (hob6 b hbo); show b ≠ w2.heap.size; omega)
      have HQ7 : Hid ((w6.setCell ⟨w2.heap.size, 6, none⟩ v6).heap[w2.heap.size]? = some (.cells (n.at_.cells v6).toArray AtT)) := Lib.hid (by rw [← hw7]; exact hq7)
      have HW7 := Lib.hid hw7
      obtain ⟨ya, yc, rfl⟩ := rowS_slice ho6
      clear ho6 ht6 hob6 hq6 hq7 hb6 hx6 hw7 HXI HO4 HXL HX2 HGQ HOG c6 hil2
      go_wp2_with (first
        | (refine Sh.wpList_load_at (T := AtT) (cs := (n.at_.cells (.slice ya (n.at_.xs.length - 1) yc)).toArray) HQ7.out rfl AtT (.tmp 10) rfl rfl _ Tryd.underlying42 rfl (infoAt _ _) ?_)
        | fail)
      rw [← HW7.out]
      have CH := change_any B w7 r T n HN.out (clearA s n.at_) (.slice ya (n.at_.xs.length - 1) yc) HX7.out (HD.out n HN.out) (Nat.le_trans HBS.out HB7.out.size) (H.out.below HB7.out)
      unfold ptr at CH
      have CH := Lib.hid CH
      refine CH.out.mono ?_
      rintro ex w6 ⟨rfl, T', hct, hno, hyes⟩
      have HCT := Lib.hid hct; have HNO := Lib.hid hno; have HYES := Lib.hid hyes
      clear hct hno hyes CH
      go_wp2
      go_ret
      refine ⟨by rw [HC2.out]; rfl, T', ⟨HCT.out.tree, (Turn.of_below HB7.out).trans HCT.out.turn (fun y hy => .inl hy), fun b hb => ?_, HCT.out.ch⟩, fun h => HNO.out (by rw [← HC2.out]; exact h), fun h => ?_⟩
      · rcases HCT.out.own b hb with h1 | h1
        · exact .inl h1
        · exact .inr (Nat.le_trans HB7.out.size h1)
      · obtain ⟨xv, h1⟩ := HYES.out (by rw [← HC2.out]; exact h)
        exact ⟨n, xv, HG.out, HSB.out, h1⟩
end Go.Proofs.YtkdkifciajfpnaaDoor.Sr
