import Derived.Test.YtkdkifciajfpnaaDoorZPSrAttr
import Derived.Test.YtkdkifciajfpnaaDoorZPSrXins
set_option linter.unusedSimpArgs false
set_option linter.unusedVariables false
/-
  The contract of Xattr.
-/
namespace Go.Proofs.YtkdkifciajfpnaaDoor.Sr
open Go.RowKit Go.Maps Go.WideMaps Go.Proofs.YtkdkifciajfpnaaDoor.Rf Go.Proofs.YtkdkifciajfpnaaDoor.Nm Go.Proofs.YtkdkifciajfpnaaDoor.St

/-- A list of extended attributes with one laid into it. -/
def putX (s d : List UInt8) (xs : Xs) : Xs := if seatB s xs then xs.set (seatN s xs) (s, d) else insX xs (seatN s xs) (s, d)
def xattrA (s d : List UInt8) (A : XA) : XA := { A with xs := putX s d A.xs }
theorem seat_name {s : List UInt8} : ∀ {xs : Xs}, seatB s xs = true → ∃ x, xs[seatN s xs]? = some x ∧ x.1 = s
  | [], h => by cases h
  | x :: r, h => by
    rw [seatB] at h
    rw [seatN]
    split at h
    · next hl =>
      obtain ⟨y, h1, h2⟩ := seat_name h
      exact ⟨y, by rw [if_pos hl]; simpa using h1, h2⟩
    · next hl => exact ⟨x, by rw [if_neg hl]; rfl, by simpa using h⟩
/-- A value is written into a row. -/
theorem xs_set {w : World} {C g cap : Nat} {xs : Xs} {s d : List UInt8} {i : Nat} (h : w.ownsRow C 78 2 (.slice (some ⟨g, 0, none⟩) xs.length cap) xs.length (xcells xs)) (hl : ∀ x ∈ xs, x.1.length ≤ maxLen ∧ x.2.length ≤ maxLen) (hd : d.length ≤ maxLen)
    {x : List UInt8 × List UInt8} (hx : xs[i]? = some x) (hs : x.1 = s) : XsAt (w.setCell ⟨g, i * 2 + 1, none⟩ (.string ⟨d.toArray⟩)) (.slice (some ⟨g, 0, none⟩) xs.length cap) (xs.set i (s, d)) ∧ w.cell? ⟨g, i * 2 + 1, none⟩ = some (.string ⟨x.2.toArray⟩) ∧ w.frozen? ⟨g, i * 2 + 1, none⟩ = false ∧ C ≤ g ∧ g < w.heap.size := by
  have hi := (List.getElem?_eq_some_iff.1 hx).1
  obtain ⟨g', cap', hv, hlt, hC, _, hc⟩ := rowS_form h (by omega)
  obtain ⟨rfl, rfl⟩ : g = g' ∧ cap = cap' := by injection hv with e1 _ e3; injection e1 with e1; injection e1 with e1; exact ⟨e1, e3⟩
  have hm : xs.length ≤ maxLen := by
    rcases h with ⟨_, ⟨_, h0⟩ | ⟨g, cap, cur, _, _, _, h1, h2, _⟩⟩
    · rw [h0]; exact Nat.zero_le _
    · exact Nat.le_trans h1 h2
  have hfz : w.frozen? ⟨g, i * 2 + 1, none⟩ = false := by
    obtain ⟨_, ⟨h0, _⟩ | ⟨g2, _, _, hv2, _, hq, _⟩⟩ := h
    · cases h0
    · injection hv2 with e1 _ _; injection e1 with e1; injection e1 with e1
      subst e1; exact frozen_of_heap hq
  obtain ⟨k1, k2⟩ := xcells_at hx
  refine ⟨⟨some ⟨g, 0, none⟩, cap, by rw [List.length_set], by rw [List.length_set]; exact hm, fun y hy => ?_, fun _ => ⟨g, 0, rfl, by rw [World.size_setCell]; exact hlt, fun j y hy => ?_⟩⟩, hc _ _ k2, hfz, hC, hlt⟩
  · rcases List.mem_or_eq_of_mem_set hy with h1 | rfl
    · exact hl y h1
    · exact ⟨by rw [← hs]; exact (hl x (List.mem_of_getElem? hx)).1, hd⟩
  · rw [Nat.zero_add]
    by_cases hj : i = j
    · subst hj
      rw [List.getElem?_set_self hi] at hy
      obtain rfl := Option.some.inj hy
      refine ⟨?_, ?_⟩
      · rw [World.cell?_setCell_other _ _ _ _ (by simp), hc _ _ k1, hs]
      · rw [World.cell?_setCell_same _ _ _ (hc _ _ k2)]
    · rw [List.getElem?_set_ne hj] at hy
      obtain ⟨m1, m2⟩ := xcells_at hy
      rw [World.cell?_setCell_other _ _ _ _ (by intro e; injection e with _ e; omega), World.cell?_setCell_other _ _ _ _ (by intro e; injection e with _ e; omega)]
      exact ⟨hc _ _ m1, hc _ _ m2⟩

def xattrE (p s d : List UInt8) (T : Tr) : Int :=
  if splitE p ≠ 0 then 10 else match getT (splitL p) T.L with
    | none => 6
    | some n => chgE (xattrA s d n.at_) n T
def XatP (B : Nat) (w : World) (r : Nat) (T : Tr) (p s d : List UInt8) (e : Ending) (w' : World) : Prop :=
  e = .returned (.int .i64 (xattrE p s d T)) ∧ ∃ T', CallT B w r T w' T' ∧ (xattrE p s d T ≠ 0 → T' = T) ∧
    (xattrE p s d T = 0 → ∃ n xv, getT (splitL p) T.L = some n ∧ T' = { T with clock := T.clock + 1, L := tickT [n.p] ((T.clock + 1 : Nat) : Int) (updT { n with at_ := xattrA s d n.at_, xv := xv } T.L) })
set_option linter.unusedSimpArgs false in
set_option maxHeartbeats 8000000 in
set_option maxRecDepth 100000 in
theorem xattr_any (B : Nat) (w : World) (r : Nat) (T : Tr) (p s d : List UInt8) (hp : p.length ≤ 4611686018427387904) (hs : s.length ≤ 4611686018427387904) (hd : d.length ≤ 4611686018427387904) (hD : ∀ e ∈ T.L, e.data.length ≤ 1048576) (hX : ∀ e ∈ T.L, e.at_.xs.length ≤ 16) (hB : B ≤ w.heap.size) (h : TreeAt B w r T) :
    Calls Tryd.prog 21 #[ptr r, .string ⟨p.toArray⟩, .string ⟨s.toArray⟩, .string ⟨d.toArray⟩] w (XatP B w r T p s d) := by
  have FI := Lib.hid (find_any B w r T p hp h)
  have H := Lib.hid h; have HD := Lib.hid hD; have HX := Lib.hid hX; have HBS := Lib.hid hB
  have HDL : Hid (d.length ≤ maxLen) := Lib.hid (by unfold maxLen; omega)
  clear h hD hX hB
  unfold ptr at *
  go_enter Tryd.func21, Tryd.ntmps21
  go_wp2_with fail
  refine FI.out.mono ?_
  rintro ex w1 ⟨vl, rfl, hp1, hb1⟩
  have HB := Lib.hid hb1
  obtain ⟨la, lc, rfl⟩ := rowS_slice hp1.row
  clear FI hp1 hb1
  rw [findE, findN]
  rcases splitE_cases p with h0 | ⟨h0, _⟩
  case inr =>
    have hc : xattrE p s d T = 10 := by rw [xattrE, if_pos (by rw [h0]; decide)]
    have HC := Lib.hid hc
    rw [if_neg (by rw [h0]; decide), if_neg (by rw [h0]; decide)]
    unfold ptrO
    clear h0 hc
    go_wp2
    go_ret
    exact ⟨by rw [HC.out]; rfl, T, .same H.out HB.out, fun _ => rfl, fun h => by rw [HC.out] at h; cases h⟩
  rw [if_pos h0, if_pos h0]
  have HE1 : Hid (xattrE p s d T = match getT (splitL p) T.L with
    | none => 6
    | some n => chgE (xattrA s d n.at_) n T) := Lib.hid (by rw [xattrE, if_neg (by rw [h0]; decide)])
  clear h0
  cases hg : getT (splitL p) T.L with
  | none =>
    have HC := Lib.hid (show xattrE p s d T = 6 by rw [HE1.out, hg])
    unfold ptrO
    clear hg HE1
    go_wp2
    go_ret
    exact ⟨by rw [HC.out]; rfl, T, .same H.out HB.out, fun _ => rfl, fun h => by rw [HC.out] at h; cases h⟩
  | some n =>
    have HC := Lib.hid (show xattrE p s d T = chgE (xattrA s d n.at_) n T by rw [HE1.out, hg])
    have HG := Lib.hid hg
    obtain ⟨hn, _⟩ := getT_nm hg
    have HN := Lib.hid hn
    have nd := (H.out.below HB.out).node n hn
    have HRG : Hid (w1.rangeAt n.p 2 (n.at_.cells n.xv)) := Lib.hid (fun j u hj => by
      rw [cell_of_heap nd.cells]
      have hjl := (List.getElem?_eq_some_iff.1 hj).1
      rw [List.getElem?_toArray, Nat.add_comm 2 j, TE.cells, List.getElem?_cons_succ, List.getElem?_cons_succ, List.getElem?_append_left hjl]
      exact hj)
    have hxl := HX.out n hn
    have hxb := (nd.xs : XsAt w1 n.xv n.at_.xs)
    have OW := Lib.hid (own_own w1 n.at_ n.xv hxb (by omega))
    unfold ptrO
    clear hg HE1 hn nd hxb
    go_wp2_with (first
      | (refine wpList_load_mid rfl _ _ rfl n.p 2 rfl (n.at_.cells n.xv) _ HRG.out Tryd.underlying42 rfl (by show _ = some 7; kernel_rfl) ?_)
      | fail)
    refine OW.out.mono ?_
    rintro ex w2 ⟨v2, rfl, hx2, hf2, hb2, ho2⟩
    have HB2 := Lib.hid hb2; have HO2 := Lib.hid ho2
    have HGQ := Lib.hid (rowS_lt ho2)
    have hv1 : v2.oneCell' = true := xs_one hx2
    have HX2 := Lib.hid hx2
    have ON := Lib.hid (atOne n.at_ hv1)
    obtain ⟨va, vc, rfl⟩ := rowS_slice ho2
    clear hx2 hf2 hb2 ho2 OW
    go_wp2_with (first
      | (refine wpList_store_new rfl rfl AtT (.tmp 12) (.tmp 29) rfl (n.at_.cells (.slice va n.at_.xs.length vc)).toArray rfl rfl (infoAt _ _) rfl ON.out ?_
         intro w3 hq3 hb3 hs3
         have HQ3 := Lib.hid hq3; have HB3 := Lib.hid hb3
         have c6 : w3.cell? ⟨w2.heap.size, 6, none⟩ = some (.slice va n.at_.xs.length vc) := cell_of_heap hq3
         clear hq3 hb3 hs3)
      | fail)
    refine (seat_any w3 n.at_.xs _ s (HX2.out.kept HB3.out.size (fun b hb => HB3.out.block b (HX2.out.lt b hb)))).mono ?_
    rintro ex w4 ⟨rfl, hb4⟩
    have HB4 := Lib.hid hb4
    have HQ4 : Hid (w4.heap[w2.heap.size]? = some (.cells (n.at_.cells (.slice va n.at_.xs.length vc)).toArray AtT)) := Lib.hid ((hb4.block _ (lt_of_heap HQ3.out)).trans HQ3.out)
    have c6 : w4.cell? ⟨w2.heap.size, 6, none⟩ = some (.slice va n.at_.xs.length vc) := cell_of_heap HQ4.out
    have HO4 := Lib.hid (rowS_kept HO2.out (fun b hb hl => (hb4.block b (Nat.lt_of_lt_of_le hl HB3.out.size)).trans (HB3.out.block b hl)))
    have HB1 : Hid (Below w.heap.size w w4) := Lib.hid (((HB.out.trans (HB2.out.mono HB.out.size)).trans (HB3.out.mono (Nat.le_trans HB.out.size HB2.out.size))).trans (hb4.mono (Nat.le_trans (Nat.le_trans HB.out.size HB2.out.size) HB3.out.size)))
    have HXL : Hid (∀ x ∈ n.at_.xs, x.1.length ≤ maxLen ∧ x.2.length ≤ maxLen) := Lib.hid (by obtain ⟨_, _, _, _, hl, _⟩ := HX2.out; exact hl)
    clear hb4 HQ3
    cases hsb : seatB s n.at_.xs with
    | true =>
      obtain ⟨x, hx, hxs⟩ := seat_name hsb
      have hpx : putX s d n.at_.xs = n.at_.xs.set (seatN s n.at_.xs) (s, d) := by rw [putX, if_pos hsb]
      obtain ⟨i, hi⟩ : ∃ i, i = seatN s n.at_.xs := ⟨_, rfl⟩
      rw [← hi] at hx hpx ⊢
      have hil : i < n.at_.xs.length := (List.getElem?_eq_some_iff.1 hx).1
      obtain ⟨g, cap, hv, _, _, _, _⟩ := rowS_form HO4.out (by omega)
      obtain ⟨rfl, rfl⟩ : va = some ⟨g, 0, none⟩ ∧ vc = cap := by injection hv with e1 _ e3; exact ⟨e1, e3⟩
      obtain ⟨k1, k2, k3, k4, k5⟩ := xs_set HO4.out HXL.out HDL.out hx hxs
      have hgq : g < w2.heap.size := HGQ.out g (by simp [ob, Value.ownBlock])
      obtain ⟨w5, hw5⟩ : ∃ w5, w5 = w4.setCell ⟨g, i * 2 + 1, none⟩ (.string ⟨d.toArray⟩) := ⟨_, rfl⟩
      have HX5 : Hid (XsAt w5 (.slice (some ⟨g, 0, none⟩) n.at_.xs.length vc) (xattrA s d n.at_).xs) := Lib.hid (by show XsAt w5 _ (putX s d n.at_.xs); rw [hpx, hw5]; exact k1)
      have HB5 : Hid (Below w.heap.size w w5) := Lib.hid (by rw [hw5]; exact HB1.out.setCell (Nat.le_trans HB.out.size k4) _)
      have HQ5 : Hid (w5.heap[w2.heap.size]? = some (.cells (n.at_.cells (.slice (some ⟨g, 0, none⟩) n.at_.xs.length vc)).toArray AtT)) := Lib.hid (by rw [hw5]; exact (Below.heap_setCell _ _ _ _ (show w2.heap.size ≠ g by omega)).trans HQ4.out)
      have HQ6 : Hid ((w4.setCell ⟨g, i * 2 + 1, none⟩ (.string ⟨d.toArray⟩)).heap[w2.heap.size]? = some (.cells (n.at_.cells (.slice (some ⟨g, 0, none⟩) n.at_.xs.length vc)).toArray AtT)) := Lib.hid (by rw [← hw5]; exact HQ5.out)
      have HW5 := Lib.hid hw5
      clear hi hx hxs hpx hv k1 k4 k5 hgq hw5 hsb HO4 HXL HX2 HGQ
      go_wp2_with (first
        | (refine Sh.wpList_load_at (T := AtT) (cs := (n.at_.cells (.slice (some ⟨g, 0, none⟩) n.at_.xs.length vc)).toArray) HQ6.out rfl AtT (.tmp 12) rfl rfl _ Tryd.underlying42 rfl (infoAt _ _) ?_)
        | fail)
      rw [← HW5.out]
      have CH := change_any B w5 r T n HN.out (xattrA s d n.at_) (.slice (some ⟨g, 0, none⟩) n.at_.xs.length vc) HX5.out (HD.out n HN.out) (Nat.le_trans HBS.out HB5.out.size) (H.out.below HB5.out)
      unfold ptr at CH
      have CH := Lib.hid CH
      refine CH.out.mono ?_
      rintro ex w6 ⟨rfl, T', hct, hno, hyes⟩
      have HCT := Lib.hid hct; have HNO := Lib.hid hno; have HYES := Lib.hid hyes
      clear hct hno hyes CH
      go_wp2
      go_ret
      refine ⟨by rw [HC.out]; rfl, T', ⟨HCT.out.tree, (Turn.of_below HB5.out).trans HCT.out.turn (fun y hy => .inl hy), fun b hb => ?_, HCT.out.ch⟩, fun h => HNO.out (by rw [← HC.out]; exact h), fun h => ?_⟩
      · rcases HCT.out.own b hb with h1 | h1
        · exact .inl h1
        · exact .inr (Nat.le_trans HB5.out.size h1)
      · obtain ⟨xv, h1⟩ := HYES.out (by rw [← HC.out]; exact h)
        exact ⟨n, xv, HG.out, h1⟩
    | false =>
      have hpx : putX s d n.at_.xs = insX n.at_.xs (seatN s n.at_.xs) (s, d) := by rw [putX, if_neg (by rw [hsb]; decide)]
      have hil := seatN_le s n.at_.xs
      obtain ⟨i, hi⟩ : ∃ i, i = seatN s n.at_.xs := ⟨_, rfl⟩
      rw [← hi] at hpx hil ⊢
      have HIL := Lib.hid hil
      have hbs : ∀ w, (Instr.buildSlice 40 1 #[(0, .agg #[.string ⟨s.toArray⟩, .string ⟨d.toArray⟩])]).run Tryd.prog w = .ok (.slice (some ⟨w.heap.size, 0, none⟩) 1 1) (w.alloc (.cells #[.string ⟨s.toArray⟩, .string ⟨d.toArray⟩] 78)) := fun w => by
        obtain ⟨i0, hi0, hz0, hz1, hz2⟩ := info_parts infoXa
        exact run_buildOneN 2 (by decide) (by decide) w _ _ i0 _ (xpair (s, d)) Tryd.underlying40 hi0 hz0 hz1 rfl
      obtain ⟨w5, hw5⟩ : ∃ w5, w5 = w4.alloc (.cells #[.string ⟨s.toArray⟩, .string ⟨d.toArray⟩] 78) := ⟨_, rfl⟩
      have hvb5 : w5.heap[w4.heap.size]? = some (.cells (xpair (s, d)).toArray 78) := by rw [hw5]; exact (MapKept.heap_alloc w4 _).1
      have hb5 : Below w4.heap.size w4 w5 := by rw [hw5]; exact (Below.refl _ _).alloc (Nat.le_refl _) _
      have HXI := Lib.hid (xins_any w1.heap.size w5 _ n.at_.xs i hil (s, d) (by omega) (rowS_kept HO4.out (fun b _ hl => hb5.block b hl)) w4.heap.size hvb5 (fun hb => Nat.lt_irrefl _ (rowS_lt HO4.out _ hb)) (by have := HB2.out.size; have := HB3.out.size; have := lt_of_heap hvb5; have := lt_of_heap HQ4.out; omega))
      have HQ5 : Hid (w5.heap[w2.heap.size]? = some (.cells (n.at_.cells (.slice va n.at_.xs.length vc)).toArray AtT)) := Lib.hid ((hb5.block _ (lt_of_heap HQ4.out)).trans HQ4.out)
      have HB5 : Hid (Below w.heap.size w w5) := Lib.hid (HB1.out.trans (hb5.mono HB1.out.size))
      have HL5 : Hid (w2.heap.size < w5.heap.size) := Lib.hid (lt_of_heap HQ5.out)
      have HOG := Lib.hid (rowS_ge HO2.out)
      have HW5 := Lib.hid hw5
      have HSL : Hid (s.length ≤ maxLen) := Lib.hid (by unfold maxLen; omega)
      have HPX := Lib.hid hpx
      clear hi hil hsb hpx hw5 hvb5 hb5
      go_wp2_with fail
      rw [← HW5.out]
      refine HXI.out.mono ?_
      rintro ex w6 ⟨v6, rfl, ho6, ht6, hob6⟩
      have hq6 : w6.heap[w2.heap.size]? = some (.cells (n.at_.cells (.slice va n.at_.xs.length vc)).toArray AtT) := (ht6.block _ HL5.out (fun hb => Nat.lt_irrefl _ (HGQ.out _ hb))).trans HQ5.out
      have c7 : w6.cell? ⟨w2.heap.size, 6, none⟩ = some (.slice va n.at_.xs.length vc) := cell_of_heap hq6
      have f7 : w6.frozen? ⟨w2.heap.size, 6, none⟩ = false := frozen_of_heap hq6
      obtain ⟨w7, hw7⟩ : ∃ w7, w7 = w6.setCell ⟨w2.heap.size, 6, none⟩ v6 := ⟨_, rfl⟩
      have hq7 : w7.heap[w2.heap.size]? = some (.cells (n.at_.cells v6).toArray AtT) := by rw [hw7, setCell_heap _ _ _ _ _ _ hq6]; rfl
      have hb6 : Below w.heap.size w w6 := HB5.out.trans (ht6.below (fun b hb => Nat.le_trans HB.out.size (HOG.out b hb)) HB5.out.size)
      have HB7 : Hid (Below w.heap.size w w7) := Lib.hid (by rw [hw7]; exact hb6.setCell (Nat.le_trans HB.out.size HB2.out.size) _)
      have hx6 : XsAt w6 v6 (insX n.at_.xs i (s, d)) := (xs_of_own (by rw [insX_len _ HIL.out]; exact ho6) (fun y hy => by
        rcases List.mem_append.1 hy with h1 | h1
        · exact HXL.out y (List.mem_of_mem_take h1)
        · rcases List.mem_cons.1 h1 with rfl | h1
          · exact ⟨HSL.out, HDL.out⟩
          · exact HXL.out y (List.mem_of_mem_drop h1))).1
      have HX7 : Hid (XsAt w7 v6 (xattrA s d n.at_).xs) := Lib.hid (by
        show XsAt w7 v6 (putX s d n.at_.xs)
        rw [HPX.out, hw7]
        refine hx6.kept (by rw [World.size_setCell]; exact Nat.le_refl _) (fun b hb => Below.heap_setCell _ _ _ _ ?_)
        have hbo : b ∈ ob v6 := by
          obtain ⟨ya, yc, rfl, _, _, hbl⟩ := hx6
          cases hxs : insX n.at_.xs i (s, d) with
          | nil => rw [hxs] at hb; simp [xob] at hb
          | cons y r =>
            obtain ⟨b', o', rfl, _, _⟩ := hbl (by rw [hxs]; simp)
            rw [hxs] at hb
            simpa [xob, ob, Value.ownBlock] using hb
        rcases hob6 b hbo with h1 | h1
        · have := HGQ.out b h1; show b ≠ w2.heap.size; omega
        · have := HL5.out; show b ≠ w2.heap.size; omega)
      have HQ7 : Hid ((w6.setCell ⟨w2.heap.size, 6, none⟩ v6).heap[w2.heap.size]? = some (.cells (n.at_.cells v6).toArray AtT)) := Lib.hid (by rw [← hw7]; exact hq7)
      have HW7 := Lib.hid hw7
      obtain ⟨ya, yc, rfl⟩ := rowS_slice ho6
      have HIL2 := HIL
      clear ho6 ht6 hob6 hq6 hq7 hb6 hx6 hw7 hbs HXI HO4 HXL HX2 HGQ HOG c6
      go_wp2_with (first
        | (refine Sh.wpList_load_at (T := AtT) (cs := (n.at_.cells (.slice ya (n.at_.xs.length + 1) yc)).toArray) HQ7.out rfl AtT (.tmp 12) rfl rfl _ Tryd.underlying42 rfl (infoAt _ _) ?_)
        | fail)
      rw [← HW7.out]
      have CH := change_any B w7 r T n HN.out (xattrA s d n.at_) (.slice ya (n.at_.xs.length + 1) yc) HX7.out (HD.out n HN.out) (Nat.le_trans HBS.out HB7.out.size) (H.out.below HB7.out)
      unfold ptr at CH
      have CH := Lib.hid CH
      refine CH.out.mono ?_
      rintro ex w6 ⟨rfl, T', hct, hno, hyes⟩
      have HCT := Lib.hid hct; have HNO := Lib.hid hno; have HYES := Lib.hid hyes
      clear hct hno hyes CH
      go_wp2
      go_ret
      refine ⟨by rw [HC.out]; rfl, T', ⟨HCT.out.tree, (Turn.of_below HB7.out).trans HCT.out.turn (fun y hy => .inl hy), fun b hb => ?_, HCT.out.ch⟩, fun h => HNO.out (by rw [← HC.out]; exact h), fun h => ?_⟩
      · rcases HCT.out.own b hb with h1 | h1
        · exact .inl h1
        · exact .inr (Nat.le_trans HB7.out.size h1)
      · obtain ⟨xv, h1⟩ := HYES.out (by rw [← HC.out]; exact h)
        exact ⟨n, xv, HG.out, h1⟩
end Go.Proofs.YtkdkifciajfpnaaDoor.Sr
