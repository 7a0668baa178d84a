import Derived.Test.YtnkapojbijbbaaaGreatDoorZPZz
import Derived.Test.YtnkapojbijbbaaaGreatDoorZPRtMake
import Derived.Test.YtnkapojbijbbaaaGreatDoorZPRtCheck
import Derived.Test.YtnkapojbijbbaaaGreatDoorZPSrRead
set_option linter.unusedSimpArgs false
set_option linter.unusedVariables false
set_option maxHeartbeats 16000000
set_option maxRecDepth 100000
namespace Go.Proofs.YtnkapojbijbbaaaGreatDoor.Sr
open Go.RowKit Go.Maps Go.WideMaps Rf Go.Proofs.YtnkapojbijbbaaaGreatDoor.Nm St
theorem attr_row {B : Nat} {w : World} {g cap i : Nat} {R : List RN} {n : RN} (h : w.ownsRow B RnT 11 (.slice (some ⟨g, 0, none⟩) R.length cap) R.length (rcells R)) (hn : R[i]? = some n) (A : XA) (xv : Value) :
 (w.setCells g (i * 11 + 1) (A.cells xv)).ownsRow B RnT 11 (.slice (some ⟨g, 0, none⟩) R.length cap) R.length (rcells (R.set i { n with at_ := A, xv := xv })) ∧ w.there g (i * 11 + 1) 7 := by
 have hi := (List.getElem?_eq_some_iff.1 hn).1
 constructor
 · have h0 := h
   have h1 := (row_cell h0 (k := i * 11 + 1) (by omega) (.int .u8 (A.node : Int))).1
   rw [rcells_set (n' := ({ n with at_ := ({ n.at_ with node := A.node } : XA) } : RN)) rfl (by omega) hn] at h1
   have h2 := (row_cell h1 (k := i * 11 + 2) (by omega) (.int .u32 (A.mode : Int))).1
   rw [rcells_set (n' := ({ n with at_ := ({ n.at_ with node := A.node, mode := A.mode } : XA) } : RN)) rfl (by omega) (List.getElem?_set_self hi : (R.set i ({ n with at_ := ({ n.at_ with node := A.node } : XA) } : RN))[i]? = some ({ n with at_ := ({ n.at_ with node := A.node } : XA) } : RN)), List.set_set] at h2
   have h3 := (row_cell h2 (k := i * 11 + 3) (by omega) (.int .u32 (A.uid : Int))).1
   rw [rcells_set (n' := ({ n with at_ := ({ n.at_ with node := A.node, mode := A.mode, uid := A.uid } : XA) } : RN)) rfl (by omega) (List.getElem?_set_self hi : (R.set i ({ n with at_ := ({ n.at_ with node := A.node, mode := A.mode } : XA) } : RN))[i]? = some ({ n with at_ := ({ n.at_ with node := A.node, mode := A.mode } : XA) } : RN)), List.set_set] at h3
   have h4 := (row_cell h3 (k := i * 11 + 4) (by omega) (.int .u32 (A.gid : Int))).1
   rw [rcells_set (n' := ({ n with at_ := ({ n.at_ with node := A.node, mode := A.mode, uid := A.uid, gid := A.gid } : XA) } : RN)) rfl (by omega) (List.getElem?_set_self hi : (R.set i ({ n with at_ := ({ n.at_ with node := A.node, mode := A.mode, uid := A.uid } : XA) } : RN))[i]? = some ({ n with at_ := ({ n.at_ with node := A.node, mode := A.mode, uid := A.uid } : XA) } : RN)), List.set_set] at h4
   have h5 := (row_cell h4 (k := i * 11 + 5) (by omega) (.int .i64 A.mtime)).1
   rw [rcells_set (n' := ({ n with at_ := ({ n.at_ with node := A.node, mode := A.mode, uid := A.uid, gid := A.gid, mtime := A.mtime } : XA) } : RN)) rfl (by omega) (List.getElem?_set_self hi : (R.set i ({ n with at_ := ({ n.at_ with node := A.node, mode := A.mode, uid := A.uid, gid := A.gid } : XA) } : RN))[i]? = some ({ n with at_ := ({ n.at_ with node := A.node, mode := A.mode, uid := A.uid, gid := A.gid } : XA) } : RN)), List.set_set] at h5
   have h6 := (row_cell h5 (k := i * 11 + 6) (by omega) (.string ⟨A.target.toArray⟩)).1
   rw [rcells_set (n' := ({ n with at_ := ({ n.at_ with node := A.node, mode := A.mode, uid := A.uid, gid := A.gid, mtime := A.mtime, target := A.target } : XA) } : RN)) rfl (by omega) (List.getElem?_set_self hi : (R.set i ({ n with at_ := ({ n.at_ with node := A.node, mode := A.mode, uid := A.uid, gid := A.gid, mtime := A.mtime } : XA) } : RN))[i]? = some ({ n with at_ := ({ n.at_ with node := A.node, mode := A.mode, uid := A.uid, gid := A.gid, mtime := A.mtime } : XA) } : RN)), List.set_set] at h6
   have h7 := (row_cell h6 (k := i * 11 + 7) (by omega) (xv)).1
   rw [rcells_set (n' := ({ n with at_ := A, xv := xv } : RN)) rfl (by omega) (List.getElem?_set_self hi : (R.set i ({ n with at_ := ({ n.at_ with node := A.node, mode := A.mode, uid := A.uid, gid := A.gid, mtime := A.mtime, target := A.target } : XA) } : RN))[i]? = some ({ n with at_ := ({ n.at_ with node := A.node, mode := A.mode, uid := A.uid, gid := A.gid, mtime := A.mtime, target := A.target } : XA) } : RN)), List.set_set] at h7
   exact h7
 · intro j hj
   have := row_cell h (k := i * 11 + 1 + j) (by omega) (.int .i64 0)
   obtain ⟨x, hx⟩ := this.2.2
   exact ⟨by rw [hx]; rfl, this.2.1⟩
theorem setCells_other (w : World) (g o : Nat) (vs : List Value) : ∀ b, b ≠ g → (w.setCells g o vs).heap[b]? = w.heap[b]? := by
 induction vs generalizing w o with
 | nil => intro b _; rfl
 | cons v r ih => intro b hb; exact (ih _ _ b hb).trans (Below.heap_setCell _ _ _ _ hb)
theorem upd_srt {L : List TE} (h : SrtT L) {e' : TE} : SrtT (updN e' L) := by
 have hm : (updN e' L).map TE.nm = L.map TE.nm := by
  rw [updN, List.map_map]
  refine List.map_congr_left (fun x _ => ?_)
  show (if x.nm = e'.nm then e' else x).nm = x.nm
  split
  · next h => exact h.symm
  · rfl
 have key : (L.map TE.nm).Pairwise fun a b => ahd a b = true := List.pairwise_map.2 h
 rw [← hm] at key
 exact List.pairwise_map.1 key
theorem attr_codes (p : List UInt8) (A : XA) (F : Tr) (h0 : splitE p = 0) (hc : F.clock < 1099511627776) : attrE p A F = match getT (splitL p) F.L with
 | none => 6
 | some n => if chkA (asOf A n) = false then 1 else 0 := by
 rw [attrE, if_neg (by rw [h0]; decide)]
 cases getT (splitL p) F.L with
 | none => rfl
 | some n => dsimp only; rw [chgE, if_neg (show ¬ 1099511627776 ≤ F.clock by omega)]
theorem rattr_any (B : Nat) (w : World) (r : Nat) (v : Value) (R : List RN) (F : Tr) (k : Nat) (p : List UInt8) (A : XA) (av : Value) (hT : Tabs w) (hp : p.length ≤ 4611686018427387904) (hX : XsAt w av A.xs) (hXr : ∀ b ∈ xob A.xs av, b ≠ r) (hg : GoodF k F) (hk : k ≤ 1000) (hc : F.clock ≤ 1000000) (hB : B ≤ w.heap.size) (h : RTree B w r v R F) :
 Calls Tryz.prog 33 #[ptr r, .string ⟨p.toArray⟩, .agg (A.cells av).toArray] w (RPost B w r v R (if attrE p A F = 0 then setN p (fun n => { n with at_ := asOf A n }) F else F) (attrE p A F)) := by
 obtain ⟨W, hW⟩ : ∃ W, W = w.alloc (.cells (A.cells av).toArray AtR) := ⟨_, rfl⟩
 have hb0 : Below w.heap.size w W := by rw [hW]; exact (Below.refl _ _).alloc (Nat.le_refl _) _
 have hq0 : W.heap[w.heap.size]? = some (.cells (A.cells av).toArray AtR) := by rw [hW]; exact (MapKept.heap_alloc w _).1
 have H := Lib.hid h
 have H0 := Lib.hid (h.below hb0)
 have HT := Lib.hid (hT.below hb0); have HTW := Lib.hid hT
 have HX0 := Lib.hid (hX.kept hb0.size (fun b hb => hb0.block b (hX.lt b hb)))
 have HB0 := Lib.hid hb0; have HW := Lib.hid hW; have HG := Lib.hid hg; have HXR := Lib.hid hXr
 have HLTX : Hid (∀ b ∈ xob A.xs av, b < w.heap.size) := Lib.hid hX.lt
 have HQ : Hid (∀ w', Below W.heap.size W w' → w'.heap[w.heap.size]? = some (.cells (A.cells av).toArray AtR)) := Lib.hid (fun w' hb => (hb.block _ (lt_of_heap hq0)).trans hq0)
 have hlen : R.length ≤ 1000000 := by rw [h.len]; have := hg.len; omega
 obtain ⟨F2, hF2⟩ : ∃ F2, F2 = if attrE p A F = 0 then setN p (fun n => { n with at_ := asOf A n }) F else F := ⟨_, rfl⟩
 obtain ⟨c2, hc2⟩ : ∃ c2, c2 = attrE p A F := ⟨_, rfl⟩
 rw [← hF2, ← hc2]
 have NOX : Hid (∀ (w1 : World) (c : Int), Below w.heap.size w w1 → attrE p A F = c → c ≠ 0 → RPost B w r v R F2 c2 (.returned (.int .i64 c)) w1) := Lib.hid (fun w1 c hb he hn => by
  rw [hF2, hc2, if_neg (by rw [he]; exact hn), he]
  exact rpost_same H.out hb rfl)
 have YES : Hid (∀ (w1 : World), attrE p A F = 0 → RPost B w r v R (setN p (fun n => { n with at_ := asOf A n }) F) 0 (.returned (.int .i64 0)) w1 → RPost B w r v R F2 c2 (.returned (.int .i64 0)) w1) := Lib.hid (fun w1 he h => by
  rw [hF2, hc2, if_pos he, he]; exact h)
 have HCLK : Hid (F.clock < 1099511627776) := Lib.hid (by omega)
 have hclk2 : ((F.clock : Int) == 1099511627776) = false := by rw [beq_eq_false_iff_ne]; omega
 have HBL := Lib.hid hB
 have hrb : r < w.heap.size := lt_of_heap h.book
 obtain ⟨ava, avc, rfl⟩ : ∃ a c, av = .slice a A.xs.length c := by obtain ⟨a, c, rfl, _⟩ := hX; exact ⟨_, _, rfl⟩
 obtain ⟨va, vc, rfl⟩ := rowS_slice h.row
 have FI := rfind_any B W r _ R F p HT.out hp HG.out.srt hlen H0.out
 have HRB := Lib.hid hrb
 clear hb0 hq0 hW h hT hX hg hB hXr hF2 hc2 hrb
 have hfe0 : findE p F.L = if splitE p = 0 then (if (getT (splitL p) F.L).isSome then 0 else 6) else 10 := rfl
 rcases (splitE_cases p).symm with ⟨h0, _⟩ | h0
 · have HC := Lib.hid (show attrE p A F = 10 by rw [attrE, if_pos (by rw [h0]; decide)])
   have hfe : findE p F.L = 10 := by rw [hfe0, if_neg (by rw [h0]; decide)]
   have hfi : rfindI p F.L = 0 := rfind_no (by rw [hfe]; decide)
   rw [hfi, hfe] at FI
   have FI := Lib.hid FI
   unfold ptr at *
   clear h0 hfe hfi hfe0
   go_enter Tryz.func33, Tryz.ntmps33
   go_wp2_with fail
   rw [← HW.out]
   refine FI.out.mono ?_
   rintro ex w2 ⟨rfl, hb2⟩
   have HB2 := Lib.hid (HB0.out.trans (hb2.mono HB0.out.size))
   clear hb2 FI
   go_wp2
   go_ret
   exact NOX.out _ _ HB2.out HC.out (by decide)
 have HS0 := Lib.hid h0
 have HWC := Lib.hid (attr_codes p A F HS0.out HCLK.out)
 rw [if_pos h0] at hfe0
 clear h0
 rcases Option.eq_none_or_eq_some (getT (splitL p) F.L) with hg | ⟨e0, hg⟩
 · have HC := Lib.hid (show attrE p A F = 6 by rw [HWC.out, hg])
   have hfe : findE p F.L = 6 := by rw [hfe0, hg]; rfl
   have hfi : rfindI p F.L = 0 := rfind_no (by rw [hfe]; decide)
   rw [hfi, hfe] at FI
   have FI := Lib.hid FI
   unfold ptr at *
   clear hg hfe hfi HWC hfe0
   go_enter Tryz.func33, Tryz.ntmps33
   go_wp2_with fail
   rw [← HW.out]
   refine FI.out.mono ?_
   rintro ex w2 ⟨rfl, hb2⟩
   have HB2 := Lib.hid (HB0.out.trans (hb2.mono HB0.out.size))
   clear hb2 FI
   go_wp2
   go_ret
   exact NOX.out _ _ HB2.out HC.out (by decide)
 have hfe : findE p F.L = 0 := by rw [hfe0, hg]; rfl
 obtain ⟨i, e, hfi, hi, hen, hg', _⟩ := rfind_yes HG.out.srt hfe
 obtain rfl : e = e0 := by rw [hg] at hg'; exact (Option.some.inj hg').symm
 rw [hfi, hfe] at FI
 have FI := Lib.hid FI
 obtain ⟨n, hn, hne⟩ := H.out.get hi
 have hil : i < R.length := (List.getElem?_eq_some_iff.1 hn).1
 have HGE := Lib.hid hg; have HI := Lib.hid hi; have HN := Lib.hid hn; have HNE := Lib.hid hne; have HEN := Lib.hid hen
 obtain ⟨A2, hA2⟩ : ∃ A2 : XA, A2 = asOf A e := ⟨_, rfl⟩
 have hA2n : A2 = { A with node := n.at_.node, target := n.at_.target } := by rw [hA2, asOf, ← hne]; rfl
 have HA2 := Lib.hid hA2; have HA2N := Lib.hid hA2n
 have HWD := Lib.hid (show attrE p A F = if chkA A2 = false then 1 else 0 by rw [HWC.out, hg, hA2])
 have hilt : (i : Int) < (R.length : Int) := by omega
 obtain ⟨gv, cap, hv, hgv⟩ := H.out.form (by omega)
 injection hv with e1 e2 e3
 subst e1 e3
 have KS : Hid (∀ w2, Below w.heap.size w w2 → w2.cell? ⟨r, 0, none⟩ = some (.slice (some ⟨gv, 0, none⟩) R.length vc) ∧ w2.cell? ⟨r, 1, none⟩ = some (.int .i64 (F.clock : Int)) ∧ w2.frozen? ⟨r, 1, none⟩ = false ∧ w2.cell? ⟨gv, i * 11 + 1, none⟩ = some (.int .u8 (n.at_.node : Int)) ∧ w2.cell? ⟨gv, i * 11 + 1 + 5, none⟩ = some (.string ⟨n.at_.target.toArray⟩)) := Lib.hid (fun w2 hb => by
  have HX := H.out.below hb
  exact ⟨cell_of_heap HX.book, cell_of_heap HX.book, frozen_of_heap HX.book, HX.ent HN.out 1 _ rfl, HX.ent HN.out 6 _ rfl⟩)
 have hgr : gv ≠ r := H.out.off gv (by simp [ob, Value.ownBlock])
 have hgvw : gv < w.heap.size := hgv
 unfold ptr at *
 clear hg hg' hfe hfi HWC hi hn hne hen e2 hfe0 hA2 hA2n
 go_enter Tryz.func33, Tryz.ntmps33
 go_wp2_with fail
 rw [← HW.out]
 refine FI.out.mono ?_
 rintro ex w2 ⟨rfl, hb2⟩
 have HB2W := Lib.hid hb2
 have HB2 := Lib.hid (HB0.out.trans (hb2.mono HB0.out.size))
 have hq2 := HQ.out w2 hb2
 clear hb2 FI
 obtain ⟨c0, c1, f1, cn, ct⟩ := KS.out w2 HB2.out
 have b0 : w2.cell? ⟨w.heap.size, 0, none⟩ = some (.int .u8 (A.node : Int)) := cell_of_heap hq2
 have bf0 : w2.frozen? ⟨w.heap.size, 0, none⟩ = false := frozen_of_heap hq2
 -- the box: the node's kind, then its target
 obtain ⟨W3, hW3⟩ : ∃ W3, W3 = (w2.setCell ⟨w.heap.size, 0, none⟩ (.int .u8 (n.at_.node : Int))).setCell ⟨w.heap.size, 5, none⟩ (.string ⟨n.at_.target.toArray⟩) := ⟨_, rfl⟩
 have hq2a : (w2.setCell ⟨w.heap.size, 0, none⟩ (.int .u8 (n.at_.node : Int))).heap[w.heap.size]? = some (.cells (({ A with node := n.at_.node } : XA).cells (.slice ava A.xs.length avc)).toArray AtR) := by rw [setCell_heap _ _ _ _ _ _ hq2]; rfl
 have hq3 : W3.heap[w.heap.size]? = some (.cells (A2.cells (.slice ava A2.xs.length avc)).toArray AtR) := by rw [hW3, setCell_heap _ _ _ _ _ _ hq2a, HA2N.out]; rfl
 have hbw : ∀ b, b ≠ w.heap.size → (w2.setCell ⟨w.heap.size, 0, none⟩ (.int .u8 (n.at_.node : Int))).heap[b]? = w2.heap[b]? := fun b hb => Below.heap_setCell _ _ _ _ hb
 have bc0 : (w2.setCell ⟨w.heap.size, 0, none⟩ (.int .u8 (n.at_.node : Int))).cell? ⟨r, 0, none⟩ = some (.slice (some ⟨gv, 0, none⟩) R.length vc) := (World.cell?_of_block (a := ⟨r, 0, none⟩) (hbw r (by have := HRB.out; omega))).trans c0
 have bct : (w2.setCell ⟨w.heap.size, 0, none⟩ (.int .u8 (n.at_.node : Int))).cell? ⟨gv, i * 11 + 1 + 5, none⟩ = some (.string ⟨n.at_.target.toArray⟩) := (World.cell?_of_block (a := ⟨gv, i * 11 + 1 + 5, none⟩) (hbw gv (by omega))).trans ct
 have bx5 : (w2.setCell ⟨w.heap.size, 0, none⟩ (.int .u8 (n.at_.node : Int))).cell? ⟨w.heap.size, 5, none⟩ = some (.string ⟨A.target.toArray⟩) := cell_of_heap hq2a
 have bf5 : (w2.setCell ⟨w.heap.size, 0, none⟩ (.int .u8 (n.at_.node : Int))).frozen? ⟨w.heap.size, 5, none⟩ = false := frozen_of_heap hq2a
 have hb3 : Below w.heap.size w W3 := by rw [hW3]; exact (HB2.out.setCell (Nat.le_refl _) _).setCell (Nat.le_refl _) _
 have HB3 := Lib.hid hb3; have HQ3 := Lib.hid hq3; have HW3 := Lib.hid hW3
 have hxs3 : XsAt W3 (.slice ava A2.xs.length avc) A2.xs := by
  rw [HA2N.out]
  exact HX0.out.kept (by rw [hW3, World.size_setCell, World.size_setCell]; exact HB2W.out.size) (fun b hb => by
   have h1 := HLTX.out b hb
   rw [hW3]
   exact (Below.heap_setCell _ _ _ _ (show b ≠ w.heap.size by omega)).trans ((hbw b (by omega)).trans (HB2W.out.block b (Nat.lt_of_lt_of_le h1 HB0.out.size))))
 have CK := rchk_any W3 A2 _ (HTW.out.below hb3) hxs3
 rw [chkAE] at CK
 have HXS3 := Lib.hid hxs3
 clear hq2 hq2a hb3 hq3 hW3 hxs3 hbw
 rcases (Bool.eq_false_or_eq_true (chkA A2)).symm with hck | hck
 · have HC := Lib.hid (show attrE p A F = 1 by rw [HWD.out, if_pos hck])
   rw [hck, if_neg (by decide)] at CK
   have CK := Lib.hid CK
   clear hck
   go_wp2_with (first
    | (refine Sh.wpList_load_at (T := AtR) (cs := (A2.cells (.slice ava A2.xs.length avc)).toArray) (by rw [← HW3.out]; exact HQ3.out) rfl AtR (.tmp 5) rfl rfl _ Tryz.underlying67 rfl (infoAtR _ _) ?_)
    | fail)
   rw [← HW3.out]
   refine CK.out.mono ?_
   rintro ex w4 ⟨rfl, hb4⟩
   have HB4 := Lib.hid (HB3.out.trans (hb4.mono HB3.out.size))
   clear hb4 CK
   go_wp2
   go_ret
   exact NOX.out _ _ HB4.out HC.out (by decide)
 have HC := Lib.hid (show attrE p A F = 0 by rw [HWD.out, if_neg (by rw [hck]; decide)])
 have HCK := Lib.hid hck
 rw [hck, if_pos rfl] at CK
 have CK := Lib.hid CK
 clear hck
 go_wp2_with (first
  | (refine Sh.wpList_load_at (T := AtR) (cs := (A2.cells (.slice ava A2.xs.length avc)).toArray) (by rw [← HW3.out]; exact HQ3.out) rfl AtR (.tmp 5) rfl rfl _ Tryz.underlying67 rfl (infoAtR _ _) ?_)
  | fail)
 rw [← HW3.out]
 refine CK.out.mono ?_
 rintro ex w4 ⟨rfl, hb4⟩
 have HB4 := Lib.hid (HB3.out.trans (hb4.mono HB3.out.size))
 have hq4 := (hb4.block _ (lt_of_heap HQ3.out)).trans HQ3.out
 have hxs4 := HXS3.out.kept hb4.size (fun b hb => hb4.block b (HXS3.out.lt b hb))
 clear hb4 CK c0 c1 f1 cn ct b0 bf0 bc0 bct bx5 bf5
 obtain ⟨c0, c1, f1, cn, ct⟩ := KS.out w4 HB4.out
 -- the clock
 obtain ⟨cc, hcc⟩ : ∃ cc : Int, cc = ((F.clock + 1 : Nat) : Int) := ⟨_, rfl⟩
 have hcl : (F.clock : Int) + 1 = cc := by rw [hcc]; omega
 obtain ⟨W5, hW5⟩ : ∃ W5, W5 = w4.setCell ⟨r, 1, none⟩ (.int .i64 ((F.clock : Int) + 1)) := ⟨_, rfl⟩
 have hX5 : RTree B W5 r (.slice (some ⟨gv, 0, none⟩) R.length vc) R { F with clock := F.clock + 1 } := by
  have := (H.out.below HB4.out).clocked (F.clock + 1)
  rw [← hcc, ← hcl, ← hW5] at this; exact this
 have hq5 : W5.heap[w.heap.size]? = some (.cells (A2.cells (.slice ava A2.xs.length avc)).toArray AtR) := by rw [hW5]; exact (Below.heap_setCell _ _ _ _ (show w.heap.size ≠ r by have := HRB.out; omega)).trans hq4
 have hxs5 : XsAt W5 (.slice ava A2.xs.length avc) A2.xs := hxs4.kept (by rw [hW5, World.size_setCell]; exact Nat.le_refl _) (fun b hb => by
  rw [hW5]; exact Below.heap_setCell _ _ _ _ (HXR.out b (by rw [HA2N.out] at hb; exact hb)))
 have hxl : A2.xs.length ≤ 1000 := by have := (chkA_parts HCK.out).2.2.1; omega
 have OW := Lib.hid (rown_any W5.drew A2 _ (hxs5.kept (Nat.le_refl _) (fun _ _ => rfl)) hxl)
 have HX5 := Lib.hid hX5; have HW5 := Lib.hid hW5; have HCC := Lib.hid hcc; have HQ5 := Lib.hid hq5
 have HS5 : Hid (W5.heap.size = w4.heap.size) := Lib.hid (by rw [hW5, World.size_setCell])
 have KW : Hid (∀ w', Below W5.heap.size W5 w' → w'.rangeAt w.heap.size 0 (A2.cells (.slice ava A2.xs.length avc)) ∧ w'.cell? ⟨r, 0, none⟩ = some (.slice (some ⟨gv, 0, none⟩) R.length vc) ∧ w'.cell? ⟨r, 1, none⟩ = some (.int .i64 cc)) := Lib.hid (fun w' hb => by
  have hx := (HX5.out.below hb).book
  exact ⟨range_block ((hb.block _ (lt_of_heap HQ5.out)).trans HQ5.out), cell_of_heap hx, (cell_of_heap hx).trans (by rw [HCC.out]; rfl)⟩)
 have HAI : Hid ((Tryz.prog.info? AtR).map (·.size) = some (A2.cells (.slice ava A2.xs.length avc)).length) := Lib.hid (by show _ = some 7; kernel_rfl)
 clear hX5 hW5 hcc hcl hq4 hq5 hxs4 hxs5
 go_upto_region 11 with (fail)
 rw [← HW5.out]
 refine wp_region_held_drew (S := (fun w' : World => w'.rangeAt w.heap.size 0 (A2.cells (.slice ava A2.xs.length avc)) ∧ w'.cell? ⟨r, 0, none⟩ = some (.slice (some ⟨gv, 0, none⟩) R.length vc) ∧ w'.cell? ⟨r, 1, none⟩ = some (.int .i64 cc))) (by kernel_rfl) (KW.out _ (Below.refl _ _).drew) (fun hHeld => ?_)
 refine tk 0 rfl (v := ?_) (fun _ _ _ h => h) ?at0 hHeld ?_
 case at0 => intro wS hSw; obtain ⟨k0, k1, k2⟩ := hSw; go_simp; try with_reducible rfl
 try simp only [Act.put, zA, zB, zC, zD, zE, zF]
 refine tk 1 rfl (v := ?_) (fun _ _ _ h => h) ?at1 hHeld ?_
 case at1 => intro wS hSw; obtain ⟨k0, k1, k2⟩ := hSw; go_simp; try with_reducible rfl
 try simp only [Act.put, zA, zB, zC, zD, zE, zF]
 refine tk 2 rfl (v := ?_) (fun _ _ _ h => h) ?at2 hHeld ?_
 case at2 => intro wS hSw; obtain ⟨k0, k1, k2⟩ := hSw; go_simp; try with_reducible rfl
 try simp only [Act.put, zA, zB, zC, zD, zE, zF]
 refine tk 3 rfl (v := ?_) (fun _ _ _ h => h) ?at3 hHeld ?_
 case at3 => intro wS hSw; obtain ⟨k0, k1, k2⟩ := hSw; go_simp; try with_reducible rfl
 try simp only [Act.put, zA, zB, zC, zD, zE, zF]
 refine tk 4 rfl (v := ?_) (fun _ _ _ h => h) ?at4 hHeld ?_
 case at4 => intro wS hSw; obtain ⟨k0, k1, k2⟩ := hSw; go_simp; try with_reducible rfl
 try simp only [Act.put, zA, zB, zC, zD, zE, zF]
 refine' wpAnyH_take (i := 5) (v := _) rfl (by kernel_rfl) (by kernel_rfl) (by kernel_rfl) (fun _ _ _ h => h) (yieldsIf_load_mid (by rfl) _ _ rfl w.heap.size 0 rfl (A2.cells (.slice ava A2.xs.length avc)) _ ?at5S ?at5u ?at5d ?at5i) hHeld ?at5x
 case at5S => intro wS hSw; obtain ⟨k0, k1, k2⟩ := hSw; exact k0
 case at5u => exact Tryz.underlying67
 case at5d => rfl
 case at5i => exact HAI.out
 try simp only [Act.put, zA, zB, zC, zD, zE, zF]
 refine wpAnyH_ready (rs := [6]) (by kernel_rfl) (by simp) ?_
 refine AllReadyH.cons rfl (fun K hK => ?_) AllReadyH.nil
 go_simp
 refine OW.out.mono ?_
 rintro ez wz ⟨vz, rfl, hxz, hgz, hbz⟩
 have HXZ := Lib.hid hxz; have HGZ := Lib.hid hgz
 have HBZ : Hid (Below W5.heap.size W5 wz) := Lib.hid ((Below.refl W5.heap.size W5).drew.trans hbz)
 obtain ⟨oa, oc, rfl⟩ : ∃ a c, vz = .slice a A2.xs.length c := by obtain ⟨a, c, h, _⟩ := hxz; exact ⟨a, c, h⟩
 clear hbz hxz hgz
 go_wp2_with fail
 refine hK.out _ _ (KW.out _ HBZ.out) (fun hHeld2 => ?_)
 clear hK K hHeld
 have hHeld := hHeld2
 clear hHeld2
 try simp only [Act.put, zA, zB, zC, zD, zE, zF]
 refine tk 7 rfl (v := ?_) (fun _ _ _ h => h) ?at7 hHeld ?_
 case at7 => intro wS hSw; obtain ⟨k0, k1, k2⟩ := hSw; go_simp; try with_reducible rfl
 try simp only [Act.put, zA, zB, zC, zD, zE, zF]
 refine tk 8 rfl (v := ?_) (fun _ _ _ h => h) ?at8 hHeld ?_
 case at8 => intro wS hSw; obtain ⟨k0, k1, k2⟩ := hSw; go_simp; try with_reducible rfl
 try simp only [Act.put, zA, zB, zC, zD, zE, zF]
 refine wpAnyH_ready (rs := [9]) (by kernel_rfl) (by simp) ?_
 refine AllReadyH.cons rfl (fun K hK => ?_) AllReadyH.nil
 have hXZ := HX5.out.below HBZ.out
 obtain ⟨har1, har2⟩ := attr_row hXZ.row HN.out A2 (.slice oa A2.xs.length oc)
 have HAR1 := Lib.hid har1; have HAR2 := Lib.hid har2; clear hXZ har1 har2
 refine wp_store_mid AtR (.tmp 61) (.tmp 59) rfl gv (i * 11 + 1) (A2.cells (.slice oa A2.xs.length oc)).toArray rfl rfl HAR2.out (infoAtR _ _) (atOne A2 rfl) ?_
 refine hK.out _ _ (by have hk : ∀ b, b ≠ gv → (wz.setCells gv (i * 11 + 1) (A2.cells (.slice oa A2.xs.length oc))).heap[b]? = wz.heap[b]? := setCells_other _ _ _ _; obtain ⟨q0, q1, q2⟩ := KW.out wz HBZ.out; exact ⟨fun j u hj => (World.cell?_of_block (a := ⟨w.heap.size, 0 + j, none⟩) (hk _ (show w.heap.size ≠ gv by omega))).trans (q0 j u hj), (World.cell?_of_block (a := ⟨r, 0, none⟩) (hk r (Ne.symm hgr))).trans q1, (World.cell?_of_block (a := ⟨r, 1, none⟩) (hk r (Ne.symm hgr))).trans q2⟩) (fun hHeld2 => ?_)
 clear hK K hHeld
 have hHeld := hHeld2
 clear hHeld2
 try simp only [Act.put, zA, zB, zC, zD, zE, zF]
 refine wpAnyH_done (by kernel_rfl) ?_ _
 clear hHeld
 try simp only [Act.put, zA, zB, zC, zD, zE, zF]
 obtain ⟨W6, hW6⟩ : ∃ W6, W6 = wz.setCells gv (i * 11 + 1) (A2.cells (.slice oa A2.xs.length oc)) := ⟨_, rfl⟩
 have hk6 : ∀ b, b ≠ gv → W6.heap[b]? = wz.heap[b]? := by rw [hW6]; exact setCells_other _ _ _ _
 have hs6 : wz.heap.size ≤ W6.heap.size := by rw [hW6]; exact (turn_setCells _ _ _ _).size
 have hgo : ∀ b ∈ xob A2.xs (.slice oa A2.xs.length oc), W5.heap.size ≤ b := fun b hb => HGZ.out b hb
 have hgvz : gv < W5.heap.size := by have h1 := HS5.out; have h2 := HB4.out.size; omega
 have hX6 := (HX5.out.below HBZ.out).setNode HN.out { n with at_ := A2, xv := .slice oa A2.xs.length oc } (by rw [hW6]; exact HAR1.out) hk6 hs6 ⟨rfl, rfl⟩ (HXZ.out.kept hs6 (fun b hb => hk6 b (by have := hgo b hb; omega))) (fun b hb => by
  have h1 := hgo b hb
  have h2 := HS5.out; have h3 := HB4.out.size; have h4 := HBL.out; have h5 := HRB.out
  exact ⟨by omega, by omega, by omega⟩)
 have hn2 : (R.set i { n with at_ := A2, xv := .slice oa A2.xs.length oc })[i]? = some { n with at_ := A2, xv := .slice oa A2.xs.length oc } := by rw [List.getElem?_set_self hil]
 have hrow : (R.set i { n with at_ := A2, xv := .slice oa A2.xs.length oc }).length = R.length := List.length_set
 have hX6' := hX6
 rw [← hrow] at hX6'
 obtain ⟨ht1, ht2, ⟨xt, ht3⟩, ht4⟩ := hX6'.ticked hn2 cc
 rw [hrow] at ht1
 have HX6 := Lib.hid hX6; have HT1 := Lib.hid ht1; have HT4 := Lib.hid ht4; have HW6 := Lib.hid hW6; have HK6 := Lib.hid hk6; have HS6 := Lib.hid hs6; have HGO := Lib.hid hgo
 have KX : Hid (W6.drew.cell? ⟨r, 0, none⟩ = some (.slice (some ⟨gv, 0, none⟩) R.length vc) ∧ W6.drew.cell? ⟨r, 1, none⟩ = some (.int .i64 cc)) := Lib.hid ⟨cell_of_heap hX6.book, (cell_of_heap hX6.book).trans (by rw [HCC.out]; rfl)⟩
 clear hX6 hX6' ht1 ht4 hn2 hrow hk6 hs6 hgo
 rw [← hW6]
 clear hW6
 go_upto_region 12 with (fail)
 refine wp_region_held_drew (S := (fun w' : World => w'.cell? ⟨r, 0, none⟩ = some (.slice (some ⟨gv, 0, none⟩) R.length vc) ∧ w'.cell? ⟨r, 1, none⟩ = some (.int .i64 cc))) (by kernel_rfl) KX.out (fun hHeld => ?_)
 refine tk 0 rfl (v := ?_) (fun _ _ _ h => h) ?au0 hHeld ?_
 case au0 => intro wS hSw; obtain ⟨k0, k1⟩ := hSw; go_simp; try with_reducible rfl
 try simp only [Act.put, zA, zB, zC, zD, zE, zF]
 refine tk 1 rfl (v := ?_) (fun _ _ _ h => h) ?au1 hHeld ?_
 case au1 => intro wS hSw; obtain ⟨k0, k1⟩ := hSw; go_simp; try with_reducible rfl
 try simp only [Act.put, zA, zB, zC, zD, zE, zF]
 refine tk 2 rfl (v := ?_) (fun _ _ _ h => h) ?au2 hHeld ?_
 case au2 => intro wS hSw; obtain ⟨k0, k1⟩ := hSw; go_simp; try with_reducible rfl
 try simp only [Act.put, zA, zB, zC, zD, zE, zF]
 refine tk 3 rfl (v := ?_) (fun _ _ _ h => h) ?au3 hHeld ?_
 case au3 => intro wS hSw; obtain ⟨k0, k1⟩ := hSw; go_simp; try with_reducible rfl
 try simp only [Act.put, zA, zB, zC, zD, zE, zF]
 refine tk 4 rfl (v := ?_) (fun _ _ _ h => h) ?au4 hHeld ?_
 case au4 => intro wS hSw; obtain ⟨k0, k1⟩ := hSw; go_simp; try with_reducible rfl
 try simp only [Act.put, zA, zB, zC, zD, zE, zF]
 refine tk 5 rfl (v := ?_) (fun _ _ _ h => h) ?au5 hHeld ?_
 case au5 => intro wS hSw; obtain ⟨k0, k1⟩ := hSw; go_simp; try with_reducible rfl
 try simp only [Act.put, zA, zB, zC, zD, zE, zF]
 refine tk 6 rfl (v := ?_) (fun _ _ _ h => h) ?au6 hHeld ?_
 case au6 => intro wS hSw; obtain ⟨k0, k1⟩ := hSw; go_simp; try with_reducible rfl
 try simp only [Act.put, zA, zB, zC, zD, zE, zF]
 refine tk 7 rfl (v := ?_) (fun _ _ _ h => h) ?au7 hHeld ?_
 case au7 => intro wS hSw; obtain ⟨k0, k1⟩ := hSw; go_simp; try with_reducible rfl
 try simp only [Act.put, zA, zB, zC, zD, zE, zF]
 refine tk 8 rfl (v := ?_) (fun _ _ _ h => h) ?au8 hHeld ?_
 case au8 => intro wS hSw; obtain ⟨k0, k1⟩ := hSw; go_simp; try with_reducible rfl
 try simp only [Act.put, zA, zB, zC, zD, zE, zF]
 refine tk 9 rfl (v := ?_) (fun _ _ _ h => h) ?au9 hHeld ?_
 case au9 => intro wS hSw; obtain ⟨k0, k1⟩ := hSw; go_simp; try with_reducible rfl
 try simp only [Act.put, zA, zB, zC, zD, zE, zF]
 refine tk 10 rfl (v := ?_) (fun _ _ _ h => h) ?au10 hHeld ?_
 case au10 => intro wS hSw; obtain ⟨k0, k1⟩ := hSw; go_simp; try with_reducible rfl
 try simp only [Act.put, zA, zB, zC, zD, zE, zF]
 refine wpAnyH_ready (rs := [11]) (by kernel_rfl) (by simp) ?_
 refine AllReadyH.cons rfl (fun K hK => ?_) AllReadyH.nil
 go_simp
 refine hK.out _ _ (by obtain ⟨q0, q1⟩ := KX.out; exact ⟨(World.cell?_of_block (a := ⟨r, 0, none⟩) (Below.heap_setCell _ _ _ _ (Ne.symm hgr))).trans q0, (World.cell?_of_block (a := ⟨r, 1, none⟩) (Below.heap_setCell _ _ _ _ (Ne.symm hgr))).trans q1⟩) (fun hHeld2 => ?_)
 clear hK K hHeld
 have hHeld := hHeld2
 clear hHeld2
 try simp only [Act.put, zA, zB, zC, zD, zE, zF]
 refine wpAnyH_done (by kernel_rfl) ?_ _
 clear hHeld
 try simp only [Act.put, zA, zB, zC, zD, zE, zF]
 have FINAL : Hid (RPost B w r (.slice (some ⟨gv, 0, none⟩) R.length vc) R (setN p (fun n => { n with at_ := asOf A n }) F) 0 (.returned (.int .i64 0)) (W6.setCell ⟨gv, i * 11 + 10, none⟩ (.int .i64 cc)).drew) := by
  refine Lib.hid ⟨rfl, .slice (some ⟨gv, 0, none⟩) R.length vc, (R.set i { n with at_ := A2, xv := .slice oa A2.xs.length oc }).set i { n with at_ := A2, xv := .slice oa A2.xs.length oc, tick := cc }, ?_, ?_, fun b hb => ?_⟩
  · have h1 := HT1.out.drew
    have hL : (F.L.set i (RN.te { n with at_ := A2, xv := .slice oa A2.xs.length oc })).set i { RN.te { n with at_ := A2, xv := .slice oa A2.xs.length oc } with tick := cc } = tickN [splitL p] ((F.clock + 1 : Nat) : Int) (updN { e with at_ := asOf A e } F.L) := by
     have hs := set_upd (e' := { e with at_ := asOf A e }) HG.out.srt HI.out rfl
     have hne := HNE.out
     have h2 : (updN { e with at_ := asOf A e } F.L)[i]? = some { e with at_ := asOf A e } := by
      rw [← hs, List.getElem?_set_self (List.getElem?_eq_some_iff.1 HI.out).1]
     have ht : (updN { e with at_ := asOf A e } F.L).set i { ({ e with at_ := asOf A e } : TE) with tick := cc } = tickN [e.nm] cc (updN { e with at_ := asOf A e } F.L) := set_tick (upd_srt HG.out.srt) h2 cc
     rw [← HCC.out, ← HEN.out, ← ht, ← hs, ← HA2.out, ← hne]; rfl
    have hS : setN p (fun n => { n with at_ := asOf A n }) F = { F with clock := F.clock + 1, L := tickN [splitL p] ((F.clock + 1 : Nat) : Int) (updN { e with at_ := asOf A e } F.L) } := by
     rw [setN, HGE.out]
    rw [hS, ← hL]
    exact h1
  · have e1 : Turn (r :: ob (.slice (some ⟨gv, 0, none⟩) R.length vc)) w w4 := Turn.of_below HB4.out
    have e2 := e1.setCell (p := ⟨r, 1, none⟩) (.inl (by simp)) (.int .i64 ((F.clock : Int) + 1))
    rw [← HW5.out] at e2
    have e3 := e2.trans (Turn.of_below (X := []) HBZ.out) (fun y hy => nomatch hy)
    have e4 := e3.trans (turn_setCells wz gv (i * 11 + 1) (A2.cells (.slice oa A2.xs.length oc))) (fun y hy => .inl (by simp at hy; simp [ob, Value.ownBlock, hy]))
    rw [← HW6.out] at e4
    exact (e4.setCell (p := ⟨gv, i * 11 + 10, none⟩) (.inl (by simp [ob, Value.ownBlock])) (.int .i64 cc)).drew
  · rw [rblk, List.mem_cons, List.mem_append] at hb
    rw [rblk, List.mem_cons, List.mem_append]
    rcases hb with hb | hb | hb
    · exact .inl (.inl hb)
    · exact .inl (.inr (.inl hb))
    · have h4 := HT4.out
      rw [h4] at hb
      rcases set_mem_rob (n' := { n with at_ := A2, xv := .slice oa A2.xs.length oc }) HN.out rfl hb with hb | hb
      · exact .inl (.inr (.inr hb))
      · have h1 := HGO.out b hb; have h2 := HS5.out; have h3 := HB4.out.size
        exact .inr (by omega)
 go_wp2
 go_ret
 exact YES.out _ HC.out FINAL.out
end Go.Proofs.YtnkapojbijbbaaaGreatDoor.Sr
