import Derived.Test.YtnkapojbijbbaaaGreatDoorZPSrValue
import Derived.Test.YtnkapojbijbbaaaGreatDoorZPStFresh
set_option linter.unusedSimpArgs false
set_option linter.unusedVariables false
set_option maxHeartbeats 16000000
set_option maxRecDepth 100000
namespace Go.Proofs.YtnkapojbijbbaaaGreatDoor.Sr
open Go.RowKit Go.Maps Go.WideMaps Rf Go.Proofs.YtnkapojbijbbaaaGreatDoor.Nm St
def stF (e : TE) : SE := { zeroS with node := e.at_.node, size := (e.data.length : Int), ino := e.ino, tick := e.tick }
def chgB (L : List SE) (e : TE) : Bool := decide (e.at_.node = 1) && !(freshX (pathN e.nm) (stF e) L).2
def chgL (L : List SE) (M : List TE) : List (List UInt8) := (M.filter (chgB L)).map fun e => pathN e.nm
theorem chgL_snoc {L : List SE} {M : List TE} {i : Nat} {e : TE} (h : M[i]? = some e) : chgL L (M.take (i + 1)) = chgL L (M.take i) ++ (if chgB L e then [pathN e.nm] else []) := by
 rw [chgL, List.take_add_one, h, List.filter_append, List.map_append, chgL]
 congr 1
 show ((([e] : List TE).filter (chgB L)).map fun e => pathN e.nm) = _
 by_cases hc : chgB L e = true
 · rw [List.filter_cons_of_pos hc, if_pos hc]; rfl
 · rw [List.filter_cons_of_neg hc, if_neg hc]; rfl
theorem chgL_len (L : List SE) (M : List TE) : (chgL L M).length ≤ M.length := by rw [chgL, List.length_map]; exact List.length_filter_le _ _
theorem infoStr : (Tryz.prog.info? 9).map (fun i => (i.zero, i.size, i.bytes)) = some (some (.string ⟨#[]⟩), 1, 16) := by kernel_rfl
theorem infoV11 (e : TE) (xv : Value) : (Tryz.prog.info? VnT).map (·.size) = some (vcells e xv).length := by show _ = some 11; kernel_rfl
theorem infoV11a (e : TE) (xv : Value) : (Tryz.prog.info? VnT).map (·.size) = some (vcells e xv).toArray.size := by show _ = some 11; kernel_rfl
theorem vall (e : TE) {xv : Value} (hx : xv.oneCell' = true) : (vcells e xv).toArray.all (·.oneCell') = true := Array.all_eq_true_iff_forall_mem.2 (fun u hu => vcells_one e hx u (by simpa using hu))
theorem vrows_at : ∀ {R : List (TE × Value)} {i : Nat} {p : TE × Value}, R[i]? = some p → ∀ {j : Nat} {u : Value}, (vcells p.1 p.2)[j]? = some u → (vrows R)[i * 11 + j]? = some u
 | q :: r, 0, p, h, j, u, hj => by
   obtain rfl := Option.some.inj h
   have hl := (List.getElem?_eq_some_iff.1 hj).1
   rw [vrows, List.flatMap_cons, Nat.zero_mul, Nat.zero_add, List.getElem?_append_left hl]; exact hj
 | q :: r, i + 1, p, h, j, u, hj => by
   have := vrows_at (R := r) (i := i) (p := p) h hj
   rw [vrows, List.flatMap_cons, List.getElem?_append_right (by rw [vcells_len]; omega), vcells_len, show (i + 1) * 11 + j - 11 = i * 11 + j by omega]
   exact this
def ChgPost (w : World) (l : List (List UInt8)) (x : Ending) (w' : World) : Prop :=
 ∃ v, x = .returned (.tuple #[v, .int .i64 0]) ∧ w'.ownsRow w.heap.size 9 1 v l.length (l.map sv) ∧ Below w.heap.size w w'
theorem changed_any (B : Nat) (w : World) (g b : Nat) (L : List SE) (hI : IndexAt B w g b L) (B' r : Nat) (T : Tr) (hF : Fine T) (hl : T.L.length ≤ 1000000) (hT : TreeAt B' w r T) :
 Calls Tryz.prog 16 #[ptr g, ptr r] w (ChgPost w (chgL L T.L)) := by
 have TV := Lib.hid (treeval_any B' w r T hF hl hT)
 have HI := Lib.hid hI; have HNM := Lib.hid hF.names
 obtain ⟨i0, hi0, hz0, hz1, hz2⟩ := info_parts infoStr
 have hz3 : (Value.string ⟨#[]⟩).cells.size = 1 := by kernel_rfl
 unfold ptr at *
 clear hI hF hT
 go_enter Tryz.func16, Tryz.ntmps16
 go_wp2_with fail
 refine TV.out.mono ?_
 rintro ex w1 ⟨v, R, rfl, hm, ho, hb1⟩
 have HM := Lib.hid hm
 have HRL : Hid (R.length = T.L.length) := Lib.hid (by have := congrArg List.length hm; rw [List.length_map] at this; exact this)
 have HR1 := Lib.hid ho.row
 have HXR := Lib.hid ho.xrow
 have HB1 := Lib.hid hb1
 obtain ⟨va, vc, rfl⟩ := rowS_slice ho.row
 clear hm ho hb1 TV
 have hrl : R.length ≤ 1000000 := by rw [HRL.out]; exact hl
 go_wp2
 go_loopw [6, 20] (fun v6 v20 wr => ∃ (i : Nat) (vo : Value), i ≤ R.length ∧ v20 = .int .i64 (i : Int) ∧ v6 = vo ∧ Hid (wr.ownsRow w.heap.size 9 1 vo (chgL L (T.L.take i)).length ((chgL L (T.L.take i)).map sv)) ∧ Hid (Below w.heap.size w wr) ∧ Hid (wr.ownsRow w.heap.size VnT 11 (.slice va R.length vc) R.length (vrows R)) ∧ Hid (∀ x ∈ ob (.slice va R.length vc), x ∉ ob vo)) (fun _ v20 _ => R.length - (RowKit.intOf v20).toNat)
 case atStart => exact ⟨0, _, by omega, rfl, rfl, Lib.hid (rowS_nil _ _ _ _), HB1, HR1, Lib.hid (fun _ _ h => by simp [ob, Value.ownBlock] at h)⟩
 case round =>
  obtain ⟨i, vo, hi, rfl, rfl, HOW, HB, HRW, HDJ⟩ := hrel
  have hcl : (chgL L (T.L.take i)).length ≤ 1000000 := by have := chgL_len L (T.L.take i); rw [List.length_take] at this; omega
  by_cases hil : (i : Int) < (R.length : Int)
  · have hi2 : i < R.length := by omega
    obtain ⟨p, hp⟩ : ∃ p, R[i]? = some p := ⟨_, List.getElem?_eq_getElem hi2⟩
    obtain ⟨e, xv⟩ := p
    have hei : T.L[i]? = some e := by rw [← HM.out, List.getElem?_map, hp]; rfl
    have hxr : w1.ownsRow w.heap.size XaT 2 xv e.at_.xs.length (xcells e.at_.xs) := HXR.out (e, xv) (List.mem_of_getElem? hp)
    obtain ⟨xa, xc, rfl⟩ := rowS_slice hxr
    have HSN := Lib.hid (chgL_snoc (L := L) hei)
    obtain ⟨gr, cap, hrv, hgr, _, _, hrc⟩ := rowS_form HRW.out (by omega)
    injection hrv with e1 e2 e3
    subst e1 e3
    have HRG : Hid (wr.rangeAt gr (i * 11) (vcells e (.slice xa e.at_.xs.length xc))) := Lib.hid (fun j u hj => hrc _ _ (vrows_at hp hj))
    have hpl := (HNM.out e (List.mem_of_getElem? hei)).1
    obtain ⟨P, hP⟩ : ∃ P, P = pathN e.nm := ⟨_, rfl⟩
    have HPL : Hid (P.length ≤ 1000000) := Lib.hid (by
     rw [hP, pathN]
     split
     · decide
     · exact hpl)
    have HCB : Hid (chgB L e = (decide (e.at_.node = 1) && !(freshX P (stF e) L).2)) := Lib.hid (by rw [chgB, hP])
    rw [← hP] at HSN
    have hHP := Lib.hid hP
    obtain ⟨ua, uc, rfl⟩ := rowS_slice HOW.out
    clear hei hp hrc hpl hP e2 hxr
    by_cases h1 : e.at_.node = 1
    case neg =>
     have hb : (((e.at_.node : Nat) : Int) == 1) = false := by rw [beq_eq_false_iff_ne]; omega
     have hb2 : (((e.at_.node : Nat) : Int) != 1) = true := by rw [bne, hb]; rfl
     have HSX : Hid (chgL L (T.L.take (i + 1)) = chgL L (T.L.take i)) := Lib.hid (by rw [HSN.out, HCB.out, decide_eq_false h1, Bool.false_and, if_neg (by decide), List.append_nil])
     clear h1
     go_wp2_with (first
      | (refine wpList_load_mid rfl _ _ rfl gr (i * 11) rfl (vcells e (.slice xa e.at_.xs.length xc)) _ HRG.out Tryz.underlying110 rfl (infoV11 _ _) ?_)
      | (refine Sh.wpList_store_new rfl rfl VnT (.tmp 8) (.tmp 23) rfl (vcells e (.slice xa e.at_.xs.length xc)).toArray rfl rfl (infoV11a _ _) rfl (vall e rfl) ?_
         intro w2 hq2 hb2 hs2
         have HB2 : Hid (Below w.heap.size w w2) := Lib.hid (HB.out.trans (hb2.mono HB.out.size))
         have HQ2 := Lib.hid hq2; have HBW := Lib.hid hb2
         have g0 : w2.cell? ⟨wr.heap.size, 0, none⟩ = some (.string ⟨P.toArray⟩) := by rw [hHP.out]; exact cell_of_heap hq2
         have g1 : w2.cell? ⟨wr.heap.size, 1, none⟩ = some (.int .u8 (e.at_.node : Int)) := cell_of_heap hq2
         have g8 : w2.cell? ⟨wr.heap.size, 8, none⟩ = some (.string ⟨e.data.toArray⟩) := cell_of_heap hq2
         have g9 : w2.cell? ⟨wr.heap.size, 9, none⟩ = some (.int .u64 (e.ino : Int)) := cell_of_heap hq2
         have g10 : w2.cell? ⟨wr.heap.size, 10, none⟩ = some (.int .i64 e.tick) := cell_of_heap hq2
         clear hq2 hb2 hs2))
     go_roundw
     case rel => exact ⟨i + 1, _, by omega, by go_num, rfl, Lib.hid (by rw [HSX.out]; exact rowS_kept HOW.out (fun x _ hl => HBW.out.block x hl)), HB2, Lib.hid (rowS_kept HRW.out (fun x _ hl => HBW.out.block x hl)), HDJ⟩
     case measure => simp [RowKit.intOf]; omega
    have hb : (((e.at_.node : Nat) : Int) == 1) = true := by rw [beq_iff_eq]; omega
    have hb2 : (((e.at_.node : Nat) : Int) != 1) = false := by rw [bne, hb]; rfl
    have FRX : Hid (∀ w', Below w.heap.size w w' → Calls Tryz.prog 41 #[.pointer (some ⟨g, 0, none⟩), .string ⟨P.toArray⟩, .agg #[.int .u8 (e.at_.node : Int), .int .i64 (e.data.length : Int), .int .u64 (e.ino : Int), .int .i64 e.tick]] w' fun x w'' => x = .returned (.tuple #[enV (freshX P (stF e) L).1, .bool (freshX P (stF e) L).2]) ∧ Below w'.heap.size w' w'') := Lib.hid (fun w' hb => by
     have := fresh_any B w' g b L ⟨P.toArray⟩ (by show P.length ≤ _; have := HPL.out; unfold maxLen; omega) (stF e) (HI.out.below hb)
     rw [show (⟨P.toArray⟩ : ByteArray).data.toList = P from by simp] at this
     exact this)
    have VF : Hid (freshX P (stF e) L).1.Fits := Lib.hid (by
     rw [freshX]
     split
     · exact zero_fits
     · next x hx =>
       split
       · exact HI.out.fits x (getL_path hx).2
       · exact zero_fits)
    obtain ⟨V, hV⟩ : ∃ V, V = (freshX P (stF e) L).1 := ⟨_, rfl⟩
    obtain ⟨fb, hfb⟩ : ∃ fb, fb = (freshX P (stF e) L).2 := ⟨_, rfl⟩
    simp only [← hV, ← hfb] at FRX
    rw [← hV] at VF
    rw [← hfb] at HCB
    have VOK := Lib.hid VF.out.en
    have HCX : Hid (chgB L e = !fb) := Lib.hid (by rw [HCB.out, decide_eq_true h1, Bool.true_and])
    clear hV hfb h1 HCB
    go_wp2_with (first
     | (refine wpList_load_mid rfl _ _ rfl gr (i * 11) rfl (vcells e (.slice xa e.at_.xs.length xc)) _ HRG.out Tryz.underlying110 rfl (infoV11 _ _) ?_)
     | (refine Sh.wpList_store_new rfl rfl VnT (.tmp 8) (.tmp 23) rfl (vcells e (.slice xa e.at_.xs.length xc)).toArray rfl rfl (infoV11a _ _) rfl (vall e rfl) ?_
        intro w2 hq2 hb2 hs2
        have HB2 : Hid (Below w.heap.size w w2) := Lib.hid (HB.out.trans (hb2.mono HB.out.size))
        have HQ2 := Lib.hid hq2; have HBW := Lib.hid hb2
        have g0 : w2.cell? ⟨wr.heap.size, 0, none⟩ = some (.string ⟨P.toArray⟩) := by rw [hHP.out]; exact cell_of_heap hq2
        have g1 : w2.cell? ⟨wr.heap.size, 1, none⟩ = some (.int .u8 (e.at_.node : Int)) := cell_of_heap hq2
        have g8 : w2.cell? ⟨wr.heap.size, 8, none⟩ = some (.string ⟨e.data.toArray⟩) := cell_of_heap hq2
        have g9 : w2.cell? ⟨wr.heap.size, 9, none⟩ = some (.int .u64 (e.ino : Int)) := cell_of_heap hq2
        have g10 : w2.cell? ⟨wr.heap.size, 10, none⟩ = some (.int .i64 e.tick) := cell_of_heap hq2
        clear hq2 hb2 hs2)
     | fail)
    have FR2 := Lib.hid (FRX.out w2 HB2.out)
    refine FR2.out.mono ?_
    rintro ex w3 ⟨rfl, hb3⟩
    have HB3 := Lib.hid (HB2.out.trans (hb3.mono HB2.out.size))
    have HBW3 : Hid (Below wr.heap.size wr w3) := Lib.hid (HBW.out.trans (hb3.mono HBW.out.size))
    have HGL : Hid (wr.heap.size < w3.heap.size) := Lib.hid (Nat.lt_of_lt_of_le (lt_of_heap HQ2.out) hb3.size)
    have g0' : w3.cell? ⟨wr.heap.size, 0, none⟩ = some (.string ⟨P.toArray⟩) := (hb3.cell (p := ⟨wr.heap.size, 0, none⟩) (lt_of_heap HQ2.out)).trans g0
    clear hb3 FR2 FRX g0 g1 g8 g9 g10
    cases fb with
    | true =>
      have HSX : Hid (chgL L (T.L.take (i + 1)) = chgL L (T.L.take i)) := Lib.hid (by rw [HSN.out, HCX.out, if_neg (by decide), List.append_nil])
      go_wp2_with (first
       | (refine wpList_store_new (by first | rfl | rw [one_size]) rfl _ _ _ rfl V.cells.toArray rfl rfl VOK.out.info VOK.out.z VOK.out.one ?_
          intro w4 hq4 hb4 hs4
          have HB4 : Hid (Below w.heap.size w w4) := Lib.hid (HB3.out.trans (hb4.mono HB3.out.size))
          have HB34 : Hid (Below wr.heap.size wr w4) := Lib.hid (HBW3.out.trans (hb4.mono HBW3.out.size))
          have g0'' : w4.cell? ⟨wr.heap.size, 0, none⟩ = some (.string ⟨P.toArray⟩) := (hb4.cell (p := ⟨wr.heap.size, 0, none⟩) HGL.out).trans g0'
          clear hq4 hb4 hs4))
      go_roundw
      case rel => exact ⟨i + 1, _, by omega, by go_num, rfl, Lib.hid (by rw [HSX.out]; exact rowS_kept HOW.out (fun x _ hl => HB34.out.block x hl)), HB4, Lib.hid (rowS_kept HRW.out (fun x _ hl => HB34.out.block x hl)), HDJ⟩
      case measure => simp [RowKit.intOf]; omega
    | false =>
      have HSX : Hid (chgL L (T.L.take (i + 1)) = chgL L (T.L.take i) ++ [P]) := Lib.hid (by rw [HSN.out, HCX.out, if_pos (by decide)])
      generalize chgL L (T.L.take i) = C at *
      go_wp2_with (first
       | (refine wpList_store_new (by first | rfl | rw [one_size]) rfl _ _ _ rfl V.cells.toArray rfl rfl VOK.out.info VOK.out.z VOK.out.one ?_
          intro w4 hq4 hb4 hs4
          have HB4 : Hid (Below w.heap.size w w4) := Lib.hid (HB3.out.trans (hb4.mono HB3.out.size))
          have HB34 : Hid (Below wr.heap.size wr w4) := Lib.hid (HBW3.out.trans (hb4.mono HBW3.out.size))
          have g0'' : w4.cell? ⟨wr.heap.size, 0, none⟩ = some (.string ⟨P.toArray⟩) := (hb4.cell (p := ⟨wr.heap.size, 0, none⟩) HGL.out).trans g0'
          clear hq4 hb4 hs4)
       | (at_builtin
          refine wpList_append_own_at _ rfl _ _ 57 rfl w.heap.size 9 i0 _ 1 16 Tryz.underlying57 hi0 hz0 hz1 hz2 hz3 (by decide) (.slice ua C.length uc) C.length (C.map sv) rfl (rowS_kept HOW.out (fun x _ hl => (Below.heap_alloc _ _ x (Nat.lt_of_lt_of_le hl HB34.out.size)).trans (HB34.out.block x hl))) ⟨w4.heap.size, 0, none⟩ 1 1 [.string ⟨P.toArray⟩] rfl rfl ?q1 (by intro u hu; rw [List.mem_singleton] at hu; subst hu; rfl) ?q2 ?q3 ?q4 ?_
          case q1 => exact cell_one_new _ _ _
          case q2 => unfold maxLen; omega
          case q3 => omega
          case q4 => rw [one_size]; have := HB4.out.size; omega
          intro v6 w6 ho6 hg6 hn6 hx6
          have HO6 := Lib.hid ho6; have HG6 := Lib.hid hg6; have HX6 := Lib.hid hx6
          clear ho6 hg6 hn6 hx6))
      go_roundw
      case rel =>
       have hkp : ∀ x ∈ ob (.slice (some ⟨gr, 0, none⟩) R.length vc), x < wr.heap.size → w6.heap[x]? = wr.heap[x]? := fun x hx hl => by
        rw [HG6.out.block x (by rw [one_size]; have := HB34.out.size; omega) (fun h => HDJ.out x hx (by unfold ob; rw [← h]; simp)), Below.heap_alloc _ _ x (Nat.lt_of_lt_of_le hl HB34.out.size), HB34.out.block x hl]
       refine ⟨i + 1, v6, by omega, by go_num, rfl, Lib.hid ?_, Lib.hid ?_, Lib.hid (rowS_kept HRW.out hkp), Lib.hid (fun x hx h => ?_)⟩
       · rw [HSX.out, List.length_append, List.map_append]; exact HO6.out
       · exact (HB4.out.alloc HB4.out.size _).grown HG6.out (by rw [one_size]; have := HB4.out.size; omega) (fun k hk => rowS_ge HOW.out k (by unfold ob; rw [hk]; simp))
       · rcases HX6.out with h6 | h6
         · exact HDJ.out x hx (by unfold ob at h ⊢; rw [← h6]; exact h)
         · unfold ob at h
           rw [h6, one_size] at h
           have h : x = w4.heap.size + 1 := by simpa using h
           have := rowS_lt HRW.out x hx; have := HB34.out.size
           omega
      case measure => simp [RowKit.intOf]; omega
  · obtain rfl : i = R.length := by omega
    obtain ⟨ua, uc, rfl⟩ := rowS_slice HOW.out
    have HFN : Hid (T.L.take R.length = T.L) := Lib.hid (List.take_of_length_le (by rw [HRL.out]; exact Nat.le_refl _))
    go_wp2
    go_ret2
    have := HOW.out
    rw [HFN.out] at this ⊢
    exact ⟨_, rfl, this, HB.out⟩
end Go.Proofs.YtnkapojbijbbaaaGreatDoor.Sr
