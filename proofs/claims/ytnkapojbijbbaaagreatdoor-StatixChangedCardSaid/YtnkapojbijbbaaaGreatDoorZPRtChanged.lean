import Derived.Test.YtnkapojbijbbaaaGreatDoorZPRtFollows
import Derived.Test.YtnkapojbijbbaaaGreatDoorZPRtStat
import Derived.Test.YtnkapojbijbbaaaGreatDoorZPSrChanged
import Derived.Test.YtnkapojbijbbaaaGreatDoorZPStIn
import Derived.Test.YtnkapojbijbbaaaGreatDoorZPStRefFresh
set_option linter.unusedSimpArgs false
set_option linter.unusedVariables false
set_option maxHeartbeats 16000000
set_option maxRecDepth 100000
namespace Go.Proofs.YtnkapojbijbbaaaGreatDoor.Sr
open Go.RowKit Go.Maps Go.WideMaps Rf Go.Proofs.YtnkapojbijbbaaaGreatDoor.Nm St
theorem GoodF.stat {k : Nat} {F : Tr} (h : GoodF k F) {e : TE} (he : e ∈ F.L) (hg : getT e.nm F.L = some e) : statN (pathN e.nm) F.L = statT e F.L ∧ findE (pathN e.nm) F.L = 0 := by
 have hs := split_path (h.deep e he) (h.names e he)
 have h1 : splitE (pathN e.nm) = 0 := by rw [splitE, hs]; rfl
 have h2 : splitL (pathN e.nm) = e.nm := by rw [splitL, hs]; rfl
 constructor
 · rw [statN, findN, if_pos h1, h2, hg]
 · rw [findE, if_pos h1, h2, hg]; rfl
theorem path_lenF {k : Nat} {F : Tr} (h : GoodF k F) {e : TE} (he : e ∈ F.L) : (pathN e.nm).length ≤ 1000000 := by
 have h1 := pathOf_len (h.names e he)
 have h2 := h.deep e he
 rw [pathN]
 split
 · decide
 · omega
def RChgPost (w : World) (l : List (List UInt8)) (x : Ending) (w' : World) : Prop :=
 ∃ v, x = .returned v ∧ w'.ownsRow w.heap.size 9 1 v l.length (l.map sv) ∧ Below w.heap.size w w'
theorem freshFits {B : Nat} {w : World} {r : Nat} {v : Value} {L : List SE} (h : RefAt B w r v L) (p : List UInt8) (s : SE) : (freshX p s L).1.Fits := by
 rw [freshX]
 split
 · exact zero_fits
 · next x hx =>
   split
   · have := h.fitsGet p
     unfold getV at this; rw [hx] at this; exact this
   · exact zero_fits
theorem rchanged_any (BI : Nat) (w : World) (g : Nat) (vI : Value) (X : List SE) (hI : RefAt BI w g vI X) (B r : Nat) (v : Value) (R : List RN) (F : Tr) (k : Nat) (hT : Tabs w) (hg : GoodF k F) (hk : k ≤ 1000) (h : RTree B w r v R F) :
 Calls Tryz.prog 17 #[ptr g, ptr r] w (RChgPost w (chgL X F.L)) := by
 obtain ⟨i0, hi0, hz0, hz1, hz2⟩ := info_parts infoStr
 have hz3 : (Value.string ⟨#[]⟩).cells.size = 1 := by kernel_rfl
 have hlen : R.length ≤ 1000000 := by rw [h.len]; have := hg.len; omega
 have H := Lib.hid h; have HI := Lib.hid hI; have HT := Lib.hid hT; have HG := Lib.hid hg
 obtain ⟨va, vc, rfl⟩ := rowS_slice h.row
 unfold ptr at *
 clear h hI hT hg
 go_enter Tryz.func17, Tryz.ntmps17
 go_wp2_with fail
 go_loopw [5, 6] (fun v5 v6 wr => ∃ (i : Nat) (vo : Value), i ≤ R.length ∧ v6 = .int .i64 (i : Int) ∧ v5 = vo ∧ Hid (wr.ownsRow w.heap.size 9 1 vo (chgL X (F.L.take i)).length ((chgL X (F.L.take i)).map sv)) ∧ Hid (Below w.heap.size w wr)) (fun _ v6 _ => R.length - (RowKit.intOf v6).toNat)
 case atStart => exact ⟨0, _, Nat.zero_le _, rfl, rfl, Lib.hid (rowS_nil _ _ _ _), Lib.hid (Below.refl _ _)⟩
 case round =>
  obtain ⟨i, vo, hi, rfl, rfl, HOW, HB⟩ := hrel
  have hcl : (chgL X (F.L.take i)).length ≤ 1000000 := by
   have h1 := chgL_len X (F.L.take i); rw [List.length_take] at h1
   have h2 := HG.out.len; omega
  have HR := Lib.hid (H.out.below HB.out)
  have c0 : wr.cell? ⟨r, 0, none⟩ = some (.slice va R.length vc) := cell_of_heap HR.out.book
  by_cases hil : (i : Int) < (R.length : Int)
  · have hi2 : i < R.length := by omega
    obtain ⟨n, hn⟩ : ∃ n, R[i]? = some n := ⟨_, List.getElem?_eq_getElem hi2⟩
    have hei : F.L[i]? = some n.te := H.out.at_ hn
    have hem := List.mem_of_getElem? hei
    have hnm := List.mem_of_getElem? hn
    obtain ⟨gr, cap, hrv, hgr, _, _, hrc⟩ := rowS_form HR.out.row (by omega)
    injection hrv with e1 e2 e3
    subst e1 e3
    have HENT := Lib.hid (HR.out.ent hn)
    obtain ⟨P, hP⟩ : ∃ P, P = pathN n.nm := ⟨_, rfl⟩
    have HSN := Lib.hid (chgL_snoc (L := X) hei)
    have hgs := HG.out.stat hem (getT_of HG.out.srt hem)
    have hpl : P.length ≤ 1000000 := by rw [hP]; exact path_lenF HG.out hem
    have PA := rpath_any B wr n (HT.out.below HB.out) (HR.out.node n hnm).1 (HG.out.deep _ hem) (HG.out.names _ hem)
    obtain ⟨z, hz⟩ : ∃ z, z = sizeT n.te F.L := ⟨_, rfl⟩
    have STX : Hid (∀ w', Below w.heap.size w w' → Calls Tryz.prog 11 #[.pointer (some ⟨r, 0, none⟩), .string ⟨P.toArray⟩] w' fun e w'' => e = .returned (.tuple #[.agg #[.int .u8 (n.at_.node : Int), .int .i64 z, .int .u64 (n.ino : Int), .int .i64 n.tick], .int .i64 0]) ∧ Below w'.heap.size w' w'') := Lib.hid (fun w' hb => by
     have h1 := rstat_any B w' r _ R F k P (HT.out.below hb) (by omega) HG.out hk (H.out.below hb)
     rw [hP, show pathN n.nm = pathN n.te.nm from rfl, hgs.1, hgs.2] at h1
     rw [hP, hz]
     exact h1)
    have HST : Hid ((statT n.te F.L).stat = [.int .u8 (n.at_.node : Int), .int .i64 z, .int .u64 (n.ino : Int), .int .i64 n.tick]) := Lib.hid (by rw [hz]; rfl)
    have FRX : Hid (∀ w', Below w.heap.size w w' → Calls Tryz.prog 43 #[.pointer (some ⟨g, 0, none⟩), .string ⟨P.toArray⟩, .agg #[.int .u8 (n.at_.node : Int), .int .i64 z, .int .u64 (n.ino : Int), .int .i64 n.tick]] w' fun x w'' => x = .returned (.tuple #[enV (freshX P (statT n.te F.L) X).1, .bool (freshX P (statT n.te F.L) X).2]) ∧ Below w'.heap.size w' w'') := Lib.hid (fun w' hb => by
     have h1 := ref_fresh BI w' g vI X ⟨P.toArray⟩ (by show P.length ≤ _; unfold maxLen; omega) (statT n.te F.L) (HI.out.below hb)
     rw [show (⟨P.toArray⟩ : ByteArray).data.toList = P from by simp, HST.out] at h1
     exact h1)
    have HCB : Hid (chgB X n.te = (decide (n.at_.node = 1) && !(freshX P (statT n.te F.L) X).2)) := Lib.hid (by
     rw [chgB]
     by_cases h1 : n.at_.node = 1
     · have : statT n.te F.L = stF n.te := by
        rw [statT, stF, sizeT, if_pos (show n.te.at_.node = 1 from h1)]
       rw [this, hP]; rfl
     · rw [show decide (n.te.at_.node = 1) = false from decide_eq_false h1, decide_eq_false h1, Bool.false_and, Bool.false_and])
    have VOK := Lib.hid (SE.Fits.enR (freshFits HI.out P (statT n.te F.L)))
    rw [show pathN n.te.nm = P from hP.symm] at HSN
    rw [← hP] at PA
    have PA := Lib.hid PA
    generalize freshX P (statT n.te F.L) X = FX at *
    obtain ⟨V, fb⟩ := FX
    obtain ⟨ua, uc, rfl⟩ := rowS_slice HOW.out
    have HRN := Lib.hid (infoRn1 n)
    clear hei hem hnm hrc e2 hgs hn hP hz
    go_wp2_with (first
     | (refine wpList_load_mid rfl _ _ rfl gr (i * 11) rfl n.cells _ HENT.out Tryz.underlying86 rfl HRN.out ?_)
     | fail)
    refine PA.out.mono ?_
    rintro ex w1 ⟨rfl, hb1⟩
    have HB1 := Lib.hid (HB.out.trans (hb1.mono HB.out.size))
    have HW1 : Hid (Below wr.heap.size wr w1) := Lib.hid hb1
    clear hb1 PA
    go_wp2_with fail
    have ST1 := Lib.hid (STX.out w1 HB1.out)
    refine ST1.out.mono ?_
    rintro ex w2 ⟨rfl, hb2⟩
    have HB2 := Lib.hid (HB1.out.trans (hb2.mono HB1.out.size))
    have HW2 : Hid (Below wr.heap.size wr w2) := Lib.hid (HW1.out.trans (hb2.mono HW1.out.size))
    clear hb2 ST1 STX
    have hst4 : (#[Value.int .u8 (n.at_.node : Int), .int .i64 z, .int .u64 (n.ino : Int), .int .i64 n.tick] : Array Value).all (·.oneCell') = true := oneSt _ _ _ _ rfl rfl rfl rfl
    have HS4 := Lib.hid hst4
    clear hst4
    go_wp2_with (first
     | (refine Sh.wpList_store_new (by first | rfl | rw [one_size]) rfl 44 (.tmp 8) (.tmp 33) rfl #[.int .u8 (n.at_.node : Int), .int .i64 z, .int .u64 (n.ino : Int), .int .i64 n.tick] rfl rfl infoStR rfl HS4.out ?_
        intro w3 hq3 hb3 hs3
        have HB3 : Hid (Below w.heap.size w w3) := Lib.hid (HB2.out.trans (hb3.mono HB2.out.size))
        have HW3 : Hid (Below wr.heap.size wr w3) := Lib.hid (HW2.out.trans (hb3.mono HW2.out.size))
        have HQ3 := Lib.hid hq3
        clear hq3 hb3 hs3)
     | (refine Sh.wpList_load_at HQ3.out rfl 44 (.tmp 8) rfl rfl _ Tryz.underlying44 rfl infoStR ?_)
     | fail)
    have FR3 := Lib.hid (FRX.out w3 HB3.out)
    refine FR3.out.mono ?_
    rintro ex w4 ⟨rfl, hb4⟩
    have HB4 := Lib.hid (HB3.out.trans (hb4.mono HB3.out.size))
    have HW4 : Hid (Below wr.heap.size wr w4) := Lib.hid (HW3.out.trans (hb4.mono HW3.out.size))
    have HQ4 := Lib.hid ((hb4.block _ (lt_of_heap HQ3.out)).trans HQ3.out)
    clear hb4 FR3 FRX HQ3
    by_cases h1 : n.at_.node = 1
    case neg =>
     have hb : (((n.at_.node : Nat) : Int) == 1) = false := by rw [beq_eq_false_iff_ne]; omega
     have HSX : Hid (chgL X (F.L.take (i + 1)) = chgL X (F.L.take i)) := Lib.hid (by rw [HSN.out, HCB.out, decide_eq_false h1, Bool.false_and, if_neg (by decide), List.append_nil])
     clear h1 HCB HSN
     go_wp2_with (first
      | (refine wpList_store_new (by first | rfl | rw [one_size]) rfl _ _ _ rfl V.cells.toArray rfl rfl VOK.out.info VOK.out.z VOK.out.one ?_
         intro w5 hq5 hb5 hs5
         have HB5 : Hid (Below w.heap.size w w5) := Lib.hid (HB4.out.trans (hb5.mono HB4.out.size))
         have HW5 : Hid (Below wr.heap.size wr w5) := Lib.hid (HW4.out.trans (hb5.mono HW4.out.size))
         have hq := (hb5.block _ (lt_of_heap HQ4.out)).trans HQ4.out
         have g0 : w5.cell? ⟨w2.heap.size, 0, none⟩ = some (.int .u8 (n.at_.node : Int)) := cell_of_heap hq
         clear hq5 hb5 hs5 hq)
      | fail)
     go_roundw
     case rel => exact ⟨i + 1, _, by omega, by go_num, rfl, Lib.hid (by rw [HSX.out]; exact rowS_kept HOW.out (fun x _ hl => HW5.out.block x hl)), HB5⟩
     case measure => simp [RowKit.intOf]; omega
    have hb : (((n.at_.node : Nat) : Int) == 1) = true := by rw [beq_iff_eq]; omega
    have HCX : Hid (chgB X n.te = !fb) := Lib.hid (by rw [HCB.out, decide_eq_true h1, Bool.true_and])
    clear h1 HCB
    cases fb with
    | true =>
      have HSX : Hid (chgL X (F.L.take (i + 1)) = chgL X (F.L.take i)) := Lib.hid (by rw [HSN.out, HCX.out, if_neg (by decide), List.append_nil])
      clear HSN HCX
      go_wp2_with (first
       | (refine wpList_store_new (by first | rfl | rw [one_size]) rfl _ _ _ rfl V.cells.toArray rfl rfl VOK.out.info VOK.out.z VOK.out.one ?_
          intro w5 hq5 hb5 hs5
          have HB5 : Hid (Below w.heap.size w w5) := Lib.hid (HB4.out.trans (hb5.mono HB4.out.size))
          have HW5 : Hid (Below wr.heap.size wr w5) := Lib.hid (HW4.out.trans (hb5.mono HW4.out.size))
          have hq := (hb5.block _ (lt_of_heap HQ4.out)).trans HQ4.out
          have g0 : w5.cell? ⟨w2.heap.size, 0, none⟩ = some (.int .u8 (n.at_.node : Int)) := cell_of_heap hq
          clear hq5 hb5 hs5 hq)
       | fail)
      go_roundw
      case rel => exact ⟨i + 1, _, by omega, by go_num, rfl, Lib.hid (by rw [HSX.out]; exact rowS_kept HOW.out (fun x _ hl => HW5.out.block x hl)), HB5⟩
      case measure => simp [RowKit.intOf]; omega
    | false =>
      have HSX : Hid (chgL X (F.L.take (i + 1)) = chgL X (F.L.take i) ++ [P]) := Lib.hid (by rw [HSN.out, HCX.out, if_pos (by decide)])
      clear HSN HCX
      generalize chgL X (F.L.take i) = C at *
      go_wp2_with (first
       | (refine wpList_store_new (by first | rfl | rw [one_size]) rfl _ _ _ rfl V.cells.toArray rfl rfl VOK.out.info VOK.out.z VOK.out.one ?_
          intro w5 hq5 hb5 hs5
          have HB5 : Hid (Below w.heap.size w w5) := Lib.hid (HB4.out.trans (hb5.mono HB4.out.size))
          have HW5 : Hid (Below wr.heap.size wr w5) := Lib.hid (HW4.out.trans (hb5.mono HW4.out.size))
          have hq := (hb5.block _ (lt_of_heap HQ4.out)).trans HQ4.out
          have g0 : w5.cell? ⟨w2.heap.size, 0, none⟩ = some (.int .u8 (n.at_.node : Int)) := cell_of_heap hq
          clear hq5 hb5 hs5 hq)
       | (at_builtin
          refine wpList_append_own_at _ rfl _ _ 57 rfl w.heap.size 9 i0 _ 1 16 Tryz.underlying57 hi0 hz0 hz1 hz2 hz3 (by decide) (.slice ua C.length uc) C.length (C.map sv) rfl (rowS_kept HOW.out (fun x _ hl => (Below.heap_alloc _ _ x (Nat.lt_of_lt_of_le hl HW5.out.size)).trans (HW5.out.block x hl))) ⟨w5.heap.size, 0, none⟩ 1 1 [.string ⟨P.toArray⟩] rfl rfl ?q1 (by intro u hu; rw [List.mem_singleton] at hu; subst hu; rfl) ?q2 ?q3 ?q4 ?_
          case q1 => exact cell_one_new _ _ _
          case q2 => unfold maxLen; omega
          case q3 => omega
          case q4 => rw [one_size]; have := HB5.out.size; omega
          intro v6 w6 ho6 hg6 hn6 hx6
          have HO6 := Lib.hid ho6; have HG6 := Lib.hid hg6
          clear ho6 hg6 hn6 hx6))
      go_roundw
      case rel =>
       refine ⟨i + 1, v6, by omega, by go_num, rfl, Lib.hid ?_, Lib.hid ?_⟩
       · rw [HSX.out, List.length_append, List.map_append]; exact HO6.out
       · exact (HB5.out.alloc HB5.out.size _).grown HG6.out (by rw [one_size]; have := HB5.out.size; omega) (fun k hk => rowS_ge HOW.out k (by unfold ob; rw [hk]; simp))
      case measure => simp [RowKit.intOf]; omega
  · obtain rfl : i = R.length := by omega
    obtain ⟨ua, uc, rfl⟩ := rowS_slice HOW.out
    have HFN : Hid (F.L.take R.length = F.L) := Lib.hid (List.take_of_length_le (by rw [H.out.len]; exact Nat.le_refl _))
    go_wp2
    go_ret
    have := HOW.out
    rw [HFN.out] at this ⊢
    exact ⟨_, rfl, this, HB.out⟩
end Go.Proofs.YtnkapojbijbbaaaGreatDoor.Sr
