import Derived.Test.YtpbhkaokgpacoaaGreatDoorZStRDecBack
import Derived.Test.YtpbhkaokgpacoaaGreatDoorZStStrs
import Derived.Test.YtpbhkaokgpacoaaGreatDoorZStRefAt
import Derived.Test.YtpbhkaokgpacoaaGreatDoorZStKeep
import Derived.Deep.QuietTactic
import Derived.BigQuiet
set_option linter.unusedSimpArgs false
set_option linter.unusedVariables false
/-
  The contract of the reference's Keep.
-/
namespace Go.Proofs.YtpbhkaokgpacoaaGreatDoor.St
open Go.RowKit Go.Maps Go.WideMaps Go.Proofs.YtpbhkaokgpacoaaGreatDoor.Rf Go.Proofs.YtpbhkaokgpacoaaGreatDoor.Rd

/-- Is a path one of the first k? -/
def hasK (ps : List (List UInt8)) (k : Nat) (p : List UInt8) : Bool := (ps.take k).any fun q => q == p
theorem hasK_succ {ps : List (List UInt8)} {k : Nat} {q : List UInt8} (h : ps[k]? = some q) (p : List UInt8) : hasK ps (k + 1) p = (hasK ps k p || q == p) := by
  rw [hasK, List.take_add_one, h, List.any_append]; simp [hasK]
theorem hasK_all (ps : List (List UInt8)) (p : List UInt8) : hasK ps ps.length p = decide (p ∈ ps) := by
  rw [hasK, List.take_length, Bool.eq_iff_iff]
  simp
theorem keepL_snoc {ps : List (List UInt8)} {L : List SE} {i : Nat} {e : SE} (h : L[i]? = some e) : keepL ps (L.take (i + 1)) = keepL ps (L.take i) ++ (if hasK ps ps.length e.path then [e] else []) := by
  rw [List.take_add_one, h, keepL, List.filter_append, hasK_all]
  show _ = keepL ps (L.take i) ++ _
  rw [keepL]
  by_cases hp : e.path ∈ ps <;> simp [hp]
theorem cellsS_one_more (A : List SE) (e : SE) : cellsS A ++ e.cells = cellsS (A ++ [e]) := by
  rw [cellsS_append, cellsS_cons]; simp [cellsS]

set_option maxHeartbeats 8000000 in
set_option maxRecDepth 100000 in
theorem ref_keep (B : Nat) (w : World) (r : Nat) (v0 : Value) (L : List SE) (v : Value) (ps : List (List UInt8)) (hv : StrsAt w v ps) (h : RefAt B w r v0 L) :
    Calls Tryz.prog 17 #[ptr r, v] w (RxPost B w r v0 ((L.length : Int) - ((keepL ps L).length : Int)) (keepL ps L)) := by
  obtain ⟨pa, pcap, rfl, hpl, hpm, hpc⟩ := hv
  obtain ⟨va, vc, rfl⟩ := rowS_slice h.row
  have H := Lib.hid h; have HPC := Lib.hid hpc
  unfold maxLen at hpl
  have hll := h.len
  obtain ⟨i0, hi0, hz0, hz1, hz2⟩ := info_parts infoZR
  have hz3 : (enV zeroS).cells.size = 38 := by kernel_rfl
  have HFT := Lib.hid h.fits
  clear h hpm hpc
  unfold ptr
  go_enter Tryz.func17, Tryz.ntmps17
  go_wp2
  go_loopw [5, 6] (fun v5 v6 wr => ∃ i : Nat, i ≤ L.length ∧ v6 = .int .i64 i ∧ Hid (wr.ownsRow w.heap.size 49 38 v5 (keepL ps (L.take i)).length (cellsS (keepL ps (L.take i)))) ∧ Hid (Below w.heap.size w wr)) (fun _ v6 _ => L.length - (RowKit.intOf v6).toNat)
  case atStart => exact ⟨0, by omega, rfl, Lib.hid (rowS_nil _ _ _ _), Lib.hid (Below.refl _ _)⟩
  case round =>
    obtain ⟨i, hi, rfl, HR, HB⟩ := hrel
    have HX := Lib.hid (H.out.below HB.out)
    have c0 : wr.cell? ⟨r, 0, none⟩ = some (.slice va L.length vc) := cell_of_heap HX.out.book
    by_cases hil : (i : Int) < (L.length : Int)
    · have hi2 : i < L.length := by omega
      obtain ⟨e, he⟩ : ∃ e, L[i]? = some e := ⟨_, List.getElem?_eq_getElem hi2⟩
      obtain ⟨gv, cap, hv, hgv, _, _, _⟩ := rowS_form HX.out.row (by omega)
      injection hv with e1 e2 e3
      subst e1 e3
      have HFE := Lib.hid (HFT.out e (List.mem_of_getElem? he))
      have HKS := Lib.hid (keepL_snoc (ps := ps) he)
      have HE := Lib.hid he
      have HKL : Hid ((keepL ps (L.take i)).length ≤ 65536) := Lib.hid (by have := keepL_len ps (L.take i); rw [List.length_take] at this; omega)
      clear e2 he
      rename World => wo
      go_wp2
      go_loopw [7, 8] (fun v7 v8 wq => ∃ k : Nat, k ≤ ps.length ∧ v8 = .int .i64 k ∧ v7 = .bool (hasK ps k e.path) ∧ Hid (Below wo.heap.size wo wq)) (fun _ v8 _ => ps.length - (RowKit.intOf v8).toNat)
      case atStart => exact ⟨0, by omega, rfl, rfl, Lib.hid (Below.refl _ _)⟩
      case round =>
        obtain ⟨k, hk, rfl, rfl, HBQ⟩ := hrel
        have HXQ := Lib.hid (HX.out.below HBQ.out)
        have cq : wr.cell? ⟨r, 0, none⟩ = some (.slice (some ⟨gv, 0, none⟩) L.length vc) := cell_of_heap HXQ.out.book
        by_cases hkl : (k : Int) < (ps.length : Int)
        · have hk2 : k < ps.length := by omega
          obtain ⟨p, hp⟩ : ∃ p, ps[k]? = some p := ⟨_, List.getElem?_eq_getElem hk2⟩
          obtain ⟨bp, op, rfl, hbp, hcp⟩ := HPC.out (fun e => by rw [e] at hk2; cases hk2)
          have cp : wr.cell? ⟨bp, op + k, none⟩ = some (.string ⟨p.toArray⟩) := (World.cell?_of_block (a := ⟨bp, op + k, none⟩) ((HBQ.out.block _ (Nat.lt_of_lt_of_le hbp HB.out.size)).trans (HB.out.block _ hbp))).trans (hcp k p hp)
          have ce := HXQ.out.path HE.out
          have HHS := Lib.hid (hasK_succ hp e.path)
          clear hcp hp
          cases hh : hasK ps k e.path with
          | true =>
            have hdec : Hid (hasK ps (k + 1) e.path = true) := Lib.hid (by rw [HHS.out, hh]; rfl)
            clear hh
            go_wp2
            go_quiet (fail)
            go_wp2
            go_roundw
            case rel => exact ⟨k + 1, by omega, by go_num, by rw [hdec.out], Lib.hid (HBQ.out.trans ((below_drewN _ _).mono HBQ.out.size))⟩
            case measure => simp [RowKit.intOf]; omega
          | false =>
            have hdec : Hid (hasK ps (k + 1) e.path = (p == e.path)) := Lib.hid (by rw [HHS.out, hh]; rfl)
            clear hh
            cases hq : (p == e.path) with
            | true =>
              have hd2 : Hid (hasK ps (k + 1) e.path = true) := Lib.hid (by rw [hdec.out, hq])
              go_wp2
              go_quiet (fail)
              go_wp2
              go_roundw
              case rel => exact ⟨k + 1, by omega, by go_num, by rw [hd2.out], Lib.hid (HBQ.out.trans ((below_drewN _ _).mono HBQ.out.size))⟩
              case measure => simp [RowKit.intOf]; omega
            | false =>
              have hd2 : Hid (hasK ps (k + 1) e.path = false) := Lib.hid (by rw [hdec.out, hq])
              go_wp2
              go_quiet (fail)
              go_wp2
              go_roundw
              case rel => exact ⟨k + 1, by omega, by go_num, by rw [hd2.out], Lib.hid (HBQ.out.trans ((below_drewN _ _).mono HBQ.out.size))⟩
              case measure => simp [RowKit.intOf]; omega
        · obtain rfl : k = ps.length := by omega
          have HRQ := Lib.hid (rowS_kept HR.out (fun x _ hl => HBQ.out.block x hl))
          have HBW : Hid (Below w.heap.size w wr) := Lib.hid (HB.out.trans (HBQ.out.mono HB.out.size))
          have hent : wr.rangeAt gv (i * 38) e.cells := HXQ.out.ent HE.out
          have HENT := Lib.hid hent
          have HE38 : Hid (e.cells.length = 38) := Lib.hid (cells_size HFE.out.id)
          have EOK := Lib.hid HFE.out.enR
          clear hent
          cases hh : hasK ps ps.length e.path with
          | false =>
            have hks : Hid (keepL ps (L.take (i + 1)) = keepL ps (L.take i)) := Lib.hid (by rw [HKS.out, hh]; simp)
            clear hh
            go_wp2
            go_roundw
            case rel => exact ⟨i + 1, by omega, by go_num, by rw [hks.out]; exact HRQ, HBW⟩
            case measure => simp [RowKit.intOf]; omega
          | true =>
            have hks : Hid (keepL ps (L.take (i + 1)) = keepL ps (L.take i) ++ [e]) := Lib.hid (by rw [HKS.out, hh]; rfl)
            clear hh
            generalize keepL ps (L.take i) = S at *
            have hSl := HKL.out
            go_wp2_with (first
              | (refine wpList_load_mid rfl _ _ rfl gv (i * 38) rfl e.cells _ HENT.out Tryz.underlying49 rfl EOK.out.infoL ?_)
              | (refine wpList_one rfl 27 49 (.tmp 49) e.cells i0 _ rfl rfl Tryz.underlying27 hi0 hz0 hz1 HE38.out ?_
                 intro y w4 hh4 hg4 hy4 hs4
                 have HH4 := Lib.hid hh4; have HG4 := Lib.hid hg4; have HY4 := Lib.hid hy4; have HS4 := Lib.hid hs4
                 clear hh4 hg4 hy4 hs4)
              | (refine wpList_append38 rfl _ _ 27 rfl w.heap.size 49 i0 _ 88 Tryz.underlying27 hi0 hz0 hz1 hz2 hz3 u5 S.length (cellsS S) rfl (rowS_kept HRQ.out (fun x _ hl => HG4.out.block x hl (fun h => nomatch h))) _ 1 e.cells rfl HH4.out (by rw [HE38.out]) (cells_one e) (by unfold maxLen; omega) (by omega) (by have := HBW.out.size; have := HS4.out; omega) ?_
                 intro v5 w5 ho5 hg5 hv5
                 have HO5 := Lib.hid ho5; have HG5 := Lib.hid hg5; have HV5 := Lib.hid hv5
                 clear ho5 hg5 hv5))
            go_roundw
            case rel =>
              have hb4 : Below w.heap.size w w4 := HBW.out.grown HG4.out HBW.out.size (fun k hk => nomatch hk)
              refine ⟨i + 1, by omega, by go_num, Lib.hid ?_, Lib.hid ?_⟩
              · rw [hks.out, ← cellsS_one_more, List.length_append]; exact HO5.out
              · exact hb4.grown HG5.out hb4.size (fun x hx => rowS_ge HR.out x (by simp [ob, hx]))
            case measure => simp [RowKit.intOf]; omega
    · obtain rfl : i = L.length := by omega
      have HR2 := HR.out
      rw [List.take_length] at HR2
      obtain ⟨sa, sc, rfl⟩ := rowS_slice HR2
      have HRR := Lib.hid HR2
      have hkl := keepL_len ps L
      have c1 : wr.frozen? ⟨r, 0, none⟩ = false := frozen_of_heap HX.out.book
      have hs1 : Srt (keepL ps L) := keepL_srt H.out.srt
      have hs2 : ∀ e ∈ keepL ps L, e.Fits := fun x hx => H.out.fits x ((keepL_sub ps L).mem hx)
      have HS1 := Lib.hid hs1; have HS2 := Lib.hid hs2
      generalize keepL ps L = S at *
      clear hs1 hs2 HR2 HR
      go_wp2
      go_ret
      exact rxPost_new H.out HB.out rfl (Nat.le_refl _) HRR.out HS1.out HS2.out (by omega)
end Go.Proofs.YtpbhkaokgpacoaaGreatDoor.St
