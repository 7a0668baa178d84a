import Derived.Test.YtpbhkaokgpacoaaGreatDoorZStStrs
set_option linter.unusedSimpArgs false
set_option linter.unusedVariables false
/-
  The contract of the program's Keep.
-/
namespace Go.Proofs.YtpbhkaokgpacoaaGreatDoor.St
open Go.RowKit Go.Maps Go.WideMaps Go.Proofs.YtpbhkaokgpacoaaGreatDoor.Rf Go.Proofs.YtpbhkaokgpacoaaGreatDoor.Rd

abbrev MapS (w : World) (s : Nat) (S : List SE) : Prop := w.ownsMap Tryz.prog 9 Rv s 1000000 (toD enV (toZ S))
/-- An entry is put into a map that no index holds yet. -/
theorem map_put {w : World} {s : Nat} {S : List SE} (h : MapS w s S) (hs : Srt S) {e : SE} (he : e.Fits) (hl : (insL e S).length ≤ 1000000) :
    ∃ w', (Instr.mapUpdate 90 (.map (some s)) (.string ⟨e.path.toArray⟩) (enV e)).run Tryz.prog w = .ok () w' ∧ MapS w' s (insL e S) ∧ Turn [s] w w' := by
  obtain ⟨w', hrun, hown, ht⟩ := h.store law Tryz.underlying90 (by decide) (val := enV e) (keyK ⟨e.path.toArray⟩ (by show e.path.length ≤ _; have := he.path; unfold maxLen; omega)) rfl
  have t := ht.grown
  have hT : Turn [s] w w' := ⟨t.os, t.tape, t.output, t.size, fun k hk hx => t.block k hk (by simpa using hx)⟩
  refine ⟨w', hrun, ?_, hT⟩
  have e1 : (⟨e.path.toArray⟩ : ByteArray).data.toList = e.path := by simp
  rw [e1, toD_put enV (toZ S) e.path e, toZ_put hs] at hown
  exact map_tight hown (by rw [toZ_length]; exact hl)
/-- What Keep's loop has put together behind k paths. -/
def stayK (L : List SE) (ps : List (List UInt8)) (k : Nat) : List SE := stayL L (ps.take k) []
theorem stayL_snoc (L : List SE) (p : List UInt8) : ∀ (ps : List (List UInt8)) (S : List SE), stayL L (ps ++ [p]) S = (match getL p L with | none => stayL L ps S | some e => insL e (stayL L ps S))
  | [], S => by rw [List.nil_append, stayL, stayL, stayL]; cases getL p L <;> rfl
  | q :: ps, S => by rw [List.cons_append, stayL, stayL, stayL_snoc L p ps]
theorem stayK_succ (L : List SE) (ps : List (List UInt8)) (k : Nat) (p : List UInt8) (hp : ps[k]? = some p) : stayK L ps (k + 1) = (match getL p L with | none => stayK L ps k | some e => insL e (stayK L ps k)) := by
  have : ps.take (k + 1) = ps.take k ++ [p] := by rw [List.take_add_one, hp]; rfl
  rw [stayK, this, stayL_snoc]; rfl
theorem stayK_srt (L : List SE) (ps : List (List UInt8)) (k : Nat) : Srt (stayK L ps k) := stayL_srt List.Pairwise.nil
theorem stayK_eq {L : List SE} (h : Srt L) (ps : List (List UInt8)) (k : Nat) : stayK L ps k = keepL (ps.take k) L := stay_keep h _
theorem keepL_len (ps : List (List UInt8)) (L : List SE) : (keepL ps L).length ≤ L.length := (keepL_sub ps L).length_le

set_option maxHeartbeats 8000000 in
set_option maxRecDepth 100000 in
theorem keep_any (B : Nat) (w : World) (g b : Nat) (L : List SE) (v : Value) (ps : List (List UInt8)) (hv : StrsAt w v ps) (h : IndexAt B w g b L) :
    Calls Tryz.prog 16 #[ptr g, v] w fun e w' => ∃ b', e = .returned (.tuple #[.int .i64 ((L.length : Int) - ((keepL ps L).length : Int)), .int .i64 0]) ∧ IndexAt B w' g b' (keepL ps L) ∧ Turn [g] w w' ∧ w.heap.size ≤ b' := by
  obtain ⟨a, cap, rfl, hpl, hpm, hpc⟩ := hv
  have hmm := @run_makeMap Tryz.prog
  have H := Lib.hid h; have HPM := Lib.hid hpm; have HPC := Lib.hid hpc
  have hpl2 := hpl
  unfold maxLen at hpl2
  have hll := h.len
  have hgw : g < w.heap.size := h.lt_g
  clear h hpm hpc hpl
  unfold ptr
  go_enter Tryz.func16, Tryz.ntmps16
  go_wp2
  go_loopw [17] (fun v17 wr => ∃ k : Nat, k ≤ ps.length ∧ v17 = .int .i64 k ∧ Hid (MapS wr w.heap.size (stayK L ps k)) ∧ Hid (Below w.heap.size w wr)) (fun v17 _ => ps.length - (RowKit.intOf v17).toNat)
  case atStart =>
    refine ⟨0, by omega, rfl, Lib.hid ?_, Lib.hid ((Below.refl _ _).alloc (Nat.le_refl _) _)⟩
    exact map_tight (enc := enV) (m := toZ []) (World.ownsMap_made w Tryz.prog 9 Rv) (by decide)
  case round =>
    obtain ⟨k, hk, rfl, HM, HB⟩ := hrel
    have hlen1 := (H.out.below HB.out).map.len Tryz.underlying90
    have hlen2 := HM.out.len Tryz.underlying90
    simp only [toD_size, toZ_length] at hlen1 hlen2
    have c0 : wr.cell? ⟨g, 0, none⟩ = some (.map (some b)) := cell_of_heap (H.out.below HB.out).book
    by_cases hkl : (k : Int) < (ps.length : Int)
    · have hk2 : k < ps.length := by omega
      obtain ⟨p, hp⟩ : ∃ p, ps[k]? = some p := ⟨_, List.getElem?_eq_getElem hk2⟩
      obtain ⟨bp, op, rfl, hbp, hcp⟩ := HPC.out (fun e => by rw [e] at hk2; cases hk2)
      have cp : wr.cell? ⟨bp, op + k, none⟩ = some (.string ⟨p.toArray⟩) := (HB.out.cell (p := ⟨bp, op + k, none⟩) hbp).trans (hcp k p hp)
      have hpsz : (⟨p.toArray⟩ : ByteArray).size ≤ maxLen := HPM.out p (List.mem_of_getElem? hp)
      have HIX := Lib.hid (H.out.below HB.out)
      have HST := Lib.hid (stayK_succ L ps k p hp)
      have HSL : Hid ((stayK L ps k).length ≤ 65536) := Lib.hid (by rw [stayK_eq H.out.srt]; have := keepL_len (ps.take k) L; omega)
      clear hcp hp hlen1 hlen2
      cases hg : getL p L with
      | none =>
        have hlk : (getL (⟨p.toArray⟩ : ByteArray).data.toList L) = none := by rw [ba_data]; exact hg
        rw [hg] at HST
        have ZOK := Lib.hid zero_fits.en
        have HLK := Lib.hid hlk
        have HPZ := Lib.hid hpsz
        clear hg hlk hpsz
        go_wp2_with (first
          | (refine wpList_look HIX.out rfl _ _ rfl rfl ⟨p.toArray⟩ rfl HPZ.out ?_; rw [HLK.out]; dsimp only [Option.getD, Option.isSome])
          | (refine wpList_store_new (by first | rfl | rw [one_size]) rfl _ _ _ rfl zeroS.cells.toArray rfl rfl ZOK.out.info ZOK.out.z ZOK.out.one ?_
             intro w2 hq2 hb2 hs2
             have HB2 := Lib.hid hb2
             clear hq2 hb2 hs2))
        go_roundw
        case rel => exact ⟨k + 1, by omega, by go_num, Lib.hid (by rw [HST.out]; exact ownsMap_block HM.out (HB2.out.block _ HM.out.lt)), Lib.hid (HB.out.trans (HB2.out.mono HB.out.size))⟩
        case measure => simp [RowKit.intOf]; omega
      | some e =>
        obtain ⟨hpe, hem⟩ := getL_path hg
        subst hpe
        have hlk : (getL (⟨e.path.toArray⟩ : ByteArray).data.toList L) = some e := by rw [ba_data]; exact hg
        rw [hg] at HST
        have hfe := H.out.fits e hem
        have HFE := Lib.hid hfe
        have EOK := Lib.hid hfe.en
        have HLK := Lib.hid hlk
        have HPZ := Lib.hid hpsz
        clear hg hlk hem hpsz hfe
        go_wp2_with (first
          | (refine wpList_look HIX.out rfl _ _ rfl rfl ⟨e.path.toArray⟩ rfl HPZ.out ?_; rw [HLK.out]; dsimp only [Option.getD, Option.isSome])
          | (refine wpList_store_new (by first | rfl | rw [one_size]) rfl _ _ _ rfl e.cells.toArray rfl rfl EOK.out.info EOK.out.z EOK.out.one ?_
             intro w2 hq2 hb2 hs2
             have HB2 := Lib.hid hb2
             have hr2 : w2.rangeAt wr.heap.size 0 e.cells := range_block hq2
             have HR2 := Lib.hid hr2
             obtain ⟨w4, hrun4, h4, ht4⟩ := map_put (ownsMap_block HM.out (HB2.out.block _ HM.out.lt)) (stayK_srt L ps k) HFE.out (by have := insL_length_le e (stayK L ps k); have := HSL.out; omega)
             have H4 := Lib.hid h4; have HT4 := Lib.hid ht4
             clear hq2 hb2 hs2 hr2 h4 ht4)
          | (refine wpList_load_mid rfl _ _ rfl wr.heap.size 0 rfl e.cells _ HR2.out Tryz.underlying44 rfl EOK.out.infoL ?_))
        go_roundw
        case rel =>
          refine ⟨k + 1, by omega, by go_num, Lib.hid (by rw [HST.out]; exact H4.out), Lib.hid ?_⟩
          have hb := HB.out.trans (HB2.out.mono HB.out.size)
          exact hb.trans (HT4.out.below (by simp) hb.size)
        case measure => simp [RowKit.intOf]; omega
    · obtain rfl : k = ps.length := by omega
      have hSL : (stayK L ps ps.length).length ≤ 65536 := by rw [stayK_eq H.out.srt]; have := keepL_len (ps.take ps.length) L; omega
      have HKL : Hid (stayK L ps ps.length = keepL ps L) := Lib.hid (by rw [stayK_eq H.out.srt, List.take_length])
      generalize stayK L ps ps.length = S at *
      have c1 : wr.frozen? ⟨g, 0, none⟩ = false := frozen_of_heap (H.out.below HB.out).book
      go_wp2
      go_ret2
      have hgr : g < wr.heap.size := Nat.lt_of_lt_of_le hgw HB.out.size
      rw [← HKL.out]
      refine ⟨rfl, w.heap.size, ⟨?_, ?_, by omega, H.out.baseg, Nat.le_trans H.out.baseg (Nat.le_of_lt hgw), by rw [HKL.out]; exact keepL_srt H.out.srt, fun x hx => H.out.fits x (by rw [HKL.out] at hx; exact (keepL_sub ps L).mem hx), hSL⟩, ?_, Nat.le_refl _⟩
      · rw [setCell_heap _ _ _ _ _ _ (H.out.below HB.out).book]; rfl
      · exact ownsMap_block HM.out (Below.heap_setCell _ _ _ _ (by show w.heap.size ≠ g; omega))
      · exact (Turn.of_below HB.out : Turn [g] w wr).setCell (.inl (by simp)) _
end Go.Proofs.YtpbhkaokgpacoaaGreatDoor.St
