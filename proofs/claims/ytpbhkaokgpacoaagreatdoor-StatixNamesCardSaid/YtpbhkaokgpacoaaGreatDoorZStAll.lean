import Derived.Test.YtpbhkaokgpacoaaGreatDoorZStStrs
import Derived.Test.YtpbhkaokgpacoaaGreatDoorZStRefGet
import Derived.Test.YtpbhkaokgpacoaaGreatDoorZStSort
set_option linter.unusedSimpArgs false
set_option linter.unusedVariables false
/-
  The contract of the program's All.
-/
namespace Go.Proofs.YtpbhkaokgpacoaaGreatDoor.St
open Go.RowKit Go.Maps Go.WideMaps Go.Proofs.YtpbhkaokgpacoaaGreatDoor.Rf Go.Proofs.YtpbhkaokgpacoaaGreatDoor.Rd

theorem strKeys_toD {α : Type} (enc : α → Value) (m : MV α) : strKeys (toD enc m) = m.map (·.1) := by
  show (m.map fun p => ((Lit.string p.1, DataW.held (enc p.2)) : Lit × DataW Value)).map (fun p => strOf p.1) = _
  rw [List.map_map]; rfl
theorem keys_sorted {L : List SE} (hs : Srt L) {ss : List (List UInt8)} (h : ss.Perm (strKeys (toD enV (toZ L)))) : ss.mergeSort (fun x y => decide (x ≤ y)) = L.map (·.path) := by
  rw [strKeys_toD, toZ_keys] at h
  rw [mergeSort_of_perm h, srt_sort hs]
theorem ss_len {L : List SE} (hs : Srt L) {ss : List (List UInt8)} (h : ss.Perm (strKeys (toD enV (toZ L)))) : ss.length = L.length := by
  have e1 := congrArg List.length (keys_sorted hs h)
  rw [List.length_mergeSort, List.length_map] at e1; exact e1
/-- What All leaves. -/
def AllPost (w : World) (L : List SE) (e : Ending) (w' : World) : Prop :=
  ∃ v, e = .returned v ∧ w'.ownsRow w.heap.size 44 38 v L.length (cellsS L) ∧ Below w.heap.size w w'

set_option maxHeartbeats 8000000 in
set_option maxRecDepth 100000 in
theorem all_any (B : Nat) (w : World) (g b : Nat) (L : List SE) (h : IndexAt B w g b L) :
    Calls Tryz.prog 35 #[ptr g] w (AllPost w L) := by
  have c0 : w.cell? ⟨g, 0, none⟩ = some (.map (some b)) := cell_of_heap h.book
  have hll := h.len
  have hlen := h.map.len Tryz.underlying90
  simp only [toD_size, toZ_length] at hlen
  obtain ⟨i0, hi0, hz0, hz1, hz2⟩ := info_parts infoZ
  have hz3 : (enV zeroS).cells.size = 38 := by kernel_rfl
  obtain ⟨w1, hmk, ho1, hg1⟩ := run_make_own (P := Tryz.prog) w w.heap.size 81 44 i0 (enV zeroS) 38 Tryz.underlying81 hi0 hz0 hz1 .i64 .i64 L.length (by rw [hz2]; omega) (by unfold maxLen; omega) (Nat.le_refl _)
  have hb1 : Below w.heap.size w w1 := (Below.refl _ _).grown hg1 (Nat.le_refl _) (fun k hk => nomatch hk)
  have hw1 : w.heap.size < w1.heap.size := rowS_lt ho1 w.heap.size (by simp [ob, Value.ownBlock])
  have h1 := h.below hb1
  have c1 : w1.cell? ⟨g, 0, none⟩ = some (.map (some b)) := cell_of_heap h1.book
  have KE := Lib.hid (Tryz.keys (some b) w1)
  have SK := Lib.hid (Tryz.sortedKeys b 1000000 _ _ w1 h1.map (by rw [toD_size, toZ_length]; unfold maxLen; omega) (by rw [toD_size, toZ_length]; omega))
  have H := Lib.hid h; have HB1 := Lib.hid hb1; have HO1 := Lib.hid ho1; have HW1 := Lib.hid hw1
  have HFT := Lib.hid h.fits
  clear h h1 hb1 ho1 hg1 hw1
  unfold ptr
  go_enter Tryz.func35, Tryz.ntmps35
  go_wp2_with (first
    | (go_at_call 67; refine KE.out.mono ?_; rintro e w2 ⟨rfl, rfl⟩)
    | (go_at_call 66; refine SK.out.mono ?_; rintro e w3 ⟨nv, ss, rfl, hp, ho, _, hb⟩; rw [keys_sorted H.out.srt hp, ss_len H.out.srt hp] at ho; obtain ⟨na, nc, rfl⟩ := rowS_slice ho; have HO := Lib.hid ho; have HB := Lib.hid hb; clear hp ho hb))
  have HB3 : Hid (Below w.heap.size w w3) := Lib.hid ((HB1.out.alloc HB1.out.size _).trans (HB.out.mono (by rw [one_size]; have := HW1.out; omega)))
  have HO3 : Hid (w3.ownsRow w.heap.size 44 38 (.slice (some ⟨w.heap.size, 0, none⟩) 0 L.length) 0 []) := Lib.hid (rowS_kept HO1.out (fun x hx hl => (HB.out.block x (by rw [one_size]; omega)).trans (Below.heap_alloc _ _ _ hl)))
  have HN : Hid (∀ q, (.slice na L.length nc : Value).ownBlock = some q → w1.heap.size < q) := Lib.hid (fun q hq => by have := rowS_ge HO.out q (by simp [ob, hq]); rw [one_size] at this; omega)
  have HNM := Lib.hid (row_mono HO.out (Nat.zero_le _))
  clear SK KE hmk HO HB HO1 hlen c0 c1
  go_loopw [3, 21] (fun v3 v21 wr => ∃ k : Nat, k ≤ L.length ∧ v21 = .int .i64 k ∧ Hid (wr.ownsRow w.heap.size 44 38 v3 k (cellsS (L.take k))) ∧ Hid (Below w.heap.size w wr) ∧ Hid (wr.ownsRow 0 9 1 (.slice na L.length nc) L.length ((L.map (·.path)).map encStr)) ∧ Hid (∀ q r, v3.ownBlock = some q → (.slice na L.length nc : Value).ownBlock = some r → q ≠ r)) (fun _ v21 _ => L.length - (RowKit.intOf v21).toNat)
  case atStart => exact ⟨0, by omega, rfl, HO3, HB3, HNM, Lib.hid (fun q r hq hr => by have := HN.out r hr; have hq : some w.heap.size = some q := hq; injection hq with hq; have := HB1.out.size; omega)⟩
  case round =>
    obtain ⟨k, hk, rfl, HR, HBR, HNR, HD⟩ := hrel
    by_cases hkl : (k : Int) < (L.length : Int)
    · have hk2 : k < L.length := by omega
      obtain ⟨e, he⟩ : ∃ e, L[k]? = some e := ⟨_, List.getElem?_eq_getElem hk2⟩
      have hem := List.mem_of_getElem? he
      obtain ⟨gn, cap, hnv, hgn, _, _, hcell⟩ := rowS_form HNR.out (by omega)
      injection hnv with e1 e2 e3
      subst e1 e3
      have cn : wr.cell? ⟨gn, k, none⟩ = some (.string ⟨e.path.toArray⟩) := hcell k _ (by rw [List.getElem?_map, List.getElem?_map, he]; rfl)
      have HIX := Lib.hid (H.out.below HBR.out)
      have cg : wr.cell? ⟨g, 0, none⟩ = some (.map (some b)) := cell_of_heap HIX.out.book
      have hpl := (HFT.out e hem).path
      have hlk : (getL (⟨e.path.toArray⟩ : ByteArray).data.toList L) = some e := by rw [ba_data]; exact getL_mem H.out.srt hem
      have HLK := Lib.hid hlk
      have HPZ : Hid ((⟨e.path.toArray⟩ : ByteArray).size ≤ maxLen) := Lib.hid (by show e.path.length ≤ _; unfold maxLen; omega)
      have HE38 : Hid (e.cells.length = 38) := Lib.hid (cells_size (HFT.out e hem).id)
      have HTK := Lib.hid (take_cells he)
      clear hlk hcell hem he hpl
      go_wp2_with (first
        | (refine wpList_look1 HIX.out rfl _ _ rfl rfl ⟨e.path.toArray⟩ rfl HPZ.out ?_; rw [HLK.out]; dsimp only [Option.getD])
        | (refine wpList_one rfl 81 44 (.tmp 31) e.cells i0 _ rfl rfl Tryz.underlying81 hi0 hz0 hz1 HE38.out ?_
           intro y w4 hh4 hg4 hy4 hs4
           have HH4 := Lib.hid hh4; have HG4 := Lib.hid hg4; have HY4 := Lib.hid hy4; have HS4 := Lib.hid hs4
           clear hh4 hg4 hy4 hs4)
        | (refine wpList_append38 rfl _ _ 81 rfl w.heap.size 44 i0 _ 88 Tryz.underlying81 hi0 hz0 hz1 hz2 hz3 u3 k (cellsS (L.take k)) rfl (rowS_kept HR.out (fun x _ hl => HG4.out.block x hl (fun h => nomatch h))) _ 1 e.cells rfl HH4.out (by rw [HE38.out]) (cells_one e) (by unfold maxLen; omega) (by omega) (by have := HBR.out.size; have := HS4.out; omega) ?_
           intro v5 w5 ho5 hg5 hv5
           have HO5 := Lib.hid ho5; have HG5 := Lib.hid hg5; have HV5 := Lib.hid hv5
           clear ho5 hg5 hv5))
      go_roundw
      case rel =>
        have hb4 : Below w.heap.size w w4 := HBR.out.grown HG4.out HBR.out.size (fun k hk => nomatch hk)
        refine ⟨k + 1, by omega, by go_num, Lib.hid ?_, Lib.hid ?_, Lib.hid ?_, Lib.hid ?_⟩
        · rw [← HTK.out]; exact HO5.out
        · exact hb4.grown HG5.out hb4.size (fun x hx => rowS_ge HR.out x (by simp [ob, hx]))
        · refine rowS_kept (rowS_kept HNR.out (fun x _ hl => HG4.out.block x hl (fun h => nomatch h))) (fun x hx hl => HG5.out.block x hl (fun h => ?_))
          have hx1 : x = gn := by simpa [ob, Value.ownBlock] using hx
          have hx : some gn = some x := congrArg some hx1.symm
          exact HD.out x x h.symm hx rfl
        · intro q r hq hr
          rcases HV5.out with hv | hv
          · exact HD.out q r (hv ▸ hq) hr
          · rw [hq] at hv; injection hv with hv
            have hr : some gn = some r := hr
            injection hr with hr
            have := HG4.out.size
            omega
      case measure => simp [RowKit.intOf]; omega
    · obtain rfl : k = L.length := by omega
      have HR2 := HR.out
      rw [List.take_length] at HR2
      go_wp2
      go_ret
      exact ⟨_, rfl, HR2, HBR.out⟩
end Go.Proofs.YtpbhkaokgpacoaaGreatDoor.St
