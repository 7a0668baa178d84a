import Derived.Test.YthcjjekkjbidlaaDoorZPStReg
set_option linter.unusedSimpArgs false
set_option linter.unusedVariables false
/-
  The contracts of Drop and Fresh.
-/
namespace Go.Proofs.YthcjjekkjbidlaaDoor.St
open Go.RowKit Go.Maps Go.WideMaps Go.Proofs.YthcjjekkjbidlaaDoor.Rf

theorem IndexAt.delete {B : Nat} {w w' : World} {g b : Nat} {L : List SE} (h : IndexAt B w g b L) {p : List UInt8} (hown : w'.ownsMap Tryd.prog 9 Rv b 1000000 ((toD enV (toZ L)).del (.string p))) (ht : Turn [b] w w') : IndexAt B w' g b (remL p L) := by
  rw [toD_del, toZ_del p h.srt] at hown
  have hs := remL_sub p L
  exact ⟨(ht.block _ h.lt_g (by simpa using h.gb)).trans h.book, hown, h.gb, h.baseg, h.baseb, remL_srt h.srt, fun x hx => h.fits x (hs.mem hx), Nat.le_trans hs.length_le h.len⟩

set_option maxHeartbeats 4000000 in
set_option maxRecDepth 100000 in
theorem drop_any (B : Nat) (w : World) (g b : Nat) (L : List SE) (S : ByteArray) (hS : S.size ≤ maxLen) (h : IndexAt B w g b L) :
    Calls Tryd.prog 31 #[ptr g, .string S] w fun e w' => e = .returned (.int .i64 (getE S.data.toList L)) ∧ IndexAt B w' g b (remL S.data.toList L) ∧ Turn [b] w w' := by
  have GT := Lib.hid (get_any B w g b L S hS h)
  have VOK := Lib.hid (h.fitsGet S.data.toList).en
  have H := Lib.hid h
  unfold ptr getE getV at *
  obtain ⟨V, hV⟩ : ∃ V, V = (getL S.data.toList L).getD zeroS := ⟨_, rfl⟩
  rw [← hV] at GT VOK
  clear hV h
  cases hg : getL S.data.toList L with
  | none =>
    rw [hg] at GT
    have HRN := Lib.hid (remL_none hg)
    clear hg
    go_enter Tryd.func31, Tryd.ntmps31
    go_wp2_with fail
    refine GT.out.mono ?_
    rintro e w1 ⟨rfl, hb1⟩
    have HB1 := Lib.hid hb1
    clear hb1 GT
    go_wp2_with (first
      | (refine wpList_store_new (by first | rfl | rw [one_size]) rfl _ _ _ rfl V.cells.toArray rfl rfl VOK.out.info VOK.out.z VOK.out.one ?_
         intro w2 hq2 hb2 hs2
         have HB2 := Lib.hid (HB1.out.trans (hb2.mono HB1.out.size))
         clear hq2 hb2 hs2))
    go_ret
    rw [HRN.out]
    exact ⟨rfl, H.out.below HB2.out, Turn.of_below HB2.out⟩
  | some en =>
    rw [hg] at GT
    clear hg
    go_enter Tryd.func31, Tryd.ntmps31
    go_wp2_with fail
    refine GT.out.mono ?_
    rintro e w1 ⟨rfl, hb1⟩
    have HB1 := Lib.hid hb1
    clear hb1 GT
    go_wp2_with (first
      | (refine wpList_store_new (by first | rfl | rw [one_size]) rfl _ _ _ rfl V.cells.toArray rfl rfl VOK.out.info VOK.out.z VOK.out.one ?_
         intro w2 hq2 hb2 hs2
         have HB2 := Lib.hid (HB1.out.trans (hb2.mono HB1.out.size))
         have H2 := Lib.hid (H.out.below HB2.out)
         have c2 : w2.cell? ⟨g, 0, none⟩ = some (.map (some b)) := cell_of_heap H2.out.book
         have HM := Lib.hid H2.out.map
         clear hq2 hb2 hs2)
      | (at_delete
         refine wpList_delete_own _ rfl _ _ 104 9 rfl 65 law Tryd.underlying104 _ b 1000000 _ rfl HM.out _ _ rfl (keyK S hS) ?_
         intro w3 hown3 hturn3
         have HO := Lib.hid hown3; have HT := Lib.hid hturn3
         clear hown3 hturn3))
    go_ret
    have t := HT.out.grown
    have hT : Turn [b] w2 w3 := ⟨t.os, t.tape, t.output, t.size, fun k hk hx => t.block k hk (by simpa using hx)⟩
    exact ⟨rfl, H2.out.delete HO.out hT, (Turn.of_below HB2.out : Turn [b] w w2).trans hT (fun y hy => .inl hy)⟩

end Go.Proofs.YthcjjekkjbidlaaDoor.St
