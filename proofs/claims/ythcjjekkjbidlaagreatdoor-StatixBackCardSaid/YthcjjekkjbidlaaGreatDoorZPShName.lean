import Derived.Test.YthcjjekkjbidlaaGreatDoorZPShHex
set_option linter.unusedSimpArgs false
set_option linter.unusedVariables false
/-
  The contracts of a sum as digits, and of a file's name: the program's and the reference's.
-/
namespace Go.Proofs.YthcjjekkjbidlaaGreatDoor.Sh
open Go.RowKit Go.Maps Go.Proofs.YthcjjekkjbidlaaGreatDoor.Rf Go.Proofs.YthcjjekkjbidlaaGreatDoor.Rd Go.Proofs.YthcjjekkjbidlaaGreatDoor.St

set_option maxRecDepth 100000 in
theorem text_any (w : World) (l : List UInt8) (hl : l.length = 32) :
    Calls Tryz.prog 87 #[.agg (Lib.byteCells l).toArray] w fun e w' => e = .returned (.string ⟨(hexs l).toArray⟩) ∧ Below w.heap.size w w' := by
  have HX := Lib.hid (fun w => hex_any w l (by omega))
  have hcv := bc_conv (w := w.alloc (.cells (Lib.byteCells l).toArray 42)) (c := 32) hl.symm (at_new _ _)
  have HB := Lib.hid ((Below.refl w.heap.size w).alloc (Nat.le_refl _) (.cells (Lib.byteCells l).toArray 42))
  go_enter Tryz.func87, Tryz.ntmps87
  go_wp2_with fail
  refine (HX.out _).mono ?_
  rintro e w1 ⟨rfl, hb⟩
  have HB1 := Lib.hid (HB.out.trans (hb.mono HB.out.size))
  clear hb hcv
  go_wp2
  go_ret
  exact ⟨rfl, HB1.out⟩
/-- A file's name. -/
def nameL (s : List UInt8) : List UInt8 := [115, 116, 97, 116, 45] ++ hexs (Sh.sum s) ++ [46, 115, 120]

set_option maxRecDepth 100000 in
/-- The program's name. -/
theorem name_any (w : World) (s : List UInt8) (hs : s.length ≤ 140737488351232) :
    Calls Tryz.prog 39 #[.string ⟨s.toArray⟩] w fun e w' => e = .returned (.string ⟨(nameL s).toArray⟩) ∧ Below w.heap.size w w' := by
  have SU := Lib.hid (sumS_any w s hs)
  obtain ⟨l, hl⟩ : ∃ l, l = Sh.sum s := ⟨_, rfl⟩
  have hl32 : l.length = 32 := by rw [hl, sum_length]
  unfold sumV at SU
  rw [← hl] at SU
  have TX := Lib.hid (fun w => text_any w l hl32)
  obtain ⟨H, hH⟩ : ∃ H, H = hexs l := ⟨_, rfl⟩
  have hHl : H.length = 64 := by rw [hH, hexs_length, hl32]
  rw [← hH] at TX
  have h1 : 5 + H.length ≤ 9223372036854775807 := by omega
  have h2 : 5 + H.length + 3 ≤ 9223372036854775807 := by omega
  have HN : Hid ((⟨#[115, 116, 97, 116, 45]⟩ : ByteArray) ++ ⟨H.toArray⟩ ++ ⟨#[46, 115, 120]⟩ = ⟨(nameL s).toArray⟩) := Lib.hid (by
    rw [cat, cat, nameL, ← hl, ← hH])
  clear hl hH hl32 hHl
  go_enter Tryz.func39, Tryz.ntmps39
  go_wp2_with fail
  refine SU.out.mono ?_
  rintro e w1 ⟨rfl, hb1⟩
  have HB1 := Lib.hid hb1
  clear hb1 SU
  go_wp2_with fail
  refine (TX.out w1).mono ?_
  rintro e w2 ⟨rfl, hb2⟩
  have HB2 := Lib.hid (HB1.out.trans (hb2.mono HB1.out.size))
  clear hb2 TX HB1
  go_wp2
  go_ret
  rw [HN.out]
  exact ⟨rfl, HB2.out⟩

end Go.Proofs.YthcjjekkjbidlaaGreatDoor.Sh
