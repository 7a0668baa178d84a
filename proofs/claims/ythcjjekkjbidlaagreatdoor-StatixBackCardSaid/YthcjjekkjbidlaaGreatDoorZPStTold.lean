import Derived.Test.YthcjjekkjbidlaaGreatDoorZPStRefEncode
import Derived.Test.YthcjjekkjbidlaaGreatDoorZPStDec3
import Derived.Test.YthcjjekkjbidlaaGreatDoorZPStHeld
import Derived.Test.YthcjjekkjbidlaaGreatDoorZPStStrs
import Derived.Deep.QuietTactic
import Derived.BigQuiet
set_option linter.unusedSimpArgs false
set_option linter.unusedVariables false
/-
  All that an index tells is what the reference's says: the contract of told.
-/
namespace Go.Proofs.YthcjjekkjbidlaaGreatDoor.St
open Go.RowKit Go.Maps Go.WideMaps Go.Proofs.YthcjjekkjbidlaaGreatDoor.Rf Go.Proofs.YthcjjekkjbidlaaGreatDoor.Rd

/-- While the first list is compared, and written over. -/
structure ToldA (w : World) (xv yv : Value) (L : List SE) (i : Nat) (wr : World) : Prop where
  one : ∃ C : List SE, C.length = L.length ∧ (∀ j e, i ≤ j → L[j]? = some e → C[j]? = some e) ∧ (∀ e ∈ C, e.id.length = 32) ∧ wr.ownsRow w.heap.size 44 38 xv L.length (cellsS C)
  two : wr.ownsRow w.heap.size 44 38 yv L.length (cellsS L)
  dis : ∀ x ∈ ob xv, x ∉ ob yv
  be : Below w.heap.size w wr
structure ToldB (w : World) (xv yv : Value) (L : List SE) (m : Nat) (wr : World) : Prop where
  one : ∃ C : List SE, C.length = m ∧ wr.ownsRow w.heap.size 44 38 xv m (cellsS C)
  two : wr.ownsRow w.heap.size 44 38 yv L.length (cellsS L)
  dis : ∀ x ∈ ob xv, x ∉ ob yv
  be : Below w.heap.size w wr
theorem ToldA.below {w : World} {xv yv : Value} {L : List SE} {i : Nat} {wr w' : World} (h : ToldA w xv yv L i wr) (hb : Below wr.heap.size wr w') : ToldA w xv yv L i w' := by
  obtain ⟨C, c1, c2, c3, c4⟩ := h.one
  exact ⟨⟨C, c1, c2, c3, rowS_kept c4 (fun x _ hl => hb.block x hl)⟩, rowS_kept h.two (fun x _ hl => hb.block x hl), h.dis, h.be.trans (hb.mono h.be.size)⟩
theorem ToldB.below {w : World} {xv yv : Value} {L : List SE} {i : Nat} {wr w' : World} (h : ToldB w xv yv L i wr) (hb : Below wr.heap.size wr w') : ToldB w xv yv L i w' := by
  obtain ⟨C, c1, c4⟩ := h.one
  exact ⟨⟨C, c1, rowS_kept c4 (fun x _ hl => hb.block x hl)⟩, rowS_kept h.two (fun x _ hl => hb.block x hl), h.dis, h.be.trans (hb.mono h.be.size)⟩
theorem ToldA.set {w : World} {g cap : Nat} {yv : Value} {L : List SE} {i : Nat} {wr : World} (h : ToldA w (.slice (some ⟨g, 0, none⟩) L.length cap) yv L i wr) (hi : i < L.length) (e : SE) (he : e.id.length = 32) :
    wr.there g (i * 38) 38 ∧ ToldA w (.slice (some ⟨g, 0, none⟩) L.length cap) yv L (i + 1) (wr.setCells g (i * 38) e.cells) := by
  obtain ⟨C, c1, c2, c3, c4⟩ := h.one
  obtain ⟨r1, r2⟩ := row_set (i := i) (e := e) c4 c1.symm c3 (by omega) he
  have hT := turn_setCells wr g (i * 38) e.cells
  refine ⟨r2, ⟨⟨C.set i e, by simp [c1], fun j x hj hx => ?_, fun x hx => ?_, r1⟩, rowS_kept h.two (fun x hx hl => hT.block x hl (fun hy => ?_)), h.dis, h.be.trans (hT.below (fun x hx => ?_) h.be.size)⟩⟩
  · rw [List.getElem?_set_ne (by omega)]; exact c2 j x (by omega) hx
  · rcases List.mem_or_eq_of_mem_set hx with hx | rfl
    · exact c3 x hx
    · exact he
  · simp at hy; subst hy; exact h.dis _ (by simp [ob, Value.ownBlock]) hx
  · simp at hx; subst hx; exact rowS_ge c4 _ (by simp [ob, Value.ownBlock])

end Go.Proofs.YthcjjekkjbidlaaGreatDoor.St
