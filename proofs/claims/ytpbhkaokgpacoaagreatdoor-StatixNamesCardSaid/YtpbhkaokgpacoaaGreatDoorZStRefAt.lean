import Derived.Test.YtpbhkaokgpacoaaGreatDoorZStReg
import Derived.Test.YtpbhkaokgpacoaaGreatDoorZShKit
set_option linter.unusedSimpArgs false
set_option linter.unusedVariables false
/-
  How an index of the reference's lies in memory; the contract of its At.
-/
namespace Go.Proofs.YtpbhkaokgpacoaaGreatDoor.St
open Go.RowKit Go.Maps Go.WideMaps Go.Proofs.YtpbhkaokgpacoaaGreatDoor.Rf Go.Proofs.YtpbhkaokgpacoaaGreatDoor.Rd

structure RefAt (B : Nat) (w : World) (r : Nat) (v : Value) (L : List SE) : Prop where
  book : w.heap[r]? = some (.cells #[v] 29)
  row : w.ownsRow B 49 38 v L.length (cellsS L)
  off : ∀ x ∈ ob v, x ≠ r
  base : B ≤ r
  srt : Srt L
  fits : ∀ e ∈ L, e.Fits
  len : L.length ≤ 65536
theorem RefAt.lt {B : Nat} {w : World} {r : Nat} {v : Value} {L : List SE} (h : RefAt B w r v L) : r < w.heap.size := lt_of_heap h.book
theorem RefAt.kept {B : Nat} {w w' : World} {r : Nat} {v : Value} {L : List SE} (h : RefAt B w r v L) (hr : w'.heap[r]? = w.heap[r]?) (hv : ∀ x ∈ ob v, w'.heap[x]? = w.heap[x]?) : RefAt B w' r v L :=
  ⟨hr.trans h.book, rowS_kept h.row (fun x hx _ => hv x hx), h.off, h.base, h.srt, h.fits, h.len⟩
theorem RefAt.below {B : Nat} {w w' : World} {r : Nat} {v : Value} {L : List SE} (h : RefAt B w r v L) (hb : Below w.heap.size w w') : RefAt B w' r v L :=
  h.kept (hb.block _ h.lt) (fun x hx => hb.block _ (rowS_lt h.row x hx))
theorem RefAt.mono {B B' : Nat} {w : World} {r : Nat} {v : Value} {L : List SE} (h : RefAt B w r v L) (hB : B' ≤ B) : RefAt B' w r v L :=
  ⟨h.book, row_mono h.row hB, h.off, Nat.le_trans hB h.base, h.srt, h.fits, h.len⟩
theorem fitsId {L : List SE} (h : ∀ e ∈ L, e.Fits) : ∀ e ∈ L, e.id.length = 32 := fun e he => (h e he).id
/-- An entry's cells within the row. -/
theorem RefAt.ent {B : Nat} {w : World} {r g n cap : Nat} {L : List SE} (h : RefAt B w r (.slice (some ⟨g, 0, none⟩) n cap) L) {i : Nat} {e : SE} (he : L[i]? = some e) : w.rangeAt g (i * 38) e.cells := by
  obtain ⟨h1, ⟨hc, _⟩ | ⟨g', cap', cur, hv, a1, a2, a3, a4, a5, a6⟩⟩ := h.row
  · cases hc
  · injection hv with e1 e2 e3
    injection e1 with e1
    injection e1 with e1
    subst e1
    intro t u hu
    rw [cell_of_heap a2]
    have hk := cellsS_at (fitsId h.fits) he hu
    rw [← a6] at hk
    have hlt : i * 38 + t < L.length * 38 := by
      have := (List.getElem?_eq_some_iff.1 hk).1
      rw [List.length_take] at this
      omega
    rw [List.getElem?_take_of_lt hlt, Array.getElem?_toList] at hk
    exact hk
theorem RefAt.path {B : Nat} {w : World} {r g n cap : Nat} {L : List SE} (h : RefAt B w r (.slice (some ⟨g, 0, none⟩) n cap) L) {i : Nat} {e : SE} (he : L[i]? = some e) : w.cell? ⟨g, i * 38, none⟩ = some (.string ⟨e.path.toArray⟩) :=
  h.ent he 0 _ rfl

def thereL (p : List UInt8) (L : List SE) : Bool := (getL p L).isSome
theorem there_eq {p : List UInt8} {L : List SE} : thereL p L = (match L[atL p L]? with | some x => decide (x.path = p) | none => false) := by
  rw [thereL, getL_at]
  cases L[atL p L]? with
  | none => rfl
  | some x =>
    show (if x.path = p then some x else none).isSome = decide (x.path = p)
    split <;> simp [*]

theorem below_drewN (w : World) (n : Nat) : Below w.heap.size w (w.drewN n) := (Below.refl _ _).trans ⟨rfl, rfl, rfl, Nat.le_of_eq (by rw [World.heap_drewN]), fun _ _ => by rw [World.heap_drewN]⟩

set_option maxHeartbeats 4000000 in
set_option maxRecDepth 100000 in
theorem at_any (B : Nat) (w : World) (r : Nat) (v : Value) (L : List SE) (p : List UInt8) (hp : p.length ≤ maxLen) (h : RefAt B w r v L) :
    Calls Tryz.prog 41 #[ptr r, .string ⟨p.toArray⟩] w fun e w' => e = .returned (.tuple #[.int .i64 (atL p L : Int), .bool (thereL p L)]) ∧ Below w.heap.size w w' := by
  obtain ⟨va, vc, rfl⟩ := rowS_slice h.row
  have c0 : w.cell? ⟨r, 0, none⟩ = some (.slice va L.length vc) := cell_of_heap h.book
  have hrl := h.lt
  have hle := atL_le p L
  have hlt := atL_lt p L
  have hst := atL_stop p L
  have HTH := Lib.hid (there_eq (p := p) (L := L))
  have hlen : L.length ≤ maxLen := by have := h.len; unfold maxLen; omega
  unfold maxLen at hlen hp
  unfold ptr
  generalize atL p L = ia at *
  generalize thereL p L = TH at *
  go_enter Tryz.func41, Tryz.ntmps41
  go_wp2
  go_loopw [6] (fun vi wr => ∃ i : Nat, i ≤ ia ∧ vi = .int .i64 (i : Int) ∧ wr = w) (fun vi _ => L.length - (RowKit.intOf vi).toNat)
  case atStart => exact ⟨0, Nat.zero_le _, rfl, rfl⟩
  case round =>
    obtain ⟨i, hi, rfl, rfl⟩ := hrel
    by_cases hl : (i : Int) < (L.length : Int)
    · have hil : i < L.length := by omega
      obtain ⟨e, he⟩ : ∃ e, L[i]? = some e := ⟨_, List.getElem?_eq_getElem hil⟩
      obtain ⟨gv, cap, hv, hgv, _, _, _⟩ := rowS_form h.row (by omega)
      injection hv with e1 e2 e3
      subst e1 e3
      have cp := h.path he
      clear e2
      by_cases hs : i < ia
      · have hlp : Op.bytesLess e.path p = true := by rw [lt_less]; exact hlt i e hs he
        clear hlt hst hle
        go_wp2
        go_roundw
        case rel => exact ⟨i + 1, by omega, by simp, trivial⟩
        case measure => simp [RowKit.intOf]; omega
      · obtain rfl : i = ia := by omega
        have hlp : Op.bytesLess e.path p = false := by rw [lt_less]; exact hst e he
        have HT2 : Hid (TH = decide (e.path = p)) := Lib.hid (by rw [HTH.out, he])
        clear hlt hst hle HTH
        by_cases hpe : e.path = p
        · have hq : (e.path == p) = true := by simpa using hpe
          have HT3 : Hid (TH = true) := Lib.hid (by rw [HT2.out]; simpa using hpe)
          clear hpe
          go_wp2
          go_quiet (fail)
          go_wp2
          go_ret2
          rw [HT3.out]
          exact ⟨rfl, below_drewN _ _⟩
        · have hq : (e.path == p) = false := by simpa using hpe
          have HT3 : Hid (TH = false) := Lib.hid (by rw [HT2.out]; simpa using hpe)
          clear hpe
          go_wp2
          go_quiet (fail)
          go_wp2
          go_ret2
          rw [HT3.out]
          exact ⟨rfl, below_drewN _ _⟩
    · obtain rfl : i = ia := by omega
      have HT3 : Hid (TH = false) := Lib.hid (by rw [HTH.out, List.getElem?_eq_none (by omega)])
      obtain rfl : i = L.length := by omega
      clear hlt hst hle HTH hl hi
      go_wp2
      go_quiet (fail)
      go_wp2
      go_ret2
      rw [HT3.out]
      exact ⟨rfl, below_drewN _ _⟩
end Go.Proofs.YtpbhkaokgpacoaaGreatDoor.St
