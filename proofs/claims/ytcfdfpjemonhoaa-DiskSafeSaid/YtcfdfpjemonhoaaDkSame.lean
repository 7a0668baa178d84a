/-
  The contract of the law's files: two lists of told files that are alike.
-/
import Derived.Test.YtcfdfpjemonhoaaDkDo
namespace Go.Proofs.Ytcfdfpjemonhoaa.Dk
open Go.RowKit Go.Maps Go.WideMaps

/-- A row of told files. -/
def TRow (w : World) (v : Value) (l : List Told) : Prop :=
  ∃ a cap, v = .slice a l.length cap ∧ (l ≠ [] → ∃ g, a = some ⟨g, 0, none⟩ ∧ g < w.heap.size ∧ ∀ (i : Nat) (t : Told), l[i]? = some t → w.cell? ⟨g, i * 3, none⟩ = some (.string ⟨t.1.toArray⟩) ∧ w.cell? ⟨g, i * 3 + 1, none⟩ = some (.string ⟨t.2.1.toArray⟩))

theorem told_cell : ∀ (l : List Told) (i : Nat) (t : Told), l[i]? = some t → (l.flatMap toldCells)[i * 3]? = some (.string ⟨t.1.toArray⟩) ∧ (l.flatMap toldCells)[i * 3 + 1]? = some (.string ⟨t.2.1.toArray⟩)
  | [], _, _, h => by simp at h
  | x :: r, 0, t, h => by
    simp at h; subst h
    exact ⟨rfl, rfl⟩
  | x :: r, i + 1, t, h => by
    rw [List.getElem?_cons_succ] at h
    have := told_cell r i t h
    have e1 : (i + 1) * 3 = i * 3 + 3 := by omega
    rw [List.flatMap_cons, e1]
    show (toldCells x ++ _)[i * 3 + 3]? = _ ∧ (toldCells x ++ _)[i * 3 + 3 + 1]? = _
    have hl : (toldCells x).length = 3 := rfl
    rw [List.getElem?_append_right (by omega), List.getElem?_append_right (by omega), hl]
    have e2 : i * 3 + 3 - 3 = i * 3 := by omega
    have e3 : i * 3 + 3 + 1 - 3 = i * 3 + 1 := by omega
    rw [e2, e3]
    exact this

theorem told_row {w : World} {B : Nat} {v : Value} {l : List Told} (h : w.ownsRow B 38 3 v l.length (l.flatMap toldCells)) : TRow w v l := by
  obtain ⟨h1, ⟨rfl, h2⟩ | ⟨g, cap, cur, rfl, hg, hh, _, _, _, ht⟩⟩ := h
  · refine ⟨none, 0, by rw [h2], fun hne => absurd (List.length_eq_zero_iff.1 h2) hne⟩
  · refine ⟨_, cap, rfl, fun _ => ⟨g, rfl, lt_of_heap hh, fun i t hi => ?_⟩⟩
    obtain ⟨c1, c2⟩ := told_cell l i t hi
    have hil : i < l.length := (List.getElem?_eq_some_iff.1 hi).1
    have hx : ∀ j, j < l.length * 3 → cur[j]? = (l.flatMap toldCells)[j]? := fun j hj => by
      have := congrArg (fun l => l[j]?) ht
      rw [List.getElem?_take_of_lt hj, Array.getElem?_toList] at this
      exact this
    rw [cell_of_heap hh, cell_of_heap hh, hx _ (by omega), hx _ (by omega)]
    exact ⟨c1, c2⟩
theorem TRow.below {w w' : World} {v : Value} {l : List Told} (h : TRow w v l) (hb : Below w.heap.size w w') : TRow w' v l := by
  obtain ⟨a, cap, rfl, hc⟩ := h
  refine ⟨a, cap, rfl, fun hne => ?_⟩
  obtain ⟨g, rfl, hg, hcell⟩ := hc hne
  refine ⟨g, rfl, Nat.lt_of_lt_of_le hg hb.size, fun i t hi => ?_⟩
  obtain ⟨c1, c2⟩ := hcell i t hi
  exact ⟨(hb.cell (p := ⟨g, i * 3, none⟩) hg).trans c1, (hb.cell (p := ⟨g, i * 3 + 1, none⟩) hg).trans c2⟩

/-- The same names and bytes. -/
def Same (l m : List Told) : Prop := l.length = m.length ∧ ∀ (i : Nat) (t u : Told), l[i]? = some t → m[i]? = some u → t.1 = u.1 ∧ t.2.1 = u.2.1

set_option maxHeartbeats 4000000 in
set_option maxRecDepth 100000 in
theorem files_yes (w : World) (v u : Value) (l m : List Told) (hl : TRow w v l) (hm : TRow w u m) (hs : Same l m) (hn : l.length ≤ 1000000) :
    Calls Try.prog 12 #[v, u] w fun e w' => e = .returned (.bool true) ∧ Below w.heap.size w w' := by
  obtain ⟨a, ca, rfl, hA⟩ := hl
  obtain ⟨b, cb, rfl, hB⟩ := hm
  obtain ⟨hlen, hsame⟩ := hs
  rw [← hlen]
  have HA := Lib.hid hA; have HB := Lib.hid hB; have HS := Lib.hid hsame; have HL := Lib.hid hlen
  clear hA hB hsame hlen
  go_enter Try.func12, Try.ntmps12
  go_wp2
  go_loopw [5] (fun s5 wr => ∃ k : Nat, k ≤ l.length ∧ s5 = .int .i64 k ∧ Below w.heap.size w wr) (fun s5 _ => l.length - (RowKit.intOf s5).toNat)
  case atStart => exact ⟨0, by omega, rfl, Below.refl _ _⟩
  case round =>
    obtain ⟨k, hk, rfl, hb⟩ := hrel
    by_cases hlt : k < l.length
    · obtain ⟨t, ht⟩ : ∃ t, l[k]? = some t := ⟨_, List.getElem?_eq_getElem hlt⟩
      obtain ⟨q, hq⟩ : ∃ q, m[k]? = some q := ⟨_, List.getElem?_eq_getElem (by rw [← HL.out]; exact hlt)⟩
      obtain ⟨g1, rfl, hg1, hc1⟩ := HA.out (List.ne_nil_of_mem (List.mem_of_getElem? ht))
      obtain ⟨g2, rfl, hg2, hc2⟩ := HB.out (List.ne_nil_of_mem (List.mem_of_getElem? hq))
      obtain ⟨e1, e2⟩ := HS.out k t q ht hq
      obtain ⟨x1, x2⟩ := hc1 k t ht
      obtain ⟨y1, y2⟩ := hc2 k q hq
      rw [← e1] at y1
      rw [← e2] at y2
      have a1 : wr.cell? ⟨g1, k * 3, none⟩ = some (.string ⟨t.1.toArray⟩) := (hb.cell (p := ⟨g1, k * 3, none⟩) hg1).trans x1
      have a2 : wr.cell? ⟨g1, k * 3 + 1, none⟩ = some (.string ⟨t.2.1.toArray⟩) := (hb.cell (p := ⟨g1, k * 3 + 1, none⟩) hg1).trans x2
      have a3 : wr.cell? ⟨g2, k * 3, none⟩ = some (.string ⟨t.1.toArray⟩) := (hb.cell (p := ⟨g2, k * 3, none⟩) hg2).trans y1
      have a4 : wr.cell? ⟨g2, k * 3 + 1, none⟩ = some (.string ⟨t.2.1.toArray⟩) := (hb.cell (p := ⟨g2, k * 3 + 1, none⟩) hg2).trans y2
      have hki : (k : Int) < (l.length : Int) := by omega
      have HBW := Lib.hid hb
      clear ht hq hc1 hc2 e1 e2 x1 x2 y1 y2 hb
      go_wp2
      go_quiet (fail)
      go_wp2
      go_roundw
      case measure => simp [RowKit.intOf]; omega
      case rel => exact ⟨k + 1, by omega, by go_num, HBW.out.trans ⟨rfl, rfl, rfl, Nat.le_refl _, fun _ _ => rfl⟩⟩
    · obtain rfl : k = l.length := by omega
      go_wp2
      go_ret
      exact ⟨rfl, hb⟩
end Go.Proofs.Ytcfdfpjemonhoaa.Dk
