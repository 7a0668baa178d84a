import Derived.Test.YtkeegnhjemhblaaGreatDoorZPRfFixed
import Derived.Test.YtkeegnhjemhblaaGreatDoorZPRbPlain
import Derived.Test.YtkeegnhjemhblaaGreatDoorZPRfBook
set_option linter.unusedSimpArgs false
set_option linter.unusedVariables false
/-
  How a book of the reference's lies in memory.
-/
namespace Go.Proofs.YtkeegnhjemhblaaGreatDoor.Rb
open Go.RowKit Go.Maps Go.WideMaps Go.Proofs.YtkeegnhjemhblaaGreatDoor.Rf

abbrev BrT : TypeId := 113
abbrev RbT : TypeId := 36
abbrev EnT : TypeId := 89
/-- The cells of a row of branches. -/
def brC (p : List UInt8 × (Value × List En)) : List Value := [.string ⟨p.1.toArray⟩, p.2.1]
def bcells (Z : BM) : List Value := Z.flatMap brC
theorem bcells_append (A B : BM) : bcells (A ++ B) = bcells A ++ bcells B := by rw [bcells, List.flatMap_append]; rfl
theorem bcells_length : ∀ Z : BM, (bcells Z).length = Z.length * 2
  | [] => rfl
  | p :: r => by
    rw [bcells, List.flatMap_cons, List.length_append, ← bcells, bcells_length r, List.length_cons]
    show 2 + _ = _; omega
theorem bcells_at {Z : BM} {i : Nat} {p} (hi : Z[i]? = some p) : (bcells Z)[i * 2]? = some (.string ⟨p.1.toArray⟩) ∧ (bcells Z)[i * 2 + 1]? = some p.2.1 := by
  obtain ⟨hil, rfl⟩ := List.getElem?_eq_some_iff.1 hi
  have e1 : Z = Z.take i ++ (Z[i] :: Z.drop (i + 1)) := by rw [← List.drop_eq_getElem_cons hil, List.take_append_drop]
  have e2 : bcells Z = bcells (Z.take i) ++ (brC Z[i] ++ bcells (Z.drop (i + 1))) := by
    conv => lhs; rw [e1]
    rw [bcells_append]; rfl
  have hl : (bcells (Z.take i)).length = i * 2 := by rw [bcells_length, List.length_take, Nat.min_eq_left (by omega)]
  rw [e2]
  refine ⟨?_, ?_⟩
  · rw [List.getElem?_append_right (by omega), hl, Nat.sub_self]; rfl
  · rw [List.getElem?_append_right (by omega), hl, show i * 2 + 1 - i * 2 = 1 by omega]; rfl
theorem bcells_take (Z : BM) (i : Nat) : (bcells Z).take (i * 2) = bcells (Z.take i) := by
  by_cases h : i ≤ Z.length
  · have e1 : bcells Z = bcells (Z.take i) ++ bcells (Z.drop i) := by rw [← bcells_append, List.take_append_drop]
    rw [e1, List.take_left' (by rw [bcells_length, List.length_take, Nat.min_eq_left h])]
  · rw [List.take_of_length_le (by rw [bcells_length]; omega), List.take_of_length_le (by omega)]
theorem bcells_drop (Z : BM) (i : Nat) : (bcells Z).drop (i * 2) = bcells (Z.drop i) := by
  by_cases h : i ≤ Z.length
  · have e1 : bcells Z = bcells (Z.take i) ++ bcells (Z.drop i) := by rw [← bcells_append, List.take_append_drop]
    rw [e1, List.drop_left' (by rw [bcells_length, List.length_take, Nat.min_eq_left h])]
  · rw [List.drop_eq_nil_of_le (by rw [bcells_length]; omega), List.drop_eq_nil_of_le (by omega)]; rfl

/-- Blocks of the entries' rows. -/
def enB (Z : BM) : List Nat := Z.flatMap fun p => ob p.2.1
/-- All blocks of a book of the reference's. -/
def rbB (r : Nat) (v : Value) (Z : BM) : List Nat := r :: (ob v ++ enB Z)
structure RBk (B : Nat) (w : World) (r : Nat) (v : Value) (Z : BM) : Prop where
  book : w.heap[r]? = some (.cells #[v] RbT)
  row : w.ownsRow B BrT 2 v Z.length (bcells Z)
  each : ∀ p ∈ Z, w.ownsRow B EnT 33 p.2.1 p.2.2.length (cellsL p.2.2)
  offv : r ∉ ob v
  offe : r ∉ enB Z
  offx : ∀ x ∈ ob v, x ∉ enB Z
  base : B ≤ r
  srt : SrtM Z
theorem row_cell {B : Nat} {w : World} {g n cap : Nat} {T : TypeId} {s : Nat} {xs : List Value} (h : w.ownsRow B T s (.slice (some ⟨g, 0, none⟩) n cap) n xs) {k : Nat} (hk : k < n * s) (u : Value) :
    (w.setCell ⟨g, k, none⟩ u).ownsRow B T s (.slice (some ⟨g, 0, none⟩) n cap) n (xs.set k u) ∧ w.frozen? ⟨g, k, none⟩ = false ∧ ∃ x, w.cell? ⟨g, k, none⟩ = some x := by
  obtain ⟨h1, ⟨hc, _⟩ | ⟨g', cap', cur, hv, a1, a2, a3, a4, a5, a6⟩⟩ := h
  · cases hc
  · injection hv with e1 e2 e3
    injection e1 with e1
    injection e1 with e1
    subst e1 e3
    refine ⟨⟨by rw [List.length_set]; exact h1, .inr ⟨g, cap, cur.setIfInBounds k u, rfl, a1, setCell_heap _ _ _ _ _ _ a2, a3, a4, by rw [Array.size_setIfInBounds]; exact a5, ?_⟩⟩, frozen_of_heap a2, ?_⟩
    · rw [Array.toList_setIfInBounds, List.take_set, a6]
    · have hs : k < cur.size := by rw [a5]; exact Nat.lt_of_lt_of_le hk (Nat.mul_le_mul_right _ a3)
      exact ⟨cur[k], by rw [cell_of_heap a2]; exact Array.getElem?_eq_getElem hs⟩
theorem enB_mem {Z : BM} {p} {b : Nat} (hp : p ∈ Z) (hb : b ∈ ob p.2.1) : b ∈ enB Z := List.mem_flatMap.2 ⟨p, hp, hb⟩
theorem rbB_cases {r b : Nat} {v : Value} {Z : BM} (h : b ∈ rbB r v Z) : b = r ∨ b ∈ ob v ∨ ∃ p ∈ Z, b ∈ ob p.2.1 := by
  rw [rbB, List.mem_cons, List.mem_append] at h
  exact h.imp id (fun h => h.imp id (fun h => List.mem_flatMap.1 h))
theorem rbB_r {r : Nat} {v : Value} {Z : BM} : r ∈ rbB r v Z := List.mem_cons_self ..
theorem rbB_v {r b : Nat} {v : Value} {Z : BM} (h : b ∈ ob v) : b ∈ rbB r v Z := List.mem_cons_of_mem _ (List.mem_append_left _ h)
theorem rbB_e {r b : Nat} {v : Value} {Z : BM} {p} (hp : p ∈ Z) (h : b ∈ ob p.2.1) : b ∈ rbB r v Z := List.mem_cons_of_mem _ (List.mem_append_right _ (enB_mem hp h))
section
variable {B : Nat} {w w' : World} {r : Nat} {v : Value} {Z : BM}
theorem RBk.lt (h : RBk B w r v Z) : ∀ b ∈ rbB r v Z, b < w.heap.size := by
  intro b hb
  rcases rbB_cases hb with rfl | hb | ⟨p, hp, hb⟩
  · exact lt_of_heap h.book
  · exact rowS_lt h.row b hb
  · exact rowS_lt (h.each p hp) b hb
theorem RBk.ge (h : RBk B w r v Z) : ∀ b ∈ rbB r v Z, B ≤ b := by
  intro b hb
  rcases rbB_cases hb with rfl | hb | ⟨p, hp, hb⟩
  · exact h.base
  · exact rowS_ge h.row b hb
  · exact rowS_ge (h.each p hp) b hb
theorem RBk.kept (h : RBk B w r v Z) (hb : ∀ b ∈ rbB r v Z, w'.heap[b]? = w.heap[b]?) : RBk B w' r v Z :=
  ⟨(hb r rbB_r).trans h.book, rowS_kept h.row (fun b hx _ => hb b (rbB_v hx)), fun p hp => rowS_kept (h.each p hp) (fun b hx _ => hb b (rbB_e hp hx)), h.offv, h.offe, h.offx, h.base, h.srt⟩
theorem RBk.below (h : RBk B w r v Z) (hb : Below w.heap.size w w') : RBk B w' r v Z := h.kept (fun b hx => hb.block b (h.lt b hx))
theorem RBk.mono {B' : Nat} (h : RBk B w r v Z) (hB : B' ≤ B) : RBk B' w r v Z :=
  ⟨h.book, row_mono h.row hB, fun p hp => row_mono (h.each p hp) hB, h.offv, h.offe, h.offx, Nat.le_trans hB h.base, h.srt⟩
theorem RBk.size (h : RBk B w r v Z) : B ≤ w.heap.size := Nat.le_trans h.base (Nat.le_of_lt (lt_of_heap h.book))
theorem RBk.ones (h : RBk B w r v Z) : ∀ p ∈ Z, p.2.1.oneCell' = true := fun p hp => by
  obtain ⟨_, ⟨e, _⟩ | ⟨_, _, _, e, _⟩⟩ := h.each p hp <;> (rw [e]; rfl)
/-- A book with another row of branches. -/
theorem RBk.put {v' : Value} {Z' : BM} {w1 : World} {n0 : Nat} (h : RBk B w r v Z) (hb : Below w.heap.size w w1) (ho : w1.ownsRow w.heap.size BrT 2 v' Z'.length (bcells Z')) (hn0 : n0 ≤ w.heap.size)
    (he : ∀ p ∈ Z', p ∈ Z ∨ (w.ownsRow B EnT 33 p.2.1 p.2.2.length (cellsL p.2.2) ∧ r ∉ ob p.2.1 ∧ ∀ b ∈ ob p.2.1, n0 ≤ b)) (hs : SrtM Z') :
    RBk B (w1.setCell ⟨r, 0, none⟩ v') r v' Z' ∧ Turn [r] w (w1.setCell ⟨r, 0, none⟩ v') ∧ (∀ b ∈ rbB r v' Z', b ∈ rbB r v Z ∨ n0 ≤ b) ∧ ∀ b ∈ ob v', n0 ≤ b := by
  have hr := lt_of_heap h.book
  have hsz := h.size
  have hq := (hb.block r hr).trans h.book
  have hg := rowS_ge ho
  have hel : ∀ p ∈ Z', ∀ b ∈ ob p.2.1, b < w.heap.size := fun p hp => by
    rcases he p hp with h1 | h1
    · exact rowS_lt (h.each p h1)
    · exact rowS_lt h1.1
  have far : ∀ p ∈ Z', r ∉ ob p.2.1 := fun p hp hc => by
    rcases he p hp with h1 | h1
    · exact h.offe (enB_mem h1 hc)
    · exact h1.2.1 hc
  refine ⟨⟨setCell_heap _ _ _ _ _ _ hq, ?_, fun p hp => ?_, fun hc => by have := hg r hc; omega, fun hc => ?_, fun x hx hc => ?_, h.base, hs⟩, (Turn.of_below hb).setCell (p := ⟨r, 0, none⟩) (.inl (List.mem_singleton.2 rfl)) v', fun b hx => ?_, fun b hx => Nat.le_trans hn0 (hg b hx)⟩
  · exact rowS_kept (row_mono ho hsz) (fun b hx _ => Below.heap_setCell _ _ _ _ (by have := hg b hx; show b ≠ r; omega))
  · have hne : ∀ b ∈ ob p.2.1, b ≠ r := fun b hx e => far p hp (e ▸ hx)
    have hrow : w.ownsRow B EnT 33 p.2.1 p.2.2.length (cellsL p.2.2) := by
      rcases he p hp with h1 | h1
      · exact h.each p h1
      · exact h1.1
    exact rowS_kept (rowS_kept hrow (fun b _ hl => hb.block b hl)) (fun b hx _ => Below.heap_setCell _ _ _ _ (hne b hx))
  · obtain ⟨p, hp, hc⟩ := List.mem_flatMap.1 hc
    exact far p hp hc
  · obtain ⟨p, hp, hc⟩ := List.mem_flatMap.1 hc
    have h1 := hg x hx; have h2 := hel p hp x hc
    omega
  · rcases rbB_cases hx with rfl | hx | ⟨p, hp, hx⟩
    · exact .inl rbB_r
    · exact .inr (Nat.le_trans hn0 (hg b hx))
    · rcases he p hp with h1 | h1
      · exact .inl (rbB_e h1 hx)
      · exact .inr (h1.2.2 b hx)
theorem bcells_set {k : List UInt8} {x x' : Value} {l l' : List En} : ∀ {Z : BM} {i : Nat}, Z[i]? = some (k, (x, l)) → (bcells Z).set (i * 2 + 1) x' = bcells (Z.set i (k, (x', l')))
  | [], i, h => by cases h
  | y :: t, 0, h => by
    obtain rfl := Option.some.inj h
    rfl
  | y :: t, i + 1, h => by
    have ih := bcells_set (x' := x') (l' := l') (Z := t) (i := i) h
    rw [bcells, List.flatMap_cons, List.set_append, if_neg (by show ¬ _ < 2; omega), show (brC y).length = 2 from rfl, show (i + 1) * 2 + 1 - 2 = i * 2 + 1 by omega, ← bcells, ih]; rfl
/-- A branch's entries written in place. -/
theorem RBk.set {g n c i n0 : Nat} {k : List UInt8} {x x' : Value} {l l' : List En} {w1 : World} (h : RBk B w r (.slice (some ⟨g, 0, none⟩) n c) Z) (hn : n = Z.length) (hi : Z[i]? = some (k, (x, l))) (hb : Below w.heap.size w w1) (hx : w1.ownsRow w.heap.size EnT 33 x' l'.length (cellsL l')) (hn0 : n0 ≤ w.heap.size) :
    RBk B (w1.setCell ⟨g, i * 2 + 1, none⟩ x') r (.slice (some ⟨g, 0, none⟩) n c) (Z.set i (k, (x', l'))) ∧ Turn [g] w (w1.setCell ⟨g, i * 2 + 1, none⟩ x') ∧ (∀ b ∈ rbB r (.slice (some ⟨g, 0, none⟩) n c) (Z.set i (k, (x', l'))), b ∈ rbB r (.slice (some ⟨g, 0, none⟩) n c) Z ∨ n0 ≤ b) ∧ w1.frozen? ⟨g, i * 2 + 1, none⟩ = false ∧ ∃ z, w1.cell? ⟨g, i * 2 + 1, none⟩ = some z := by
  subst hn
  have h1 := h.below hb
  have hgv : g ∈ ob (.slice (some ⟨g, 0, none⟩) Z.length c) := by simp [ob, Value.ownBlock]
  have hgl := rowS_lt h.row g hgv
  have hil := (List.getElem?_eq_some_iff.1 hi).1
  have hge := rowS_ge hx
  have hsz := h.size
  have hrl := lt_of_heap h.book
  obtain ⟨s1, s2, s3⟩ := row_cell h1.row (k := i * 2 + 1) (by omega) x'
  have hgr : g ≠ r := fun e => h.offv (e ▸ hgv)
  have hmem : ∀ p ∈ Z.set i (k, (x', l')), p ∈ Z ∨ p = (k, (x', l')) := fun p hp => List.mem_or_eq_of_mem_set hp
  refine ⟨⟨(Below.heap_setCell _ _ _ _ (show r ≠ g from hgr.symm)).trans h1.book, ?_, fun p hp => ?_, h.offv, fun hc => ?_, fun y hy hc => ?_, h.base, ?_⟩, (Turn.of_below hb).setCell (p := ⟨g, i * 2 + 1, none⟩) (.inl (List.mem_singleton.2 rfl)) x', fun b hb2 => ?_, s2, s3⟩
  · rw [List.length_set, ← bcells_set hi]; exact s1
  · rcases hmem p hp with h2 | rfl
    · exact rowS_kept (h1.each p h2) (fun b hb2 _ => Below.heap_setCell _ _ _ _ (fun e => h.offx g hgv (by have e2 : b = g := e; rw [← e2]; exact enB_mem h2 hb2)))
    · exact rowS_kept (row_mono hx hsz) (fun b hb2 _ => Below.heap_setCell _ _ _ _ (by have := hge b hb2; show b ≠ g; omega))
  · obtain ⟨p, hp, hc⟩ := List.mem_flatMap.1 hc
    rcases hmem p hp with h2 | rfl
    · exact h.offe (enB_mem h2 hc)
    · have := hge r hc; omega
  · obtain rfl : y = g := by simpa [ob, Value.ownBlock, eq_comm] using hy
    obtain ⟨p, hp, hc⟩ := List.mem_flatMap.1 hc
    rcases hmem p hp with h2 | rfl
    · exact h.offx _ hgv (enB_mem h2 hc)
    · have := hge _ hc; omega
  · have hp := h.srt
    obtain ⟨_, hz⟩ := List.getElem?_eq_some_iff.1 hi
    rw [SrtM, List.pairwise_iff_getElem] at hp ⊢
    have key : ∀ (j : Nat) (hj : j < (Z.set i (k, (x', l'))).length), ((Z.set i (k, (x', l')))[j]).1 = (Z[j]'(by simpa using hj)).1 := fun j hj => by
      rw [List.getElem_set]
      split
      · next e => subst e; rw [hz]
      · rfl
    intro a b ha hb hab
    rw [key, key]
    exact hp a b _ _ hab
  · rcases rbB_cases hb2 with rfl | hb2 | ⟨p, hp, hb2⟩
    · exact .inl rbB_r
    · exact .inl (rbB_v hb2)
    · rcases hmem p hp with h2 | rfl
      · exact .inl (rbB_e h2 hb2)
      · exact .inr (Nat.le_trans hn0 (hge b hb2))
end
/-- What a call that turns the reference's book leaves. -/
def RBPost (B : Nat) (w : World) (r : Nat) (v : Value) (Z : BM) (c : Int) (K : BK) (e : Ending) (w' : World) : Prop :=
  e = .returned (.int .i64 c) ∧ ∃ v' Z', RBk B w' r v' Z' ∧ plainB Z' = K ∧ Turn (r :: ob v) w w' ∧ (∀ b ∈ rbB r v' Z', b ∈ rbB r v Z ∨ w.heap.size ≤ b) ∧ ∀ b ∈ ob v', b ∈ ob v ∨ w.heap.size ≤ b
theorem rbPost_same {B : Nat} {w w' : World} {r : Nat} {v : Value} {Z : BM} {c : Int} {e : Ending} (h : RBk B w r v Z) (hb : Below w.heap.size w w') (he : e = .returned (.int .i64 c)) : RBPost B w r v Z c (plainB Z) e w' :=
  ⟨he, v, Z, h.below hb, rfl, Turn.of_below hb, fun _ hb => .inl hb, fun _ hb => .inl hb⟩
end Go.Proofs.YtkeegnhjemhblaaGreatDoor.Rb
