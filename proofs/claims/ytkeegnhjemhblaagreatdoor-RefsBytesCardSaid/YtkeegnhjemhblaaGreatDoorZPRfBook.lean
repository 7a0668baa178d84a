import Derived.Test.YtkeegnhjemhblaaGreatDoorZPRfFrame
set_option linter.unusedSimpArgs false
set_option linter.unusedVariables false
/-
  A book of branches as a plain value; how it lies in memory.
-/
namespace Go.Proofs.YtkeegnhjemhblaaGreatDoor.Rf
open Go.RowKit Go.Maps Go.WideMaps

/-- A snapshot of a branch. -/
structure En where
  c : List UInt8
  t : Int
def En.cells (e : En) : List Value := Lib.byteCells e.c ++ [.int .i64 e.t]
def cellsL (l : List En) : List Value := l.flatMap En.cells
/-- A book's map, each branch with the slice that stands for it. -/
abbrev BM := MV (Value × List En)
abbrev BK := MV (List En)
def plainB (Z : BM) : BK := mapM' Prod.snd Z

/-- Bystanders: blocks that are none of the book's, and what they hold. -/
abbrev Spect := Nat × Obj → Prop
def noSp : Spect := fun _ => False
variable {X : Spect}
structure BookAt (X : Spect) (B : Nat) (w : World) (g b : Nat) (Z : BM) : Prop where
  book : w.heap[g]? = some (.cells #[.map (some b)] 109)
  map : w.ownsMap Tryz.prog 9 Rv b 1000000 (toD Prod.fst Z)
  each : ∀ p ∈ Z, w.ownsRow B 84 33 p.2.1 p.2.2.length (cellsL p.2.2)
  gb : g ≠ b
  off : ∀ p ∈ Z, ∀ x ∈ ob p.2.1, x ≠ g ∧ x ≠ b
  apart : ∀ p ∈ Z, ∀ q ∈ Z, p.1 ≠ q.1 → ∀ x ∈ ob p.2.1, x ∉ ob q.2.1
  baseg : B ≤ g
  baseb : B ≤ b
  spec : ∀ p, X p → w.heap[p.1]? = some p.2 ∧ p.1 ≠ g ∧ p.1 ≠ b ∧ ∀ q ∈ Z, p.1 ∉ ob q.2.1

theorem rowS_kept {w w' : World} {B : Nat} {e : TypeId} {s : Nat} {v : Value} {n : Nat} {xs : List Value} (h : w.ownsRow B e s v n xs) (hb : ∀ b ∈ ob v, b < w.heap.size → w'.heap[b]? = w.heap[b]?) : w'.ownsRow B e s v n xs := by
  obtain ⟨h1, h2 | ⟨g, cap, cur, rfl, a, b, c⟩⟩ := h
  · exact ⟨h1, .inl h2⟩
  · exact ⟨h1, .inr ⟨g, cap, cur, rfl, a, (hb g (by simp [ob, Value.ownBlock]) (lt_of_heap b)).trans b, c⟩⟩
theorem rowS_lt {w : World} {B : Nat} {e : TypeId} {s : Nat} {v : Value} {n : Nat} {xs : List Value} (h : w.ownsRow B e s v n xs) : ∀ b ∈ ob v, b < w.heap.size := by
  obtain ⟨_, ⟨rfl, _⟩ | ⟨g, cap, cur, rfl, _, hh, _⟩⟩ := h
  · intro b hb; simp [ob, Value.ownBlock] at hb
  · intro b hb; simp [ob, Value.ownBlock] at hb; subst hb; exact lt_of_heap hh
theorem rowS_ge {w : World} {B : Nat} {e : TypeId} {s : Nat} {v : Value} {n : Nat} {xs : List Value} (h : w.ownsRow B e s v n xs) : ∀ b ∈ ob v, B ≤ b := by
  obtain ⟨_, ⟨rfl, _⟩ | ⟨g, cap, cur, rfl, hg, _⟩⟩ := h
  · intro b hb; simp [ob, Value.ownBlock] at hb
  · intro b hb; simp [ob, Value.ownBlock] at hb; subst hb; exact hg

theorem BookAt.lt_g {B : Nat} {w : World} {g b : Nat} {Z : BM} (h : BookAt X B w g b Z) : g < w.heap.size := lt_of_heap h.book
theorem BookAt.lt_b {B : Nat} {w : World} {g b : Nat} {Z : BM} (h : BookAt X B w g b Z) : b < w.heap.size := h.map.lt

/-- Nothing of the book has turned. -/
theorem BookAt.kept {B : Nat} {w w' : World} {g b : Nat} {Z : BM} (h : BookAt X B w g b Z) (hb : ∀ b, b < w.heap.size → w'.heap[b]? = w.heap[b]?) : BookAt X B w' g b Z :=
  ⟨(hb _ (lt_of_heap h.book)).trans h.book, ownsMap_block h.map (hb _ h.map.lt), fun p hp => rowS_kept (h.each p hp) (fun b _ hl => hb b hl), h.gb, h.off, h.apart, h.baseg, h.baseb, fun p hp => ⟨(hb _ (lt_of_heap (h.spec p hp).1)).trans (h.spec p hp).1, (h.spec p hp).2⟩⟩
theorem BookAt.below {B : Nat} {w w' : World} {g b : Nat} {Z : BM} (h : BookAt X B w g b Z) (hb : Below w.heap.size w w') : BookAt X B w' g b Z := h.kept hb.block
/-- The same book under a lower bound. -/
theorem BookAt.mono {B B' : Nat} {w : World} {g b : Nat} {Z : BM} (h : BookAt X B w g b Z) (hB : B' ≤ B) : BookAt X B' w g b Z :=
  ⟨h.book, h.map, fun p hp => row_mono (h.each p hp) hB, h.gb, h.off, h.apart, Nat.le_trans hB h.baseg, Nat.le_trans hB h.baseb, h.spec⟩

/-- A branch is written. -/
theorem BookAt.put {B : Nat} {w w' : World} {g b : Nat} {Z : BM} (h : BookAt X B w g b Z) (k : List UInt8) (v' : Value) (l' : List En)
    (hb : ∀ x, x < w.heap.size → x ≠ b → (∀ q, (k, q) ∈ Z → x ∉ ob q.1) → w'.heap[x]? = w.heap[x]?)
    (hm : w'.ownsMap Tryz.prog 9 Rv b 1000000 (toD Prod.fst (putM Z k (v', l'))))
    (hr : w'.ownsRow B 84 33 v' l'.length (cellsL l'))
    (hv : ∀ x ∈ ob v', w.heap.size ≤ x ∨ ∃ q, (k, q) ∈ Z ∧ x ∈ ob q.1) : BookAt X B w' g b (putM Z k (v', l')) := by
  have hmem : ∀ p, p ∈ putM Z k (v', l') → p = (k, (v', l')) ∨ (p ∈ Z ∧ p.1 ≠ k) := fun p hp => by
    rcases mem_ins.1 hp with e | e
    · exact .inl e
    · exact .inr (mem_del.1 e)
  have hoff : ∀ q, (k, q) ∈ Z → ∀ x ∈ ob q.1, x ≠ g ∧ x ≠ b := fun q hq => h.off _ hq
  have hlg := h.lt_g; have hlb := h.lt_b
  have hvo : ∀ x ∈ ob v', x ≠ g ∧ x ≠ b := fun x hx => by
    rcases hv x hx with e | ⟨q, hq, e⟩
    · exact ⟨by omega, by omega⟩
    · exact hoff q hq x e
  have hva : ∀ p ∈ Z, p.1 ≠ k → ∀ x ∈ ob p.2.1, x ∉ ob v' := fun p hp hk x hx hx' => by
    rcases hv x hx' with e | ⟨q, hq, e⟩
    · have := rowS_lt (h.each p hp) x hx; omega
    · exact h.apart p hp (k, q) hq hk x hx e
  have hsp : ∀ p, X p → w'.heap[p.1]? = some p.2 ∧ p.1 ≠ g ∧ p.1 ≠ b ∧ ∀ q ∈ putM Z k (v', l'), p.1 ∉ ob q.2.1 := fun p hp => by
    obtain ⟨s1, s2, s3, s4⟩ := h.spec p hp
    refine ⟨(hb _ (lt_of_heap s1) s3 (fun q hq => s4 _ hq)).trans s1, s2, s3, fun q hq => ?_⟩
    rcases hmem q hq with rfl | ⟨hz, _⟩
    · intro hx
      rcases hv _ hx with e | ⟨q, hq, e⟩
      · have := lt_of_heap s1; omega
      · exact s4 _ hq e
    · exact s4 q hz
  refine ⟨?_, hm, ?_, h.gb, ?_, ?_, h.baseg, h.baseb, hsp⟩
  · rw [hb g hlg h.gb (fun q hq hx => (hoff q hq g hx).1 rfl)]; exact h.book
  · intro p hp
    rcases hmem p hp with rfl | ⟨hz, hk⟩
    · exact hr
    · exact rowS_kept (h.each p hz) (fun x hx hl => hb x hl (h.off p hz x hx).2 (fun q hq hxq => h.apart p hz (k, q) hq hk x hx hxq))
  · intro p hp
    rcases hmem p hp with rfl | ⟨hz, hk⟩
    · exact hvo
    · exact h.off p hz
  · intro p hp q hq hne x hx hxq
    rcases hmem p hp with rfl | ⟨hz, hk⟩
    · rcases hmem q hq with rfl | ⟨hz2, hk2⟩
      · exact hne rfl
      · exact hva q hz2 hk2 x hxq hx
    · rcases hmem q hq with rfl | ⟨hz2, hk2⟩
      · exact hva p hz hk x hx hxq
      · exact h.apart p hz q hz2 hne x hx hxq
/-- What a book holds lies within its limits. -/
structure OkB (K : BK) : Prop where
  size : K.length ≤ 64
  keys : ∀ p ∈ K, p.1.length ≤ 255
  ne : ∀ p ∈ K, p.2 ≠ []
  len : ∀ p ∈ K, p.2.length ≤ 4096
  ent : ∀ p ∈ K, ∀ e ∈ p.2, e.c.length = 32 ∧ 0 ≤ e.t ∧ e.t ≤ 1099511627776

theorem plain_mem {Z : BM} {p : List UInt8 × (Value × List En)} (h : p ∈ Z) : (p.1, p.2.2) ∈ plainB Z := List.mem_map.2 ⟨p, h, rfl⟩
theorem plain_get (Z : BM) (k : List UInt8) : getM (plainB Z) k = (getM Z k).map Prod.snd := map_get _ _ _
theorem plain_length (Z : BM) : (plainB Z).length = Z.length := map_length _ _
theorem plain_put (Z : BM) (k : List UInt8) (v : Value) (l : List En) : plainB (putM Z k (v, l)) = putM (plainB Z) k l := map_put Prod.snd k (v, l) Z
theorem zeroRow (w : World) : (zeroValue 96).run Tryz.prog w = .ok (.slice none 0 0) w := by kernel_rfl

theorem BookAt.look {B : Nat} {w : World} {g b : Nat} {Z : BM} (h : BookAt X B w g b Z) (S : ByteArray) (hS : S.size ≤ maxLen) :
    (Instr.lookup 107 (.map (some b)) (.string S) true).run Tryz.prog w = .ok (.tuple #[((getM Z S.data.toList).map Prod.fst).getD (.slice none 0 0), .bool (getM Z S.data.toList).isSome]) w :=
  look_run Tryz.underlying107 zeroRow h.map S hS

theorem cellsL_length {l : List En} (h : ∀ e ∈ l, e.c.length = 32) : (cellsL l).length = 33 * l.length := by
  induction l with
  | nil => rfl
  | cons e r ih =>
    have h1 : e.cells.length = 33 := by simp [En.cells, Lib.byteCells_length, h e (by simp)]
    have h2 : (cellsL r).length = 33 * r.length := ih (fun x hx => h x (by simp [hx]))
    rw [cellsL, List.flatMap_cons, List.length_append, h1, ← cellsL, h2, List.length_cons]; omega

/-- What the branch's own function answers. -/
def logV (Z : BM) (k : List UInt8) : Value × Int :=
  match getM Z k with
  | none => (.slice none 0 0, 6)
  | some p => (p.1, 0)

set_option maxHeartbeats 2000000 in
set_option maxRecDepth 100000 in
theorem log_any (B : Nat) (w : World) (g b : Nat) (Z : BM) (S : ByteArray) (hS : S.size ≤ maxLen) (h : BookAt X B w g b Z) :
    Calls Tryz.prog 99 #[ptr g, .string S] w fun e w' => e = .returned (.tuple #[(logV Z S.data.toList).1, .int .i64 (logV Z S.data.toList).2]) ∧ w' = w := by
  have c0 : w.cell? ⟨g, 0, none⟩ = some (.map (some b)) := cell_of_heap h.book
  have hlk := h.look S hS
  unfold logV ptr
  clear h
  cases hg : getM Z S.data.toList with
  | none =>
    rw [hg] at hlk
    go_enter Tryz.func99, Tryz.ntmps99
    go_wp2
    go_ret2
    exact ⟨rfl, rfl⟩
  | some p =>
    rw [hg] at hlk
    go_enter Tryz.func99, Tryz.ntmps99
    go_wp2
    go_ret2
    exact ⟨rfl, rfl⟩
end Go.Proofs.YtkeegnhjemhblaaGreatDoor.Rf
