import Derived.Lib.RuneCountTail
import Derived.Lib.DecodeN
import Derived.Lib.Strings
set_option linter.unusedSimpArgs false
set_option linter.unusedVariables false
/-
  Plain facts on texts as runes: what a walk over a text's runes meets, and which names may be. No program stands in this text.
-/
namespace Go.Proofs.YtkeegnhjemhblaaGreatDoor.Nm

def byteN (l : List UInt8) (i : Nat) : Nat := (l.getD i 0).toNat
/-- The rune at a text's beginning, and how many bytes it has. -/
def dec (l : List UInt8) : Nat × Nat := Lib.decodeN l.length (byteN l 0) (byteN l 1) (byteN l 2) (byteN l 3)

theorem getB (s : ByteArray) (i : Nat) : s.get! i = s.data.toList.getD i 0 := (Lib.getD_get!' s i).symm

theorem decode_drop (s : ByteArray) (i : Nat) : Utf8.decode s i = dec (s.data.toList.drop i) := by
  rw [Lib.decode_at, dec, List.length_drop, ← Lib.size_eq]
  have h : ∀ k, (s.get! (i + k)).toNat = byteN (s.data.toList.drop i) k := fun k => by
    rw [getB]; simp [byteN, List.getD, List.getElem?_drop]
  rw [← h 0, ← h 1, ← h 2, ← h 3]
  rfl

theorem byteN_lt (l : List UInt8) (i : Nat) : byteN l i < 256 := (l.getD i 0).toNat_lt

set_option maxHeartbeats 1000000 in
/-- The width is at least 1 and at most what there is. -/
theorem dec_width (l : List UInt8) (h : l ≠ []) : 1 ≤ (dec l).2 ∧ (dec l).2 ≤ l.length ∧ (dec l).2 ≤ 4 := by
  have hl : 1 ≤ l.length := by cases l with | nil => exact absurd rfl h | cons a t => simp
  unfold dec Lib.decodeN
  repeat' split
  all_goals (dsimp only; omega)

set_option maxHeartbeats 1000000 in
theorem dec_bound (l : List UInt8) : (dec l).1 ≤ 1114111 := by
  have h0 := byteN_lt l 0; have h1 := byteN_lt l 1; have h2 := byteN_lt l 2; have h3 := byteN_lt l 3
  unfold dec Lib.decodeN
  repeat' split
  all_goals (dsimp only; omega)

set_option maxHeartbeats 1000000 in
/-- U+FFFD comes of its own three bytes, or of one byte that begins no rune. -/
theorem dec_error (l : List UInt8) (h : (dec l).1 = 65533) : (dec l).2 = 1 ∨ ((dec l).2 = 3 ∧ 2 < l.length ∧ byteN l 0 = 239 ∧ byteN l 1 = 191 ∧ byteN l 2 = 189) := by
  have h0 := byteN_lt l 0; have h1 := byteN_lt l 1; have h2 := byteN_lt l 2; have h3 := byteN_lt l 3
  revert h
  unfold dec Lib.decodeN
  repeat' split
  all_goals (dsimp only; intro h; first | (left; rfl) | (right; omega) | (exfalso; omega))

theorem dec_fffd (l : List UInt8) (hl : 2 < l.length) (h0 : byteN l 0 = 239) (h1 : byteN l 1 = 191) (h2 : byteN l 2 = 189) : dec l = (65533, 3) := by
  unfold dec Lib.decodeN
  rw [h0, h1, h2]
  simp [hl, show 1 < l.length by omega]

/-- Does U+FFFD stand there, written out? -/
theorem prefix_fffd (l : List UInt8) : Lib.hasPrefix l [239, 191, 189] = true ↔ (2 < l.length ∧ byteN l 0 = 239 ∧ byteN l 1 = 191 ∧ byteN l 2 = 189) := by
  rcases l with _ | ⟨a, _ | ⟨b, _ | ⟨c, t⟩⟩⟩
  · simp [Lib.hasPrefix]
  · simp [Lib.hasPrefix, List.isPrefixOf]
  · simp [Lib.hasPrefix, List.isPrefixOf]
  · simp only [Lib.hasPrefix, List.isPrefixOf, byteN, Bool.and_true, Bool.and_eq_true, beq_iff_eq, List.length_cons, List.getD_cons_zero, List.getD_cons_succ, ← UInt8.toNat_inj]
    constructor
    · rintro ⟨x, y, z⟩; exact ⟨by omega, x.symm, y.symm, z.symm⟩
    · rintro ⟨_, x, y, z⟩; exact ⟨x.symm, y.symm, z.symm⟩

/-- At a rune U+FFFD: a byte that begins no rune has the width 1. -/
theorem bad_iff (l : List UInt8) (h : (dec l).1 = 65533) : Lib.hasPrefix l [239, 191, 189] = !((dec l).2 == 1) := by
  rcases dec_error l h with h1 | ⟨h3, hh⟩
  · rw [h1]
    cases hp : Lib.hasPrefix l [239, 191, 189] with
    | false => rfl
    | true =>
      obtain ⟨a, b, c, d⟩ := (prefix_fffd l).1 hp
      rw [dec_fffd l a b c d] at h1; cases h1
  · rw [h3, (prefix_fffd l).2 hh]; rfl

/-! ### A text cut into its runes -/
def segF : Nat → List UInt8 → List (Nat × List UInt8)
  | 0, _ => []
  | f + 1, l => if l = [] then [] else ((dec l).1, l.take (dec l).2) :: segF f (l.drop (dec l).2)
/-- The runes of a text, each with its bytes; a byte that begins no rune is U+FFFD by itself. -/
def seg (l : List UInt8) : List (Nat × List UInt8) := segF l.length l

theorem segF_enough : ∀ (f g : Nat) (l : List UInt8), l.length ≤ f → l.length ≤ g → segF f l = segF g l
  | 0, g, l, hf, _ => by
    have : l = [] := by cases l with | nil => rfl | cons a t => simp at hf
    subst this; cases g <;> simp [segF]
  | f + 1, 0, l, _, hg => by
    have : l = [] := by cases l with | nil => rfl | cons a t => simp at hg
    subst this; simp [segF]
  | f + 1, g + 1, l, hf, hg => by
    by_cases h : l = []
    · subst h; simp [segF]
    · have hw := dec_width l h
      simp only [segF, if_neg h]
      rw [segF_enough f g _ (by rw [List.length_drop]; omega) (by rw [List.length_drop]; omega)]

@[simp] theorem seg_nil : seg [] = [] := rfl
theorem seg_cons (l : List UInt8) (h : l ≠ []) : seg l = ((dec l).1, l.take (dec l).2) :: seg (l.drop (dec l).2) := by
  have hw := dec_width l h
  unfold seg
  rw [segF_enough l.length ((l.length - 1) + 1) l (Nat.le_refl _) (by omega)]
  simp only [segF, if_neg h]
  rw [segF_enough (l.length - 1) (l.drop (dec l).2).length _ (by rw [List.length_drop]; omega) (Nat.le_refl _)]

theorem seg_induct {P : List UInt8 → Prop} (h0 : P []) (h1 : ∀ l, l ≠ [] → P (l.drop (dec l).2) → P l) (l : List UInt8) : P l := by
  suffices ∀ n (l : List UInt8), l.length ≤ n → P l from this _ l (Nat.le_refl _)
  intro n
  induction n with
  | zero => intro l h; have : l = [] := by { cases l with | nil => rfl | cons a t => simp at h }
            subst this; exact h0
  | succ n ih =>
    intro l h
    by_cases e : l = []
    · subst e; exact h0
    · have hw := dec_width l e
      exact h1 l e (ih _ (by rw [List.length_drop]; omega))

/-- No whole rune: a byte by itself. -/
def isBad (p : Nat × List UInt8) : Bool := p.1 == 65533 && p.2.length == 1
/-- All bytes are whole runes. -/
def okB (l : List UInt8) : Bool := (seg l).all fun p => !isBad p
def count (l : List UInt8) : Nat := (seg l).length

theorem isBad_head (l : List UInt8) (h : l ≠ []) : isBad ((dec l).1, l.take (dec l).2) = ((dec l).1 == 65533 && (dec l).2 == 1) := by
  have hw := dec_width l h
  simp only [isBad, List.length_take, Nat.min_eq_left hw.2.1]

theorem okB_bad (l : List UInt8) (h : l ≠ []) (h1 : (dec l).1 = 65533) (h2 : Lib.hasPrefix l [239, 191, 189] = false) : okB l = false := by
  rw [bad_iff l h1] at h2
  rw [okB, seg_cons l h, List.all_cons, isBad_head l h]
  simp at h2
  simp [h1, h2]

theorem okB_good (l : List UInt8) (h : l ≠ []) (h1 : (dec l).1 = 65533 → Lib.hasPrefix l [239, 191, 189] = true) : okB l = okB (l.drop (dec l).2) := by
  rw [okB, seg_cons l h, List.all_cons, isBad_head l h, ← okB]
  by_cases e : (dec l).1 = 65533
  · have := h1 e
    rw [bad_iff l e] at this
    simp at this
    simp [this]
  · simp [e]

theorem count_cons (l : List UInt8) (h : l ≠ []) : count l = count (l.drop (dec l).2) + 1 := by
  rw [count, seg_cons l h]; rfl
theorem count_le (l : List UInt8) : count l ≤ l.length := by
  induction l using seg_induct with
  | h0 => simp [count]
  | h1 l h ih => rw [count_cons l h]; have := dec_width l h; rw [List.length_drop] at ih; omega

/-- What 'whole' answers. -/
def whN (l : List UInt8) : Nat := if okB l then count l else 0

end Go.Proofs.YtkeegnhjemhblaaGreatDoor.Nm
