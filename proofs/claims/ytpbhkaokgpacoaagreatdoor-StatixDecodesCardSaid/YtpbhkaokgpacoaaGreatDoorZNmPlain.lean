import Derived.Lib.RuneCountTail
import Derived.Lib.DecodeN
import Derived.Lib.Strings
import Derived.Lib.TrimByte
import Derived.Laws.Cover4
import Derived.Lib.Split
import Derived.Lib.SplitLaws
import Derived.Test.YtpbhkaokgpacoaaGreatDoorZRowKit
import Derived.WideAt
import Derived.WideShapes
import Derived.Laws.Tables
import Derived.Laws.ResultCell
import Derived.Deep.MidRow
import Derived.Deep.RegionHeld3
import Derived.Great.BuildSlice
set_option linter.unusedSimpArgs false
set_option linter.unusedVariables false
/-
  Plain facts on texts as runes: what a walk over a text's runes meets, and which names may be. No program stands in this text.
-/
namespace Go.Proofs.YtpbhkaokgpacoaaGreatDoor.Nm

def byteN (l : List UInt8) (i : Nat) : Nat := (l.getD i 0).toNat
/-- The rune at a text's beginning, and how many bytes it has. -/
def dec (l : List UInt8) : Nat × Nat := Lib.decodeN l.length (byteN l 0) (byteN l 1) (byteN l 2) (byteN l 3)

theorem getB (s : ByteArray) (i : Nat) : s.get! i = s.data.toList.getD i 0 := (Lib.getD_get!' s i).symm

theorem decode_drop (s : ByteArray) (i : Nat) : Utf8.decode s i = dec (s.data.toList.drop i) := by
  rw [Lib.decode_at, dec, List.length_drop, ← Lib.size_eq]
  have h : ∀ k, (s.get! (i + k)).toNat = byteN (s.data.toList.drop i) k := fun k => by
    rw [getB]; simp [byteN, List.getD, List.getElem?_drop]
  rw [← h 0, ← h 1, ← h 2, ← h 3]
  rfl

theorem byteN_lt (l : List UInt8) (i : Nat) : byteN l i < 256 := (l.getD i 0).toNat_lt

set_option maxHeartbeats 1000000 in
/-- The width is at least 1 and at most what there is. -/
theorem dec_width (l : List UInt8) (h : l ≠ []) : 1 ≤ (dec l).2 ∧ (dec l).2 ≤ l.length ∧ (dec l).2 ≤ 4 := by
  have hl : 1 ≤ l.length := by cases l with | nil => exact absurd rfl h | cons a t => simp
  unfold dec Lib.decodeN
  repeat' split
  all_goals (dsimp only; omega)

set_option maxHeartbeats 1000000 in
theorem dec_bound (l : List UInt8) : (dec l).1 ≤ 1114111 := by
  have h0 := byteN_lt l 0; have h1 := byteN_lt l 1; have h2 := byteN_lt l 2; have h3 := byteN_lt l 3
  unfold dec Lib.decodeN
  repeat' split
  all_goals (dsimp only; omega)

set_option maxHeartbeats 1000000 in
/-- U+FFFD comes of its own three bytes, or of one byte that begins no rune. -/
theorem dec_error (l : List UInt8) (h : (dec l).1 = 65533) : (dec l).2 = 1 ∨ ((dec l).2 = 3 ∧ 2 < l.length ∧ byteN l 0 = 239 ∧ byteN l 1 = 191 ∧ byteN l 2 = 189) := by
  have h0 := byteN_lt l 0; have h1 := byteN_lt l 1; have h2 := byteN_lt l 2; have h3 := byteN_lt l 3
  revert h
  unfold dec Lib.decodeN
  repeat' split
  all_goals (dsimp only; intro h; first | (left; rfl) | (right; omega) | (exfalso; omega))

theorem dec_fffd (l : List UInt8) (hl : 2 < l.length) (h0 : byteN l 0 = 239) (h1 : byteN l 1 = 191) (h2 : byteN l 2 = 189) : dec l = (65533, 3) := by
  unfold dec Lib.decodeN
  rw [h0, h1, h2]
  simp [hl, show 1 < l.length by omega]

/-- Does U+FFFD stand there, written out? -/
theorem prefix_fffd (l : List UInt8) : Lib.hasPrefix l [239, 191, 189] = true ↔ (2 < l.length ∧ byteN l 0 = 239 ∧ byteN l 1 = 191 ∧ byteN l 2 = 189) := by
  rcases l with _ | ⟨a, _ | ⟨b, _ | ⟨c, t⟩⟩⟩
  · simp [Lib.hasPrefix]
  · simp [Lib.hasPrefix, List.isPrefixOf]
  · simp [Lib.hasPrefix, List.isPrefixOf]
  · simp only [Lib.hasPrefix, List.isPrefixOf, byteN, Bool.and_true, Bool.and_eq_true, beq_iff_eq, List.length_cons, List.getD_cons_zero, List.getD_cons_succ, ← UInt8.toNat_inj]
    constructor
    · rintro ⟨x, y, z⟩; exact ⟨by omega, x.symm, y.symm, z.symm⟩
    · rintro ⟨_, x, y, z⟩; exact ⟨x.symm, y.symm, z.symm⟩

/-- At a rune U+FFFD: a byte that begins no rune has the width 1. -/
theorem bad_iff (l : List UInt8) (h : (dec l).1 = 65533) : Lib.hasPrefix l [239, 191, 189] = !((dec l).2 == 1) := by
  rcases dec_error l h with h1 | ⟨h3, hh⟩
  · rw [h1]
    cases hp : Lib.hasPrefix l [239, 191, 189] with
    | false => rfl
    | true =>
      obtain ⟨a, b, c, d⟩ := (prefix_fffd l).1 hp
      rw [dec_fffd l a b c d] at h1; cases h1
  · rw [h3, (prefix_fffd l).2 hh]; rfl

/-! ### A text cut into its runes -/
def segF : Nat → List UInt8 → List (Nat × List UInt8)
  | 0, _ => []
  | f + 1, l => if l = [] then [] else ((dec l).1, l.take (dec l).2) :: segF f (l.drop (dec l).2)
/-- The runes of a text, each with its bytes; a byte that begins no rune is U+FFFD by itself. -/
def seg (l : List UInt8) : List (Nat × List UInt8) := segF l.length l

theorem segF_enough : ∀ (f g : Nat) (l : List UInt8), l.length ≤ f → l.length ≤ g → segF f l = segF g l
  | 0, g, l, hf, _ => by
    have : l = [] := by cases l with | nil => rfl | cons a t => simp at hf
    subst this; cases g <;> simp [segF]
  | f + 1, 0, l, _, hg => by
    have : l = [] := by cases l with | nil => rfl | cons a t => simp at hg
    subst this; simp [segF]
  | f + 1, g + 1, l, hf, hg => by
    by_cases h : l = []
    · subst h; simp [segF]
    · have hw := dec_width l h
      simp only [segF, if_neg h]
      rw [segF_enough f g _ (by rw [List.length_drop]; omega) (by rw [List.length_drop]; omega)]

@[simp] theorem seg_nil : seg [] = [] := rfl
theorem seg_cons (l : List UInt8) (h : l ≠ []) : seg l = ((dec l).1, l.take (dec l).2) :: seg (l.drop (dec l).2) := by
  have hw := dec_width l h
  unfold seg
  rw [segF_enough l.length ((l.length - 1) + 1) l (Nat.le_refl _) (by omega)]
  simp only [segF, if_neg h]
  rw [segF_enough (l.length - 1) (l.drop (dec l).2).length _ (by rw [List.length_drop]; omega) (Nat.le_refl _)]

theorem seg_induct {P : List UInt8 → Prop} (h0 : P []) (h1 : ∀ l, l ≠ [] → P (l.drop (dec l).2) → P l) (l : List UInt8) : P l := by
  suffices ∀ n (l : List UInt8), l.length ≤ n → P l from this _ l (Nat.le_refl _)
  intro n
  induction n with
  | zero => intro l h; have : l = [] := by { cases l with | nil => rfl | cons a t => simp at h }
            subst this; exact h0
  | succ n ih =>
    intro l h
    by_cases e : l = []
    · subst e; exact h0
    · have hw := dec_width l e
      exact h1 l e (ih _ (by rw [List.length_drop]; omega))

/-- No whole rune: a byte by itself. -/
def isBad (p : Nat × List UInt8) : Bool := p.1 == 65533 && p.2.length == 1
/-- All bytes are whole runes. -/
def okB (l : List UInt8) : Bool := (seg l).all fun p => !isBad p
def count (l : List UInt8) : Nat := (seg l).length

theorem isBad_head (l : List UInt8) (h : l ≠ []) : isBad ((dec l).1, l.take (dec l).2) = ((dec l).1 == 65533 && (dec l).2 == 1) := by
  have hw := dec_width l h
  simp only [isBad, List.length_take, Nat.min_eq_left hw.2.1]

theorem okB_bad (l : List UInt8) (h : l ≠ []) (h1 : (dec l).1 = 65533) (h2 : Lib.hasPrefix l [239, 191, 189] = false) : okB l = false := by
  rw [bad_iff l h1] at h2
  rw [okB, seg_cons l h, List.all_cons, isBad_head l h]
  simp at h2
  simp [h1, h2]

theorem okB_good (l : List UInt8) (h : l ≠ []) (h1 : (dec l).1 = 65533 → Lib.hasPrefix l [239, 191, 189] = true) : okB l = okB (l.drop (dec l).2) := by
  rw [okB, seg_cons l h, List.all_cons, isBad_head l h, ← okB]
  by_cases e : (dec l).1 = 65533
  · have := h1 e
    rw [bad_iff l e] at this
    simp at this
    simp [this]
  · simp [e]

theorem count_cons (l : List UInt8) (h : l ≠ []) : count l = count (l.drop (dec l).2) + 1 := by
  rw [count, seg_cons l h]; rfl
theorem count_le (l : List UInt8) : count l ≤ l.length := by
  induction l using seg_induct with
  | h0 => simp [count]
  | h1 l h ih => rw [count_cons l h]; have := dec_width l h; rw [List.length_drop] at ih; omega

/-- What 'whole' answers. -/
def whN (l : List UInt8) : Nat := if okB l then count l else 0

end Go.Proofs.YtpbhkaokgpacoaaGreatDoor.Nm
/-
  Plain facts on patterns: what it is to be like a pattern, and that the greedy way with one star kept finds it. No program stands in this text.
-/
namespace Go.Proofs.YtpbhkaokgpacoaaGreatDoor.Nm

/-- Is a text of runes like a pattern of runes? 42 is the star, 63 the question mark. -/
def like : List Nat → List Nat → Bool
  | [], [] => true
  | [], _ :: _ => false
  | c :: p, [] => c == 42 && like p []
  | c :: p, x :: l => if c = 42 then like p (x :: l) || like (c :: p) l else (c == 63 || c == x) && like p l
termination_by p l => (p.length, l.length)

theorem like_nil_nil : like [] [] = true := by simp [like]
theorem like_nil_cons (x : Nat) (l : List Nat) : like [] (x :: l) = false := by simp [like]
theorem like_cons_nil (c : Nat) (p : List Nat) : like (c :: p) [] = (c == 42 && like p []) := by simp [like]
theorem like_star_cons (p : List Nat) (x : Nat) (l : List Nat) : like (42 :: p) (x :: l) = (like p (x :: l) || like (42 :: p) l) := by rw [like]; simp
theorem like_lit (c : Nat) (p : List Nat) (x : Nat) (l : List Nat) (h : c ≠ 42) : like (c :: p) (x :: l) = ((c == 63 || c == x) && like p l) := by rw [like]; simp [h]
theorem like_nil (p : List Nat) : like p [] = p.all (· == 42) := by
  induction p with
  | nil => exact like_nil_nil
  | cons c p ih => rw [like_cons_nil, ih]; rfl

theorem like_star (p : List Nat) (l : List Nat) : like (42 :: p) l = true ↔ ∃ j, j ≤ l.length ∧ like p (l.drop j) = true := by
  induction l with
  | nil =>
    rw [like_cons_nil]
    constructor
    · intro h; exact ⟨0, by simp, by simpa using h⟩
    · rintro ⟨j, hj, h⟩; simp at hj; subst hj; simpa using h
  | cons x l ih =>
    rw [like_star_cons, Bool.or_eq_true, ih]
    constructor
    · rintro (h | ⟨j, hj, h⟩)
      · exact ⟨0, by simp, by simpa using h⟩
      · exact ⟨j + 1, by simp; omega, by simpa using h⟩
    · rintro ⟨j, hj, h⟩
      cases j with
      | zero => left; simpa using h
      | succ j => right; exact ⟨j, by simp at hj; omega, by simpa using h⟩

/-- A run of runes without stars stands at the text's beginning. -/
def fit : List Nat → List Nat → Bool
  | [], _ => true
  | _ :: _, [] => false
  | c :: s, x :: l => !(c == 42) && (c == 63 || c == x) && fit s l

theorem fit_len {s l : List Nat} (h : fit s l = true) : s.length ≤ l.length := by
  induction s generalizing l with
  | nil => simp
  | cons c s ih =>
    cases l with
    | nil => simp [fit] at h
    | cons x l => simp [fit] at h; have := ih h.2; simp; omega

theorem fit_like {s l : List Nat} (r : List Nat) (h : fit s l = true) : like (s ++ r) l = like r (l.drop s.length) := by
  induction s generalizing l with
  | nil => simp
  | cons c s ih =>
    cases l with
    | nil => simp [fit] at h
    | cons x l =>
      simp only [fit, Bool.and_eq_true, Bool.not_eq_true', beq_eq_false_iff_ne] at h
      rw [List.cons_append, like_lit _ _ _ _ h.1.1, ih h.2, h.1.2]
      simp

/-- A run of runes without stars: what is like it is as long at least. -/
def lits (s : List Nat) : Bool := s.all fun c => !(c == 42)
theorem fit_lits {s l : List Nat} (h : fit s l = true) : lits s = true := by
  induction s generalizing l with
  | nil => rfl
  | cons c s ih =>
    cases l with
    | nil => simp [fit] at h
    | cons x l =>
      simp only [fit, Bool.and_eq_true] at h
      rw [lits, List.all_cons, h.1.1, ← lits, ih h.2]; rfl

theorem lits_like {s l r : List Nat} (h : lits s = true) (k : like (s ++ r) l = true) : s.length ≤ l.length ∧ like r (l.drop s.length) = true := by
  induction s generalizing l with
  | nil => exact ⟨by simp, by simpa using k⟩
  | cons c s ih =>
    rw [lits, List.all_cons, ← lits, Bool.and_eq_true] at h
    have hc : c ≠ 42 := by simpa using h.1
    cases l with
    | nil => rw [List.cons_append, like_cons_nil] at k; simp [hc] at k
    | cons x l =>
      rw [List.cons_append, like_lit _ _ _ _ hc, Bool.and_eq_true] at k
      have := ih h.2 k.2
      simp; exact this

/-- Behind a run that fits, the next star may begin at once. -/
theorem star_fit {s l : List Nat} (r : List Nat) (h : fit s l = true) : like (42 :: (s ++ 42 :: r)) l = like (42 :: r) (l.drop s.length) := by
  rw [Bool.eq_iff_iff, like_star]
  constructor
  · rintro ⟨j, hj, k⟩
    obtain ⟨hl, k⟩ := lits_like (fit_lits h) k
    rw [List.drop_drop] at k
    rw [like_star] at k ⊢
    obtain ⟨i, hi, k⟩ := k
    rw [List.drop_drop] at k
    refine ⟨j + i, ?_, ?_⟩
    · simp at hi hl ⊢; omega
    · rw [List.drop_drop]; rw [show s.length + (j + i) = j + s.length + i by omega]; exact k
  · intro k
    exact ⟨0, by simp, by rw [List.drop_zero, fit_like _ h]; exact k⟩

/-- Where the rest isn't like the text behind a run that fits, the star takes one rune more. -/
theorem star_miss {s l : List Nat} (r : List Nat) (h : fit s l = true) (hn : like r (l.drop s.length) = false) : like (42 :: (s ++ r)) l = like (42 :: (s ++ r)) (l.drop 1) := by
  cases l with
  | nil => rfl
  | cons x l => rw [like_star_cons, fit_like _ h, hn]; rfl

theorem star_end {s l : List Nat} (r : List Nat) (h : fit s l = true) (hl : l.length = s.length) : like (42 :: (s ++ r)) l = like r [] := by
  rw [Bool.eq_iff_iff, like_star]
  constructor
  · rintro ⟨j, hj, k⟩
    obtain ⟨h1, h2⟩ := lits_like (fit_lits h) k
    rw [List.drop_drop] at h2
    have : List.drop (j + s.length) l = [] := List.drop_eq_nil_of_le (by omega)
    rw [this] at h2; exact h2
  · intro k
    refine ⟨0, by simp, ?_⟩
    rw [List.drop_zero, fit_like _ h, ← hl, List.drop_length]; exact k

theorem fit_snoc {s l : List Nat} {c x : Nat} (h : fit s l = true) (hc : c ≠ 42) (hx : (l.drop s.length)[0]? = some x) (hm : c = 63 ∨ c = x) : fit (s ++ [c]) l = true := by
  induction s generalizing l with
  | nil =>
    cases l with
    | nil => simp at hx
    | cons y l =>
      simp at hx; subst hx
      rcases hm with rfl | rfl <;> simp [fit, hc]
  | cons d s ih =>
    cases l with
    | nil => simp [fit] at h
    | cons y l =>
      simp only [fit, Bool.and_eq_true] at h
      rw [List.cons_append, fit, ih h.2 (by simpa using hx), h.1.1, h.1.2]; rfl

/-! ### The greedy way -/
/-- Where the greedy way stands: at place i of the pattern and k of the name; 'star' is the last star's place (-1: none), 'fr' the place in the name at which what stands behind it is tried. -/
def Way (p l : List Nat) (star : Int) (fr i k : Nat) : Prop :=
  i ≤ p.length ∧ k ≤ l.length ∧ fr ≤ k ∧
    ((star = -1 ∧ like p l = like (p.drop i) (l.drop k)) ∨
     (∃ st s, star = (st : Nat) ∧ p.drop st = 42 :: (s ++ p.drop i) ∧ i = st + 1 + s.length ∧ k = fr + s.length ∧ fit s (l.drop fr) = true ∧ like p l = like (p.drop st) (l.drop fr)))

theorem way_zero (p l : List Nat) : Way p l (-1) 0 0 0 := ⟨by simp, by simp, by simp, .inl ⟨rfl, by simp⟩⟩

theorem drop_at {p : List Nat} {i c : Nat} (h : p[i]? = some c) : p.drop i = c :: p.drop (i + 1) := by
  obtain ⟨hi, e⟩ := List.getElem?_eq_some_iff.1 h
  rw [List.drop_eq_getElem_cons hi, e]

theorem way_star_bounds {p l : List Nat} {star : Int} {fr i k : Nat} (h : Way p l star fr i k) : -1 ≤ star ∧ star < p.length + 1 ∧ (star : Int) ≤ p.length := by
  obtain ⟨h1, _, _, ⟨rfl, _⟩ | ⟨st, s, rfl, _, hi, _⟩⟩ := h
  · omega
  · omega

/-- A star: it is kept. -/
theorem way_keep {p l : List Nat} {star : Int} {fr i k : Nat} (h : Way p l star fr i k) (hc : p[i]? = some 42) : Way p l (i : Nat) k (i + 1) k := by
  have hd := drop_at hc
  have hi : i < p.length := (List.getElem?_eq_some_iff.1 hc).1
  obtain ⟨h1, h2, h3, h⟩ := h
  refine ⟨hi, h2, Nat.le_refl _, .inr ⟨i, [], rfl, by rw [hd]; rfl, by simp, by simp, rfl, ?_⟩⟩
  rcases h with ⟨_, h⟩ | ⟨st, s, _, hs, _, rfl, hf, h⟩
  · exact h
  · rw [h, hs, hd, star_fit _ hf, List.drop_drop]

/-- A rune that fits. -/
theorem way_fit {p l : List Nat} {star : Int} {fr i k c x : Nat} (h : Way p l star fr i k) (hc : p[i]? = some c) (hx : l[k]? = some x) (h42 : c ≠ 42) (hm : c = 63 ∨ c = x) : Way p l star fr (i + 1) (k + 1) := by
  have hd := drop_at hc
  have hdx := drop_at hx
  have hi : i < p.length := (List.getElem?_eq_some_iff.1 hc).1
  have hk : k < l.length := (List.getElem?_eq_some_iff.1 hx).1
  obtain ⟨h1, h2, h3, h⟩ := h
  refine ⟨hi, hk, by omega, ?_⟩
  rcases h with ⟨rfl, h⟩ | ⟨st, s, rfl, hs, rfl, rfl, hf, h⟩
  · left
    refine ⟨rfl, ?_⟩
    rw [h, hd, hdx, like_lit _ _ _ _ h42]
    have : (c == 63 || c == x) = true := by rcases hm with rfl | rfl <;> simp
    rw [this]; rfl
  · right
    refine ⟨st, s ++ [c], rfl, by rw [hs, hd]; simp, by simp; omega, by simp; omega, fit_snoc hf h42 ?_ hm, h⟩
    rw [List.drop_drop]
    simp [hdx]

/-- Nothing fits. -/
def Miss (p l : List Nat) (i k : Nat) : Prop := k < l.length ∧ ∀ c, p[i]? = some c → c ≠ 42 ∧ c ≠ 63 ∧ ∀ x, l[k]? = some x → c ≠ x

theorem miss_like {p l : List Nat} {i k : Nat} (h : Miss p l i k) : like (p.drop i) (l.drop k) = false := by
  obtain ⟨hk, h⟩ := h
  have hx : l[k]? = some l[k] := List.getElem?_eq_getElem hk
  rw [drop_at hx]
  cases hc : p[i]? with
  | none => rw [List.drop_eq_nil_of_le (List.getElem?_eq_none_iff.1 hc), like_nil_cons]
  | some c =>
    obtain ⟨a, b, d⟩ := h c hc
    rw [drop_at hc, like_lit _ _ _ _ a]
    have := d _ hx
    simp [b, this]

theorem way_none {p l : List Nat} {star : Int} {fr i k : Nat} (h : Way p l star fr i k) (hm : Miss p l i k) (hs : star < 0) : like p l = false := by
  obtain ⟨h1, h2, h3, ⟨rfl, h⟩ | ⟨st, s, rfl, _⟩⟩ := h
  · rw [h, miss_like hm]
  · omega

theorem way_back {p l : List Nat} {star : Int} {fr i k : Nat} (h : Way p l star fr i k) (hm : Miss p l i k) (hs : 0 ≤ star) : ∃ st : Nat, star = st ∧ st < p.length ∧ fr < l.length ∧ Way p l star (fr + 1) (st + 1) (fr + 1) := by
  obtain ⟨h1, h2, h3, ⟨rfl, h⟩ | ⟨st, s, rfl, hs, rfl, rfl, hf, h⟩⟩ := h
  · omega
  · have hk := hm.1
    have hp : st < p.length := by omega
    refine ⟨st, rfl, hp, by omega, hp, by omega, Nat.le_refl _, .inr ⟨st, [], rfl, ?_, by simp, by simp, rfl, ?_⟩⟩
    · have hd : p.drop st = p[st] :: p.drop (st + 1) := List.drop_eq_getElem_cons hp
      rw [hd] at hs
      obtain ⟨a, b⟩ := List.cons.inj hs
      rw [hd, a]; rfl
    · have hml := miss_like hm
      rw [h, hs, star_miss _ hf (by rw [List.drop_drop]; exact hml), List.drop_drop]

theorem way_end {p l : List Nat} {star : Int} {fr i k : Nat} (h : Way p l star fr i k) (hk : l.length ≤ k) : like p l = (p.drop i).all (· == 42) := by
  obtain ⟨h1, h2, h3, ⟨rfl, h⟩ | ⟨st, s, rfl, hs, rfl, rfl, hf, h⟩⟩ := h
  · rw [h, List.drop_eq_nil_of_le hk, like_nil]
  · rw [h, hs, star_end _ hf (by simp; omega), like_nil]

/-- What is left of the pattern is stars alone, told from its bytes. -/
def enc (r : Nat) : List UInt8 := (Utf8.encode (Int.ofNat r)).data.toList
theorem enc_eq (r : Nat) : enc r = (Utf8.encode (r : Int)).data.toList := by rw [enc, Int.ofNat_eq_natCast]
def encs (rs : List Nat) : List UInt8 := rs.flatMap enc
theorem encs_cons (r : Nat) (rs : List Nat) : encs (r :: rs) = enc r ++ encs rs := List.flatMap_cons

theorem runesBytes_encs (rs : List Nat) : (runesBytes (rs.map Int.ofNat)).data.toList = encs rs := by
  have : ∀ (rs : List Nat) (a : ByteArray), ((rs.map Int.ofNat).foldl (fun r n => r ++ Utf8.encode n) a).data.toList = a.data.toList ++ encs rs := by
    intro rs
    induction rs with
    | nil => intro a; simp [encs]
    | cons r rs ih => intro a; rw [List.map_cons, List.foldl_cons, ih]; rw [encs_cons, ByteArray.data_append, Array.toList_append, List.append_assoc, ← enc]
  rw [runesBytes, this]; rfl

theorem encode_star : (Utf8.encode 42).data.toList = [42] := by decide

theorem ofNat_star (n : Nat) (h1 : n < 256) (h2 : n ≠ 42) : (UInt8.ofNat n == 42) = false := by
  rw [beq_eq_false_iff_ne, Ne, ← UInt8.toNat_inj]
  simp; omega

theorem encode_head (r : Int) : ∃ n t, (Utf8.encode r).data.toList = UInt8.ofNat n :: t ∧ n < 256 ∧ (n = 42 → r = 42) := by
  have hc : ∀ c : Nat, (c = if Utf8.valid r = true then r.toNat else Utf8.runeError) → c < 2097152 ∧ (c = 42 → r = 42) := by
    intro c e
    by_cases hv : Utf8.valid r = true
    · rw [if_pos hv] at e
      simp [Utf8.valid] at hv
      omega
    · rw [if_neg hv] at e
      unfold Utf8.runeError at e; omega
  unfold Utf8.encode
  generalize hcc : (if Utf8.valid r = true then r.toNat else Utf8.runeError) = c
  obtain ⟨h1, h2⟩ := hc c hcc.symm
  clear hc hcc
  dsimp only
  by_cases a : c < 128
  · rw [if_pos a]; exact ⟨_, _, rfl, by omega, h2⟩
  · rw [if_neg a]
    by_cases a2 : c < 2048
    · rw [if_pos a2]; exact ⟨_, _, rfl, by omega, by omega⟩
    · rw [if_neg a2]
      by_cases a3 : c < 65536
      · rw [if_pos a3]; exact ⟨_, _, rfl, by omega, by omega⟩
      · rw [if_neg a3]; exact ⟨_, _, rfl, by omega, by omega⟩

theorem encode_other (r : Nat) (h : r ≠ 42) : ((Utf8.encode (r : Int)).data.toList).all (· == 42) = false := by
  obtain ⟨n, t, e, h1, h2⟩ := encode_head r
  rw [e, List.all_cons, ofNat_star n h1 (fun e => h (by have := h2 e; omega))]; exact Bool.false_and _

theorem encs_all (rs : List Nat) : (encs rs).all (· == 42) = rs.all (· == 42) := by
  induction rs with
  | nil => rfl
  | cons r rs ih =>
    rw [encs_cons, List.all_append, ih, List.all_cons]
    by_cases h : r = 42
    · subst h; rw [enc_eq, show ((42 : Nat) : Int) = 42 from rfl, encode_star]; rfl
    · rw [enc_eq, encode_other r h]; simp [h]

theorem dropWhile_nil_iff {α : Type} (p : α → Bool) (l : List α) : l.dropWhile p = [] ↔ l.all p = true := by
  induction l with
  | nil => simp
  | cons a l ih =>
    by_cases h : p a = true
    · rw [List.dropWhile_cons_of_pos h, ih, List.all_cons, h]; rfl
    · rw [List.dropWhile_cons_of_neg h]; simp [h]

theorem trimB_nil (l : List UInt8) : (Lib.trimB l 42 == []) = l.all (· == 42) := by
  rw [Bool.eq_iff_iff, beq_iff_eq, Lib.trimB, Lib.trimLeftB, dropWhile_nil_iff, Lib.trimRightB, List.all_reverse]
  constructor
  · intro h
    have : l.reverse.dropWhile (· == 42) = [] := by
      cases e : l.reverse.dropWhile (· == 42) with
      | nil => rfl
      | cons a t =>
        have h2 := List.head?_dropWhile_not (fun x : UInt8 => x == 42) l.reverse
        rw [e] at h2 h
        simp at h h2
        exact absurd h.1 h2
    rw [dropWhile_nil_iff, List.all_reverse] at this
    exact this
  · intro h
    have : l.reverse.dropWhile (· == 42) = [] := by rw [dropWhile_nil_iff, List.all_reverse]; exact h
    rw [this]; rfl

end Go.Proofs.YtpbhkaokgpacoaaGreatDoor.Nm
/-
  Plain facts on paths: the names of a path, the path of names. No program stands in this text.
-/
namespace Go.Proofs.YtpbhkaokgpacoaaGreatDoor.Nm

def fine (r : Nat) : Bool := !(decide (r < 32)) && !(r == 127) && !(r == 47)
def runesFine (l : List UInt8) : Bool := (seg l).all fun p => fine p.1
def lenFine (l : List UInt8) : Bool := okB l && decide (1 ≤ count l) && decide (count l ≤ 64) && decide (l.length ≤ 255) && !(l == [46]) && !(l == [46, 46])
/-- A name may be. -/
def chk (l : List UInt8) : Bool := lenFine l && runesFine l

/-- A text cut at its slashes. -/
def parts : List UInt8 → List (List UInt8)
  | [] => [[]]
  | c :: t => if c = 47 then [] :: parts t else match parts t with | [] => [[c]] | h :: r => (c :: h) :: r

theorem parts_ne (l : List UInt8) : parts l ≠ [] := by
  cases l with
  | nil => simp [parts]
  | cons c t => rw [parts]; split; · simp
                split <;> simp

theorem parts_none (l : List UInt8) (h : ∀ c ∈ l, c ≠ 47) : parts l = [l] := by
  induction l with
  | nil => rfl
  | cons c t ih =>
    rw [parts, if_neg (h c (by simp)), ih (fun x hx => h x (by simp [hx]))]

theorem parts_hit (a b : List UInt8) (h : ∀ c ∈ a, c ≠ 47) : parts (a ++ 47 :: b) = a :: parts b := by
  induction a with
  | nil => simp [parts]
  | cons c t ih =>
    rw [List.cons_append, parts, if_neg (h c (by simp)), ih (fun x hx => h x (by simp [hx]))]

theorem parts_count (l : List UInt8) : (parts l).length = l.count 47 + 1 := by
  induction l with
  | nil => rfl
  | cons c t ih =>
    rw [parts]
    by_cases h : c = 47
    · subst h; simp [ih]
    · rw [if_neg h, List.count_cons_of_ne h]
      cases hp : parts t with
      | nil => exact absurd hp (parts_ne t)
      | cons x r => rw [hp] at ih; simpa using ih

theorem parts_le (l : List UInt8) : ∀ x ∈ parts l, x.length ≤ l.length := by
  induction l with
  | nil => intro x hx; simp [parts] at hx; subst hx; simp
  | cons c t ih =>
    intro x hx
    rw [parts] at hx
    split at hx
    · rcases List.mem_cons.1 hx with rfl | hx
      · simp
      · have := ih x hx; simp; omega
    · split at hx
      · rename_i e; exact absurd e (parts_ne t)
      · rename_i a r e
        rw [e] at ih
        rcases List.mem_cons.1 hx with rfl | hx
        · have := ih a (by simp); simp; omega
        · have := ih x (by simp [hx]); simp; omega

theorem splitK_parts : ∀ (n : Nat) (l : List UInt8), l.count 47 = n → Lib.splitK [47] 0 n l = parts l
  | 0, l, h => by
    rw [parts_none l (fun c hc e => by subst e; have := List.count_pos_iff.2 hc; omega)]
    rfl
  | n + 1, l, h => by
    have hmem : (47 : UInt8) ∈ l := List.count_pos_iff.1 (by omega)
    rw [Lib.splitK]
    cases hi : Lib.index l [47] with
    | negSucc k =>
      exfalso
      have h1 := Lib.index_ge l [47]
      have hm : Lib.index l [47] = -1 := by omega
      rw [Lib.index_one] at hm
      obtain ⟨j, hj, e⟩ := List.getElem_of_mem hmem
      exact Lib.indexByte_none hm j (by rw [List.getElem?_eq_getElem hj, e])
    | ofNat i =>
      have hne : (Int.ofNat i == (-1 : Int)) = false := by rw [beq_eq_false_iff_ne]; simp
      simp only [hne, Bool.false_eq_true, if_false]
      have hib : Lib.indexByte l 47 = (i : Nat) := by rw [← Lib.index_one, hi]; rfl
      obtain ⟨h1, h2⟩ := Lib.indexByte_some hib
      have hl : i < l.length := (List.getElem?_eq_some_iff.1 h1).1
      have hd : l = l.take i ++ 47 :: l.drop (i + 1) := by
        have := List.drop_eq_getElem_cons hl
        rw [(List.getElem?_eq_some_iff.1 h1).2] at this
        rw [← this, List.take_append_drop]
      have ha : ∀ c ∈ l.take i, c ≠ 47 := by
        intro c hc e
        subst e
        obtain ⟨j, hj, e⟩ := List.getElem_of_mem hc
        have hj' : j < i := by rw [List.length_take] at hj; omega
        refine h2 j hj' ?_
        rw [List.getElem_take] at e
        rw [List.getElem?_eq_getElem (by omega), e]
      have hc : (l.drop (i + 1)).count 47 = n := by
        have e := congrArg (List.count 47) hd
        rw [List.count_append, List.count_cons_self, h] at e
        have : (l.take i).count 47 = 0 := List.count_eq_zero.2 (fun hc => ha 47 hc rfl)
        omega
      have hk := splitK_parts n _ hc
      conv => rhs; rw [hd, parts_hit _ _ ha]
      rw [← hk]
      simp

theorem splitB_parts (s : ByteArray) : (Lib.splitB ⟨#[47]⟩ 0 (s.data.toList.count 47) s).map (·.data.toList) = parts s.data.toList := by
  rw [Lib.splitB_data]
  exact splitK_parts _ _ rfl

/-- A path's names; none: it is no path. -/
def splitP (p : List UInt8) : Option (List (List UInt8)) :=
  if p = [47] then some [] else if Lib.hasPrefix p [47] && decide (p.count 47 ≤ 16) && (parts (p.drop 1)).all chk then some (parts (p.drop 1)) else none

/-- The path of names. -/
def pathOf (ns : List (List UInt8)) : List UInt8 := ns.flatMap fun n => 47 :: n
def joinP (ns : List (List UInt8)) : Option (List UInt8) :=
  if decide (ns.length ≤ 16) && ns.all chk then some (if pathOf ns = [] then [47] else pathOf ns) else none

theorem hasPrefix_one (p : List UInt8) : Lib.hasPrefix p [47] = true ↔ ∃ t, p = 47 :: t := by
  cases p with
  | nil => simp [Lib.hasPrefix]
  | cons c t =>
    simp [Lib.hasPrefix, List.isPrefixOf]
    exact eq_comm

end Go.Proofs.YtpbhkaokgpacoaaGreatDoor.Nm
/-
  The stat index, plain: entries, the list that an index is, its calls, its bytes. No walk stands in this text.
-/
namespace Go.Proofs.YtpbhkaokgpacoaaGreatDoor.St
open Go.RowKit Go.WideAt Go.WideShapes Go.Proofs.YtpbhkaokgpacoaaGreatDoor.Rf Go.Proofs.YtpbhkaokgpacoaaGreatDoor.Nm

/-- An entry. -/
structure SE where
  path : List UInt8
  node : Nat
  size : Int
  ino : Nat
  tick : Int
  kind : Nat
  id : List UInt8
instance : Inhabited SE := ⟨⟨[], 0, 0, 0, 0, 0, []⟩⟩

/-! ### the order of texts -/
theorem lt_irrefl (a : List UInt8) : lt a a = false := bytes_irrefl a
theorem lt_total {a b : List UInt8} (h : a ≠ b) : lt a b = true ∨ lt b a = true := bytes_total a b h
theorem lt_trans {a b c : List UInt8} (h : lt a b = true) (k : lt b c = true) : lt a c = true := bytes_trans a b c h k
theorem lt_ne {a b : List UInt8} (h : lt a b = true) : a ≠ b := by
  rintro rfl; rw [lt_irrefl] at h; cases h
theorem lt_asymm {a b : List UInt8} (h : lt a b = true) : lt b a = false := by
  cases k : lt b a
  · rfl
  · have := lt_trans h k; rw [lt_irrefl] at this; cases this
theorem lt_less : ∀ a b : List UInt8, Op.bytesLess a b = lt a b
  | [], [] => rfl
  | [], _ :: _ => rfl
  | _ :: _, [] => rfl
  | a :: r, b :: s => by
    show (decide (a < b) || (a == b && Op.bytesLess r s)) = (decide (a < b) || (a == b && lt r s))
    rw [lt_less r s]
theorem lt_iff : ∀ {a b : List UInt8}, lt a b = true ↔ a < b
  | [], [] => by simp [lt, Lit.before, bytesBefore]
  | [], _ :: _ => by simp [lt, Lit.before, bytesBefore]
  | _ :: _, [] => by simp [lt, Lit.before, bytesBefore]
  | a :: r, b :: s => by
    have e : lt (a :: r) (b :: s) = (decide (a < b) || (a == b && lt r s)) := rfl
    rw [e, List.cons_lt_cons_iff, Bool.or_eq_true, Bool.and_eq_true, decide_eq_true_eq, beq_iff_eq, lt_iff (a := r) (b := s)]

/-- Rising by path. -/
def Srt (L : List SE) : Prop := L.Pairwise fun a b => lt a.path b.path = true
theorem Srt.tail {e : SE} {L : List SE} (h : Srt (e :: L)) : Srt L := (List.pairwise_cons.1 h).2
theorem Srt.head {e : SE} {L : List SE} (h : Srt (e :: L)) : ∀ x ∈ L, lt e.path x.path = true := (List.pairwise_cons.1 h).1

/-! ### the calls of an index, on its list -/
/-- The place of a path. -/
def atL (p : List UInt8) : List SE → Nat
  | [] => 0
  | y :: r => if lt y.path p = true then atL p r + 1 else 0
def getL (p : List UInt8) : List SE → Option SE
  | [] => none
  | y :: r => if lt y.path p = true then getL p r else if y.path = p then some y else none
def insL (e : SE) : List SE → List SE
  | [] => [e]
  | y :: r => if lt y.path e.path = true then y :: insL e r else if y.path = e.path then e :: r else e :: y :: r
def remL (p : List UInt8) : List SE → List SE
  | [] => []
  | y :: r => if lt y.path p = true then y :: remL p r else if y.path = p then r else y :: r
def keepL (ps : List (List UInt8)) (L : List SE) : List SE := L.filter fun e => ps.contains e.path

theorem atL_le (p : List UInt8) : ∀ L : List SE, atL p L ≤ L.length
  | [] => Nat.le_refl _
  | y :: r => by rw [atL]; split <;> simp; exact atL_le p r
theorem atL_lt (p : List UInt8) : ∀ (L : List SE) (i : Nat) (x : SE), i < atL p L → L[i]? = some x → lt x.path p = true
  | [], _, _, h, _ => by simp [atL] at h
  | y :: r, i, x, h, hx => by
    rw [atL] at h
    split at h
    · next hy =>
      cases i with
      | zero => simp at hx; subst hx; exact hy
      | succ i => exact atL_lt p r i x (by omega) (by simpa using hx)
    · omega
theorem atL_stop (p : List UInt8) : ∀ (L : List SE) (x : SE), L[atL p L]? = some x → lt x.path p = false
  | [], _, h => by simp [atL] at h
  | y :: r, x, h => by
    rw [atL] at h
    split at h
    · exact atL_stop p r x (by simpa using h)
    · next hy => simp at h; subst h; simpa using hy
theorem atL_of (p : List UInt8) : ∀ (L : List SE) (i : Nat), i ≤ L.length → (∀ j x, j < i → L[j]? = some x → lt x.path p = true) → (∀ x, L[i]? = some x → lt x.path p = false) → atL p L = i
  | [], i, h, _, _ => by simp at h; subst h; rfl
  | y :: r, 0, _, _, h2 => by rw [atL, if_neg]; have := h2 y (by simp); simp [this]
  | y :: r, i + 1, h, h1, h2 => by
    rw [atL, if_pos (h1 0 y (by omega) (by simp)), atL_of p r i (by simpa using h) (fun j x hj hx => h1 (j + 1) x (by omega) (by simpa using hx)) (fun x hx => h2 x (by simpa using hx))]
theorem getL_at (p : List UInt8) : ∀ L : List SE, getL p L = (L[atL p L]?).bind fun x => if x.path = p then some x else none
  | [] => rfl
  | y :: r => by
    rw [getL, atL]
    split
    · rw [getL_at p r]; simp
    · simp
theorem insL_there {e x : SE} : ∀ {L : List SE}, L[atL e.path L]? = some x → x.path = e.path → insL e L = L.set (atL e.path L) e
  | [], h, _ => by simp [atL] at h
  | y :: r, h, hx => by
    rw [atL] at h ⊢; rw [insL]
    split
    · next hy =>
      rw [if_pos hy] at h
      rw [insL_there (by simpa using h) hx]; simp
    · next hy =>
      rw [if_neg hy] at h
      simp at h; subst h
      rw [if_pos hx]; rfl
theorem insL_new {e : SE} : ∀ {L : List SE}, getL e.path L = none → insL e L = L.take (atL e.path L) ++ e :: L.drop (atL e.path L)
  | [], _ => rfl
  | y :: r, h => by
    rw [getL] at h; rw [insL, atL]
    split
    · next hy =>
      rw [if_pos hy] at h
      rw [insL_new h]; simp
    · next hy =>
      rw [if_neg hy] at h
      have hne : y.path ≠ e.path := by intro e1; rw [if_pos e1] at h; cases h
      rw [if_neg hne]; rfl
theorem remL_there {p : List UInt8} {x : SE} : ∀ {L : List SE}, getL p L = some x → remL p L = L.take (atL p L) ++ L.drop (atL p L + 1)
  | [], h => by simp [getL] at h
  | y :: r, h => by
    rw [getL] at h; rw [remL, atL]
    split
    · next hy =>
      rw [if_pos hy] at h
      rw [remL_there h]; simp
    · next hy =>
      rw [if_neg hy] at h
      have hy' : y.path = p := by
        cases Decidable.em (y.path = p) with
        | inl e1 => exact e1
        | inr e1 => rw [if_neg e1] at h; cases h
      rw [if_pos hy']; rfl
theorem remL_none {p : List UInt8} : ∀ {L : List SE}, getL p L = none → remL p L = L
  | [], _ => rfl
  | y :: r, h => by
    rw [getL] at h; rw [remL]
    split
    · next hy => rw [if_pos hy] at h; rw [remL_none h]
    · next hy =>
      rw [if_neg hy] at h
      have hne : y.path ≠ p := by intro e1; rw [if_pos e1] at h; cases h
      rw [if_neg hne]
theorem getL_path {p : List UInt8} {x : SE} : ∀ {L : List SE}, getL p L = some x → x.path = p ∧ x ∈ L
  | [], h => by simp [getL] at h
  | y :: r, h => by
    rw [getL] at h
    split at h
    · have := getL_path h; exact ⟨this.1, by simp [this.2]⟩
    · split at h
      · next hy => injection h with h; subst h; exact ⟨hy, by simp⟩
      · cases h

theorem mem_insL {e x : SE} : ∀ {L : List SE}, x ∈ insL e L → x = e ∨ x ∈ L
  | [], h => by simp [insL] at h; exact .inl h
  | y :: r, h => by
    rw [insL] at h
    split at h
    · rcases List.mem_cons.1 h with h | h
      · exact .inr (by simp [h])
      · rcases mem_insL h with h | h
        · exact .inl h
        · exact .inr (by simp [h])
    · split at h
      · rcases List.mem_cons.1 h with h | h
        · exact .inl h
        · exact .inr (by simp [h])
      · rcases List.mem_cons.1 h with h | h
        · exact .inl h
        · exact .inr h
theorem insL_srt (e : SE) : ∀ {L : List SE}, Srt L → Srt (insL e L)
  | [], _ => List.pairwise_singleton _ _
  | y :: r, h => by
    rw [insL]
    split
    · next hy =>
      refine List.pairwise_cons.2 ⟨fun x hx => ?_, insL_srt e h.tail⟩
      rcases mem_insL hx with rfl | hx
      · exact hy
      · exact h.head x hx
    · next hy =>
      split
      · next hp =>
        refine List.pairwise_cons.2 ⟨fun x hx => ?_, h.tail⟩
        rw [← hp]; exact h.head x hx
      · next hp =>
        have hey : lt e.path y.path = true := (lt_total hp).resolve_left hy
        refine List.pairwise_cons.2 ⟨fun x hx => ?_, h⟩
        rcases List.mem_cons.1 hx with rfl | hx
        · exact hey
        · exact lt_trans hey (h.head x hx)
theorem insL_length_le (e : SE) : ∀ L : List SE, (insL e L).length ≤ L.length + 1
  | [] => Nat.le_refl _
  | y :: r => by
    rw [insL]
    split
    · have := insL_length_le e r; simp; omega
    · split <;> simp
theorem remL_sub (p : List UInt8) : ∀ L : List SE, (remL p L).Sublist L
  | [] => .slnil
  | y :: r => by
    rw [remL]
    split
    · exact (remL_sub p r).cons_cons y
    · split
      · exact .cons _ (.refl _)
      · exact .refl _
theorem remL_srt {p : List UInt8} {L : List SE} (h : Srt L) : Srt (remL p L) := h.sublist (remL_sub p L)
theorem keepL_srt {ps : List (List UInt8)} {L : List SE} (h : Srt L) : Srt (keepL ps L) := h.sublist List.filter_sublist
theorem keepL_sub (ps : List (List UInt8)) (L : List SE) : (keepL ps L).Sublist L := List.filter_sublist

/-! ### the list as a map by paths -/
def toZ (L : List SE) : MV SE := L.map fun e => (e.path, e)
theorem toZ_length (L : List SE) : (toZ L).length = L.length := List.length_map _
theorem toZ_get (p : List UInt8) : ∀ {L : List SE}, Srt L → getM (toZ L) p = getL p L
  | [], _ => rfl
  | y :: r, h => by
    rw [getL]
    have ih := toZ_get p h.tail
    show ((((y.path, y) :: toZ r).find? fun q => q.1 == p).map (·.2)) = _
    by_cases hp : y.path = p
    · rw [List.find?_cons_of_pos (by simpa using hp), if_neg (by rw [hp, lt_irrefl]; decide), if_pos hp]; rfl
    · rw [List.find?_cons_of_neg (by simpa using hp)]
      show getM (toZ r) p = _
      rw [ih]
      split
      · rfl
      · next hy =>
        have hpy : lt p y.path = true := (lt_total hp).resolve_left hy
        cases r with
        | nil => rfl
        | cons z r =>
          have hz := lt_trans hpy (h.head z (by simp))
          rw [getL, if_neg (by rw [lt_asymm hz]; decide), if_neg (fun e => by rw [e, lt_irrefl] at hz; cases hz)]
theorem toZ_del (p : List UInt8) : ∀ {L : List SE}, Srt L → delM (toZ L) p = toZ (remL p L)
  | [], _ => rfl
  | y :: r, h => by
    have e : delM (toZ (y :: r)) p = if y.path = p then delM (toZ r) p else (y.path, y) :: delM (toZ r) p := by
      show List.filter _ ((y.path, y) :: toZ r) = _
      rw [List.filter_cons]
      by_cases hp : y.path = p
      · rw [if_neg (by simpa using hp), if_pos hp]; rfl
      · rw [if_pos (by simpa using hp), if_neg hp]; rfl
    have hnone : ∀ {r : List SE}, (∀ x ∈ r, x.path ≠ p) → delM (toZ r) p = toZ r := fun {r} hr => by
      rw [delM, List.filter_eq_self]
      intro q hq
      obtain ⟨x, hx, rfl⟩ := List.mem_map.1 hq
      simpa using hr x hx
    rw [e, remL]
    by_cases hp : y.path = p
    · rw [if_pos hp, if_neg (by rw [hp, lt_irrefl]; decide), if_pos hp]
      exact hnone (fun x hx e1 => by have := h.head x hx; rw [hp, e1, lt_irrefl] at this; cases this)
    · rw [if_neg hp]
      by_cases hy : lt y.path p = true
      · rw [if_pos hy, toZ_del p h.tail]; rfl
      · rw [if_neg hy, if_neg hp]
        have hpy : lt p y.path = true := (lt_total hp).resolve_left hy
        rw [hnone (fun x hx e1 => by have := lt_trans hpy (h.head x hx); rw [e1, lt_irrefl] at this; cases this)]; rfl
theorem toZ_ins {e : SE} : ∀ {L : List SE}, Srt L → (∀ x ∈ L, x.path ≠ e.path) → insM e.path e (toZ L) = toZ (insL e L)
  | [], _, _ => rfl
  | y :: r, h, hn => by
    show insM e.path e ((y.path, y) :: toZ r) = _
    rw [insM, insL]
    have hne := hn y (by simp)
    by_cases hy : lt y.path e.path = true
    · rw [if_pos hy, if_neg (by rw [lt_asymm hy]; decide), toZ_ins h.tail (fun x hx => hn x (by simp [hx]))]; rfl
    · rw [if_neg hy, if_neg hne, if_pos ((lt_total hne).resolve_left hy)]; rfl
theorem insL_rem {e : SE} : ∀ {L : List SE}, Srt L → insL e (remL e.path L) = insL e L
  | [], _ => rfl
  | y :: r, h => by
    rw [remL]
    by_cases hy : lt y.path e.path = true
    · rw [if_pos hy, insL, if_pos hy, insL_rem h.tail, insL, if_pos hy]
    · rw [if_neg hy]
      by_cases hp : y.path = e.path
      · rw [if_pos hp, insL, if_neg hy, if_pos hp]
        cases r with
        | nil => rfl
        | cons z r =>
          have hz := h.head z (by simp)
          rw [hp] at hz
          rw [insL, if_neg (by rw [lt_asymm hz]; decide), if_neg (fun e1 => by rw [e1, lt_irrefl] at hz; cases hz)]
      · rw [if_neg hp]
theorem toZ_put {e : SE} {L : List SE} (h : Srt L) : putM (toZ L) e.path e = toZ (insL e L) := by
  rw [putM, toZ_del _ h, toZ_ins (remL_srt h), insL_rem h]
  intro x hx e1
  have h1 : (x.path, x) ∈ toZ (remL e.path L) := List.mem_map.2 ⟨x, hx, rfl⟩
  rw [← toZ_del _ h] at h1
  exact (mem_del.1 h1).2 e1
theorem toZ_keys (L : List SE) : (toZ L).map (·.1) = L.map (·.path) := by rw [toZ, List.map_map]; rfl
theorem srt_sort {L : List SE} (h : Srt L) : (L.map (·.path)).mergeSort (fun x y => decide (x ≤ y)) = L.map (·.path) := by
  refine List.mergeSort_of_pairwise ?_
  rw [List.pairwise_map]
  exact h.imp fun {a b} k => by simpa using List.le_of_lt (lt_iff.1 k)

/-- Two rising lists of the same entries are one. -/
theorem srt_ext : ∀ {A B : List SE}, Srt A → Srt B → (∀ e, e ∈ A ↔ e ∈ B) → A = B
  | [], [], _, _, _ => rfl
  | [], b :: B, _, _, h => by have := (h b).2 (by simp); cases this
  | a :: A, [], _, _, h => by have := (h a).1 (by simp); cases this
  | a :: A, b :: B, hA, hB, h => by
    have e1 : a = b := by
      rcases List.mem_cons.1 ((h a).1 (by simp)) with e | e
      · exact e
      · rcases List.mem_cons.1 ((h b).2 (by simp)) with e2 | e2
        · exact e2.symm
        · have h1 := hB.head a e; have h2 := hA.head b e2
          rw [lt_asymm h1] at h2; cases h2
    subst e1
    congr 1
    refine srt_ext hA.tail hB.tail fun e => ?_
    constructor
    · intro he
      rcases List.mem_cons.1 ((h e).1 (by simp [he])) with rfl | e2
      · have := hA.head e he; rw [lt_irrefl] at this; cases this
      · exact e2
    · intro he
      rcases List.mem_cons.1 ((h e).2 (by simp [he])) with rfl | e2
      · have := hB.head e he; rw [lt_irrefl] at this; cases this
      · exact e2
theorem mem_insL_iff {e x : SE} : ∀ {L : List SE}, Srt L → (x ∈ insL e L ↔ x = e ∨ (x ∈ L ∧ x.path ≠ e.path))
  | [], _ => by simp [insL]
  | y :: r, h => by
    rw [insL]
    split
    · next hy =>
      rw [List.mem_cons, mem_insL_iff h.tail, List.mem_cons]
      constructor
      · rintro (rfl | h1 | ⟨h1, h2⟩)
        · exact .inr ⟨.inl rfl, lt_ne hy⟩
        · exact .inl h1
        · exact .inr ⟨.inr h1, h2⟩
      · rintro (h1 | ⟨rfl | h1, h2⟩)
        · exact .inr (.inl h1)
        · exact .inl rfl
        · exact .inr (.inr ⟨h1, h2⟩)
    · next hy =>
      split
      · next hp =>
        rw [List.mem_cons, List.mem_cons]
        constructor
        · rintro (rfl | h1)
          · exact .inl rfl
          · exact .inr ⟨.inr h1, fun e1 => by have := h.head x h1; rw [hp, e1, lt_irrefl] at this; cases this⟩
        · rintro (h1 | ⟨rfl | h1, h2⟩)
          · exact .inl h1
          · exact absurd hp h2
          · exact .inr h1
      · next hp =>
        have hey : lt e.path y.path = true := (lt_total hp).resolve_left hy
        rw [List.mem_cons]
        constructor
        · rintro (h1 | h1)
          · exact .inl h1
          · refine .inr ⟨h1, fun e1 => ?_⟩
            rcases List.mem_cons.1 h1 with rfl | h1
            · exact hp e1
            · have := lt_trans hey (h.head x h1); rw [e1, lt_irrefl] at this; cases this
        · rintro (h1 | ⟨h1, _⟩)
          · exact .inl h1
          · exact .inr h1
/-- What Keep's loop over the paths builds. -/
def stayL (L : List SE) : List (List UInt8) → List SE → List SE
  | [], S => S
  | p :: ps, S => stayL L ps (match getL p L with | none => S | some e => insL e S)
theorem getL_mem {L : List SE} (h : Srt L) {x : SE} (hx : x ∈ L) : getL x.path L = some x := by
  rw [← toZ_get _ h]
  have hk : ∀ y ∈ L, y.path = x.path → y = x := fun y hy e => by
    obtain ⟨i, hi, rfl⟩ := List.getElem_of_mem hx
    obtain ⟨j, hj, rfl⟩ := List.getElem_of_mem hy
    rcases Nat.lt_trichotomy i j with k | k | k
    · have := List.pairwise_iff_getElem.1 h i j hi hj k; rw [e, lt_irrefl] at this; cases this
    · subst k; rfl
    · have := List.pairwise_iff_getElem.1 h j i hj hi k; rw [e, lt_irrefl] at this; cases this
  cases hg : getM (toZ L) x.path with
  | none => exact absurd rfl (get_none_iff.1 hg (x.path, x) (List.mem_map.2 ⟨x, hx, rfl⟩))
  | some y =>
    obtain ⟨z, hz, e⟩ := List.mem_map.1 (getM_mem hg)
    injection e with e1 e2
    subst e2
    rw [hk z hz e1]
theorem stayL_srt {L : List SE} : ∀ {ps : List (List UInt8)} {S : List SE}, Srt S → Srt (stayL L ps S)
  | [], _, h => h
  | p :: ps, S, h => by
    rw [stayL]
    refine stayL_srt ?_
    split
    · exact h
    · exact insL_srt _ h
theorem stayL_mem {L : List SE} (hL : Srt L) {x : SE} : ∀ {ps : List (List UInt8)} {S : List SE}, Srt S → (∀ y ∈ S, y ∈ L) → (x ∈ stayL L ps S ↔ x ∈ S ∨ (x ∈ L ∧ x.path ∈ ps))
  | [], S, _, _ => by simp [stayL]
  | p :: ps, S, h, hs => by
    rw [stayL]
    cases hg : getL p L with
    | none =>
      rw [stayL_mem hL h hs]
      constructor
      · rintro (h1 | ⟨h1, h2⟩)
        · exact .inl h1
        · exact .inr ⟨h1, by simp [h2]⟩
      · rintro (h1 | ⟨h1, h2⟩)
        · exact .inl h1
        · rcases List.mem_cons.1 h2 with e | h2
          · subst e; rw [getL_mem hL h1] at hg; cases hg
          · exact .inr ⟨h1, h2⟩
    | some e =>
      obtain ⟨g1, g2⟩ := getL_path hg
      have hsub : ∀ y ∈ insL e S, y ∈ L := fun y hy => by
        rcases mem_insL hy with rfl | hy
        · exact g2
        · exact hs y hy
      rw [stayL_mem hL (insL_srt e h) hsub, mem_insL_iff h]
      constructor
      · rintro ((rfl | ⟨h1, h2⟩) | ⟨h1, h2⟩)
        · exact .inr ⟨g2, by simp [g1]⟩
        · exact .inl h1
        · exact .inr ⟨h1, by simp [h2]⟩
      · rintro (h1 | ⟨h1, h2⟩)
        · by_cases hp : x.path = e.path
          · have h3 := getL_mem hL (hs x h1)
            rw [hp, g1, hg] at h3
            injection h3 with h3
            exact .inl (.inl h3.symm)
          · exact .inl (.inr ⟨h1, hp⟩)
        · rcases List.mem_cons.1 h2 with e1 | h2
          · have h3 := getL_mem hL h1
            rw [e1, hg] at h3
            injection h3 with h3
            exact .inl (.inl h3.symm)
          · exact .inr ⟨h1, h2⟩
theorem stay_keep {L : List SE} (h : Srt L) (ps : List (List UInt8)) : stayL L ps [] = keepL ps L := by
  refine srt_ext (stayL_srt List.Pairwise.nil) (keepL_srt h) fun x => ?_
  rw [stayL_mem h List.Pairwise.nil (by simp), keepL, List.mem_filter]
  simp

/-! ### May, and the bytes -/
/-- An entry may be. -/
def statBad (e : SE) : Bool := decide (e.node < 1) || decide (3 < e.node) || decide (e.size < 0) || decide (1048576 < e.size) || decide (e.ino < 1) || decide (e.tick < 0) || decide (1099511627776 < e.tick) || decide (e.kind < 1) || decide (5 < e.kind)
def mayN (e : SE) : Int := if (splitP e.path).isNone then 10 else if statBad e then 1 else 0
/-- An entry's bytes. -/
def encS (e : SE) : List UInt8 := putText e.path ++ [UInt8.ofNat e.node] ++ sh e.size.toNat ++ sh e.ino ++ sh e.tick.toNat ++ [UInt8.ofNat e.kind] ++ e.id
def mst : List UInt8 := [109, 115, 116, 49]
/-- An index's bytes. -/
def encX (L : List SE) : List UInt8 := mst ++ sh L.length ++ L.flatMap encS
end Go.Proofs.YtpbhkaokgpacoaaGreatDoor.St
/-
  How an entry, and an index of the program's and of the reference's, lie in memory.
-/
namespace Go.Proofs.YtpbhkaokgpacoaaGreatDoor.St
open Go.RowKit Go.Maps Go.WideMaps Go.Proofs.YtpbhkaokgpacoaaGreatDoor.Rf

/-- The four cells of an entry's stat. -/
def SE.stat (e : SE) : List Value := [.int .u8 (e.node : Int), .int .i64 e.size, .int .u64 (e.ino : Int), .int .i64 e.tick]
/-- An entry's 38 cells. -/
def SE.cells (e : SE) : List Value := .string ⟨e.path.toArray⟩ :: .int .u8 (e.node : Int) :: .int .i64 e.size :: .int .u64 (e.ino : Int) :: .int .i64 e.tick :: .int .u8 (e.kind : Int) :: Lib.byteCells e.id
abbrev enV (e : SE) : Value := .agg e.cells.toArray
structure SE.Fits (e : SE) : Prop where
  path : e.path.length ≤ 140737488355328
  node : e.node < 256
  size : -9223372036854775808 ≤ e.size ∧ e.size < 9223372036854775808
  ino : e.ino < 18446744073709551616
  tick : -9223372036854775808 ≤ e.tick ∧ e.tick < 9223372036854775808
  kind : e.kind < 256
  id : e.id.length = 32
/-- The entry of noughts. -/
def zeroS : SE := ⟨[], 0, 0, 0, 0, 0, List.replicate 32 0⟩
theorem zero_fits : zeroS.Fits := ⟨by decide, by decide, by decide, by decide, by decide, by decide, by decide⟩
theorem cells_size {e : SE} (h : e.id.length = 32) : e.cells.length = 38 := by simp [SE.cells, Lib.byteCells_length, h]
theorem cells_one (e : SE) : ∀ u ∈ e.cells, u.oneCell' = true := by
  intro u hu
  simp only [SE.cells, List.mem_cons, Lib.byteCells, List.mem_map] at hu
  rcases hu with rfl | rfl | rfl | rfl | rfl | rfl | ⟨b, _, rfl⟩ <;> rfl
theorem cells_all (e : SE) : e.cells.toArray.all (·.oneCell') = true := Array.all_eq_true_iff_forall_mem.2 (fun u hu => cells_one e u (by simpa using hu))
def cellsS (L : List SE) : List Value := L.flatMap SE.cells
theorem cellsS_length {L : List SE} (h : ∀ e ∈ L, e.id.length = 32) : (cellsS L).length = 38 * L.length := by
  induction L with
  | nil => rfl
  | cons e r ih =>
    have h2 : (cellsS r).length = 38 * r.length := ih (fun x hx => h x (by simp [hx]))
    rw [cellsS, List.flatMap_cons, List.length_append, cells_size (h e (by simp)), ← cellsS, h2, List.length_cons]; omega
theorem cellsS_one {L : List SE} : ∀ u ∈ cellsS L, u.oneCell' = true := by
  intro u hu
  obtain ⟨e, _, hu⟩ := List.mem_flatMap.1 hu
  exact cells_one e u hu
theorem cellsS_append (A B : List SE) : cellsS (A ++ B) = cellsS A ++ cellsS B := by rw [cellsS, List.flatMap_append]; rfl
theorem cellsS_cons (e : SE) (B : List SE) : cellsS (e :: B) = e.cells ++ cellsS B := by rw [cellsS, List.flatMap_cons]; rfl
theorem cellsS_at {l : List SE} (h : ∀ e ∈ l, e.id.length = 32) {j : Nat} {e : SE} (hj : l[j]? = some e) {t : Nat} {v : Value} (hv : e.cells[t]? = some v) : (cellsS l)[j * 38 + t]? = some v := by
  obtain ⟨hjl, rfl⟩ := List.getElem?_eq_some_iff.1 hj
  have e1 : l = l.take j ++ (l[j] :: l.drop (j + 1)) := by rw [← List.drop_eq_getElem_cons hjl, List.take_append_drop]
  have h2 : (cellsS (l.take j)).length = 38 * j := by
    rw [cellsS_length (fun e he => h e (List.mem_of_mem_take he)), List.length_take, Nat.min_eq_left (by omega)]
  have ht := (List.getElem?_eq_some_iff.1 hv).1
  have e2 : cellsS l = cellsS (l.take j) ++ (l[j].cells ++ cellsS (l.drop (j + 1))) := by
    conv => lhs; rw [e1]
    rw [cellsS_append, cellsS_cons]
  rw [e2, List.getElem?_append_right (by omega), h2, show j * 38 + t - 38 * j = t by omega, List.getElem?_append_left ht]
  exact hv

/-! ### rows of many cells -/
theorem rowS_kept {w w' : World} {B : Nat} {e : TypeId} {s : Nat} {v : Value} {n : Nat} {xs : List Value} (h : w.ownsRow B e s v n xs) (hb : ∀ b ∈ ob v, b < w.heap.size → w'.heap[b]? = w.heap[b]?) : w'.ownsRow B e s v n xs := by
  obtain ⟨h1, h2 | ⟨g, cap, cur, rfl, a, b, c⟩⟩ := h
  · exact ⟨h1, .inl h2⟩
  · exact ⟨h1, .inr ⟨g, cap, cur, rfl, a, (hb g (by simp [ob, Value.ownBlock]) (lt_of_heap b)).trans b, c⟩⟩
theorem rowS_lt {w : World} {B : Nat} {e : TypeId} {s : Nat} {v : Value} {n : Nat} {xs : List Value} (h : w.ownsRow B e s v n xs) : ∀ b ∈ ob v, b < w.heap.size := by
  obtain ⟨_, ⟨rfl, _⟩ | ⟨g, cap, cur, rfl, _, hh, _⟩⟩ := h
  · intro b hb; simp [ob, Value.ownBlock] at hb
  · intro b hb; simp [ob, Value.ownBlock] at hb; subst hb; exact lt_of_heap hh
theorem rowS_ge {w : World} {B : Nat} {e : TypeId} {s : Nat} {v : Value} {n : Nat} {xs : List Value} (h : w.ownsRow B e s v n xs) : ∀ b ∈ ob v, B ≤ b := by
  obtain ⟨_, ⟨rfl, _⟩ | ⟨g, cap, cur, rfl, hg, _⟩⟩ := h
  · intro b hb; simp [ob, Value.ownBlock] at hb
  · intro b hb; simp [ob, Value.ownBlock] at hb; subst hb; exact hg
theorem rowS_form {w : World} {B : Nat} {e : TypeId} {s : Nat} {v : Value} {n : Nat} {xs : List Value} (h : w.ownsRow B e s v n xs) (hn : n ≠ 0) : ∃ g cap, v = .slice (some ⟨g, 0, none⟩) n cap ∧ g < w.heap.size ∧ B ≤ g ∧ n ≤ cap ∧ ∀ (j : Nat) x, xs[j]? = some x → w.cell? ⟨g, j, none⟩ = some x := by
  obtain ⟨h1, ⟨_, h2⟩ | ⟨g, cap, cur, rfl, hg, hh, hc, _, _, ht⟩⟩ := h
  · exact absurd h2 hn
  · refine ⟨g, cap, rfl, lt_of_heap hh, hg, hc, fun j x hj => ?_⟩
    rw [cell_of_heap hh]
    have e1 := congrArg (fun l => l[j]?) ht
    rw [hj] at e1
    have hjl : j < n * s := by
      have := (List.getElem?_eq_some_iff.1 hj).1
      omega
    rw [List.getElem?_take_of_lt hjl, Array.getElem?_toList] at e1
    exact e1
theorem rowS_slice {w : World} {B : Nat} {e : TypeId} {s : Nat} {v : Value} {n : Nat} {xs : List Value} (h : w.ownsRow B e s v n xs) : ∃ a cap, v = .slice a n cap := by
  obtain ⟨_, ⟨rfl, rfl⟩ | ⟨g, cap, cur, rfl, _⟩⟩ := h
  · exact ⟨_, _, rfl⟩
  · exact ⟨_, _, rfl⟩
theorem rowS_nil (w : World) (B : Nat) (e : TypeId) (s : Nat) : w.ownsRow B e s (.slice none 0 0) 0 [] := World.ownsRow_nil _ _ _ _

/-! ### an index of the program's -/
structure IndexAt (B : Nat) (w : World) (g b : Nat) (L : List SE) : Prop where
  book : w.heap[g]? = some (.cells #[.map (some b)] 92)
  map : w.ownsMap Tryz.prog 9 Rv b 1000000 (toD enV (toZ L))
  gb : g ≠ b
  baseg : B ≤ g
  baseb : B ≤ b
  srt : Srt L
  fits : ∀ e ∈ L, e.Fits
  len : L.length ≤ 65536
theorem IndexAt.lt_g {B : Nat} {w : World} {g b : Nat} {L : List SE} (h : IndexAt B w g b L) : g < w.heap.size := lt_of_heap h.book
theorem IndexAt.lt_b {B : Nat} {w : World} {g b : Nat} {L : List SE} (h : IndexAt B w g b L) : b < w.heap.size := h.map.lt
theorem IndexAt.kept {B : Nat} {w w' : World} {g b : Nat} {L : List SE} (h : IndexAt B w g b L) (hg : w'.heap[g]? = w.heap[g]?) (hb : w'.heap[b]? = w.heap[b]?) : IndexAt B w' g b L :=
  ⟨hg.trans h.book, ownsMap_block h.map hb, h.gb, h.baseg, h.baseb, h.srt, h.fits, h.len⟩
theorem IndexAt.below {B : Nat} {w w' : World} {g b : Nat} {L : List SE} (h : IndexAt B w g b L) (hb : Below w.heap.size w w') : IndexAt B w' g b L := h.kept (hb.block _ h.lt_g) (hb.block _ h.lt_b)
theorem IndexAt.mono {B B' : Nat} {w : World} {g b : Nat} {L : List SE} (h : IndexAt B w g b L) (hB : B' ≤ B) : IndexAt B' w g b L :=
  ⟨h.book, h.map, h.gb, Nat.le_trans hB h.baseg, Nat.le_trans hB h.baseb, h.srt, h.fits, h.len⟩
theorem IndexAt.get {B : Nat} {w : World} {g b : Nat} {L : List SE} (h : IndexAt B w g b L) (p : List UInt8) : getM (toZ L) p = getL p L := toZ_get p h.srt
theorem IndexAt.fitsGet {B : Nat} {w : World} {g b : Nat} {L : List SE} (h : IndexAt B w g b L) (p : List UInt8) : ((getL p L).getD zeroS).Fits := by
  cases hg : getL p L with
  | none => exact zero_fits
  | some e => exact h.fits e (getL_path hg).2

/-! ### the entry of noughts, and variables of entries -/
theorem zeroEn (w : World) : (zeroValue 44).run Tryz.prog w = .ok (enV zeroS) w := by kernel_rfl
theorem zeroEnR (w : World) : (zeroValue 49).run Tryz.prog w = .ok (enV zeroS) w := by kernel_rfl
theorem built0 : Tryz.prog.built 44 [] = some zeroS.cells.toArray := by kernel_rfl
theorem built0R : Tryz.prog.built 49 [] = some zeroS.cells.toArray := by kernel_rfl
theorem infoEn {e : SE} (h : e.id.length = 32) : (Tryz.prog.info? 44).map (·.size) = some e.cells.toArray.size := by
  rw [List.size_toArray, cells_size h]; kernel_rfl
theorem infoEnR {e : SE} (h : e.id.length = 32) : (Tryz.prog.info? 49).map (·.size) = some e.cells.toArray.size := by
  rw [List.size_toArray, cells_size h]; kernel_rfl
/-- A look-up by a text. -/
theorem IndexAt.look {B : Nat} {w : World} {g b : Nat} {L : List SE} (h : IndexAt B w g b L) (S : ByteArray) (hS : S.size ≤ maxLen) :
    (Instr.lookup 90 (.map (some b)) (.string S) true).run Tryz.prog w = .ok (.tuple #[enV ((getL S.data.toList L).getD zeroS), .bool (getL S.data.toList L).isSome]) w := by
  have := look_run Tryz.underlying90 zeroEn h.map S hS
  rw [h.get] at this
  rw [this]
  cases getL S.data.toList L <;> rfl
theorem IndexAt.look1 {B : Nat} {w : World} {g b : Nat} {L : List SE} (h : IndexAt B w g b L) (S : ByteArray) (hS : S.size ≤ maxLen) :
    (Instr.lookup 90 (.map (some b)) (.string S) false).run Tryz.prog w = .ok (enV ((getL S.data.toList L).getD zeroS)) w := by
  have := look_run1 Tryz.underlying90 zeroEn h.map S hS
  rw [h.get] at this
  rw [this]
  cases getL S.data.toList L <;> rfl
/-- A variable that is written whole. -/
theorem store_new (w : World) (T : TypeId) (old cs : Array Value) : ((w.alloc (.cells old T)).setRow w.heap.size cs).heap[w.heap.size]? = some (.cells cs T) ∧ Below w.heap.size w ((w.alloc (.cells old T)).setRow w.heap.size cs) := by
  refine ⟨setRow_heap _ _ _ _ _ _ (MapKept.heap_alloc w _).1, ?_⟩
  refine ((Below.refl _ w).alloc (Nat.le_refl _) (.cells old T)).trans ⟨rfl, rfl, rfl, by simp [World.setRow], fun k hk => ?_⟩
  exact setRow_other _ _ _ _ (by omega)
theorem setRow_size (w : World) (g : Nat) (cs : Array Value) : (w.setRow g cs).heap.size = w.heap.size := by simp [World.setRow]
theorem below_setRow {B g : Nat} {w0 w : World} (hb : Below B w0 w) (hBg : B ≤ g) (cs : Array Value) : Below B w0 (w.setRow g cs) :=
  hb.trans ⟨rfl, rfl, rfl, by simp [World.setRow], fun k hk => setRow_other _ _ _ _ (by omega)⟩
theorem range_block {w : World} {g : Nat} {cs : Array Value} {T : TypeId} (h : w.heap[g]? = some (.cells cs T)) : w.rangeAt g 0 cs.toList := fun j v hv => by
  rw [Nat.zero_add, cell_of_heap h, ← Array.getElem?_toList]; exact hv
theorem one_size (w : World) (A : Obj) : (w.alloc A).heap.size = w.heap.size + 1 := by show (w.heap.push _).size = _; simp
theorem at_alloc {w : World} {x : Nat} {o : Obj} (h : w.heap[x]? = some o) (A : Obj) : (w.alloc A).heap[x]? = some o := (Below.heap_alloc _ _ _ (lt_of_heap h)).trans h
theorem at_setRow {w : World} {x g : Nat} {o : Obj} (h : w.heap[x]? = some o) (hne : x ≠ g) (cs : Array Value) : (w.setRow g cs).heap[x]? = some o := (setRow_other _ _ _ _ hne).trans h

theorem delM_length {α : Type} (m : MV α) (k : List UInt8) : (delM m k).length ≤ m.length := List.length_filter_le _ _
theorem putM_length {α : Type} (m : MV α) (k : List UInt8) (n : α) : (putM m k n).length ≤ m.length + 1 := by
  rw [(put_perm k n m).length_eq, List.length_cons]; have := delM_length m k; omega
theorem map_tight {w : World} {b n n' : Nat} {α : Type} {enc : α → Value} {m : MV α} (h : w.ownsMap Tryz.prog 9 Rv b n (toD enc m)) (hs : m.length ≤ n') : w.ownsMap Tryz.prog 9 Rv b n' (toD enc m) := by
  obtain ⟨es, clock, h1, h2, h3, h4⟩ := h
  refine ⟨es, clock, h1, h2, ?_, h4⟩
  have := congrArg Maps.size h4
  rw [toD_size, Maps.size_eq, length_sorted] at this
  simp at this
  omega

set_option maxRecDepth 100000 in
theorem new_any (w : World) :
    Calls Tryz.prog 7 #[] w fun e w' => ∃ g b, e = .returned (ptr g) ∧ IndexAt w.heap.size w' g b [] ∧ Below w.heap.size w w' := by
  have hmm := @run_makeMap Tryz.prog
  go_enter Tryz.func7, Tryz.ntmps7
  go_wp2
  go_ret
  have hs : (w.alloc (.map #[] 0)).heap.size = w.heap.size + 1 := by show (w.heap.push _).size = _; simp
  refine ⟨w.heap.size + 1, w.heap.size, rfl, ?_, ((Below.refl _ _).alloc (Nat.le_refl _) _).alloc (by rw [hs]; omega) _⟩
  refine ⟨?_, ?_, by omega, by omega, by omega, List.Pairwise.nil, by simp, by simp⟩
  · have := (MapKept.heap_alloc (w.alloc (.map #[] 0)) (.cells #[.map (some w.heap.size)] 92)).1
    rwa [hs] at this
  · exact map_tight (enc := enV) (m := toZ []) ((World.ownsMap_made w Tryz.prog 9 Rv).alloc _) (by decide)

set_option maxRecDepth 100000 in
theorem len_any (B : Nat) (w : World) (g b : Nat) (L : List SE) (h : IndexAt B w g b L) :
    Calls Tryz.prog 34 #[ptr g] w fun e w' => e = .returned (.int .i64 (L.length : Int)) ∧ w' = w := by
  have c0 : w.cell? ⟨g, 0, none⟩ = some (.map (some b)) := cell_of_heap h.book
  have hlen := h.map.len Tryz.underlying90
  simp only [toD_size, toZ_length] at hlen
  unfold ptr
  go_enter Tryz.func34, Tryz.ntmps34
  go_wp2
  go_ret
  exact ⟨rfl, rfl⟩
end Go.Proofs.YtpbhkaokgpacoaaGreatDoor.St
