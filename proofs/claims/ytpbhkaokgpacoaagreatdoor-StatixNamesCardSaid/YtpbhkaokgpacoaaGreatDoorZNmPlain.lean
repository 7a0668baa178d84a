import Derived.Lib.RuneCountTail
import Derived.Lib.DecodeN
import Derived.Lib.Strings
import Derived.Lib.TrimByte
import Derived.Laws.Cover4
set_option linter.unusedSimpArgs false
set_option linter.unusedVariables false
/-
  Plain facts on texts as runes: what a walk over a text's runes meets, and which names may be. No program stands in this text.
-/
namespace Go.Proofs.YtpbhkaokgpacoaaGreatDoor.Nm

def byteN (l : List UInt8) (i : Nat) : Nat := (l.getD i 0).toNat
/-- The rune at a text's beginning, and how many bytes it has. -/
def dec (l : List UInt8) : Nat × Nat := Lib.decodeN l.length (byteN l 0) (byteN l 1) (byteN l 2) (byteN l 3)

theorem getB (s : ByteArray) (i : Nat) : s.get! i = s.data.toList.getD i 0 := (Lib.getD_get!' s i).symm

theorem decode_drop (s : ByteArray) (i : Nat) : Utf8.decode s i = dec (s.data.toList.drop i) := by
  rw [Lib.decode_at, dec, List.length_drop, ← Lib.size_eq]
  have h : ∀ k, (s.get! (i + k)).toNat = byteN (s.data.toList.drop i) k := fun k => by
    rw [getB]; simp [byteN, List.getD, List.getElem?_drop]
  rw [← h 0, ← h 1, ← h 2, ← h 3]
  rfl

theorem byteN_lt (l : List UInt8) (i : Nat) : byteN l i < 256 := (l.getD i 0).toNat_lt

set_option maxHeartbeats 1000000 in
/-- The width is at least 1 and at most what there is. -/
theorem dec_width (l : List UInt8) (h : l ≠ []) : 1 ≤ (dec l).2 ∧ (dec l).2 ≤ l.length ∧ (dec l).2 ≤ 4 := by
  have hl : 1 ≤ l.length := by cases l with | nil => exact absurd rfl h | cons a t => simp
  unfold dec Lib.decodeN
  repeat' split
  all_goals (dsimp only; omega)

set_option maxHeartbeats 1000000 in
theorem dec_bound (l : List UInt8) : (dec l).1 ≤ 1114111 := by
  have h0 := byteN_lt l 0; have h1 := byteN_lt l 1; have h2 := byteN_lt l 2; have h3 := byteN_lt l 3
  unfold dec Lib.decodeN
  repeat' split
  all_goals (dsimp only; omega)

set_option maxHeartbeats 1000000 in
/-- U+FFFD comes of its own three bytes, or of one byte that begins no rune. -/
theorem dec_error (l : List UInt8) (h : (dec l).1 = 65533) : (dec l).2 = 1 ∨ ((dec l).2 = 3 ∧ 2 < l.length ∧ byteN l 0 = 239 ∧ byteN l 1 = 191 ∧ byteN l 2 = 189) := by
  have h0 := byteN_lt l 0; have h1 := byteN_lt l 1; have h2 := byteN_lt l 2; have h3 := byteN_lt l 3
  revert h
  unfold dec Lib.decodeN
  repeat' split
  all_goals (dsimp only; intro h; first | (left; rfl) | (right; omega) | (exfalso; omega))

theorem dec_fffd (l : List UInt8) (hl : 2 < l.length) (h0 : byteN l 0 = 239) (h1 : byteN l 1 = 191) (h2 : byteN l 2 = 189) : dec l = (65533, 3) := by
  unfold dec Lib.decodeN
  rw [h0, h1, h2]
  simp [hl, show 1 < l.length by omega]

/-- Does U+FFFD stand there, written out? -/
theorem prefix_fffd (l : List UInt8) : Lib.hasPrefix l [239, 191, 189] = true ↔ (2 < l.length ∧ byteN l 0 = 239 ∧ byteN l 1 = 191 ∧ byteN l 2 = 189) := by
  rcases l with _ | ⟨a, _ | ⟨b, _ | ⟨c, t⟩⟩⟩
  · simp [Lib.hasPrefix]
  · simp [Lib.hasPrefix, List.isPrefixOf]
  · simp [Lib.hasPrefix, List.isPrefixOf]
  · simp only [Lib.hasPrefix, List.isPrefixOf, byteN, Bool.and_true, Bool.and_eq_true, beq_iff_eq, List.length_cons, List.getD_cons_zero, List.getD_cons_succ, ← UInt8.toNat_inj]
    constructor
    · rintro ⟨x, y, z⟩; exact ⟨by omega, x.symm, y.symm, z.symm⟩
    · rintro ⟨_, x, y, z⟩; exact ⟨x.symm, y.symm, z.symm⟩

/-- At a rune U+FFFD: a byte that begins no rune has the width 1. -/
theorem bad_iff (l : List UInt8) (h : (dec l).1 = 65533) : Lib.hasPrefix l [239, 191, 189] = !((dec l).2 == 1) := by
  rcases dec_error l h with h1 | ⟨h3, hh⟩
  · rw [h1]
    cases hp : Lib.hasPrefix l [239, 191, 189] with
    | false => rfl
    | true =>
      obtain ⟨a, b, c, d⟩ := (prefix_fffd l).1 hp
      rw [dec_fffd l a b c d] at h1; cases h1
  · rw [h3, (prefix_fffd l).2 hh]; rfl

/-! ### A text cut into its runes -/
def segF : Nat → List UInt8 → List (Nat × List UInt8)
  | 0, _ => []
  | f + 1, l => if l = [] then [] else ((dec l).1, l.take (dec l).2) :: segF f (l.drop (dec l).2)
/-- The runes of a text, each with its bytes; a byte that begins no rune is U+FFFD by itself. -/
def seg (l : List UInt8) : List (Nat × List UInt8) := segF l.length l

theorem segF_enough : ∀ (f g : Nat) (l : List UInt8), l.length ≤ f → l.length ≤ g → segF f l = segF g l
  | 0, g, l, hf, _ => by
    have : l = [] := by cases l with | nil => rfl | cons a t => simp at hf
    subst this; cases g <;> simp [segF]
  | f + 1, 0, l, _, hg => by
    have : l = [] := by cases l with | nil => rfl | cons a t => simp at hg
    subst this; simp [segF]
  | f + 1, g + 1, l, hf, hg => by
    by_cases h : l = []
    · subst h; simp [segF]
    · have hw := dec_width l h
      simp only [segF, if_neg h]
      rw [segF_enough f g _ (by rw [List.length_drop]; omega) (by rw [List.length_drop]; omega)]

@[simp] theorem seg_nil : seg [] = [] := rfl
theorem seg_cons (l : List UInt8) (h : l ≠ []) : seg l = ((dec l).1, l.take (dec l).2) :: seg (l.drop (dec l).2) := by
  have hw := dec_width l h
  unfold seg
  rw [segF_enough l.length ((l.length - 1) + 1) l (Nat.le_refl _) (by omega)]
  simp only [segF, if_neg h]
  rw [segF_enough (l.length - 1) (l.drop (dec l).2).length _ (by rw [List.length_drop]; omega) (Nat.le_refl _)]

theorem seg_induct {P : List UInt8 → Prop} (h0 : P []) (h1 : ∀ l, l ≠ [] → P (l.drop (dec l).2) → P l) (l : List UInt8) : P l := by
  suffices ∀ n (l : List UInt8), l.length ≤ n → P l from this _ l (Nat.le_refl _)
  intro n
  induction n with
  | zero => intro l h; have : l = [] := by { cases l with | nil => rfl | cons a t => simp at h }
            subst this; exact h0
  | succ n ih =>
    intro l h
    by_cases e : l = []
    · subst e; exact h0
    · have hw := dec_width l e
      exact h1 l e (ih _ (by rw [List.length_drop]; omega))

/-- No whole rune: a byte by itself. -/
def isBad (p : Nat × List UInt8) : Bool := p.1 == 65533 && p.2.length == 1
/-- All bytes are whole runes. -/
def okB (l : List UInt8) : Bool := (seg l).all fun p => !isBad p
def count (l : List UInt8) : Nat := (seg l).length

theorem isBad_head (l : List UInt8) (h : l ≠ []) : isBad ((dec l).1, l.take (dec l).2) = ((dec l).1 == 65533 && (dec l).2 == 1) := by
  have hw := dec_width l h
  simp only [isBad, List.length_take, Nat.min_eq_left hw.2.1]

theorem okB_bad (l : List UInt8) (h : l ≠ []) (h1 : (dec l).1 = 65533) (h2 : Lib.hasPrefix l [239, 191, 189] = false) : okB l = false := by
  rw [bad_iff l h1] at h2
  rw [okB, seg_cons l h, List.all_cons, isBad_head l h]
  simp at h2
  simp [h1, h2]

theorem okB_good (l : List UInt8) (h : l ≠ []) (h1 : (dec l).1 = 65533 → Lib.hasPrefix l [239, 191, 189] = true) : okB l = okB (l.drop (dec l).2) := by
  rw [okB, seg_cons l h, List.all_cons, isBad_head l h, ← okB]
  by_cases e : (dec l).1 = 65533
  · have := h1 e
    rw [bad_iff l e] at this
    simp at this
    simp [this]
  · simp [e]

theorem count_cons (l : List UInt8) (h : l ≠ []) : count l = count (l.drop (dec l).2) + 1 := by
  rw [count, seg_cons l h]; rfl
theorem count_le (l : List UInt8) : count l ≤ l.length := by
  induction l using seg_induct with
  | h0 => simp [count]
  | h1 l h ih => rw [count_cons l h]; have := dec_width l h; rw [List.length_drop] at ih; omega

/-- What 'whole' answers. -/
def whN (l : List UInt8) : Nat := if okB l then count l else 0

end Go.Proofs.YtpbhkaokgpacoaaGreatDoor.Nm
/-
  Plain facts on patterns: what it is to be like a pattern, and that the greedy way with one star kept finds it. No program stands in this text.
-/
namespace Go.Proofs.YtpbhkaokgpacoaaGreatDoor.Nm

/-- Is a text of runes like a pattern of runes? 42 is the star, 63 the question mark. -/
def like : List Nat → List Nat → Bool
  | [], [] => true
  | [], _ :: _ => false
  | c :: p, [] => c == 42 && like p []
  | c :: p, x :: l => if c = 42 then like p (x :: l) || like (c :: p) l else (c == 63 || c == x) && like p l
termination_by p l => (p.length, l.length)

theorem like_nil_nil : like [] [] = true := by simp [like]
theorem like_nil_cons (x : Nat) (l : List Nat) : like [] (x :: l) = false := by simp [like]
theorem like_cons_nil (c : Nat) (p : List Nat) : like (c :: p) [] = (c == 42 && like p []) := by simp [like]
theorem like_star_cons (p : List Nat) (x : Nat) (l : List Nat) : like (42 :: p) (x :: l) = (like p (x :: l) || like (42 :: p) l) := by rw [like]; simp
theorem like_lit (c : Nat) (p : List Nat) (x : Nat) (l : List Nat) (h : c ≠ 42) : like (c :: p) (x :: l) = ((c == 63 || c == x) && like p l) := by rw [like]; simp [h]
theorem like_nil (p : List Nat) : like p [] = p.all (· == 42) := by
  induction p with
  | nil => exact like_nil_nil
  | cons c p ih => rw [like_cons_nil, ih]; rfl

theorem like_star (p : List Nat) (l : List Nat) : like (42 :: p) l = true ↔ ∃ j, j ≤ l.length ∧ like p (l.drop j) = true := by
  induction l with
  | nil =>
    rw [like_cons_nil]
    constructor
    · intro h; exact ⟨0, by simp, by simpa using h⟩
    · rintro ⟨j, hj, h⟩; simp at hj; subst hj; simpa using h
  | cons x l ih =>
    rw [like_star_cons, Bool.or_eq_true, ih]
    constructor
    · rintro (h | ⟨j, hj, h⟩)
      · exact ⟨0, by simp, by simpa using h⟩
      · exact ⟨j + 1, by simp; omega, by simpa using h⟩
    · rintro ⟨j, hj, h⟩
      cases j with
      | zero => left; simpa using h
      | succ j => right; exact ⟨j, by simp at hj; omega, by simpa using h⟩

/-- A run of runes without stars stands at the text's beginning. -/
def fit : List Nat → List Nat → Bool
  | [], _ => true
  | _ :: _, [] => false
  | c :: s, x :: l => !(c == 42) && (c == 63 || c == x) && fit s l

theorem fit_len {s l : List Nat} (h : fit s l = true) : s.length ≤ l.length := by
  induction s generalizing l with
  | nil => simp
  | cons c s ih =>
    cases l with
    | nil => simp [fit] at h
    | cons x l => simp [fit] at h; have := ih h.2; simp; omega

theorem fit_like {s l : List Nat} (r : List Nat) (h : fit s l = true) : like (s ++ r) l = like r (l.drop s.length) := by
  induction s generalizing l with
  | nil => simp
  | cons c s ih =>
    cases l with
    | nil => simp [fit] at h
    | cons x l =>
      simp only [fit, Bool.and_eq_true, Bool.not_eq_true', beq_eq_false_iff_ne] at h
      rw [List.cons_append, like_lit _ _ _ _ h.1.1, ih h.2, h.1.2]
      simp

/-- A run of runes without stars: what is like it is as long at least. -/
def lits (s : List Nat) : Bool := s.all fun c => !(c == 42)
theorem fit_lits {s l : List Nat} (h : fit s l = true) : lits s = true := by
  induction s generalizing l with
  | nil => rfl
  | cons c s ih =>
    cases l with
    | nil => simp [fit] at h
    | cons x l =>
      simp only [fit, Bool.and_eq_true] at h
      rw [lits, List.all_cons, h.1.1, ← lits, ih h.2]; rfl

theorem lits_like {s l r : List Nat} (h : lits s = true) (k : like (s ++ r) l = true) : s.length ≤ l.length ∧ like r (l.drop s.length) = true := by
  induction s generalizing l with
  | nil => exact ⟨by simp, by simpa using k⟩
  | cons c s ih =>
    rw [lits, List.all_cons, ← lits, Bool.and_eq_true] at h
    have hc : c ≠ 42 := by simpa using h.1
    cases l with
    | nil => rw [List.cons_append, like_cons_nil] at k; simp [hc] at k
    | cons x l =>
      rw [List.cons_append, like_lit _ _ _ _ hc, Bool.and_eq_true] at k
      have := ih h.2 k.2
      simp; exact this

/-- Behind a run that fits, the next star may begin at once. -/
theorem star_fit {s l : List Nat} (r : List Nat) (h : fit s l = true) : like (42 :: (s ++ 42 :: r)) l = like (42 :: r) (l.drop s.length) := by
  rw [Bool.eq_iff_iff, like_star]
  constructor
  · rintro ⟨j, hj, k⟩
    obtain ⟨hl, k⟩ := lits_like (fit_lits h) k
    rw [List.drop_drop] at k
    rw [like_star] at k ⊢
    obtain ⟨i, hi, k⟩ := k
    rw [List.drop_drop] at k
    refine ⟨j + i, ?_, ?_⟩
    · simp at hi hl ⊢; omega
    · rw [List.drop_drop]; rw [show s.length + (j + i) = j + s.length + i by omega]; exact k
  · intro k
    exact ⟨0, by simp, by rw [List.drop_zero, fit_like _ h]; exact k⟩

/-- Where the rest isn't like the text behind a run that fits, the star takes one rune more. -/
theorem star_miss {s l : List Nat} (r : List Nat) (h : fit s l = true) (hn : like r (l.drop s.length) = false) : like (42 :: (s ++ r)) l = like (42 :: (s ++ r)) (l.drop 1) := by
  cases l with
  | nil => rfl
  | cons x l => rw [like_star_cons, fit_like _ h, hn]; rfl

theorem star_end {s l : List Nat} (r : List Nat) (h : fit s l = true) (hl : l.length = s.length) : like (42 :: (s ++ r)) l = like r [] := by
  rw [Bool.eq_iff_iff, like_star]
  constructor
  · rintro ⟨j, hj, k⟩
    obtain ⟨h1, h2⟩ := lits_like (fit_lits h) k
    rw [List.drop_drop] at h2
    have : List.drop (j + s.length) l = [] := List.drop_eq_nil_of_le (by omega)
    rw [this] at h2; exact h2
  · intro k
    refine ⟨0, by simp, ?_⟩
    rw [List.drop_zero, fit_like _ h, ← hl, List.drop_length]; exact k

theorem fit_snoc {s l : List Nat} {c x : Nat} (h : fit s l = true) (hc : c ≠ 42) (hx : (l.drop s.length)[0]? = some x) (hm : c = 63 ∨ c = x) : fit (s ++ [c]) l = true := by
  induction s generalizing l with
  | nil =>
    cases l with
    | nil => simp at hx
    | cons y l =>
      simp at hx; subst hx
      rcases hm with rfl | rfl <;> simp [fit, hc]
  | cons d s ih =>
    cases l with
    | nil => simp [fit] at h
    | cons y l =>
      simp only [fit, Bool.and_eq_true] at h
      rw [List.cons_append, fit, ih h.2 (by simpa using hx), h.1.1, h.1.2]; rfl

/-! ### The greedy way -/
/-- Where the greedy way stands: at place i of the pattern and k of the name; 'star' is the last star's place (-1: none), 'fr' the place in the name at which what stands behind it is tried. -/
def Way (p l : List Nat) (star : Int) (fr i k : Nat) : Prop :=
  i ≤ p.length ∧ k ≤ l.length ∧ fr ≤ k ∧
    ((star = -1 ∧ like p l = like (p.drop i) (l.drop k)) ∨
     (∃ st s, star = (st : Nat) ∧ p.drop st = 42 :: (s ++ p.drop i) ∧ i = st + 1 + s.length ∧ k = fr + s.length ∧ fit s (l.drop fr) = true ∧ like p l = like (p.drop st) (l.drop fr)))

theorem way_zero (p l : List Nat) : Way p l (-1) 0 0 0 := ⟨by simp, by simp, by simp, .inl ⟨rfl, by simp⟩⟩

theorem drop_at {p : List Nat} {i c : Nat} (h : p[i]? = some c) : p.drop i = c :: p.drop (i + 1) := by
  obtain ⟨hi, e⟩ := List.getElem?_eq_some_iff.1 h
  rw [List.drop_eq_getElem_cons hi, e]

theorem way_star_bounds {p l : List Nat} {star : Int} {fr i k : Nat} (h : Way p l star fr i k) : -1 ≤ star ∧ star < p.length + 1 ∧ (star : Int) ≤ p.length := by
  obtain ⟨h1, _, _, ⟨rfl, _⟩ | ⟨st, s, rfl, _, hi, _⟩⟩ := h
  · omega
  · omega

/-- A star: it is kept. -/
theorem way_keep {p l : List Nat} {star : Int} {fr i k : Nat} (h : Way p l star fr i k) (hc : p[i]? = some 42) : Way p l (i : Nat) k (i + 1) k := by
  have hd := drop_at hc
  have hi : i < p.length := (List.getElem?_eq_some_iff.1 hc).1
  obtain ⟨h1, h2, h3, h⟩ := h
  refine ⟨hi, h2, Nat.le_refl _, .inr ⟨i, [], rfl, by rw [hd]; rfl, by simp, by simp, rfl, ?_⟩⟩
  rcases h with ⟨_, h⟩ | ⟨st, s, _, hs, _, rfl, hf, h⟩
  · exact h
  · rw [h, hs, hd, star_fit _ hf, List.drop_drop]

/-- A rune that fits. -/
theorem way_fit {p l : List Nat} {star : Int} {fr i k c x : Nat} (h : Way p l star fr i k) (hc : p[i]? = some c) (hx : l[k]? = some x) (h42 : c ≠ 42) (hm : c = 63 ∨ c = x) : Way p l star fr (i + 1) (k + 1) := by
  have hd := drop_at hc
  have hdx := drop_at hx
  have hi : i < p.length := (List.getElem?_eq_some_iff.1 hc).1
  have hk : k < l.length := (List.getElem?_eq_some_iff.1 hx).1
  obtain ⟨h1, h2, h3, h⟩ := h
  refine ⟨hi, hk, by omega, ?_⟩
  rcases h with ⟨rfl, h⟩ | ⟨st, s, rfl, hs, rfl, rfl, hf, h⟩
  · left
    refine ⟨rfl, ?_⟩
    rw [h, hd, hdx, like_lit _ _ _ _ h42]
    have : (c == 63 || c == x) = true := by rcases hm with rfl | rfl <;> simp
    rw [this]; rfl
  · right
    refine ⟨st, s ++ [c], rfl, by rw [hs, hd]; simp, by simp; omega, by simp; omega, fit_snoc hf h42 ?_ hm, h⟩
    rw [List.drop_drop]
    simp [hdx]

/-- Nothing fits. -/
def Miss (p l : List Nat) (i k : Nat) : Prop := k < l.length ∧ ∀ c, p[i]? = some c → c ≠ 42 ∧ c ≠ 63 ∧ ∀ x, l[k]? = some x → c ≠ x

theorem miss_like {p l : List Nat} {i k : Nat} (h : Miss p l i k) : like (p.drop i) (l.drop k) = false := by
  obtain ⟨hk, h⟩ := h
  have hx : l[k]? = some l[k] := List.getElem?_eq_getElem hk
  rw [drop_at hx]
  cases hc : p[i]? with
  | none => rw [List.drop_eq_nil_of_le (List.getElem?_eq_none_iff.1 hc), like_nil_cons]
  | some c =>
    obtain ⟨a, b, d⟩ := h c hc
    rw [drop_at hc, like_lit _ _ _ _ a]
    have := d _ hx
    simp [b, this]

theorem way_none {p l : List Nat} {star : Int} {fr i k : Nat} (h : Way p l star fr i k) (hm : Miss p l i k) (hs : star < 0) : like p l = false := by
  obtain ⟨h1, h2, h3, ⟨rfl, h⟩ | ⟨st, s, rfl, _⟩⟩ := h
  · rw [h, miss_like hm]
  · omega

theorem way_back {p l : List Nat} {star : Int} {fr i k : Nat} (h : Way p l star fr i k) (hm : Miss p l i k) (hs : 0 ≤ star) : ∃ st : Nat, star = st ∧ st < p.length ∧ fr < l.length ∧ Way p l star (fr + 1) (st + 1) (fr + 1) := by
  obtain ⟨h1, h2, h3, ⟨rfl, h⟩ | ⟨st, s, rfl, hs, rfl, rfl, hf, h⟩⟩ := h
  · omega
  · have hk := hm.1
    have hp : st < p.length := by omega
    refine ⟨st, rfl, hp, by omega, hp, by omega, Nat.le_refl _, .inr ⟨st, [], rfl, ?_, by simp, by simp, rfl, ?_⟩⟩
    · have hd : p.drop st = p[st] :: p.drop (st + 1) := List.drop_eq_getElem_cons hp
      rw [hd] at hs
      obtain ⟨a, b⟩ := List.cons.inj hs
      rw [hd, a]; rfl
    · have hml := miss_like hm
      rw [h, hs, star_miss _ hf (by rw [List.drop_drop]; exact hml), List.drop_drop]

theorem way_end {p l : List Nat} {star : Int} {fr i k : Nat} (h : Way p l star fr i k) (hk : l.length ≤ k) : like p l = (p.drop i).all (· == 42) := by
  obtain ⟨h1, h2, h3, ⟨rfl, h⟩ | ⟨st, s, rfl, hs, rfl, rfl, hf, h⟩⟩ := h
  · rw [h, List.drop_eq_nil_of_le hk, like_nil]
  · rw [h, hs, star_end _ hf (by simp; omega), like_nil]

/-- What is left of the pattern is stars alone, told from its bytes. -/
def enc (r : Nat) : List UInt8 := (Utf8.encode (Int.ofNat r)).data.toList
theorem enc_eq (r : Nat) : enc r = (Utf8.encode (r : Int)).data.toList := by rw [enc, Int.ofNat_eq_natCast]
def encs (rs : List Nat) : List UInt8 := rs.flatMap enc
theorem encs_cons (r : Nat) (rs : List Nat) : encs (r :: rs) = enc r ++ encs rs := List.flatMap_cons

theorem runesBytes_encs (rs : List Nat) : (runesBytes (rs.map Int.ofNat)).data.toList = encs rs := by
  have : ∀ (rs : List Nat) (a : ByteArray), ((rs.map Int.ofNat).foldl (fun r n => r ++ Utf8.encode n) a).data.toList = a.data.toList ++ encs rs := by
    intro rs
    induction rs with
    | nil => intro a; simp [encs]
    | cons r rs ih => intro a; rw [List.map_cons, List.foldl_cons, ih]; rw [encs_cons, ByteArray.data_append, Array.toList_append, List.append_assoc, ← enc]
  rw [runesBytes, this]; rfl

theorem encode_star : (Utf8.encode 42).data.toList = [42] := by decide

theorem ofNat_star (n : Nat) (h1 : n < 256) (h2 : n ≠ 42) : (UInt8.ofNat n == 42) = false := by
  rw [beq_eq_false_iff_ne, Ne, ← UInt8.toNat_inj]
  simp; omega

theorem encode_head (r : Int) : ∃ n t, (Utf8.encode r).data.toList = UInt8.ofNat n :: t ∧ n < 256 ∧ (n = 42 → r = 42) := by
  have hc : ∀ c : Nat, (c = if Utf8.valid r = true then r.toNat else Utf8.runeError) → c < 2097152 ∧ (c = 42 → r = 42) := by
    intro c e
    by_cases hv : Utf8.valid r = true
    · rw [if_pos hv] at e
      simp [Utf8.valid] at hv
      omega
    · rw [if_neg hv] at e
      unfold Utf8.runeError at e; omega
  unfold Utf8.encode
  generalize hcc : (if Utf8.valid r = true then r.toNat else Utf8.runeError) = c
  obtain ⟨h1, h2⟩ := hc c hcc.symm
  clear hc hcc
  dsimp only
  by_cases a : c < 128
  · rw [if_pos a]; exact ⟨_, _, rfl, by omega, h2⟩
  · rw [if_neg a]
    by_cases a2 : c < 2048
    · rw [if_pos a2]; exact ⟨_, _, rfl, by omega, by omega⟩
    · rw [if_neg a2]
      by_cases a3 : c < 65536
      · rw [if_pos a3]; exact ⟨_, _, rfl, by omega, by omega⟩
      · rw [if_neg a3]; exact ⟨_, _, rfl, by omega, by omega⟩

theorem encode_other (r : Nat) (h : r ≠ 42) : ((Utf8.encode (r : Int)).data.toList).all (· == 42) = false := by
  obtain ⟨n, t, e, h1, h2⟩ := encode_head r
  rw [e, List.all_cons, ofNat_star n h1 (fun e => h (by have := h2 e; omega))]; exact Bool.false_and _

theorem encs_all (rs : List Nat) : (encs rs).all (· == 42) = rs.all (· == 42) := by
  induction rs with
  | nil => rfl
  | cons r rs ih =>
    rw [encs_cons, List.all_append, ih, List.all_cons]
    by_cases h : r = 42
    · subst h; rw [enc_eq, show ((42 : Nat) : Int) = 42 from rfl, encode_star]; rfl
    · rw [enc_eq, encode_other r h]; simp [h]

theorem dropWhile_nil_iff {α : Type} (p : α → Bool) (l : List α) : l.dropWhile p = [] ↔ l.all p = true := by
  induction l with
  | nil => simp
  | cons a l ih =>
    by_cases h : p a = true
    · rw [List.dropWhile_cons_of_pos h, ih, List.all_cons, h]; rfl
    · rw [List.dropWhile_cons_of_neg h]; simp [h]

theorem trimB_nil (l : List UInt8) : (Lib.trimB l 42 == []) = l.all (· == 42) := by
  rw [Bool.eq_iff_iff, beq_iff_eq, Lib.trimB, Lib.trimLeftB, dropWhile_nil_iff, Lib.trimRightB, List.all_reverse]
  constructor
  · intro h
    have : l.reverse.dropWhile (· == 42) = [] := by
      cases e : l.reverse.dropWhile (· == 42) with
      | nil => rfl
      | cons a t =>
        have h2 := List.head?_dropWhile_not (fun x : UInt8 => x == 42) l.reverse
        rw [e] at h2 h
        simp at h h2
        exact absurd h.1 h2
    rw [dropWhile_nil_iff, List.all_reverse] at this
    exact this
  · intro h
    have : l.reverse.dropWhile (· == 42) = [] := by rw [dropWhile_nil_iff, List.all_reverse]; exact h
    rw [this]; rfl

end Go.Proofs.YtpbhkaokgpacoaaGreatDoor.Nm
