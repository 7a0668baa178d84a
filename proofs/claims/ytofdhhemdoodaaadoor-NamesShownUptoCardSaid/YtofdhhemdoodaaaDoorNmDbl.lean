/-
  Plain facts for the statement on patterns: a name is like itself, like a star, like itself with one rune asked for; two stars are like one.
-/
import Derived.Test.YtofdhhemdoodaaaDoorNmCodec
import Derived.Test.YtofdhhemdoodaaaDoorNmMatch
namespace Go.Proofs.YtofdhhemdoodaaaDoor.Nm

def dbl (rs : List Nat) : List Nat := rs.flatMap fun r => if r = 42 then [42, 42] else [r]
def tw (l : List UInt8) : List UInt8 := l.flatMap fun c => if c = 42 then [42, 42] else [c]

theorem dbl_cons (r : Nat) (rs : List Nat) : dbl (r :: rs) = (if r = 42 then [42, 42] else [r]) ++ dbl rs := List.flatMap_cons
theorem tw_cons (c : UInt8) (l : List UInt8) : tw (c :: l) = (if c = 42 then [42, 42] else [c]) ++ tw l := List.flatMap_cons
theorem tw_append (a b : List UInt8) : tw (a ++ b) = tw a ++ tw b := List.flatMap_append

theorem star_star (p l : List Nat) : like (42 :: 42 :: p) l = like (42 :: p) l := by
  induction l with
  | nil => rw [like_cons_nil, like_cons_nil]; rfl
  | cons x l ih => rw [like_star_cons, ih, like_star_cons]; simp

theorem like_congr_star {p q : List Nat} (h : ∀ l, like p l = like q l) (l : List Nat) : like (42 :: p) l = like (42 :: q) l := by
  induction l with
  | nil => rw [like_cons_nil, like_cons_nil, h]
  | cons x l ih => rw [like_star_cons, like_star_cons, h, ih]

theorem like_dbl (p : List Nat) : ∀ l, like (dbl p) l = like p l := by
  induction p with
  | nil => intro l; rfl
  | cons c p ih =>
    intro l
    rw [dbl_cons]
    by_cases h : c = 42
    · subst h
      rw [if_pos rfl]
      show like (42 :: 42 :: dbl p) l = _
      rw [star_star]; exact like_congr_star ih l
    · rw [if_neg h]
      show like (c :: dbl p) l = _
      cases l with
      | nil => rw [like_cons_nil, like_cons_nil, ih]
      | cons x l => rw [like_lit _ _ _ _ h, like_lit _ _ _ _ h, ih]

theorem enc_no42 (r : Nat) (hg : goodRune r = true) (h : r ≠ 42) : ∀ c ∈ enc r, c ≠ 42 := by
  have hg' := hg
  simp only [goodRune, Bool.or_eq_true, Bool.and_eq_true, decide_eq_true_eq] at hg'
  have key : ∀ n, n < 256 → n ≠ 42 → UInt8.ofNat n ≠ 42 := fun n h1 h2 e => by
    have := congrArg UInt8.toNat e
    rw [byte_ofNat h1] at this; exact h2 this
  by_cases a1 : r < 128
  · rw [enc_1 a1]; intro c hc; simp only [List.mem_singleton] at hc; subst hc; exact key _ (by omega) h
  by_cases a2 : r < 2048
  · rw [enc_2 a1 a2]; intro c hc; simp only [List.mem_cons, List.not_mem_nil, or_false] at hc
    rcases hc with rfl | rfl <;> exact key _ (by omega) (by omega)
  by_cases a3 : r < 65536
  · rw [enc_3 hg a2 a3]; intro c hc; simp only [List.mem_cons, List.not_mem_nil, or_false] at hc
    rcases hc with rfl | rfl | rfl <;> exact key _ (by omega) (by omega)
  · rw [enc_4 hg a3]; intro c hc; simp only [List.mem_cons, List.not_mem_nil, or_false] at hc
    rcases hc with rfl | rfl | rfl | rfl <;> exact key _ (by omega) (by omega)

theorem tw_id (l : List UInt8) (h : ∀ c ∈ l, c ≠ 42) : tw l = l := by
  induction l with
  | nil => rfl
  | cons c l ih => rw [tw_cons, if_neg (h c (by simp)), ih (fun x hx => h x (by simp [hx]))]; rfl

theorem enc_42 : enc 42 = [42] := by rw [enc_1 (by omega)]; rfl

theorem encs_append (a b : List Nat) : encs (a ++ b) = encs a ++ encs b := List.flatMap_append
theorem encs_nil : encs [] = [] := rfl
theorem encs_one (r : Nat) : encs [r] = enc r := by rw [encs_cons, encs_nil, List.append_nil]
theorem encs_two (r : Nat) : encs [r, r] = enc r ++ enc r := by rw [encs_cons, encs_one]
theorem tw_42 : tw [42] = [42] ++ [42] := rfl
theorem tw_enc42 : tw (enc 42) = enc 42 ++ enc 42 := by rw [enc_42]; exact tw_42

theorem tw_enc (r : Nat) (hg : goodRune r = true) : tw (enc r) = encs (if r = 42 then [42, 42] else [r]) := by
  by_cases h : r = 42
  · rw [if_pos h, h, encs_two, tw_enc42]
  · rw [if_neg h, encs_one, tw_id _ (enc_no42 r hg h)]

theorem tw_encs (rs : List Nat) (hg : ∀ r ∈ rs, goodRune r = true) : tw (encs rs) = encs (dbl rs) := by
  induction rs with
  | nil =>
    have h1 : dbl [] = [] := rfl
    have h2 : tw [] = [] := rfl
    rw [h1, encs_nil, h2]
  | cons r rs ih =>
    rw [encs_cons, tw_append, ih (fun x hx => hg x (by simp [hx])), dbl_cons, encs_append, tw_enc r (hg r (by simp))]

theorem dbl_good (rs : List Nat) (hg : ∀ r ∈ rs, goodRune r = true) : ∀ r ∈ dbl rs, goodRune r = true := by
  intro r hr
  rw [dbl, List.mem_flatMap] at hr
  obtain ⟨x, hx, hr⟩ := hr
  split at hr
  · rename_i e; subst e; simp at hr; subst hr; exact hg 42 hx
  · simp at hr; subst hr; exact hg _ hx

theorem runes_encs (rs : List Nat) (hg : ∀ r ∈ rs, goodRune r = true) : runes (encs rs) = rs := by
  rw [runes, seg_encs rs hg, List.map_map]
  have : ((fun p : Nat × List UInt8 => p.1) ∘ fun r => (r, enc r)) = id := rfl
  rw [this, List.map_id]

theorem runes_tw (l : List UInt8) (h : okB l = true) : runes (tw l) = dbl (runes l) := by
  obtain ⟨h1, h2⟩ := encs_runes l h
  have : tw l = encs (dbl (runes l)) := by
    conv => lhs; rw [← h1]
    exact tw_encs _ h2
  rw [this]
  exact runes_encs _ (dbl_good _ h2)

/-- Two stars are like one. -/
theorem match_tw (p n : List UInt8) (h1 : (matchR p n).2 = 0) (h2 : (matchR (tw p) n).2 = 0) : (matchR p n).1 = (matchR (tw p) n).1 := by
  unfold matchR at *
  split at h1
  · rename_i ha
    split at h1
    · rename_i hb
      split at h2
      · simp only [hb, if_true]
        simp only [Bool.and_eq_true] at ha
        rename_i hc
        rw [if_pos (by simpa using ha), if_pos hc, runes_tw p ha.1, like_dbl]
      · simp at h2
    · simp at h1
  · simp at h1

def plainB (rs : List Nat) : Bool := rs.all fun r => !(r == 63) && !(r == 42)

theorem fit_self {rs : List Nat} (h : plainB rs = true) : fit rs rs = true := by
  induction rs with
  | nil => rfl
  | cons r rs ih =>
    rw [plainB, List.all_cons, ← plainB, Bool.and_eq_true] at h
    simp at h
    simp [fit, h.1, ih h.2]

theorem fit_set {rs : List Nat} (h : plainB rs = true) (i : Nat) : fit (rs.set i 63) rs = true := by
  induction rs generalizing i with
  | nil => rfl
  | cons r rs ih =>
    rw [plainB, List.all_cons, ← plainB, Bool.and_eq_true] at h
    cases i with
    | zero => simp [fit, fit_self h.2]
    | succ i =>
      have h1 := h.1
      simp at h1
      simp [fit, h1, ih h.2]

theorem like_of_fit {s l : List Nat} (h : fit s l = true) (hl : s.length = l.length) : like s l = true := by
  have := fit_like [] h
  rw [List.append_nil, hl, List.drop_length, like_nil_nil] at this
  exact this

theorem chk_ok {l : List UInt8} (h : chk l = true) : okB l = true := by
  simp only [chk, lenFine, Bool.and_eq_true] at h; exact h.1.1.1.1.1.1
theorem chk_255 {l : List UInt8} (h : chk l = true) : l.length ≤ 255 := by
  simp only [chk, lenFine, Bool.and_eq_true, decide_eq_true_eq] at h; omega
theorem chk_ne {l : List UInt8} (h : chk l = true) : 1 ≤ (runes l).length := by
  simp only [chk, lenFine, Bool.and_eq_true, decide_eq_true_eq] at h
  rw [runes_length]; exact h.1.1.1.1.1.2

theorem match_self {n : List UInt8} (h : chk n = true) : matchR n n = (like (runes n) (runes n), 0) := by
  rw [matchR, chk_ok h, h]; simp [chk_255 h]
theorem match_star {n : List UInt8} (h : chk n = true) : matchR [42] n = (true, 0) := by
  have h1 : okB [42] = true := by decide +kernel
  have h2 : runes [42] = [42] := by decide +kernel
  rw [matchR, h1, h2, h, if_pos (by decide), if_pos rfl]
  have : like [42] (runes n) = true := by rw [like_star]; exact ⟨(runes n).length, Nat.le_refl _, by rw [List.drop_length]; exact like_nil_nil⟩
  rw [this]
theorem match_star_no {n : List UInt8} (h : chk n = false) : matchR [42] n = (false, 10) := by
  have h1 : okB [42] = true := by decide +kernel
  rw [matchR, h1, h, if_pos (by decide)]; rfl

theorem encs_length_set (rs : List Nat) (hg : ∀ r ∈ rs, goodRune r = true) (i : Nat) : (encs (rs.set i 63)).length ≤ (encs rs).length := by
  induction rs generalizing i with
  | nil => simp
  | cons r rs ih =>
    cases i with
    | zero =>
      rw [List.set_cons_zero, encs_cons, encs_cons, List.length_append, List.length_append]
      have h1 : (enc 63).length = 1 := by rw [enc_1 (by omega)]; rfl
      have h2 : 1 ≤ (enc r).length := by
        have := enc_ne r (hg r (by simp))
        cases he : enc r with
        | nil => exact absurd he this
        | cons _ _ => simp
      omega
    | succ i =>
      rw [List.set_cons_succ, encs_cons, encs_cons, List.length_append, List.length_append]
      have := ih (fun x hx => hg x (by simp [hx])) i
      omega

theorem match_asked {n : List UInt8} (h : chk n = true) (i : Nat) : matchR (encs ((runes n).set i 63)) n = (like ((runes n).set i 63) (runes n), 0) := by
  obtain ⟨h1, h2⟩ := encs_runes n (chk_ok h)
  have hg : ∀ r ∈ (runes n).set i 63, goodRune r = true := by
    intro r hr
    rcases List.mem_or_eq_of_mem_set hr with hr | rfl
    · exact h2 r hr
    · decide
  have hlen : (encs ((runes n).set i 63)).length ≤ 255 := by
    have := encs_length_set (runes n) h2 i
    have e : encs (runes n) = n := h1
    rw [e] at this
    have := chk_255 h; omega
  rw [matchR, okB_encs _ hg, h, runes_encs _ hg, if_pos (by simpa using hlen), if_pos rfl]

theorem like_plain {rs : List Nat} (h : plainB rs = true) : like rs rs = true := like_of_fit (fit_self h) rfl
theorem like_asked {rs : List Nat} (h : plainB rs = true) (i : Nat) : like (rs.set i 63) rs = true := like_of_fit (fit_set h i) (by simp)

end Go.Proofs.YtofdhhemdoodaaaDoor.Nm
