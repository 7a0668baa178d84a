import Derived.Test.YtpbhkaokgpacoaaGreatDoorZNmPlain
set_option linter.unusedSimpArgs false
set_option linter.unusedVariables false
/-
  Plain facts on runes and their bytes: there and back. No program stands in this text.
-/
namespace Go.Proofs.YtpbhkaokgpacoaaGreatDoor.Nm

def goodRune (r : Nat) : Bool := decide (r < 55296) || (decide (57344 ≤ r) && decide (r ≤ 1114111))

theorem valid_good (r : Nat) : Utf8.valid (r : Int) = goodRune r := by
  rw [Bool.eq_iff_iff]; simp [Utf8.valid, goodRune]; omega

theorem enc_1 {r : Nat} (h : r < 128) : enc r = [UInt8.ofNat r] := by
  have hv : Utf8.valid (r : Int) = true := by rw [valid_good]; simp [goodRune]; omega
  rw [enc_eq, Utf8.encode]
  simp only [hv, if_true, Int.toNat_natCast]
  rw [if_pos h]
theorem enc_2 {r : Nat} (h1 : ¬ r < 128) (h : r < 2048) : enc r = [UInt8.ofNat (192 + r / 64), UInt8.ofNat (128 + r % 64)] := by
  have hv : Utf8.valid (r : Int) = true := by rw [valid_good]; simp [goodRune]; omega
  rw [enc_eq, Utf8.encode]
  simp only [hv, if_true, Int.toNat_natCast]
  rw [if_neg h1, if_pos h]
theorem enc_3 {r : Nat} (hg : goodRune r = true) (h1 : ¬ r < 2048) (h : r < 65536) : enc r = [UInt8.ofNat (224 + r / 4096), UInt8.ofNat (128 + r / 64 % 64), UInt8.ofNat (128 + r % 64)] := by
  have hv : Utf8.valid (r : Int) = true := by rw [valid_good]; exact hg
  rw [enc_eq, Utf8.encode]
  simp only [hv, if_true, Int.toNat_natCast]
  rw [if_neg (by omega), if_neg h1, if_pos h]
theorem enc_4 {r : Nat} (hg : goodRune r = true) (h1 : ¬ r < 65536) : enc r = [UInt8.ofNat (240 + r / 262144), UInt8.ofNat (128 + r / 4096 % 64), UInt8.ofNat (128 + r / 64 % 64), UInt8.ofNat (128 + r % 64)] := by
  have hv : Utf8.valid (r : Int) = true := by rw [valid_good]; exact hg
  rw [enc_eq, Utf8.encode]
  simp only [hv, if_true, Int.toNat_natCast]
  rw [if_neg (by omega), if_neg (by omega), if_neg h1]

theorem byte_ofNat {n : Nat} (h : n < 256) : (UInt8.ofNat n).toNat = n := by simp; omega

theorem byteN_0 (a : UInt8) (t : List UInt8) : byteN (a :: t) 0 = a.toNat := rfl
theorem byteN_1 (a b : UInt8) (t : List UInt8) : byteN (a :: b :: t) 1 = b.toNat := rfl
theorem byteN_2 (a b c : UInt8) (t : List UInt8) : byteN (a :: b :: c :: t) 2 = c.toNat := rfl
theorem byteN_3 (a b c d : UInt8) (t : List UInt8) : byteN (a :: b :: c :: d :: t) 3 = d.toNat := rfl

theorem decodeN_2 {n b0 b1 b2 b3 : Nat} (h0 : b0 / 32 = 6) (h1 : 1 < n) (h2 : b1 / 64 = 2) (h3 : 128 ≤ b0 % 32 * 64 + b1 % 64) : Lib.decodeN n b0 b1 b2 b3 = (b0 % 32 * 64 + b1 % 64, 2) := by
  unfold Lib.decodeN
  rw [if_neg (by omega), if_pos ⟨h0, h1, h2⟩, if_pos h3]
theorem decodeN_3 {n b0 b1 b2 b3 : Nat} (h0 : b0 / 16 = 14) (hn : 2 < n) (h1 : b1 / 64 = 2) (h2 : b2 / 64 = 2) {r : Nat} (hr : r = b0 % 16 * 4096 + b1 % 64 * 64 + b2 % 64) (h3 : 2048 ≤ r) (hg : goodRune r = true) : Lib.decodeN n b0 b1 b2 b3 = (r, 3) := by
  simp only [goodRune, Bool.or_eq_true, Bool.and_eq_true, decide_eq_true_eq] at hg
  unfold Lib.decodeN
  rw [← hr]
  rw [if_neg (by omega), if_neg (by omega), if_pos ⟨h0, ⟨by omega, h1⟩, hn, h2⟩, if_pos ⟨h3, hg⟩]
theorem decodeN_4 {n b0 b1 b2 b3 : Nat} (h0 : b0 / 8 = 30) (hn : 3 < n) (h1 : b1 / 64 = 2) (h2 : b2 / 64 = 2) (h4 : b3 / 64 = 2) {r : Nat} (hr : r = b0 % 8 * 262144 + b1 % 64 * 4096 + b2 % 64 * 64 + b3 % 64) (h3 : 65536 ≤ r) (hg : goodRune r = true) : Lib.decodeN n b0 b1 b2 b3 = (r, 4) := by
  simp only [goodRune, Bool.or_eq_true, Bool.and_eq_true, decide_eq_true_eq] at hg
  unfold Lib.decodeN
  rw [← hr]
  rw [if_neg (by omega), if_neg (by omega), if_neg (by omega), if_pos ⟨h0, ⟨by omega, h1⟩, ⟨by omega, h2⟩, hn, h4⟩, if_pos ⟨h3, hg⟩]

/-- A rune's bytes are read as that rune, whatever stands behind. -/
theorem dec_enc (r : Nat) (hg : goodRune r = true) (t : List UInt8) : dec (enc r ++ t) = (r, (enc r).length) := by
  have hg' := hg
  simp only [goodRune, Bool.or_eq_true, Bool.and_eq_true, decide_eq_true_eq] at hg'
  by_cases a1 : r < 128
  · rw [enc_1 a1, List.singleton_append, dec, byteN_0, byte_ofNat (by omega)]
    unfold Lib.decodeN; rw [if_pos a1]; rfl
  by_cases a2 : r < 2048
  · rw [enc_2 a1 a2, List.cons_append, List.singleton_append, dec, byteN_0, byteN_1, byte_ofNat (by omega), byte_ofNat (by omega), decodeN_2 (by omega) (by simp) (by omega) (by omega)]
    simp only [List.length_cons, List.length_nil, Prod.mk.injEq, and_true]
    omega
  by_cases a3 : r < 65536
  · rw [enc_3 hg a2 a3]
    simp only [List.cons_append, List.nil_append]
    rw [dec, byteN_0, byteN_1, byteN_2, byte_ofNat (by omega), byte_ofNat (by omega), byte_ofNat (by omega), decodeN_3 (r := r) (by omega) (by simp) (by omega) (by omega) (by omega) (by omega) hg]
    rfl
  · rw [enc_4 hg a3]
    simp only [List.cons_append, List.nil_append]
    rw [dec, byteN_0, byteN_1, byteN_2, byteN_3, byte_ofNat (by omega), byte_ofNat (by omega), byte_ofNat (by omega), byte_ofNat (by omega), decodeN_4 (r := r) (by omega) (by simp) (by omega) (by omega) (by omega) (by omega) (by omega) hg]
    rfl

theorem ofNat_byte {a : UInt8} {n : Nat} (h : a.toNat = n) : UInt8.ofNat n = a := by rw [← h]; simp

set_option maxHeartbeats 1000000 in
/-- What is read as a rune is that rune's bytes. -/
theorem enc_dec (l : List UInt8) (hne : l ≠ []) (hb : ¬ ((dec l).1 = 65533 ∧ (dec l).2 = 1)) : goodRune (dec l).1 = true ∧ l.take (dec l).2 = enc (dec l).1 := by
  have hn : 1 ≤ l.length := by cases l with | nil => exact absurd rfl hne | cons a t => simp
  have h0 := byteN_lt l 0; have h1 := byteN_lt l 1; have h2 := byteN_lt l 2; have h3 := byteN_lt l 3
  revert hb
  generalize hd : dec l = d
  unfold dec Lib.decodeN at hd
  split at hd
  · subst hd; intro _
    obtain ⟨a, t, rfl⟩ : ∃ a t, l = a :: t := by cases l with | nil => exact absurd rfl hne | cons a t => exact ⟨a, t, rfl⟩
    rw [byteN_0] at *
    refine ⟨by simp [goodRune]; omega, ?_⟩
    rw [enc_1 (by omega)]
    simp
  split at hd
  · rename_i hx hy
    split at hd
    · subst hd; intro _
      obtain ⟨a, b, t, rfl⟩ : ∃ a b t, l = a :: b :: t := by
        rcases l with _ | ⟨a, _ | ⟨b, t⟩⟩
        · exact absurd rfl hne
        · exfalso; have := hy.2.1; simp at this
        · exact ⟨a, b, t, rfl⟩
      rw [byteN_0, byteN_1] at *
      refine ⟨by simp [goodRune]; omega, ?_⟩
      rw [enc_2 (by omega) (by omega), ofNat_byte (a := a) (by omega), ofNat_byte (a := b) (by omega)]
      rfl
    · subst hd; intro hb; exact absurd ⟨rfl, rfl⟩ hb
  split at hd
  · rename_i hx hy hz
    split at hd
    · subst hd; intro _
      rename_i hq
      obtain ⟨a, b, c, t, rfl⟩ : ∃ a b c t, l = a :: b :: c :: t := by
        rcases l with _ | ⟨a, _ | ⟨b, _ | ⟨c, t⟩⟩⟩
        · exact absurd rfl hne
        · exfalso; have := hz.2.2.1; simp at this
        · exfalso; have := hz.2.2.1; simp at this
        · exact ⟨a, b, c, t, rfl⟩
      rw [byteN_0, byteN_1, byteN_2] at *
      have hg : goodRune (a.toNat % 16 * 4096 + b.toNat % 64 * 64 + c.toNat % 64) = true := by simp [goodRune]; omega
      refine ⟨hg, ?_⟩
      rw [enc_3 hg (by omega) (by omega), ofNat_byte (a := a) (by omega), ofNat_byte (a := b) (by omega), ofNat_byte (a := c) (by omega)]
      rfl
    · subst hd; intro hb; exact absurd ⟨rfl, rfl⟩ hb
  split at hd
  · rename_i hx hy hz hu
    split at hd
    · subst hd; intro _
      rename_i hq
      obtain ⟨a, b, c, e, t, rfl⟩ : ∃ a b c e t, l = a :: b :: c :: e :: t := by
        rcases l with _ | ⟨a, _ | ⟨b, _ | ⟨c, _ | ⟨e, t⟩⟩⟩⟩
        · exact absurd rfl hne
        · exfalso; have := hu.2.2.2.1; simp at this
        · exfalso; have := hu.2.2.2.1; simp at this
        · exfalso; have := hu.2.2.2.1; simp at this
        · exact ⟨a, b, c, e, t, rfl⟩
      rw [byteN_0, byteN_1, byteN_2, byteN_3] at *
      have hg : goodRune (a.toNat % 8 * 262144 + b.toNat % 64 * 4096 + c.toNat % 64 * 64 + e.toNat % 64) = true := by simp [goodRune]; omega
      refine ⟨hg, ?_⟩
      rw [enc_4 hg (by omega), ofNat_byte (a := a) (by omega), ofNat_byte (a := b) (by omega), ofNat_byte (a := c) (by omega), ofNat_byte (a := e) (by omega)]
      rfl
    · subst hd; intro hb; exact absurd ⟨rfl, rfl⟩ hb
  · subst hd; intro hb; exact absurd ⟨rfl, rfl⟩ hb

theorem enc_ne (r : Nat) (hg : goodRune r = true) : enc r ≠ [] := by
  intro e
  have h := dec_enc r hg []
  rw [e] at h
  have : dec ([] ++ []) = (0, 1) := by decide
  rw [this] at h
  have := congrArg Prod.snd h
  simp at this

/-- Texts of whole runes: cut into them, and put together. -/
theorem seg_enc (r : Nat) (hg : goodRune r = true) (t : List UInt8) : seg (enc r ++ t) = (r, enc r) :: seg t := by
  rw [seg_cons _ (by simp [enc_ne r hg]), dec_enc r hg t]
  simp

theorem isBad_enc (r : Nat) (hg : goodRune r = true) : isBad (r, enc r) = false := by
  by_cases h : r = 65533
  · subst h; decide +kernel
  · simp [isBad, h]

theorem seg_encs : ∀ rs : List Nat, (∀ r ∈ rs, goodRune r = true) → seg (encs rs) = rs.map fun r => (r, enc r)
  | [], _ => by simp [encs]
  | r :: rs, h => by
    rw [encs_cons, seg_enc r (h r (by simp)), seg_encs rs (fun x hx => h x (by simp [hx]))]
    rfl

theorem okB_encs (rs : List Nat) (h : ∀ r ∈ rs, goodRune r = true) : okB (encs rs) = true := by
  rw [okB, seg_encs rs h, List.all_eq_true]
  intro p hp
  obtain ⟨r, hr, rfl⟩ := List.mem_map.1 hp
  rw [isBad_enc r (h r hr)]; rfl

/-- A text of whole runes is its runes' bytes. -/
theorem encs_runes (l : List UInt8) (h : okB l = true) : encs ((seg l).map (·.1)) = l ∧ ∀ r ∈ (seg l).map (·.1), goodRune r = true := by
  induction l using seg_induct with
  | h0 => simp [encs]
  | h1 l hne ih =>
    have hb := isBad_head l hne
    rw [okB, seg_cons l hne, List.all_cons, ← okB, Bool.and_eq_true] at h
    have hg : ¬ ((dec l).1 = 65533 ∧ (dec l).2 = 1) := by
      intro e
      have := h.1
      rw [hb, e.1, e.2] at this; simp at this
    obtain ⟨g1, g2⟩ := enc_dec l hne hg
    obtain ⟨i1, i2⟩ := ih h.2
    rw [seg_cons l hne]
    refine ⟨?_, ?_⟩
    · rw [List.map_cons, encs_cons, i1, ← g2, List.take_append_drop]
    · intro r hr
      rw [List.map_cons] at hr
      rcases List.mem_cons.1 hr with rfl | hr
      · exact g1
      · exact i2 r hr

end Go.Proofs.YtpbhkaokgpacoaaGreatDoor.Nm
