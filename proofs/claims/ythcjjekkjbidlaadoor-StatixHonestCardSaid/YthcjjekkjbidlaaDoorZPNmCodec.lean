import Derived.Test.YthcjjekkjbidlaaDoorZPNmLike
import Derived.Test.YthcjjekkjbidlaaDoorZPNmSplitCore
import Derived.WalkSmall
set_option linter.unusedSimpArgs false
set_option linter.unusedVariables false
/-
  Plain facts on runes and their bytes: there and back. No program stands in this text.
-/
namespace Go.Proofs.YthcjjekkjbidlaaDoor.Nm

def goodRune (r : Nat) : Bool := decide (r < 55296) || (decide (57344 ≤ r) && decide (r ≤ 1114111))

theorem valid_good (r : Nat) : Utf8.valid (r : Int) = goodRune r := by
  rw [Bool.eq_iff_iff]; simp [Utf8.valid, goodRune]; omega

theorem enc_1 {r : Nat} (h : r < 128) : enc r = [UInt8.ofNat r] := by
  have hv : Utf8.valid (r : Int) = true := by rw [valid_good]; simp [goodRune]; omega
  rw [enc_eq, Utf8.encode]
  simp only [hv, if_true, Int.toNat_natCast]
  rw [if_pos h]
theorem enc_2 {r : Nat} (h1 : ¬ r < 128) (h : r < 2048) : enc r = [UInt8.ofNat (192 + r / 64), UInt8.ofNat (128 + r % 64)] := by
  have hv : Utf8.valid (r : Int) = true := by rw [valid_good]; simp [goodRune]; omega
  rw [enc_eq, Utf8.encode]
  simp only [hv, if_true, Int.toNat_natCast]
  rw [if_neg h1, if_pos h]
theorem enc_3 {r : Nat} (hg : goodRune r = true) (h1 : ¬ r < 2048) (h : r < 65536) : enc r = [UInt8.ofNat (224 + r / 4096), UInt8.ofNat (128 + r / 64 % 64), UInt8.ofNat (128 + r % 64)] := by
  have hv : Utf8.valid (r : Int) = true := by rw [valid_good]; exact hg
  rw [enc_eq, Utf8.encode]
  simp only [hv, if_true, Int.toNat_natCast]
  rw [if_neg (by omega), if_neg h1, if_pos h]
theorem enc_4 {r : Nat} (hg : goodRune r = true) (h1 : ¬ r < 65536) : enc r = [UInt8.ofNat (240 + r / 262144), UInt8.ofNat (128 + r / 4096 % 64), UInt8.ofNat (128 + r / 64 % 64), UInt8.ofNat (128 + r % 64)] := by
  have hv : Utf8.valid (r : Int) = true := by rw [valid_good]; exact hg
  rw [enc_eq, Utf8.encode]
  simp only [hv, if_true, Int.toNat_natCast]
  rw [if_neg (by omega), if_neg (by omega), if_neg h1]

theorem byte_ofNat {n : Nat} (h : n < 256) : (UInt8.ofNat n).toNat = n := by simp; omega

theorem byteN_0 (a : UInt8) (t : List UInt8) : byteN (a :: t) 0 = a.toNat := rfl
theorem byteN_1 (a b : UInt8) (t : List UInt8) : byteN (a :: b :: t) 1 = b.toNat := rfl
theorem byteN_2 (a b c : UInt8) (t : List UInt8) : byteN (a :: b :: c :: t) 2 = c.toNat := rfl
theorem byteN_3 (a b c d : UInt8) (t : List UInt8) : byteN (a :: b :: c :: d :: t) 3 = d.toNat := rfl

theorem ofNat_byte {a : UInt8} {n : Nat} (h : a.toNat = n) : UInt8.ofNat n = a := by rw [← h]; simp

set_option maxHeartbeats 1000000 in
/-- What is read as a rune is that rune's bytes. -/
theorem enc_dec (l : List UInt8) (hne : l ≠ []) (hb : ¬ ((dec l).1 = 65533 ∧ (dec l).2 = 1)) : goodRune (dec l).1 = true ∧ l.take (dec l).2 = enc (dec l).1 := by
  have hn : 1 ≤ l.length := by cases l with | nil => exact absurd rfl hne | cons a t => simp
  have h0 := byteN_lt l 0; have h1 := byteN_lt l 1; have h2 := byteN_lt l 2; have h3 := byteN_lt l 3
  revert hb
  generalize hd : dec l = d
  unfold dec Lib.decodeN at hd
  split at hd
  · subst hd; intro _
    obtain ⟨a, t, rfl⟩ : ∃ a t, l = a :: t := by cases l with | nil => exact absurd rfl hne | cons a t => exact ⟨a, t, rfl⟩
    rw [byteN_0] at *
    refine ⟨by simp [goodRune]; omega, ?_⟩
    rw [enc_1 (by omega)]
    simp
  split at hd
  · rename_i hx hy
    split at hd
    · subst hd; intro _
      obtain ⟨a, b, t, rfl⟩ : ∃ a b t, l = a :: b :: t := by
        rcases l with _ | ⟨a, _ | ⟨b, t⟩⟩
        · exact absurd rfl hne
        · exfalso; have := hy.2.1; simp at this
        · exact ⟨a, b, t, rfl⟩
      rw [byteN_0, byteN_1] at *
      refine ⟨by simp [goodRune]; omega, ?_⟩
      rw [enc_2 (by omega) (by omega), ofNat_byte (a := a) (by omega), ofNat_byte (a := b) (by omega)]
      rfl
    · subst hd; intro hb; exact absurd ⟨rfl, rfl⟩ hb
  split at hd
  · rename_i hx hy hz
    split at hd
    · subst hd; intro _
      rename_i hq
      obtain ⟨a, b, c, t, rfl⟩ : ∃ a b c t, l = a :: b :: c :: t := by
        rcases l with _ | ⟨a, _ | ⟨b, _ | ⟨c, t⟩⟩⟩
        · exact absurd rfl hne
        · exfalso; have := hz.2.2.1; simp at this
        · exfalso; have := hz.2.2.1; simp at this
        · exact ⟨a, b, c, t, rfl⟩
      rw [byteN_0, byteN_1, byteN_2] at *
      have hg : goodRune (a.toNat % 16 * 4096 + b.toNat % 64 * 64 + c.toNat % 64) = true := by simp [goodRune]; omega
      refine ⟨hg, ?_⟩
      rw [enc_3 hg (by omega) (by omega), ofNat_byte (a := a) (by omega), ofNat_byte (a := b) (by omega), ofNat_byte (a := c) (by omega)]
      rfl
    · subst hd; intro hb; exact absurd ⟨rfl, rfl⟩ hb
  split at hd
  · rename_i hx hy hz hu
    split at hd
    · subst hd; intro _
      rename_i hq
      obtain ⟨a, b, c, e, t, rfl⟩ : ∃ a b c e t, l = a :: b :: c :: e :: t := by
        rcases l with _ | ⟨a, _ | ⟨b, _ | ⟨c, _ | ⟨e, t⟩⟩⟩⟩
        · exact absurd rfl hne
        · exfalso; have := hu.2.2.2.1; simp at this
        · exfalso; have := hu.2.2.2.1; simp at this
        · exfalso; have := hu.2.2.2.1; simp at this
        · exact ⟨a, b, c, e, t, rfl⟩
      rw [byteN_0, byteN_1, byteN_2, byteN_3] at *
      have hg : goodRune (a.toNat % 8 * 262144 + b.toNat % 64 * 4096 + c.toNat % 64 * 64 + e.toNat % 64) = true := by simp [goodRune]; omega
      refine ⟨hg, ?_⟩
      rw [enc_4 hg (by omega), ofNat_byte (a := a) (by omega), ofNat_byte (a := b) (by omega), ofNat_byte (a := c) (by omega), ofNat_byte (a := e) (by omega)]
      rfl
    · subst hd; intro hb; exact absurd ⟨rfl, rfl⟩ hb
  · subst hd; intro hb; exact absurd ⟨rfl, rfl⟩ hb

/-- A text of whole runes is its runes' bytes. -/
theorem encs_runes (l : List UInt8) (h : okB l = true) : encs ((seg l).map (·.1)) = l ∧ ∀ r ∈ (seg l).map (·.1), goodRune r = true := by
  induction l using seg_induct with
  | h0 => simp [encs]
  | h1 l hne ih =>
    have hb := isBad_head l hne
    rw [okB, seg_cons l hne, List.all_cons, ← okB, Bool.and_eq_true] at h
    have hg : ¬ ((dec l).1 = 65533 ∧ (dec l).2 = 1) := by
      intro e
      have := h.1
      rw [hb, e.1, e.2] at this; simp at this
    obtain ⟨g1, g2⟩ := enc_dec l hne hg
    obtain ⟨i1, i2⟩ := ih h.2
    rw [seg_cons l hne]
    refine ⟨?_, ?_⟩
    · rw [List.map_cons, encs_cons, i1, ← g2, List.take_append_drop]
    · intro r hr
      rw [List.map_cons] at hr
      rcases List.mem_cons.1 hr with rfl | hr
      · exact g1
      · exact i2 r hr

end Go.Proofs.YthcjjekkjbidlaaDoor.Nm
/-
  The contracts of the reference's Rune, runes, Check, Runes, Less.
-/
namespace Go.Proofs.YthcjjekkjbidlaaDoor.Nm
open Go.RowKit

/-- The tables of unicode/utf8 as their initialisers lay them. -/
abbrev Tabs (w : World) : Prop := Lib.Utf8Tabs 1 2 w

theorem Tabs.below {w w' : World} (h : Tabs w) (hb : Below w.heap.size w w') : Tabs w' := by
  obtain ⟨h1, h2⟩ := h
  have k1 := World.block_lt_of_cell? _ _ (h1 0 (by omega))
  have k2 := World.block_lt_of_cell? _ _ (h2 0 (by omega)).1
  refine ⟨fun c hc => ?_, fun i hi => ⟨?_, ?_⟩⟩
  · rw [hb.cell (p := ⟨1, c, none⟩) k1]; exact h1 c hc
  · rw [hb.cell (p := ⟨2, 2 * i, none⟩) k2]; exact (h2 i hi).1
  · rw [hb.cell (p := ⟨2, 2 * i + 1, none⟩) k2]; exact (h2 i hi).2

end Go.Proofs.YthcjjekkjbidlaaDoor.Nm
/-
  The contract of the reference's Split: it answers what the program's Split answers.
-/
namespace Go.Proofs.YthcjjekkjbidlaaDoor.Nm
open Go.RowKit

theorem infoStr : (Tryd.prog.info? 9).map (fun i => (i.zero, i.size, i.bytes)) = some (some (.string ByteArray.empty), 1, 16) := by kernel_rfl

end Go.Proofs.YthcjjekkjbidlaaDoor.Nm
