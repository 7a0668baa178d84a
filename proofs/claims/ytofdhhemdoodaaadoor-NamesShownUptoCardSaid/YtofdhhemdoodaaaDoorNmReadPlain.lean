/-
  Reading a shown text: the plain law. No program stands in this text.
-/
import Derived.Test.YtofdhhemdoodaaaDoorNmShow
import Derived.Test.YtofdhhemdoodaaaDoorNmParse
import Derived.Test.YtofdhhemdoodaaaDoorNmCut
namespace Go.Proofs.YtofdhhemdoodaaaDoor.Nm
open Go.RowKit

/-- What stands behind a backslash: what is read, and what is left. -/
def escR (h b : List UInt8) : Option (List UInt8 × List UInt8) :=
  if Lib.hasPrefix b [92] then some (h ++ [92], b.drop 1)
  else if Lib.hasPrefix b [120] && decide (2 < b.length) then (puN 255 ((b.drop 1).take 2)).map fun n => (h ++ [UInt8.ofNat n], b.drop 3)
  else if Lib.hasPrefix b [117] then
    match cutB 59 (b.drop 1) with
    | none => none
    | some (d, r2) => (puN 2147483647 d).map fun n => (h ++ enc n, r2)
  else none

def readF : Nat → List UInt8 → List UInt8 → Option (List UInt8)
  | 0, _, _ => none
  | f + 1, acc, l =>
    if l = [] then some acc else
    match cutB 92 l with
    | none => some (acc ++ l)
    | some (h, b) => match escR (acc ++ h) b with | none => none | some (a, r) => readF f a r

def readN (l : List UInt8) : Option (List UInt8) := readF (l.length + 1) [] l

theorem readF_nil (f : Nat) (acc : List UInt8) : readF (f + 1) acc [] = some acc := by rw [readF, if_pos rfl]
theorem readF_end {f : Nat} {acc l : List UInt8} (h : cutB 92 l = none) : readF (f + 1) acc l = some (acc ++ l) := by
  rw [readF]
  by_cases hl : l = []
  · rw [if_pos hl, hl, List.append_nil]
  · rw [if_neg hl, h]
theorem readF_esc {f : Nat} {acc l h b a r : List UInt8} (hc : cutB 92 l = some (h, b)) (he : escR (acc ++ h) b = some (a, r)) : readF (f + 1) acc l = readF f a r := by
  have hl : l ≠ [] := by intro e; rw [e] at hc; exact absurd hc (by simp [cutB])
  rw [readF, if_neg hl, hc]
  dsimp only
  rw [he]
theorem readF_bad {f : Nat} {acc l h b : List UInt8} (hc : cutB 92 l = some (h, b)) (he : escR (acc ++ h) b = none) : readF (f + 1) acc l = none := by
  have hl : l ≠ [] := by intro e; rw [e] at hc; exact absurd hc (by simp [cutB])
  rw [readF, if_neg hl, hc]
  dsimp only
  rw [he]

/-- A letter that is no backslash is read as it stands. -/
theorem readF_letter {f : Nat} {acc R : List UInt8} {c : UInt8} (h : c ≠ 92) : readF (f + 1) acc (c :: R) = readF (f + 1) (acc ++ [c]) R := by
  have hc : cutB 92 (c :: R) = (cutB 92 R).map fun p => (c :: p.1, p.2) := by rw [cutB, if_neg h]
  cases hR : cutB 92 R with
  | none =>
    rw [hR] at hc
    rw [readF_end hc, readF_end hR]
    simp
  | some p =>
    obtain ⟨a, b⟩ := p
    rw [hR] at hc
    have hc' : cutB 92 (c :: R) = some (c :: a, b) := hc
    cases he : escR (acc ++ c :: a) b with
    | none => rw [readF_bad hc' he, readF_bad hR (by rw [← he]; simp)]
    | some q => obtain ⟨x, y⟩ := q; rw [readF_esc hc' he, readF_esc hR (by rw [← he]; simp)]

theorem escR_left {h b a r : List UInt8} (he : escR h b = some (a, r)) : r.length ≤ b.length ∧ ∃ m, a = h ++ m := by
  unfold escR at he
  split at he
  · simp at he; rw [← he.1, ← he.2]; exact ⟨by simp, _, rfl⟩
  · split at he
    · simp at he
      obtain ⟨n, _, h1, h2⟩ := he
      rw [← h1, ← h2]; exact ⟨by simp, _, rfl⟩
    · split at he
      · split at he
        · exact absurd he (by simp)
        · rename_i d r2 hc
          simp at he
          obtain ⟨n, _, h1, h2⟩ := he
          have hl := congrArg List.length (cutB_len hc)
          simp at hl
          rw [← h1, ← h2]; exact ⟨by omega, _, rfl⟩
      · exact absurd he (by simp)

theorem readF_grows : ∀ (f : Nat) {acc l r : List UInt8}, readF f acc l = some r → acc.length ≤ r.length
  | 0, _, _, _, h => absurd h (by simp [readF])
  | f + 1, acc, l, r, h => by
    rcases cutB_cases 92 l with ⟨hc, _⟩ | ⟨a, b, hc, _, _⟩
    · rw [readF_end hc] at h; simp at h; rw [← h]; simp
    · cases he : escR (acc ++ a) b with
      | none => rw [readF_bad hc he] at h; exact absurd h (by simp)
      | some q =>
        obtain ⟨x, y⟩ := q
        rw [readF_esc hc he] at h
        have h1 := readF_grows f h
        obtain ⟨_, m, hm⟩ := escR_left he
        rw [hm] at h1
        simp at h1
        omega

theorem dig_hd (d : Nat) (h : d < 16) : dig (hd d) = some d := by
  have : ∀ q : Fin 16, dig (hd q.1) = some q.1 := by decide +kernel
  exact this ⟨d, h⟩
theorem hd_ne (d : Nat) (h : d < 16) : hd d ≠ 59 := by
  have : ∀ q : Fin 16, hd q.1 ≠ 59 := by decide +kernel
  exact this ⟨d, h⟩

theorem pu_app (m : Nat) : ∀ (a b : List UInt8) (n k : Nat), pu m n a = some k → pu m n (a ++ b) = pu m k b
  | [], b, n, k, h => by simp [pu] at h; rw [h]; rfl
  | c :: a, b, n, k, h => by
    rw [List.cons_append, pu]
    rw [pu] at h
    cases hd : dig c with
    | none => rw [hd] at h; exact absurd h (by simp)
    | some d =>
      rw [hd] at h
      dsimp only at h ⊢
      split at h
      · exact absurd h (by simp)
      · rename_i hn; rw [if_neg hn]; exact pu_app m a b _ k h

theorem pu_hexF (m : Nat) : ∀ (f u : Nat), u < 16 ^ f → u ≤ m → pu m 0 (hexF f u) = some u
  | 0, u, h, _ => by simp at h; subst h; rfl
  | f + 1, u, h, hm => by
    by_cases hs : u < 16
    · rw [hexF_small _ _ hs, pu, dig_hd u hs]
      dsimp only
      rw [if_neg (by omega), pu]; simp
    · rw [hexF_step _ _ hs]
      have h1 := pu_hexF m f (u / 16) (by rw [Nat.pow_succ] at h; omega) (by omega)
      rw [pu_app m _ _ _ _ h1, pu, dig_hd _ (Nat.mod_lt _ (by omega))]
      dsimp only
      have e : 16 * (u / 16) + u % 16 = u := Nat.div_add_mod u 16
      rw [e, if_neg (by omega), pu]

theorem hexF_ne : ∀ (f u : Nat), hexF (f + 1) u ≠ []
  | f, u => by
    by_cases hs : u < 16
    · rw [hexF_small _ _ hs]; simp
    · rw [hexF_step _ _ hs]; simp

theorem hexF_59 : ∀ (f u : Nat), (59 : UInt8) ∉ hexF f u
  | 0, _ => by simp [hexF]
  | f + 1, u => by
    by_cases hs : u < 16
    · rw [hexF_small _ _ hs]; simpa using (hd_ne u hs).symm
    · rw [hexF_step _ _ hs, List.mem_append, not_or]
      exact ⟨hexF_59 f _, by simpa using (hd_ne _ (Nat.mod_lt _ (by omega))).symm⟩

theorem puN_hex (m u : Nat) (h : u < 16777216) (hm : u ≤ m) : puN m (hex u) = some u := by
  have hne : hex u ≠ [] := hexF_ne 5 u
  rw [puN, if_neg hne]; exact pu_hexF m 6 u h hm

theorem pu_le (m : Nat) : ∀ (l : List UInt8) (n k : Nat), n ≤ m → pu m n l = some k → k ≤ m
  | [], n, k, hn, h => by simp [pu] at h; omega
  | c :: l, n, k, hn, h => by
    rw [pu] at h
    split at h
    · exact absurd h (by simp)
    · split at h
      · exact absurd h (by simp)
      · rename_i d _ h2; exact pu_le m l _ k (by omega) h
theorem puN_le {m k : Nat} {l : List UInt8} (h : puN m l = some k) : k ≤ m := by
  rw [puN] at h
  split at h
  · exact absurd h (by simp)
  · exact pu_le m l 0 k (by omega) h

/-- What is shown is read again. -/
theorem read_shown (l : List UInt8) : ∀ (f : Nat) (acc : List UInt8), (shown l).length < f → readF f acc (shown l) = some (acc ++ l) := by
  induction l using seg_induct with
  | h0 =>
    intro f acc hf
    obtain ⟨g, rfl⟩ : ∃ g, f = g + 1 := ⟨f - 1, by omega⟩
    rw [shown_nil, readF_nil, List.append_nil]
  | h1 l hne ih =>
    intro f acc hf
    obtain ⟨g, rfl⟩ : ∃ g, f = g + 1 := ⟨f - 1, by omega⟩
    rw [shown_cons l hne] at hf ⊢
    have htd : l = l.take (dec l).2 ++ l.drop (dec l).2 := (List.take_append_drop _ l).symm
    have hib := isBad_head l hne
    by_cases hbad : (dec l).1 = 65533 ∧ (dec l).2 = 1
    · have hb1 : isBad ((dec l).1, l.take (dec l).2) = true := by rw [hib, hbad.1, hbad.2]; rfl
      rw [hbad.2] at hf ih hb1 ⊢
      obtain ⟨x, t, rfl⟩ : ∃ x t, l = x :: t := by cases l with | nil => exact absurd rfl hne | cons x t => exact ⟨x, t, rfl⟩
      have hx := x.toNat_lt
      have hsp : showP ((dec (x :: t)).1, (x :: t).take 1) = [92, 120, hd (x.toNat / 16), hd (x.toNat % 16)] := by
        rw [showP, if_pos hb1]
        show [92, 120] ++ hex (x.toNat / 16) ++ hex (x.toNat % 16) = _
        rw [hex_small (by omega), hex_small (by omega)]; rfl
      rw [hsp] at hf ⊢
      have hc : cutB 92 ([92, 120, hd (x.toNat / 16), hd (x.toNat % 16)] ++ shown ((x :: t).drop 1)) = some ([], [120, hd (x.toNat / 16), hd (x.toNat % 16)] ++ shown ((x :: t).drop 1)) := by
        simp [cutB]
      have hpu : puN 255 [hd (x.toNat / 16), hd (x.toNat % 16)] = some x.toNat := by
        rw [puN, if_neg (by simp), pu, dig_hd _ (by omega)]
        dsimp only
        rw [if_neg (by omega), pu, dig_hd _ (by omega)]
        dsimp only
        rw [if_neg (by omega), pu]
        congr 1; omega
      have he : escR (acc ++ []) ([120, hd (x.toNat / 16), hd (x.toNat % 16)] ++ shown ((x :: t).drop 1)) = some (acc ++ [x], shown ((x :: t).drop 1)) := by
        rw [escR, if_neg (by simp [Lib.hasPrefix]), if_pos (by simp [Lib.hasPrefix])]
        show (puN 255 [hd (x.toNat / 16), hd (x.toNat % 16)]).map _ = _
        rw [hpu]; simp
      rw [readF_esc hc he, ih g (acc ++ [x]) (by simp at hf ⊢; omega)]
      simp
    · have hb0 : isBad ((dec l).1, l.take (dec l).2) = false := by
        rw [hib]
        cases h : ((dec l).1 == 65533 && (dec l).2 == 1) with
        | false => rfl
        | true => simp at h; exact absurd h hbad
      obtain ⟨hg, hen⟩ := enc_dec l hne hbad
      have hdb := dec_bound l
      have hsp : showP ((dec l).1, l.take (dec l).2) = if (dec l).1 = 92 then [92, 92] else if 32 ≤ (dec l).1 ∧ (dec l).1 ≤ 126 then [UInt8.ofNat (dec l).1] else [92, 117] ++ hex (dec l).1 ++ [59] := by
        rw [showP, hb0]; rfl
      have hw : acc ++ l = (acc ++ enc (dec l).1) ++ l.drop (dec l).2 := by
        rw [List.append_assoc, ← hen, ← htd]
      rw [hsp] at hf ⊢
      rw [hw]
      generalize (dec l).1 = r at *
      generalize l.drop (dec l).2 = T at *
      by_cases h92 : r = 92
      · subst h92
        rw [if_pos rfl] at hf ⊢
        have hc : cutB 92 ([92, 92] ++ shown T) = some ([], [92] ++ shown T) := by simp [cutB]
        have he : escR (acc ++ []) ([92] ++ shown T) = some (acc ++ [92], shown T) := by
          rw [escR, if_pos (by simp [Lib.hasPrefix])]; simp
        rw [readF_esc hc he, ih g (acc ++ [92]) (by simp at hf ⊢; omega), enc_1 (by omega)]
        rfl
      · rw [if_neg h92] at hf ⊢
        by_cases hp : 32 ≤ r ∧ r ≤ 126
        · rw [if_pos hp] at hf ⊢
          have hx : UInt8.ofNat r ≠ 92 := by
            intro e
            have := congrArg UInt8.toNat e
            rw [byte_ofNat (by omega)] at this
            exact h92 this
          rw [List.singleton_append, readF_letter hx, ih (g + 1) (acc ++ [UInt8.ofNat r]) (by simp at hf ⊢; omega), enc_1 (by omega)]
        · rw [if_neg hp] at hf ⊢
          have hc : cutB 92 ([92, 117] ++ hex r ++ [59] ++ shown T) = some ([], 117 :: (hex r ++ 59 :: shown T)) := by simp [cutB]
          have hc2 : cutB 59 (hex r ++ 59 :: shown T) = some (hex r, shown T) := cutB_of 59 _ _ (hexF_59 6 r)
          have he : escR (acc ++ []) (117 :: (hex r ++ 59 :: shown T)) = some (acc ++ enc r, shown T) := by
            rw [escR, if_neg (by simp [Lib.hasPrefix]), if_neg (by simp [Lib.hasPrefix]), if_pos (by simp [Lib.hasPrefix])]
            show (match cutB 59 (hex r ++ 59 :: shown T) with | none => none | some (d, r2) => (puN 2147483647 d).map fun n => ((acc ++ []) ++ enc n, r2)) = _
            rw [hc2]
            dsimp only
            rw [puN_hex _ _ (by omega) (by omega)]; simp
          rw [readF_esc hc he, ih g (acc ++ enc r) (by simp at hf ⊢; omega)]

theorem readN_shown (l : List UInt8) : readN (shown l) = some l := by
  rw [readN, read_shown l _ [] (by omega)]; rfl

/-- What a text is read as: the one that is shown so, if there is any. -/
def readR (l : List UInt8) : Option (List UInt8) :=
  match readN l with
  | none => none
  | some b => if shown b = l then some b else none

theorem readR_iff (l b : List UInt8) : readR l = some b ↔ shown b = l := by
  constructor
  · intro h
    unfold readR at h
    split at h
    · exact absurd h (by simp)
    · split at h
      · rename_i hb; cases h; exact hb
      · exact absurd h (by simp)
  · rintro rfl
    rw [readR, readN_shown]
    simp
end Go.Proofs.YtofdhhemdoodaaaDoor.Nm
