/-
  The reference's reading of a shown text: the plain law. No program stands in this text.
-/
import Derived.Test.YtofdhhemdoodaaaDoorNmReadPlain
namespace Go.Proofs.YtofdhhemdoodaaaDoor.Nm
open Go.RowKit

def digN (c : UInt8) : Nat := if 48 ≤ c.toNat ∧ c.toNat ≤ 57 then c.toNat - 48 else if 97 ≤ c.toNat ∧ c.toNat ≤ 102 then c.toNat - 87 else 16
theorem digN_le (c : UInt8) : digN c ≤ 16 := by unfold digN; split <;> (try split) <;> omega
theorem digN_hd (d : Nat) (h : d < 16) : digN (hd d) = d := by
  have : ∀ q : Fin 16, digN (hd q.1) = q.1 := by decide +kernel
  exact this ⟨d, h⟩

/-- Digits from the front on: the number, and what is left. -/
def scan : Nat → List UInt8 → Nat × List UInt8
  | n, [] => (n, [])
  | n, c :: l => if digN c < 16 ∧ n ≤ 1114111 then scan (16 * n + digN c) l else (n, c :: l)

def refF : Nat → List UInt8 → List UInt8 → Option (List UInt8)
  | 0, _, _ => none
  | _ + 1, acc, [] => some acc
  | f + 1, acc, [c] => refF f (acc ++ [c]) []
  | f + 1, acc, c :: d :: r =>
    if c ≠ 92 then refF f (acc ++ [c]) (d :: r) else
    if d = 92 then refF f (acc ++ [92]) r else
    if d = 120 then
      if r.length < 2 ∨ 15 < digN (r.getD 0 0) ∨ 15 < digN (r.getD 1 0) then none else refF f (acc ++ [UInt8.ofNat (16 * digN (r.getD 0 0) + digN (r.getD 1 0))]) (r.drop 2)
    else if d = 117 then refF f (acc ++ enc (scan 0 r).1) ((scan 0 r).2.drop 1)
    else none

theorem refF_letter {f : Nat} {acc r : List UInt8} {c : UInt8} (h : c ≠ 92 ∨ r = []) : refF (f + 1) acc (c :: r) = refF f (acc ++ [c]) r := by
  cases r with
  | nil => rw [refF]
  | cons d r => rcases h with h | h
                · rw [refF, if_pos h]
                · cases h
theorem refF_back {f : Nat} {acc r : List UInt8} : refF (f + 1) acc (92 :: 92 :: r) = refF f (acc ++ [92]) r := by rw [refF, if_neg (by simp), if_pos rfl]
theorem refF_x {f : Nat} {acc r : List UInt8} : refF (f + 1) acc (92 :: 120 :: r) = if r.length < 2 ∨ 15 < digN (r.getD 0 0) ∨ 15 < digN (r.getD 1 0) then none else refF f (acc ++ [UInt8.ofNat (16 * digN (r.getD 0 0) + digN (r.getD 1 0))]) (r.drop 2) := by
  rw [refF, if_neg (by simp), if_neg (by decide), if_pos rfl]
theorem refF_u {f : Nat} {acc r : List UInt8} : refF (f + 1) acc (92 :: 117 :: r) = refF f (acc ++ enc (scan 0 r).1) ((scan 0 r).2.drop 1) := by
  rw [refF, if_neg (by simp), if_neg (by decide), if_neg (by decide), if_pos rfl]
theorem refF_no {f : Nat} {acc r : List UInt8} {d : UInt8} (h1 : d ≠ 92) (h2 : d ≠ 120) (h3 : d ≠ 117) : refF (f + 1) acc (92 :: d :: r) = none := by
  rw [refF, if_neg (by simp), if_neg h1, if_neg h2, if_neg h3]

theorem scan_app : ∀ (f u : Nat) (t : List UInt8), u < 16 ^ f → u ≤ 1114111 → scan 0 (hexF f u ++ t) = scan u t
  | 0, u, t, h, _ => by simp at h; subst h; rfl
  | f + 1, u, t, h, hm => by
    by_cases hs : u < 16
    · rw [hexF_small _ _ hs, List.singleton_append, scan, digN_hd u hs, if_pos ⟨hs, by omega⟩]; simp
    · rw [hexF_step _ _ hs, List.append_assoc, scan_app f (u / 16) _ (by rw [Nat.pow_succ] at h; omega) (by omega), List.singleton_append, scan, digN_hd _ (Nat.mod_lt _ (by omega)), if_pos ⟨Nat.mod_lt _ (by omega), by omega⟩]
      rw [Nat.div_add_mod u 16]
theorem scan_stop {n : Nat} {c : UInt8} {l : List UInt8} (h : ¬ (digN c < 16 ∧ n ≤ 1114111)) : scan n (c :: l) = (n, c :: l) := by rw [scan, if_neg h]
theorem scan_go {n : Nat} {c : UInt8} {l : List UInt8} (h1 : digN c < 16) (h2 : n ≤ 1114111) : scan n (c :: l) = scan (16 * n + digN c) l := by rw [scan, if_pos ⟨h1, h2⟩]

theorem ref_shown (l : List UInt8) : ∀ (f : Nat) (acc : List UInt8), (shown l).length < f → refF f acc (shown l) = some (acc ++ l) := by
  induction l using seg_induct with
  | h0 =>
    intro f acc hf
    obtain ⟨g, rfl⟩ : ∃ g, f = g + 1 := ⟨f - 1, by omega⟩
    rw [shown_nil, refF, List.append_nil]
  | h1 l hne ih =>
    intro f acc hf
    obtain ⟨g, rfl⟩ : ∃ g, f = g + 1 := ⟨f - 1, by omega⟩
    rw [shown_cons l hne] at hf ⊢
    have htd : l = l.take (dec l).2 ++ l.drop (dec l).2 := (List.take_append_drop _ l).symm
    have hib := isBad_head l hne
    by_cases hbad : (dec l).1 = 65533 ∧ (dec l).2 = 1
    · have hb1 : isBad ((dec l).1, l.take (dec l).2) = true := by rw [hib, hbad.1, hbad.2]; rfl
      rw [hbad.2] at hf ih hb1 ⊢
      obtain ⟨x, t, rfl⟩ : ∃ x t, l = x :: t := by cases l with | nil => exact absurd rfl hne | cons x t => exact ⟨x, t, rfl⟩
      have hx := x.toNat_lt
      have hsp : showP ((dec (x :: t)).1, (x :: t).take 1) = [92, 120, hd (x.toNat / 16), hd (x.toNat % 16)] := by
        rw [showP, if_pos hb1]
        show [92, 120] ++ hex (x.toNat / 16) ++ hex (x.toNat % 16) = _
        rw [hex_small (by omega), hex_small (by omega)]; rfl
      rw [hsp] at hf ⊢
      have e : [92, 120, hd (x.toNat / 16), hd (x.toNat % 16)] ++ shown ((x :: t).drop 1) = 92 :: 120 :: (hd (x.toNat / 16) :: hd (x.toNat % 16) :: shown ((x :: t).drop 1)) := rfl
      rw [e, refF_x]
      have g0 : (hd (x.toNat / 16) :: hd (x.toNat % 16) :: shown ((x :: t).drop 1)).getD 0 0 = hd (x.toNat / 16) := rfl
      have g1 : (hd (x.toNat / 16) :: hd (x.toNat % 16) :: shown ((x :: t).drop 1)).getD 1 0 = hd (x.toNat % 16) := rfl
      rw [g0, g1, digN_hd _ (by omega), digN_hd _ (by omega), if_neg (by simp; omega)]
      have hb : UInt8.ofNat (16 * (x.toNat / 16) + x.toNat % 16) = x := ofNat_byte (by omega)
      rw [hb]
      show refF g (acc ++ [x]) (shown ((x :: t).drop 1)) = _
      rw [ih g (acc ++ [x]) (by simp at hf ⊢; omega)]
      simp
    · have hb0 : isBad ((dec l).1, l.take (dec l).2) = false := by
        rw [hib]
        cases h : ((dec l).1 == 65533 && (dec l).2 == 1) with
        | false => rfl
        | true => simp at h; exact absurd h hbad
      obtain ⟨hg, hen⟩ := enc_dec l hne hbad
      have hdb := dec_bound l
      have hsp : showP ((dec l).1, l.take (dec l).2) = if (dec l).1 = 92 then [92, 92] else if 32 ≤ (dec l).1 ∧ (dec l).1 ≤ 126 then [UInt8.ofNat (dec l).1] else [92, 117] ++ hex (dec l).1 ++ [59] := by
        rw [showP, hb0]; rfl
      have hw : acc ++ l = (acc ++ enc (dec l).1) ++ l.drop (dec l).2 := by
        rw [List.append_assoc, ← hen, ← htd]
      rw [hsp] at hf ⊢
      rw [hw]
      generalize (dec l).1 = r at *
      generalize l.drop (dec l).2 = T at *
      by_cases h92 : r = 92
      · subst h92
        rw [if_pos rfl] at hf ⊢
        have e : [92, 92] ++ shown T = 92 :: 92 :: shown T := rfl
        rw [e, refF_back, ih g (acc ++ [92]) (by simp at hf ⊢; omega), enc_1 (by omega)]
        rfl
      · rw [if_neg h92] at hf ⊢
        by_cases hp : 32 ≤ r ∧ r ≤ 126
        · rw [if_pos hp] at hf ⊢
          have hx : UInt8.ofNat r ≠ 92 := by
            intro e
            have := congrArg UInt8.toNat e
            rw [byte_ofNat (by omega)] at this
            exact h92 this
          rw [List.singleton_append, refF_letter (.inl hx), ih g (acc ++ [UInt8.ofNat r]) (by simp at hf ⊢; omega), enc_1 (by omega)]
        · rw [if_neg hp] at hf ⊢
          have e : [92, 117] ++ hex r ++ [59] ++ shown T = 92 :: 117 :: (hex r ++ 59 :: shown T) := by simp
          have hs : scan 0 (hex r ++ 59 :: shown T) = (r, 59 :: shown T) := by
            rw [hex, scan_app 6 r _ (by omega) hdb, scan_stop (fun h => absurd h.1 (by decide))]
          rw [e, refF_u, hs]
          show refF g (acc ++ enc r) (shown T) = _
          rw [ih g (acc ++ enc r) (by simp at hf ⊢; omega)]

def refN (l : List UInt8) : Option (List UInt8) := refF (l.length + 1) [] l
theorem refN_shown (l : List UInt8) : refN (shown l) = some l := by rw [refN, ref_shown l _ [] (by omega)]; rfl

theorem refN_none {l : List UInt8} (h : refN l = none) : readR l = none := by
  cases hr : readR l with
  | none => rfl
  | some b =>
    have h1 := (readR_iff l b).1 hr
    rw [← h1, refN_shown] at h; cases h
theorem refN_ne {l b : List UInt8} (h : refN l = some b) (hn : shown b ≠ l) : readR l = none := by
  cases hr : readR l with
  | none => rfl
  | some b' =>
    have h1 := (readR_iff l b').1 hr
    rw [← h1, refN_shown] at h
    cases h
    exact absurd h1 hn
theorem refN_eq {l b : List UInt8} (hn : shown b = l) : readR l = some b := (readR_iff l b).2 hn
end Go.Proofs.YtofdhhemdoodaaaDoor.Nm
