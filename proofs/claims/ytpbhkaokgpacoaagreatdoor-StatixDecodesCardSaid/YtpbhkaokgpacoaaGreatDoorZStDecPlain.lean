import Derived.Test.YtpbhkaokgpacoaaGreatDoorZStRead2
import Derived.Test.YtpbhkaokgpacoaaGreatDoorZStSet
set_option linter.unusedSimpArgs false
set_option linter.unusedVariables false
/-
  What Decode makes of bytes, in plain words; and that it finds an index in its own bytes again.
-/
namespace Go.Proofs.YtpbhkaokgpacoaaGreatDoor.St
open Go.RowKit Go.Proofs.YtpbhkaokgpacoaaGreatDoor.Rf Go.Proofs.YtpbhkaokgpacoaaGreatDoor.Rd Go.Proofs.YtpbhkaokgpacoaaGreatDoor.Nm

/-- Bytes that are taken; what lacks is filled up with noughts. -/
def tkF (n : Nat) (L : List UInt8) : List UInt8 := tkT n L ++ List.replicate (n - (tkT n L).length) 0
theorem tkT_len (n : Nat) (L : List UInt8) : (tkT n L).length ≤ n := by
  unfold tkT; split
  · simp; omega
  · simp
theorem tkF_len (n : Nat) (L : List UInt8) : (tkF n L).length = n := by
  have := tkT_len n L
  rw [tkF, List.length_append, List.length_replicate]; omega
/-- A number is there, and is not too great. -/
def numB (most : Nat) (L : List UInt8) : Bool := (rd0 L).isSome && decide (shN L ≤ most)
def tkB (n : Nat) (L : List UInt8) : Bool := decide (n ≤ L.length)
def txB (most : Nat) (L : List UInt8) : Bool := (txt most L).isSome

def r1 (R : List UInt8) : List UInt8 := txR 65536 R
def r2 (R : List UInt8) : List UInt8 := tkR 1 (r1 R)
def r3 (R : List UInt8) : List UInt8 := shR (r2 R)
def r4 (R : List UInt8) : List UInt8 := shR (r3 R)
def r5 (R : List UInt8) : List UInt8 := shR (r4 R)
def r6 (R : List UInt8) : List UInt8 := tkR 1 (r5 R)
def r7 (R : List UInt8) : List UInt8 := tkR 32 (r6 R)
/-- The next entry. -/
def entE (R : List UInt8) : SE := ⟨txT 65536 R, ((tkF 1 (r1 R)).headD 0).toNat, IntKind.i64.wrap (shN (r2 R)), shN (r3 R), IntKind.i64.wrap (shN (r4 R)), ((tkF 1 (r5 R)).headD 0).toNat, tkF 32 (r6 R)⟩
/-- It is whole. -/
def entB (R : List UInt8) : Bool := txB 65536 R && (tkB 1 (r1 R) && (numB 1048576 (r2 R) && (numB 18446744073709551615 (r3 R) && (numB 1099511627776 (r4 R) && (tkB 1 (r5 R) && tkB 32 (r6 R))))))
def decGo : Nat → List UInt8 → List SE → List UInt8 → Option (List SE × List UInt8)
  | 0, _, L, R => some (L, R)
  | n + 1, last, L, R => if entB R && lt last (entE R).path && decide ((setX (entE R) L).1 = 0) then decGo n (entE R).path (setX (entE R) L).2 (r7 R) else none
/-- The index that bytes are. -/
def decX (s : List UInt8) : Option (List SE) :=
  if s.take 4 = mst ∧ numB 65536 (s.drop 4) = true then
    match decGo (shN (s.drop 4)) [] [] (shR (s.drop 4)) with
    | some (L, []) => some L
    | _ => none
  else none

/-! ### rests grow no longer -/
theorem shR_le (L : List UInt8) : (shR L).length ≤ L.length := by
  unfold shR; split
  · simp
  · simp
theorem tkR_le (n : Nat) (L : List UInt8) : (tkR n L).length ≤ L.length := by
  unfold tkR; split
  · simp
  · simp
theorem txR_le (n : Nat) (L : List UInt8) : (txR n L).length ≤ L.length := by
  unfold txR
  cases h : txt n L with
  | none => simp
  | some p =>
    unfold txt at h
    split at h
    · cases h
    · split at h
      · injection h with h; subst h; simp <;> omega
      · cases h
theorem txT_le (n : Nat) (L : List UInt8) : (txT n L).length ≤ L.length := by
  unfold txT
  cases h : txt n L with
  | none => simp
  | some p =>
    unfold txt at h
    split at h
    · cases h
    · split at h
      · injection h with h; subst h; simp; omega
      · cases h
theorem wrap_fits (n : Int) : -9223372036854775808 ≤ IntKind.i64.wrap n ∧ IntKind.i64.wrap n < 9223372036854775808 := by
  rw [IntKind.wrap_i64]; omega
theorem ent_fits {R : List UInt8} (h : R.length ≤ 140737488355328) : (entE R).Fits :=
  ⟨by have := txT_le 65536 R; show (txT 65536 R).length ≤ _; omega, UInt8.toNat_lt _, wrap_fits _, shN_lt _, wrap_fits _, UInt8.toNat_lt _, tkF_len _ _⟩

/-! ### an entry's own bytes -/
theorem shN_sh {n : Nat} (h : n < 2 ^ 64) (r : List UInt8) : shN (sh n ++ r) = n := by rw [shN, rd_sh h]
theorem shR_sh {n : Nat} (h : n < 2 ^ 64) (r : List UInt8) : shR (sh n ++ r) = r := by rw [shR, rd_sh h]; simp
theorem numB_sh {n most : Nat} (h : n < 2 ^ 64) (hm : n ≤ most) (r : List UInt8) : numB most (sh n ++ r) = true := by
  rw [numB, shN_sh h, rd_sh h]; simpa using hm
theorem txt_put {t : List UInt8} {most : Nat} (h : t.length < 2 ^ 64) (hm : t.length ≤ most) (r : List UInt8) : txt most (putText t ++ r) = some (t, r) := by
  rw [txt, putText, List.append_assoc, rd_sh h]
  dsimp only
  rw [if_pos ⟨hm, by simp⟩]
  simp
theorem mayN_zero {e : SE} (h : mayN e = 0) : (splitP e.path).isSome = true ∧ statBad e = false := by
  rw [mayN] at h
  split at h
  · cases h
  · next h1 =>
    split at h
    · cases h
    · next h2 => exact ⟨by rw [Option.isSome_iff_ne_none]; intro e; rw [e] at h1; exact h1 rfl, by simpa using h2⟩
theorem parts_sum (l : List UInt8) : ∀ k, (∀ x ∈ parts l, x.length ≤ k) → l.length ≤ (l.count 47 + 1) * (k + 1) := by
  intro k h
  have e : ∀ l : List UInt8, l.length + 1 = ((parts l).map (fun x => x.length + 1)).sum := by
    intro l
    induction l with
    | nil => rfl
    | cons c t ih =>
      rw [parts]
      split
      · simp only [List.map_cons, List.sum_cons, ← ih, List.length_cons, List.length_nil]; omega
      · cases hp : parts t with
        | nil => exact absurd hp (parts_ne t)
        | cons x r =>
          rw [hp] at ih
          simp only [List.map_cons, List.sum_cons, List.length_cons] at ih ⊢
          omega
  have s : ∀ (m : List (List UInt8)), (∀ x ∈ m, x.length ≤ k) → (m.map (fun x => x.length + 1)).sum ≤ m.length * (k + 1) := by
    intro m hm
    induction m with
    | nil => simp
    | cons x r ih =>
      have h1 := hm x (by simp)
      have h2 := ih (fun y hy => hm y (by simp [hy]))
      simp only [List.map_cons, List.sum_cons, List.length_cons, Nat.add_mul]
      omega
  have h1 := e l
  have h2 := s (parts l) h
  rw [parts_count] at h2
  omega
theorem split_len {p : List UInt8} (h : (splitP p).isSome = true) : p.length ≤ 4353 ∧ p ≠ [] := by
  rw [splitP] at h
  split at h
  · next e => subst e; decide
  · split at h
    · next hc =>
      simp only [Bool.and_eq_true, decide_eq_true_eq] at hc
      obtain ⟨⟨h1, h2⟩, h3⟩ := hc
      obtain ⟨t, rfl⟩ := (hasPrefix_one p).1 h1
      rw [List.drop_succ_cons, List.drop_zero, List.all_eq_true] at h3
      have := parts_sum t 255 (fun x hx => by
        have := h3 x hx
        simp only [chk, lenFine, Bool.and_eq_true, decide_eq_true_eq] at this
        exact this.1.1.1.2)
      rw [List.count_cons_self] at h2
      refine ⟨?_, by simp⟩
      have h4 : (t.count 47 + 1) * (255 + 1) ≤ 16 * 256 := Nat.mul_le_mul (by omega) (Nat.le_refl _)
      rw [List.length_cons]; omega
    · cases h
theorem tk_append {n : Nat} {a r : List UInt8} (h : a.length = n) : tkT n (a ++ r) = a ∧ tkR n (a ++ r) = r ∧ tkB n (a ++ r) = true := by
  subst h
  refine ⟨?_, ?_, ?_⟩
  · rw [tkT, if_pos (by simp)]; simp
  · rw [tkR, if_pos (by simp)]; simp
  · rw [tkB]; simp
theorem tkF_append {n : Nat} {a r : List UInt8} (h : a.length = n) : tkF n (a ++ r) = a := by
  rw [tkF, (tk_append h).1, h]; simp

theorem ent_enc {e : SE} (hf : e.Fits) (hm : mayN e = 0) (r : List UInt8) : entE (encS e ++ r) = e ∧ entB (encS e ++ r) = true ∧ r7 (encS e ++ r) = r := by
  obtain ⟨h1, h2⟩ := mayN_zero hm
  have hl := (split_len h1).1
  simp only [statBad, Bool.or_eq_false_iff, decide_eq_false_iff_not] at h2
  obtain ⟨path, node, size, ino, tick, kind, id⟩ := e
  have f := hf
  obtain ⟨f1, f2, f3, f4, f5, f6, f7⟩ := hf
  dsimp only at *
  have e0 : encS ⟨path, node, size, ino, tick, kind, id⟩ ++ r = putText path ++ ([UInt8.ofNat node] ++ (sh size.toNat ++ (sh ino ++ (sh tick.toNat ++ ([UInt8.ofNat kind] ++ (id ++ r)))))) := by simp [encS]
  rw [e0]
  have t0 := txt_put (most := 65536) (by omega) (by omega) ([UInt8.ofNat node] ++ (sh size.toNat ++ (sh ino ++ (sh tick.toNat ++ ([UInt8.ofNat kind] ++ (id ++ r))))) ) (t := path)
  have q1 : r1 (putText path ++ ([UInt8.ofNat node] ++ (sh size.toNat ++ (sh ino ++ (sh tick.toNat ++ ([UInt8.ofNat kind] ++ (id ++ r))))))) = [UInt8.ofNat node] ++ (sh size.toNat ++ (sh ino ++ (sh tick.toNat ++ ([UInt8.ofNat kind] ++ (id ++ r))))) := by rw [r1, txR, t0]
  have q2 := congrArg (tkR 1) q1
  rw [(tk_append (n := 1) rfl).2.1] at q2
  have q3 := congrArg shR q2
  rw [shR_sh (by omega)] at q3
  have q4 := congrArg shR q3
  rw [shR_sh (by omega)] at q4
  have q5 := congrArg shR q4
  rw [shR_sh (by omega)] at q5
  have q6 := congrArg (tkR 1) q5
  rw [(tk_append (n := 1) rfl).2.1] at q6
  have q7 := congrArg (tkR 32) q6
  rw [(tk_append f7).2.1] at q7
  have p0 : txT 65536 (putText path ++ ([UInt8.ofNat node] ++ (sh size.toNat ++ (sh ino ++ (sh tick.toNat ++ ([UInt8.ofNat kind] ++ (id ++ r))))))) = path := by rw [txT, t0]
  generalize putText path ++ ([UInt8.ofNat node] ++ (sh size.toNat ++ (sh ino ++ (sh tick.toNat ++ ([UInt8.ofNat kind] ++ (id ++ r)))))) = R at *
  have g2 : r2 R = _ := q2
  have g3 : r3 R = _ := q3
  have g4 : r4 R = _ := q4
  have g5 : r5 R = _ := q5
  have g6 : r6 R = _ := q6
  have hw : ∀ x : Int, 0 ≤ x → x ≤ 1099511627776 → IntKind.i64.wrap ((x.toNat : Nat) : Int) = x := fun x h0 h1 => by rw [IntKind.wrap_i64]; omega
  refine ⟨?_, ?_, q7⟩
  · rw [entE, p0, q1, g2, g3, g4, g5, g6, tkF_append (n := 1) rfl, tkF_append (n := 1) rfl, tkF_append f7, shN_sh (by omega), shN_sh (by omega), shN_sh (by omega), hw size (by omega) (by omega), hw tick (by omega) (by omega)]
    have a1 : ((List.headD [UInt8.ofNat node] 0)).toNat = node := UInt8.toNat_ofNat_of_lt' f2
    have a2 : ((List.headD [UInt8.ofNat kind] 0)).toNat = kind := UInt8.toNat_ofNat_of_lt' f6
    rw [a1, a2]
  · rw [entB, q1, g2, g3, g4, g5, g6, txB, t0, (tk_append (n := 1) rfl).2.2, (tk_append (n := 1) rfl).2.2, (tk_append f7).2.2, numB_sh (by omega) (by omega), numB_sh (by omega) (by omega), numB_sh (by omega) (by omega)]
    rfl

/-! ### an index's own bytes -/
theorem getL_above {p : List UInt8} : ∀ {A : List SE}, (∀ x ∈ A, lt x.path p = true) → getL p A = none
  | [], _ => rfl
  | y :: r, h => by
    rw [getL, if_pos (h y (by simp))]
    exact getL_above (fun x hx => h x (by simp [hx]))
theorem insL_above {e : SE} : ∀ {A : List SE}, (∀ x ∈ A, lt x.path e.path = true) → insL e A = A ++ [e]
  | [], _ => rfl
  | y :: r, h => by
    rw [insL, if_pos (h y (by simp)), insL_above (fun x hx => h x (by simp [hx]))]; rfl
theorem lt_nil {p : List UInt8} (h : p ≠ []) : lt [] p = true := by
  cases p with
  | nil => exact absurd rfl h
  | cons a r => rfl
theorem dec_go : ∀ (B A : List SE) (last : List UInt8) (r : List UInt8), Srt (A ++ B) → (∀ e ∈ B, e.Fits) → (∀ e ∈ B, mayN e = 0) → (A ++ B).length ≤ 65536 → (last = [] ∧ A = [] ∨ ∃ a, a ∈ A ∧ last = a.path) →
    decGo B.length last A (B.flatMap encS ++ r) = some (A ++ B, r)
  | [], A, last, r, _, _, _, _, _ => by simp [decGo]
  | e :: B, A, last, r, hs, hf, hm, hl, hlast => by
    have hem := hm e (by simp)
    obtain ⟨g1, g2, g3⟩ := ent_enc (hf e (by simp)) hem (B.flatMap encS ++ r)
    have hab : ∀ x ∈ A, lt x.path e.path = true := fun x hx => (List.pairwise_append.1 hs).2.2 x hx e (by simp)
    have hlt : lt last e.path = true := by
      rcases hlast with ⟨rfl, _⟩ | ⟨a, ha, rfl⟩
      · exact lt_nil (split_len (mayN_zero hem).1).2
      · exact hab a ha
    have hset : setX e A = (0, A ++ [e]) := by
      rw [setX, if_neg (by rw [hem]; simp), if_neg, insL_above hab]
      rintro ⟨_, h⟩
      rw [List.length_append, List.length_cons] at hl
      omega
    rw [List.flatMap_cons, List.append_assoc, List.length_cons, decGo, g1, g2, g3, hlt, hset]
    rw [if_pos (by rfl)]
    have := dec_go B (A ++ [e]) e.path r (by simpa using hs) (fun x hx => hf x (by simp [hx])) (fun x hx => hm x (by simp [hx])) (by simpa using hl) (.inr ⟨e, by simp, rfl⟩)
    dsimp only
    rw [this]
    simp
/-- An index's bytes are read as that index. -/
theorem dec_enc {L : List SE} (hs : Srt L) (hf : ∀ e ∈ L, e.Fits) (hm : ∀ e ∈ L, mayN e = 0) (hl : L.length ≤ 65536) : decX (encX L) = some L := by
  have e0 : encX L = mst ++ (sh L.length ++ (L.flatMap encS ++ [])) := by rw [encX]; simp
  have e1 : (encX L).take 4 = mst := by rw [e0]; rfl
  have e2 : (encX L).drop 4 = sh L.length ++ (L.flatMap encS ++ []) := by rw [e0]; rfl
  rw [decX, e1, e2, numB_sh (by omega) hl, if_pos ⟨rfl, rfl⟩, shN_sh (by omega), shR_sh (by omega)]
  rw [dec_go L [] [] [] (by simpa using hs) hf hm (by simpa using hl) (.inl ⟨rfl, rfl⟩)]
  rfl
theorem encS_len {e : SE} (hf : e.Fits) (hm : mayN e = 0) : (encS e).length ≤ 5000 := by
  have h := (split_len (mayN_zero hm).1).1
  have a := sh_length e.path.length; have b := sh_length e.size.toNat; have c := sh_length e.ino; have d := sh_length e.tick.toNat
  have i := hf.id
  simp only [encS, putText, List.length_append, List.length_cons, List.length_nil]
  omega
theorem flat_len : ∀ {L : List SE}, (∀ e ∈ L, e.Fits) → (∀ e ∈ L, mayN e = 0) → (L.flatMap encS).length ≤ 5000 * L.length
  | [], _, _ => by simp
  | e :: L, hf, hm => by
    have h1 := encS_len (hf e (by simp)) (hm e (by simp))
    have h2 := flat_len (L := L) (fun x hx => hf x (by simp [hx])) (fun x hx => hm x (by simp [hx]))
    rw [List.flatMap_cons, List.length_append, List.length_cons]; omega
theorem encX_len {L : List SE} (hf : ∀ e ∈ L, e.Fits) (hm : ∀ e ∈ L, mayN e = 0) (hl : L.length ≤ 65536) : (encX L).length ≤ 400000000 := by
  have h := flat_len hf hm
  have a := sh_length L.length
  simp only [encX, mst, List.length_append, List.length_cons, List.length_nil]
  omega
end Go.Proofs.YtpbhkaokgpacoaaGreatDoor.St
