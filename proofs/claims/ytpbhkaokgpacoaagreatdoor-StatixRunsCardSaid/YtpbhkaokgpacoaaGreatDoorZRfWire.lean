import Derived.Test.YtpbhkaokgpacoaaGreatDoorZRowKit
import Derived.Maps.OwnSet
import Derived.Maps.OwnOps
import Derived.StringKeys
/-
  The wire's numbers and texts, as plain lists of bytes. No program stands in this text.
-/
namespace Go.Proofs.YtpbhkaokgpacoaaGreatDoor.Rf

/-- A short number's bytes. -/
def shF : Nat → Nat → List UInt8
  | 0, n => [UInt8.ofNat n]
  | f + 1, n => if n < 128 then [UInt8.ofNat n] else UInt8.ofNat (n % 128 + 128) :: shF f (n / 128)
def sh (n : Nat) : List UInt8 := shF 9 n
theorem shF_small {f n : Nat} (h : n < 128) : shF f n = [UInt8.ofNat n] := by cases f <;> simp [shF, h]
theorem shF_step {f n : Nat} (h : ¬ n < 128) : shF (f + 1) n = UInt8.ofNat (n % 128 + 128) :: shF f (n / 128) := by simp [shF, h]
theorem shF_length : ∀ (f n : Nat), (shF f n).length ≤ f + 1
  | 0, _ => by simp [shF]
  | f + 1, n => by
    rw [shF]; split
    · simp
    · have := shF_length f (n / 128); simp; omega
theorem sh_length (n : Nat) : (sh n).length ≤ 10 := shF_length 9 n
theorem shF_ne (f n : Nat) : shF f n ≠ [] := by cases f <;> simp [shF]; split <;> simp

/-- The short number at the front, and how many bytes it has. -/
def rd : Nat → Nat → List UInt8 → Option (Nat × Nat)
  | _, _, [] => none
  | i, n, b :: r => if 10 ≤ i then none else if (i = 9 ∧ 1 < b.toNat) ∨ (0 < i ∧ b.toNat = 0) then none
    else if b.toNat < 128 then some (n + b.toNat * 128 ^ i, i + 1) else rd (i + 1) (n + (b.toNat - 128) * 128 ^ i) r
def rd0 (s : List UInt8) : Option (Nat × Nat) := rd 0 0 s

theorem rd_shF : ∀ (f i n m : Nat) (r : List UInt8), f + i = 9 → m < 2 ^ (64 - 7 * i) → (0 < i → 0 < m) → rd i n (shF f m ++ r) = some (n + m * 128 ^ i, i + (shF f m).length)
  | 0, i, n, m, r, hi, hm, h0 => by
    obtain rfl : i = 9 := by omega
    have hm2 : m < 2 := by simpa using hm
    have : m = 1 := by have := h0 (by omega); omega
    subst this
    simp [shF, rd]
  | f + 1, i, n, m, r, hi, hm, h0 => by
    by_cases hs : m < 128
    · rw [shF_small hs]
      have hb : (UInt8.ofNat m).toNat = m := by simp; omega
      simp only [List.cons_append, List.nil_append, rd, hb, List.length_cons, List.length_nil]
      rw [if_neg (by omega), if_neg (by omega), if_pos hs]
    · rw [shF_step hs]
      have hb : (UInt8.ofNat (m % 128 + 128)).toNat = m % 128 + 128 := by simp; omega
      simp only [List.cons_append, rd, hb, List.length_cons]
      rw [if_neg (by omega), if_neg (by omega), if_neg (by omega)]
      have hm' : m / 128 < 2 ^ (64 - 7 * (i + 1)) := by
        rw [Nat.div_lt_iff_lt_mul (by decide)]
        have e : 2 ^ (64 - 7 * i) = 2 ^ (64 - 7 * (i + 1)) * 128 := by
          have : 64 - 7 * i = (64 - 7 * (i + 1)) + 7 := by omega
          rw [this, Nat.pow_add]
        omega
      rw [rd_shF f (i + 1) _ _ r (by omega) hm' (fun _ => by omega)]
      refine congrArg some (Prod.ext ?_ ?_)
      · have e1 : m % 128 + 128 - 128 = m % 128 := by omega
        show n + (m % 128 + 128 - 128) * 128 ^ i + m / 128 * 128 ^ (i + 1) = n + m * 128 ^ i
        rw [e1, Nat.pow_succ]
        have e2 := Nat.mod_add_div m 128
        generalize 128 ^ i = P
        generalize m % 128 = x at *
        generalize m / 128 = y at *
        rw [← e2, Nat.add_mul, Nat.add_assoc]
        have e3 : y * (P * 128) = 128 * y * P := by rw [Nat.mul_comm P 128, ← Nat.mul_assoc, Nat.mul_comm y 128]
        rw [e3]
      · show i + 1 + (shF f (m / 128)).length = i + ((shF f (m / 128)).length + 1)
        omega
theorem rd_sh {n : Nat} (h : n < 2 ^ 64) (r : List UInt8) : rd0 (sh n ++ r) = some (n, (sh n).length) := by
  have := rd_shF 9 0 0 n r (by omega) (by simpa using h) (by omega)
  rw [rd0, sh, this]; simp
theorem rd_size : ∀ (s : List UInt8) (i n m k : Nat), rd i n s = some (m, k) → i < k ∧ k ≤ i + s.length ∧ k ≤ 10
  | [], _, _, _, _, h => by simp [rd] at h
  | b :: r, i, n, m, k, h => by
    simp only [rd] at h
    split at h
    · cases h
    split at h
    · cases h
    split at h
    · obtain ⟨rfl, rfl⟩ := Prod.mk.inj (Option.some.inj h)
      simp; omega
    · have := rd_size r _ _ _ _ h
      simp; omega

/-- Four bytes. -/
def be4 (n : Nat) : List UInt8 := [UInt8.ofNat (n / 16777216), UInt8.ofNat (n / 65536), UInt8.ofNat (n / 256), UInt8.ofNat n]
def un4 (s : List UInt8) : Nat := s.foldl (fun n b => n * 256 + b.toNat) 0
theorem un4_be4 {n : Nat} (h : n < 4294967296) : un4 (be4 n) = n := by
  simp [un4, be4]; omega

/-- A text behind its length. -/
def putText (t : List UInt8) : List UInt8 := sh t.length ++ t
end Go.Proofs.YtpbhkaokgpacoaaGreatDoor.Rf
/-
  Maps from texts to anything, as plain lists rising by key; how such a map lies in memory. 
-/
namespace Go.Proofs.YtpbhkaokgpacoaaGreatDoor.Rf
open Go.RowKit Go.Maps Go.WideMaps

theorem law : Keyed Tryz.prog 9 := string_keyed Tryz.underlying9

/-- A map's element as it stands. -/
def Rv (v : Value) : Option (DataW Value × List MemPlace) := some (.held v, [])
def lt (a b : List UInt8) : Bool := (Lit.string a).before (.string b)

section
variable {α : Type}
abbrev MV (α : Type) := List (List UInt8 × α)
def insM (k : List UInt8) (n : α) : MV α → MV α
  | [] => [(k, n)]
  | y :: r => if lt k y.1 then (k, n) :: y :: r else y :: insM k n r
def delM (m : MV α) (k : List UInt8) : MV α := m.filter fun p => !(p.1 == k)
def putM (m : MV α) (k : List UInt8) (n : α) : MV α := insM k n (delM m k)
def getM (m : MV α) (k : List UInt8) : Option α := (m.find? fun p => p.1 == k).map (·.2)
variable (enc : α → Value)
def toD (m : MV α) : DataW Value := .map (m.map fun p => (.string p.1, .held (enc p.2)))

theorem sameKey_string (a b : List UInt8) : (Lit.string a).sameKey (.string b) = (a == b) := by
  simp [Lit.sameKey]
theorem toD_ins (k : List UInt8) (n : α) : ∀ m : MV α, DataW.insert ((.string k, .held (enc n)) : Lit × DataW Value) (m.map fun p => (Lit.string p.1, DataW.held (enc p.2))) = (insM k n m).map fun p => (Lit.string p.1, DataW.held (enc p.2))
  | [] => rfl
  | y :: r => by
    rw [List.map_cons, DataW.insert, insM]
    by_cases h : lt k y.1 = true
    · rw [if_pos h, if_pos (by exact h)]; rfl
    · rw [if_neg h, if_neg (by exact h), toD_ins k n r]; rfl
theorem toD_filter (k : List UInt8) (m : MV α) : ((m.map fun p => ((Lit.string p.1, DataW.held (enc p.2)) : Lit × DataW Value)).filter fun p => !p.1.sameKey (.string k)) = (delM m k).map fun p => (Lit.string p.1, DataW.held (enc p.2)) := by
  rw [delM, List.filter_map]
  congr 1
theorem toD_del (m : MV α) (k : List UInt8) : (toD enc m).del (.string k) = toD enc (delM m k) := by
  rw [toD, DataW.del, toD_filter]; rfl
theorem toD_put (m : MV α) (k : List UInt8) (n : α) : (toD enc m).put (.string k) (.held (enc n)) = toD enc (putM m k n) := by
  rw [toD, DataW.put, toD_filter, toD_ins]; rfl
theorem toD_find (m : MV α) (k : List UInt8) : (m.map fun p => ((Lit.string p.1, DataW.held (enc p.2)) : Lit × DataW Value)).find? (fun p => p.1.sameKey (.string k)) = (m.find? fun p => p.1 == k).map fun p => (Lit.string p.1, DataW.held (enc p.2)) := by
  rw [List.find?_map]
  congr 1
theorem toD_at (m : MV α) (k : List UInt8) (z : Value) : (toD enc m).atKey (.string k) (.held z) = .held (((getM m k).map enc).getD z) := by
  rw [toD, DataW.atKey, toD_find, getM]
  cases m.find? fun p => p.1 == k <;> rfl
theorem toD_has (m : MV α) (k : List UInt8) : Maps.has (toD enc m) (.string k) = (getM m k).isSome := by
  rw [toD, Maps.has_eq, getM, Option.isSome_map, List.any_map]
  induction m with
  | nil => rfl
  | cons y r ih =>
    rw [List.any_cons, List.find?_cons, ih]
    simp only [Function.comp, sameKey_string]
    cases h : y.1 == k <;> simp
theorem toD_size (m : MV α) : Maps.size (toD enc m) = m.length := by rw [toD, Maps.size_eq, List.length_map]
theorem toD_nil : toD enc ([] : MV α) = .map [] := rfl

theorem getM_mem {m : MV α} {k : List UInt8} {n : α} (h : getM m k = some n) : (k, n) ∈ m := by
  rw [getM] at h
  obtain ⟨p, hp, rfl⟩ := Option.map_eq_some_iff.1 h
  have h1 := List.mem_of_find?_eq_some hp
  have h2 := List.find?_some hp
  have : p.1 = k := by simpa using h2
  subst this; exact h1
theorem mem_ins {k : List UInt8} {n : α} {p : List UInt8 × α} : ∀ {m : MV α}, p ∈ insM k n m ↔ p = (k, n) ∨ p ∈ m
  | [] => by simp [insM]
  | y :: r => by
    rw [insM]; split
    · simp
    · rw [List.mem_cons, mem_ins (m := r), List.mem_cons]
      constructor
      · rintro (h | h | h)
        · exact .inr (.inl h)
        · exact .inl h
        · exact .inr (.inr h)
      · rintro (h | h | h)
        · exact .inr (.inl h)
        · exact .inl h
        · exact .inr (.inr h)
theorem mem_del {k : List UInt8} {p : List UInt8 × α} {m : MV α} : p ∈ delM m k ↔ p ∈ m ∧ p.1 ≠ k := by
  rw [delM, List.mem_filter]; simp
theorem ins_perm (k : List UInt8) (n : α) : ∀ m : MV α, (insM k n m).Perm ((k, n) :: m)
  | [] => .refl _
  | y :: r => by
    rw [insM]; split
    · exact .refl _
    · exact ((ins_perm k n r).cons y).trans (.swap _ _ _)
theorem put_perm (k : List UInt8) (n : α) (m : MV α) : (putM m k n).Perm ((k, n) :: delM m k) := ins_perm k n _
theorem find_ins_hit {k : List UInt8} {n : α} : ∀ {m : MV α}, (∀ p ∈ m, p.1 ≠ k) → (insM k n m).find? (fun p => p.1 == k) = some (k, n)
  | [], _ => by simp [insM]
  | y :: r, h => by
    rw [insM]; split
    · simp
    · rw [List.find?_cons_of_neg (by simpa using h y (by simp)), find_ins_hit (fun p hp => h p (by simp [hp]))]
theorem find_ins_miss {k j : List UInt8} {n : α} (hne : k ≠ j) : ∀ {m : MV α}, (insM k n m).find? (fun p => p.1 == j) = m.find? (fun p => p.1 == j)
  | [] => by simp [insM, hne]
  | y :: r => by
    rw [insM]; split
    · rw [List.find?_cons_of_neg (by simpa using hne)]
    · rw [List.find?_cons, List.find?_cons, find_ins_miss hne]
theorem get_put_same (m : MV α) (k : List UInt8) (n : α) : getM (putM m k n) k = some n := by
  rw [getM, putM, find_ins_hit (fun p hp => (mem_del.1 hp).2)]; rfl
theorem find_del_other {k j : List UInt8} (hne : k ≠ j) (m : MV α) : (delM m k).find? (fun p => p.1 == j) = m.find? (fun p => p.1 == j) := by
  rw [delM, List.find?_filter]
  congr 1; funext p
  by_cases h : p.1 = j
  · subst h; simp [Ne.symm hne]
  · simp [h]
theorem get_put_other (m : MV α) {k j : List UInt8} (n : α) (hne : k ≠ j) : getM (putM m k n) j = getM m j := by
  rw [getM, putM, find_ins_miss hne, find_del_other hne]; rfl
theorem get_del_same (m : MV α) (k : List UInt8) : getM (delM m k) k = none := by
  rw [getM, Option.map_eq_none_iff, List.find?_eq_none]
  intro p hp
  simpa using (mem_del.1 hp).2
theorem get_del_other (m : MV α) {k j : List UInt8} (hne : k ≠ j) : getM (delM m k) j = getM m j := by
  rw [getM, find_del_other hne]; rfl
theorem get_none_iff {m : MV α} {k : List UInt8} : getM m k = none ↔ ∀ p ∈ m, p.1 ≠ k := by
  rw [getM, Option.map_eq_none_iff, List.find?_eq_none]; simp

/-! ### the same keys, other elements -/
variable {β : Type} (g : α → β)
def mapM' (m : MV α) : MV β := m.map fun p => (p.1, g p.2)
theorem map_ins (k : List UInt8) (n : α) : ∀ m : MV α, mapM' g (insM k n m) = insM k (g n) (mapM' g m)
  | [] => rfl
  | y :: r => by
    show (insM k n (y :: r)).map _ = insM k (g n) ((y.1, g y.2) :: mapM' g r)
    rw [insM, insM]
    by_cases h : lt k y.1 = true
    · rw [if_pos h, if_pos (by exact h)]; rfl
    · rw [if_neg h, if_neg (by exact h), List.map_cons, ← map_ins k n r]; rfl
theorem map_del (k : List UInt8) (m : MV α) : mapM' g (delM m k) = delM (mapM' g m) k := by
  rw [mapM', delM, delM, mapM', List.filter_map]; rfl
theorem map_put (k : List UInt8) (n : α) (m : MV α) : mapM' g (putM m k n) = putM (mapM' g m) k (g n) := by
  rw [putM, map_ins, map_del, putM]
theorem map_get (k : List UInt8) (m : MV α) : getM (mapM' g m) k = (getM m k).map g := by
  rw [getM, mapM', List.find?_map, getM, Option.map_map, Option.map_map]; rfl
theorem map_length (m : MV α) : (mapM' g m).length = m.length := List.length_map _
end

/-! ### in memory -/
theorem keyK (S : ByteArray) (hS : S.size ≤ maxLen) : keyOf Tryz.prog 9 (.string S) = some (.string S.data.toList) := keyOf_string_mk Tryz.underlying9 hS

section
variable {α : Type} {enc : α → Value}
set_option maxRecDepth 100000 in
/-- A look-up that says whether the key is there. -/
theorem look_run {T e : TypeId} {z : Value} (hT : Tryz.prog.underlying T = some (.map 9 e)) (hz : ∀ w, (zeroValue e).run Tryz.prog w = .ok z w) {w : World} {b n : Nat} {m : MV α} (h : w.ownsMap Tryz.prog 9 Rv b n (toD enc m)) (S : ByteArray) (hS : S.size ≤ maxLen) :
    (Instr.lookup T (.map (some b)) (.string S) true).run Tryz.prog w = .ok (.tuple #[((getM m S.data.toList).map enc).getD z, .bool (getM m S.data.toList).isSome]) w := by
  obtain ⟨v, ps, hr, hv⟩ := h.look_ok law hT (hz w) (zd := .held z) (zp := []) rfl (keyK S hS)
  rw [toD_at] at hv
  have e := congrArg Prod.fst (Option.some.inj hv)
  dsimp only at e
  injection e with e
  rw [hr, toD_has, e]
set_option maxRecDepth 100000 in
/-- A look-up that does not say it. -/
theorem look_run1 {T e : TypeId} {z : Value} (hT : Tryz.prog.underlying T = some (.map 9 e)) (hz : ∀ w, (zeroValue e).run Tryz.prog w = .ok z w) {w : World} {b n : Nat} {m : MV α} (h : w.ownsMap Tryz.prog 9 Rv b n (toD enc m)) (S : ByteArray) (hS : S.size ≤ maxLen) :
    (Instr.lookup T (.map (some b)) (.string S) false).run Tryz.prog w = .ok (((getM m S.data.toList).map enc).getD z) w := by
  obtain ⟨v, hr, ps, hv⟩ : ∃ v, (Instr.lookup T (.map (some b)) (.string S) false).run Tryz.prog w = .ok v w ∧ ∃ ps, Rv v = some ((toD enc m).atKey (.string S.data.toList) (.held z), ps) := by
    obtain ⟨es, clock, hb, F, _, hD⟩ := h
    rw [hD]
    rcases Maps.fit_look false law hT (hz w) hb F (keyK S hS) with ⟨hrun, _, hat⟩ | ⟨e0, y, _, _, hrun, hRv, hat, _⟩
    · exact ⟨_, hrun, [], by rw [hat]; rfl⟩
    · exact ⟨_, hrun, y.2, by rw [hat]; exact hRv⟩
  rw [toD_at] at hv
  have e := congrArg Prod.fst (Option.some.inj hv)
  dsimp only at e
  injection e with e
  rw [hr, e]
end
end Go.Proofs.YtpbhkaokgpacoaaGreatDoor.Rf
