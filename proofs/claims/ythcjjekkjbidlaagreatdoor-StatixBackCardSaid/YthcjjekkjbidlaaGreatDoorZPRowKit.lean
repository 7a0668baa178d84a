import Derived.Test.YthcjjekkjbidlaaGreatDoorProg
import Derived.Below
import Derived.ChangeSame
import Derived.WalkKit
import Derived.ProofKit
import Derived.OpenShut
import Derived.SizedLaws
import Derived.Lib.Strings
import Derived.Maps.OwnSet
import Derived.Maps.OwnOps
import Derived.StringKeys
import Derived.Lib.RuneCountTail
import Derived.Lib.DecodeN
import Derived.Lib.TrimByte
import Derived.Laws.Cover4
import Derived.Lib.Split
import Derived.Lib.SplitLaws
import Derived.WideAt
import Derived.WideShapes
import Derived.Lib.BufSteps
import Derived.Lib.Hide
import Derived.Laws.AppendOwn
import Derived.Maps.AppendAt
import Derived.OwnWalk
import Derived.BigRegion
import Derived.BigQuiet
import Derived.BigCall
import Derived.BigGuard
import Derived.Deep.QuietTactic
import Derived.Laws.Tables
import Derived.Laws.ResultCell
import Derived.Deep.MidRow
import Derived.Deep.RegionHeld3
import Derived.Great.BuildSlice
set_option linter.unusedSimpArgs false
set_option linter.unusedVariables false
/-
  The last step of a row where 'Below' alone is known of the world behind the call.
-/
namespace Go.Proofs.YthcjjekkjbidlaaGreatDoor.Rk
open Go.RowKit Go.WideShapes Go.ChangeShapes
section
variable {H : Type} {enc : TypeId × Value → H} {P : Program}
theorem post_of_below {f : Func} {s : ChangeSpec} {apart fresh handsOn again : Bool} {W W' : World} {args : Array Value} {v : Value} {ds gs : List (DataW H)} {before pa pv : List MemPlace}
    (hW : DataW.Whole enc P f.params.toList s.vars apart W args.toList ds gs before)
    (hres : ∀ (b : Nat) (sp : Nat → Bool) (hd : Bool), DataW.TrodAll enc P W' b sp hd f.resultTypes.toList (v.resultList f.resultTypes.size) (s.fn H (ds ++ gs)).results [])
    (hargs : ∀ sp : Nat → Bool, (∀ p ∈ before, sp p.block = true) → DataW.TrodAll enc P W' 0 sp true f.params.toList args.toList (s.fn H (ds ++ gs)).args pa)
    (hvars : ∀ sp : Nat → Bool, (∀ p ∈ before, sp p.block = true) → DataW.TrodVars enc P W' sp s.vars (s.fn H (ds ++ gs)).vars pv)
    (hps : before = pa ++ pv) (hb : Below W.heap.size W W')
    (hok : ∀ (j : Nat) (t : TypeId) (r : Value), f.resultTypes[j]? = some t → (v.resultList f.resultTypes.size)[j]? = some r → Value.okWide P W' .any 0 t r) :
    s.post enc P f apart fresh handsOn again W args v W' := by
  have hlt : ∀ p ∈ before, p.block < W.heap.size := fun p hp => hW.lt p hp
  have hold : ∀ p ∈ before, (fun b => decide (b < W.heap.size)) p.block = true := fun p hp => by simpa using hlt p hp
  refine ⟨ds, gs, before, [], pa, pv, hW, hres _ _ _, hargs _ hold, hvars _ hold, World.keptBut_mono (fun p hp => ⟨hp, ?_⟩) (hb.frame (· ∈ before)), fun _ => ?_⟩
  · rw [hps, List.mem_append] at hp
    exact Or.inr hp
  · obtain ⟨_, _, _, _, _, hz, hn⟩ := hW
    refine ⟨hok, _, _, ([] ++ pa) ++ pv, ⟨[] ++ pa, pv, trodAll_append (hargs _ (fun _ _ => rfl)) (hres _ _ _), hvars _ (fun _ _ => rfl), rfl, ?_, ?_⟩, ?_⟩
    · intro b off hp
      have hin : MemPlace.cell b off ∈ before := by rw [hps]; simpa using hp
      rw [hb.frozen (hlt _ hin)]
      exact hz b off hin
    · intro ha
      have := hn ha
      rw [hps] at this
      simpa using this
    · intro p hp _
      rw [hps]
      simpa using hp
end

end Go.Proofs.YthcjjekkjbidlaaGreatDoor.Rk
/-
  The wire's numbers and texts, as plain lists of bytes. No program stands in this text.
-/
namespace Go.Proofs.YthcjjekkjbidlaaGreatDoor.Rf

/-- A short number's bytes. -/
def shF : Nat → Nat → List UInt8
  | 0, n => [UInt8.ofNat n]
  | f + 1, n => if n < 128 then [UInt8.ofNat n] else UInt8.ofNat (n % 128 + 128) :: shF f (n / 128)
def sh (n : Nat) : List UInt8 := shF 9 n
theorem shF_small {f n : Nat} (h : n < 128) : shF f n = [UInt8.ofNat n] := by cases f <;> simp [shF, h]
theorem shF_step {f n : Nat} (h : ¬ n < 128) : shF (f + 1) n = UInt8.ofNat (n % 128 + 128) :: shF f (n / 128) := by simp [shF, h]
theorem shF_length : ∀ (f n : Nat), (shF f n).length ≤ f + 1
  | 0, _ => by simp [shF]
  | f + 1, n => by
    rw [shF]; split
    · simp
    · have := shF_length f (n / 128); simp; omega
theorem sh_length (n : Nat) : (sh n).length ≤ 10 := shF_length 9 n
/-- The short number at the front, and how many bytes it has. -/
def rd : Nat → Nat → List UInt8 → Option (Nat × Nat)
  | _, _, [] => none
  | i, n, b :: r => if 10 ≤ i then none else if (i = 9 ∧ 1 < b.toNat) ∨ (0 < i ∧ b.toNat = 0) then none
    else if b.toNat < 128 then some (n + b.toNat * 128 ^ i, i + 1) else rd (i + 1) (n + (b.toNat - 128) * 128 ^ i) r
def rd0 (s : List UInt8) : Option (Nat × Nat) := rd 0 0 s

theorem rd_shF : ∀ (f i n m : Nat) (r : List UInt8), f + i = 9 → m < 2 ^ (64 - 7 * i) → (0 < i → 0 < m) → rd i n (shF f m ++ r) = some (n + m * 128 ^ i, i + (shF f m).length)
  | 0, i, n, m, r, hi, hm, h0 => by
    obtain rfl : i = 9 := by omega
    have hm2 : m < 2 := by simpa using hm
    have : m = 1 := by have := h0 (by omega); omega
    subst this
    simp [shF, rd]
  | f + 1, i, n, m, r, hi, hm, h0 => by
    by_cases hs : m < 128
    · rw [shF_small hs]
      have hb : (UInt8.ofNat m).toNat = m := by simp; omega
      simp only [List.cons_append, List.nil_append, rd, hb, List.length_cons, List.length_nil]
      rw [if_neg (by omega), if_neg (by omega), if_pos hs]
    · rw [shF_step hs]
      have hb : (UInt8.ofNat (m % 128 + 128)).toNat = m % 128 + 128 := by simp; omega
      simp only [List.cons_append, rd, hb, List.length_cons]
      rw [if_neg (by omega), if_neg (by omega), if_neg (by omega)]
      have hm' : m / 128 < 2 ^ (64 - 7 * (i + 1)) := by
        rw [Nat.div_lt_iff_lt_mul (by decide)]
        have e : 2 ^ (64 - 7 * i) = 2 ^ (64 - 7 * (i + 1)) * 128 := by
          have : 64 - 7 * i = (64 - 7 * (i + 1)) + 7 := by omega
          rw [this, Nat.pow_add]
        omega
      rw [rd_shF f (i + 1) _ _ r (by omega) hm' (fun _ => by omega)]
      refine congrArg some (Prod.ext ?_ ?_)
      · have e1 : m % 128 + 128 - 128 = m % 128 := by omega
        show n + (m % 128 + 128 - 128) * 128 ^ i + m / 128 * 128 ^ (i + 1) = n + m * 128 ^ i
        rw [e1, Nat.pow_succ]
        have e2 := Nat.mod_add_div m 128
        generalize 128 ^ i = P
        generalize m % 128 = x at *
        generalize m / 128 = y at *
        rw [← e2, Nat.add_mul, Nat.add_assoc]
        have e3 : y * (P * 128) = 128 * y * P := by rw [Nat.mul_comm P 128, ← Nat.mul_assoc, Nat.mul_comm y 128]
        rw [e3]
      · show i + 1 + (shF f (m / 128)).length = i + ((shF f (m / 128)).length + 1)
        omega
theorem rd_sh {n : Nat} (h : n < 2 ^ 64) (r : List UInt8) : rd0 (sh n ++ r) = some (n, (sh n).length) := by
  have := rd_shF 9 0 0 n r (by omega) (by simpa using h) (by omega)
  rw [rd0, sh, this]; simp
theorem rd_size : ∀ (s : List UInt8) (i n m k : Nat), rd i n s = some (m, k) → i < k ∧ k ≤ i + s.length ∧ k ≤ 10
  | [], _, _, _, _, h => by simp [rd] at h
  | b :: r, i, n, m, k, h => by
    simp only [rd] at h
    split at h
    · cases h
    split at h
    · cases h
    split at h
    · obtain ⟨rfl, rfl⟩ := Prod.mk.inj (Option.some.inj h)
      simp; omega
    · have := rd_size r _ _ _ _ h
      simp; omega

/-- A text behind its length. -/
def putText (t : List UInt8) : List UInt8 := sh t.length ++ t
end Go.Proofs.YthcjjekkjbidlaaGreatDoor.Rf
/-
  Maps from texts to anything, as plain lists rising by key; how such a map lies in memory. 
-/
namespace Go.Proofs.YthcjjekkjbidlaaGreatDoor.Rf
open Go.RowKit Go.Maps Go.WideMaps

theorem law : Keyed Tryz.prog 9 := string_keyed Tryz.underlying9

/-- A map's element as it stands. -/
def Rv (v : Value) : Option (DataW Value × List MemPlace) := some (.held v, [])
def lt (a b : List UInt8) : Bool := (Lit.string a).before (.string b)

section
variable {α : Type}
abbrev MV (α : Type) := List (List UInt8 × α)
def insM (k : List UInt8) (n : α) : MV α → MV α
  | [] => [(k, n)]
  | y :: r => if lt k y.1 then (k, n) :: y :: r else y :: insM k n r
def delM (m : MV α) (k : List UInt8) : MV α := m.filter fun p => !(p.1 == k)
def putM (m : MV α) (k : List UInt8) (n : α) : MV α := insM k n (delM m k)
def getM (m : MV α) (k : List UInt8) : Option α := (m.find? fun p => p.1 == k).map (·.2)
variable (enc : α → Value)
def toD (m : MV α) : DataW Value := .map (m.map fun p => (.string p.1, .held (enc p.2)))

theorem sameKey_string (a b : List UInt8) : (Lit.string a).sameKey (.string b) = (a == b) := by
  simp [Lit.sameKey]
theorem toD_ins (k : List UInt8) (n : α) : ∀ m : MV α, DataW.insert ((.string k, .held (enc n)) : Lit × DataW Value) (m.map fun p => (Lit.string p.1, DataW.held (enc p.2))) = (insM k n m).map fun p => (Lit.string p.1, DataW.held (enc p.2))
  | [] => rfl
  | y :: r => by
    rw [List.map_cons, DataW.insert, insM]
    by_cases h : lt k y.1 = true
    · rw [if_pos h, if_pos (by exact h)]; rfl
    · rw [if_neg h, if_neg (by exact h), toD_ins k n r]; rfl
theorem toD_filter (k : List UInt8) (m : MV α) : ((m.map fun p => ((Lit.string p.1, DataW.held (enc p.2)) : Lit × DataW Value)).filter fun p => !p.1.sameKey (.string k)) = (delM m k).map fun p => (Lit.string p.1, DataW.held (enc p.2)) := by
  rw [delM, List.filter_map]
  congr 1
theorem toD_del (m : MV α) (k : List UInt8) : (toD enc m).del (.string k) = toD enc (delM m k) := by
  rw [toD, DataW.del, toD_filter]; rfl
theorem toD_put (m : MV α) (k : List UInt8) (n : α) : (toD enc m).put (.string k) (.held (enc n)) = toD enc (putM m k n) := by
  rw [toD, DataW.put, toD_filter, toD_ins]; rfl
theorem toD_find (m : MV α) (k : List UInt8) : (m.map fun p => ((Lit.string p.1, DataW.held (enc p.2)) : Lit × DataW Value)).find? (fun p => p.1.sameKey (.string k)) = (m.find? fun p => p.1 == k).map fun p => (Lit.string p.1, DataW.held (enc p.2)) := by
  rw [List.find?_map]
  congr 1
theorem toD_at (m : MV α) (k : List UInt8) (z : Value) : (toD enc m).atKey (.string k) (.held z) = .held (((getM m k).map enc).getD z) := by
  rw [toD, DataW.atKey, toD_find, getM]
  cases m.find? fun p => p.1 == k <;> rfl
theorem toD_has (m : MV α) (k : List UInt8) : Maps.has (toD enc m) (.string k) = (getM m k).isSome := by
  rw [toD, Maps.has_eq, getM, Option.isSome_map, List.any_map]
  induction m with
  | nil => rfl
  | cons y r ih =>
    rw [List.any_cons, List.find?_cons, ih]
    simp only [Function.comp, sameKey_string]
    cases h : y.1 == k <;> simp
theorem toD_size (m : MV α) : Maps.size (toD enc m) = m.length := by rw [toD, Maps.size_eq, List.length_map]
theorem getM_mem {m : MV α} {k : List UInt8} {n : α} (h : getM m k = some n) : (k, n) ∈ m := by
  rw [getM] at h
  obtain ⟨p, hp, rfl⟩ := Option.map_eq_some_iff.1 h
  have h1 := List.mem_of_find?_eq_some hp
  have h2 := List.find?_some hp
  have : p.1 = k := by simpa using h2
  subst this; exact h1
theorem mem_del {k : List UInt8} {p : List UInt8 × α} {m : MV α} : p ∈ delM m k ↔ p ∈ m ∧ p.1 ≠ k := by
  rw [delM, List.mem_filter]; simp
theorem ins_perm (k : List UInt8) (n : α) : ∀ m : MV α, (insM k n m).Perm ((k, n) :: m)
  | [] => .refl _
  | y :: r => by
    rw [insM]; split
    · exact .refl _
    · exact ((ins_perm k n r).cons y).trans (.swap _ _ _)
theorem put_perm (k : List UInt8) (n : α) (m : MV α) : (putM m k n).Perm ((k, n) :: delM m k) := ins_perm k n _
theorem find_ins_hit {k : List UInt8} {n : α} : ∀ {m : MV α}, (∀ p ∈ m, p.1 ≠ k) → (insM k n m).find? (fun p => p.1 == k) = some (k, n)
  | [], _ => by simp [insM]
  | y :: r, h => by
    rw [insM]; split
    · simp
    · rw [List.find?_cons_of_neg (by simpa using h y (by simp)), find_ins_hit (fun p hp => h p (by simp [hp]))]
theorem find_ins_miss {k j : List UInt8} {n : α} (hne : k ≠ j) : ∀ {m : MV α}, (insM k n m).find? (fun p => p.1 == j) = m.find? (fun p => p.1 == j)
  | [] => by simp [insM, hne]
  | y :: r => by
    rw [insM]; split
    · rw [List.find?_cons_of_neg (by simpa using hne)]
    · rw [List.find?_cons, List.find?_cons, find_ins_miss hne]
theorem get_put_same (m : MV α) (k : List UInt8) (n : α) : getM (putM m k n) k = some n := by
  rw [getM, putM, find_ins_hit (fun p hp => (mem_del.1 hp).2)]; rfl
theorem find_del_other {k j : List UInt8} (hne : k ≠ j) (m : MV α) : (delM m k).find? (fun p => p.1 == j) = m.find? (fun p => p.1 == j) := by
  rw [delM, List.find?_filter]
  congr 1; funext p
  by_cases h : p.1 = j
  · subst h; simp [Ne.symm hne]
  · simp [h]
theorem get_put_other (m : MV α) {k j : List UInt8} (n : α) (hne : k ≠ j) : getM (putM m k n) j = getM m j := by
  rw [getM, putM, find_ins_miss hne, find_del_other hne]; rfl
theorem get_none_iff {m : MV α} {k : List UInt8} : getM m k = none ↔ ∀ p ∈ m, p.1 ≠ k := by
  rw [getM, Option.map_eq_none_iff, List.find?_eq_none]; simp

/-! ### the same keys, other elements -/
variable {β : Type} (g : α → β)
def mapM' (m : MV α) : MV β := m.map fun p => (p.1, g p.2)
theorem map_ins (k : List UInt8) (n : α) : ∀ m : MV α, mapM' g (insM k n m) = insM k (g n) (mapM' g m)
  | [] => rfl
  | y :: r => by
    show (insM k n (y :: r)).map _ = insM k (g n) ((y.1, g y.2) :: mapM' g r)
    rw [insM, insM]
    by_cases h : lt k y.1 = true
    · rw [if_pos h, if_pos (by exact h)]; rfl
    · rw [if_neg h, if_neg (by exact h), List.map_cons, ← map_ins k n r]; rfl
theorem map_del (k : List UInt8) (m : MV α) : mapM' g (delM m k) = delM (mapM' g m) k := by
  rw [mapM', delM, delM, mapM', List.filter_map]; rfl
theorem map_put (k : List UInt8) (n : α) (m : MV α) : mapM' g (putM m k n) = putM (mapM' g m) k (g n) := by
  rw [putM, map_ins, map_del, putM]
theorem map_get (k : List UInt8) (m : MV α) : getM (mapM' g m) k = (getM m k).map g := by
  rw [getM, mapM', List.find?_map, getM, Option.map_map, Option.map_map]; rfl
theorem map_length (m : MV α) : (mapM' g m).length = m.length := List.length_map _
end

/-! ### in memory -/
theorem keyK (S : ByteArray) (hS : S.size ≤ maxLen) : keyOf Tryz.prog 9 (.string S) = some (.string S.data.toList) := keyOf_string_mk Tryz.underlying9 hS

section
variable {α : Type} {enc : α → Value}
set_option maxRecDepth 100000 in
/-- A look-up that says whether the key is there. -/
theorem look_run {T e : TypeId} {z : Value} (hT : Tryz.prog.underlying T = some (.map 9 e)) (hz : ∀ w, (zeroValue e).run Tryz.prog w = .ok z w) {w : World} {b n : Nat} {m : MV α} (h : w.ownsMap Tryz.prog 9 Rv b n (toD enc m)) (S : ByteArray) (hS : S.size ≤ maxLen) :
    (Instr.lookup T (.map (some b)) (.string S) true).run Tryz.prog w = .ok (.tuple #[((getM m S.data.toList).map enc).getD z, .bool (getM m S.data.toList).isSome]) w := by
  obtain ⟨v, ps, hr, hv⟩ := h.look_ok law hT (hz w) (zd := .held z) (zp := []) rfl (keyK S hS)
  rw [toD_at] at hv
  have e := congrArg Prod.fst (Option.some.inj hv)
  dsimp only at e
  injection e with e
  rw [hr, toD_has, e]
set_option maxRecDepth 100000 in
/-- A look-up that does not say it. -/
theorem look_run1 {T e : TypeId} {z : Value} (hT : Tryz.prog.underlying T = some (.map 9 e)) (hz : ∀ w, (zeroValue e).run Tryz.prog w = .ok z w) {w : World} {b n : Nat} {m : MV α} (h : w.ownsMap Tryz.prog 9 Rv b n (toD enc m)) (S : ByteArray) (hS : S.size ≤ maxLen) :
    (Instr.lookup T (.map (some b)) (.string S) false).run Tryz.prog w = .ok (((getM m S.data.toList).map enc).getD z) w := by
  obtain ⟨v, hr, ps, hv⟩ : ∃ v, (Instr.lookup T (.map (some b)) (.string S) false).run Tryz.prog w = .ok v w ∧ ∃ ps, Rv v = some ((toD enc m).atKey (.string S.data.toList) (.held z), ps) := by
    obtain ⟨es, clock, hb, F, _, hD⟩ := h
    rw [hD]
    rcases Maps.fit_look false law hT (hz w) hb F (keyK S hS) with ⟨hrun, _, hat⟩ | ⟨e0, y, _, _, hrun, hRv, hat, _⟩
    · exact ⟨_, hrun, [], by rw [hat]; rfl⟩
    · exact ⟨_, hrun, y.2, by rw [hat]; exact hRv⟩
  rw [toD_at] at hv
  have e := congrArg Prod.fst (Option.some.inj hv)
  dsimp only at e
  injection e with e
  rw [hr, e]
end
end Go.Proofs.YthcjjekkjbidlaaGreatDoor.Rf
/-
  Plain facts on texts as runes: what a walk over a text's runes meets, and which names may be. No program stands in this text.
-/
namespace Go.Proofs.YthcjjekkjbidlaaGreatDoor.Nm

def byteN (l : List UInt8) (i : Nat) : Nat := (l.getD i 0).toNat
/-- The rune at a text's beginning, and how many bytes it has. -/
def dec (l : List UInt8) : Nat × Nat := Lib.decodeN l.length (byteN l 0) (byteN l 1) (byteN l 2) (byteN l 3)

theorem getB (s : ByteArray) (i : Nat) : s.get! i = s.data.toList.getD i 0 := (Lib.getD_get!' s i).symm

theorem decode_drop (s : ByteArray) (i : Nat) : Utf8.decode s i = dec (s.data.toList.drop i) := by
  rw [Lib.decode_at, dec, List.length_drop, ← Lib.size_eq]
  have h : ∀ k, (s.get! (i + k)).toNat = byteN (s.data.toList.drop i) k := fun k => by
    rw [getB]; simp [byteN, List.getD, List.getElem?_drop]
  rw [← h 0, ← h 1, ← h 2, ← h 3]
  rfl

theorem byteN_lt (l : List UInt8) (i : Nat) : byteN l i < 256 := (l.getD i 0).toNat_lt

set_option maxHeartbeats 1000000 in
/-- The width is at least 1 and at most what there is. -/
theorem dec_width (l : List UInt8) (h : l ≠ []) : 1 ≤ (dec l).2 ∧ (dec l).2 ≤ l.length ∧ (dec l).2 ≤ 4 := by
  have hl : 1 ≤ l.length := by cases l with | nil => exact absurd rfl h | cons a t => simp
  unfold dec Lib.decodeN
  repeat' split
  all_goals (dsimp only; omega)

set_option maxHeartbeats 1000000 in
theorem dec_bound (l : List UInt8) : (dec l).1 ≤ 1114111 := by
  have h0 := byteN_lt l 0; have h1 := byteN_lt l 1; have h2 := byteN_lt l 2; have h3 := byteN_lt l 3
  unfold dec Lib.decodeN
  repeat' split
  all_goals (dsimp only; omega)

set_option maxHeartbeats 1000000 in
/-- U+FFFD comes of its own three bytes, or of one byte that begins no rune. -/
theorem dec_error (l : List UInt8) (h : (dec l).1 = 65533) : (dec l).2 = 1 ∨ ((dec l).2 = 3 ∧ 2 < l.length ∧ byteN l 0 = 239 ∧ byteN l 1 = 191 ∧ byteN l 2 = 189) := by
  have h0 := byteN_lt l 0; have h1 := byteN_lt l 1; have h2 := byteN_lt l 2; have h3 := byteN_lt l 3
  revert h
  unfold dec Lib.decodeN
  repeat' split
  all_goals (dsimp only; intro h; first | (left; rfl) | (right; omega) | (exfalso; omega))

theorem dec_fffd (l : List UInt8) (hl : 2 < l.length) (h0 : byteN l 0 = 239) (h1 : byteN l 1 = 191) (h2 : byteN l 2 = 189) : dec l = (65533, 3) := by
  unfold dec Lib.decodeN
  rw [h0, h1, h2]
  simp [hl, show 1 < l.length by omega]

/-- Does U+FFFD stand there, written out? -/
theorem prefix_fffd (l : List UInt8) : Lib.hasPrefix l [239, 191, 189] = true ↔ (2 < l.length ∧ byteN l 0 = 239 ∧ byteN l 1 = 191 ∧ byteN l 2 = 189) := by
  rcases l with _ | ⟨a, _ | ⟨b, _ | ⟨c, t⟩⟩⟩
  · simp [Lib.hasPrefix]
  · simp [Lib.hasPrefix, List.isPrefixOf]
  · simp [Lib.hasPrefix, List.isPrefixOf]
  · simp only [Lib.hasPrefix, List.isPrefixOf, byteN, Bool.and_true, Bool.and_eq_true, beq_iff_eq, List.length_cons, List.getD_cons_zero, List.getD_cons_succ, ← UInt8.toNat_inj]
    constructor
    · rintro ⟨x, y, z⟩; exact ⟨by omega, x.symm, y.symm, z.symm⟩
    · rintro ⟨_, x, y, z⟩; exact ⟨x.symm, y.symm, z.symm⟩

/-- At a rune U+FFFD: a byte that begins no rune has the width 1. -/
theorem bad_iff (l : List UInt8) (h : (dec l).1 = 65533) : Lib.hasPrefix l [239, 191, 189] = !((dec l).2 == 1) := by
  rcases dec_error l h with h1 | ⟨h3, hh⟩
  · rw [h1]
    cases hp : Lib.hasPrefix l [239, 191, 189] with
    | false => rfl
    | true =>
      obtain ⟨a, b, c, d⟩ := (prefix_fffd l).1 hp
      rw [dec_fffd l a b c d] at h1; cases h1
  · rw [h3, (prefix_fffd l).2 hh]; rfl

/-! ### A text cut into its runes -/
def segF : Nat → List UInt8 → List (Nat × List UInt8)
  | 0, _ => []
  | f + 1, l => if l = [] then [] else ((dec l).1, l.take (dec l).2) :: segF f (l.drop (dec l).2)
/-- The runes of a text, each with its bytes; a byte that begins no rune is U+FFFD by itself. -/
def seg (l : List UInt8) : List (Nat × List UInt8) := segF l.length l

theorem segF_enough : ∀ (f g : Nat) (l : List UInt8), l.length ≤ f → l.length ≤ g → segF f l = segF g l
  | 0, g, l, hf, _ => by
    have : l = [] := by cases l with | nil => rfl | cons a t => simp at hf
    subst this; cases g <;> simp [segF]
  | f + 1, 0, l, _, hg => by
    have : l = [] := by cases l with | nil => rfl | cons a t => simp at hg
    subst this; simp [segF]
  | f + 1, g + 1, l, hf, hg => by
    by_cases h : l = []
    · subst h; simp [segF]
    · have hw := dec_width l h
      simp only [segF, if_neg h]
      rw [segF_enough f g _ (by rw [List.length_drop]; omega) (by rw [List.length_drop]; omega)]

@[simp] theorem seg_nil : seg [] = [] := rfl
theorem seg_cons (l : List UInt8) (h : l ≠ []) : seg l = ((dec l).1, l.take (dec l).2) :: seg (l.drop (dec l).2) := by
  have hw := dec_width l h
  unfold seg
  rw [segF_enough l.length ((l.length - 1) + 1) l (Nat.le_refl _) (by omega)]
  simp only [segF, if_neg h]
  rw [segF_enough (l.length - 1) (l.drop (dec l).2).length _ (by rw [List.length_drop]; omega) (Nat.le_refl _)]

theorem seg_induct {P : List UInt8 → Prop} (h0 : P []) (h1 : ∀ l, l ≠ [] → P (l.drop (dec l).2) → P l) (l : List UInt8) : P l := by
  suffices ∀ n (l : List UInt8), l.length ≤ n → P l from this _ l (Nat.le_refl _)
  intro n
  induction n with
  | zero => intro l h; have : l = [] := by { cases l with | nil => rfl | cons a t => simp at h }
            subst this; exact h0
  | succ n ih =>
    intro l h
    by_cases e : l = []
    · subst e; exact h0
    · have hw := dec_width l e
      exact h1 l e (ih _ (by rw [List.length_drop]; omega))

/-- No whole rune: a byte by itself. -/
def isBad (p : Nat × List UInt8) : Bool := p.1 == 65533 && p.2.length == 1
/-- All bytes are whole runes. -/
def okB (l : List UInt8) : Bool := (seg l).all fun p => !isBad p
def count (l : List UInt8) : Nat := (seg l).length

theorem isBad_head (l : List UInt8) (h : l ≠ []) : isBad ((dec l).1, l.take (dec l).2) = ((dec l).1 == 65533 && (dec l).2 == 1) := by
  have hw := dec_width l h
  simp only [isBad, List.length_take, Nat.min_eq_left hw.2.1]

theorem okB_bad (l : List UInt8) (h : l ≠ []) (h1 : (dec l).1 = 65533) (h2 : Lib.hasPrefix l [239, 191, 189] = false) : okB l = false := by
  rw [bad_iff l h1] at h2
  rw [okB, seg_cons l h, List.all_cons, isBad_head l h]
  simp at h2
  simp [h1, h2]

theorem okB_good (l : List UInt8) (h : l ≠ []) (h1 : (dec l).1 = 65533 → Lib.hasPrefix l [239, 191, 189] = true) : okB l = okB (l.drop (dec l).2) := by
  rw [okB, seg_cons l h, List.all_cons, isBad_head l h, ← okB]
  by_cases e : (dec l).1 = 65533
  · have := h1 e
    rw [bad_iff l e] at this
    simp at this
    simp [this]
  · simp [e]

theorem count_cons (l : List UInt8) (h : l ≠ []) : count l = count (l.drop (dec l).2) + 1 := by
  rw [count, seg_cons l h]; rfl
theorem count_le (l : List UInt8) : count l ≤ l.length := by
  induction l using seg_induct with
  | h0 => simp [count]
  | h1 l h ih => rw [count_cons l h]; have := dec_width l h; rw [List.length_drop] at ih; omega

/-- What 'whole' answers. -/
def whN (l : List UInt8) : Nat := if okB l then count l else 0

end Go.Proofs.YthcjjekkjbidlaaGreatDoor.Nm
/-
  Plain facts on patterns: what it is to be like a pattern, and that the greedy way with one star kept finds it. No program stands in this text.
-/
namespace Go.Proofs.YthcjjekkjbidlaaGreatDoor.Nm

/-! ### The greedy way -/
/-- What is left of the pattern is stars alone, told from its bytes. -/
def enc (r : Nat) : List UInt8 := (Utf8.encode (Int.ofNat r)).data.toList
theorem enc_eq (r : Nat) : enc r = (Utf8.encode (r : Int)).data.toList := by rw [enc, Int.ofNat_eq_natCast]
end Go.Proofs.YthcjjekkjbidlaaGreatDoor.Nm
/-
  Plain facts on paths: the names of a path, the path of names. No program stands in this text.
-/
namespace Go.Proofs.YthcjjekkjbidlaaGreatDoor.Nm

def fine (r : Nat) : Bool := !(decide (r < 32)) && !(r == 127) && !(r == 47)
def runesFine (l : List UInt8) : Bool := (seg l).all fun p => fine p.1
def lenFine (l : List UInt8) : Bool := okB l && decide (1 ≤ count l) && decide (count l ≤ 64) && decide (l.length ≤ 255) && !(l == [46]) && !(l == [46, 46])
/-- A name may be. -/
def chk (l : List UInt8) : Bool := lenFine l && runesFine l

/-- A text cut at its slashes. -/
def parts : List UInt8 → List (List UInt8)
  | [] => [[]]
  | c :: t => if c = 47 then [] :: parts t else match parts t with | [] => [[c]] | h :: r => (c :: h) :: r

theorem parts_ne (l : List UInt8) : parts l ≠ [] := by
  cases l with
  | nil => simp [parts]
  | cons c t => rw [parts]; split; · simp
                split <;> simp

theorem parts_none (l : List UInt8) (h : ∀ c ∈ l, c ≠ 47) : parts l = [l] := by
  induction l with
  | nil => rfl
  | cons c t ih =>
    rw [parts, if_neg (h c (by simp)), ih (fun x hx => h x (by simp [hx]))]

theorem parts_hit (a b : List UInt8) (h : ∀ c ∈ a, c ≠ 47) : parts (a ++ 47 :: b) = a :: parts b := by
  induction a with
  | nil => simp [parts]
  | cons c t ih =>
    rw [List.cons_append, parts, if_neg (h c (by simp)), ih (fun x hx => h x (by simp [hx]))]

theorem parts_count (l : List UInt8) : (parts l).length = l.count 47 + 1 := by
  induction l with
  | nil => rfl
  | cons c t ih =>
    rw [parts]
    by_cases h : c = 47
    · subst h; simp [ih]
    · rw [if_neg h, List.count_cons_of_ne h]
      cases hp : parts t with
      | nil => exact absurd hp (parts_ne t)
      | cons x r => rw [hp] at ih; simpa using ih

theorem parts_le (l : List UInt8) : ∀ x ∈ parts l, x.length ≤ l.length := by
  induction l with
  | nil => intro x hx; simp [parts] at hx; subst hx; simp
  | cons c t ih =>
    intro x hx
    rw [parts] at hx
    split at hx
    · rcases List.mem_cons.1 hx with rfl | hx
      · simp
      · have := ih x hx; simp; omega
    · split at hx
      · rename_i e; exact absurd e (parts_ne t)
      · rename_i a r e
        rw [e] at ih
        rcases List.mem_cons.1 hx with rfl | hx
        · have := ih a (by simp); simp; omega
        · have := ih x (by simp [hx]); simp; omega

theorem splitK_parts : ∀ (n : Nat) (l : List UInt8), l.count 47 = n → Lib.splitK [47] 0 n l = parts l
  | 0, l, h => by
    rw [parts_none l (fun c hc e => by subst e; have := List.count_pos_iff.2 hc; omega)]
    rfl
  | n + 1, l, h => by
    have hmem : (47 : UInt8) ∈ l := List.count_pos_iff.1 (by omega)
    rw [Lib.splitK]
    cases hi : Lib.index l [47] with
    | negSucc k =>
      exfalso
      have h1 := Lib.index_ge l [47]
      have hm : Lib.index l [47] = -1 := by omega
      rw [Lib.index_one] at hm
      obtain ⟨j, hj, e⟩ := List.getElem_of_mem hmem
      exact Lib.indexByte_none hm j (by rw [List.getElem?_eq_getElem hj, e])
    | ofNat i =>
      have hne : (Int.ofNat i == (-1 : Int)) = false := by rw [beq_eq_false_iff_ne]; simp
      simp only [hne, Bool.false_eq_true, if_false]
      have hib : Lib.indexByte l 47 = (i : Nat) := by rw [← Lib.index_one, hi]; rfl
      obtain ⟨h1, h2⟩ := Lib.indexByte_some hib
      have hl : i < l.length := (List.getElem?_eq_some_iff.1 h1).1
      have hd : l = l.take i ++ 47 :: l.drop (i + 1) := by
        have := List.drop_eq_getElem_cons hl
        rw [(List.getElem?_eq_some_iff.1 h1).2] at this
        rw [← this, List.take_append_drop]
      have ha : ∀ c ∈ l.take i, c ≠ 47 := by
        intro c hc e
        subst e
        obtain ⟨j, hj, e⟩ := List.getElem_of_mem hc
        have hj' : j < i := by rw [List.length_take] at hj; omega
        refine h2 j hj' ?_
        rw [List.getElem_take] at e
        rw [List.getElem?_eq_getElem (by omega), e]
      have hc : (l.drop (i + 1)).count 47 = n := by
        have e := congrArg (List.count 47) hd
        rw [List.count_append, List.count_cons_self, h] at e
        have : (l.take i).count 47 = 0 := List.count_eq_zero.2 (fun hc => ha 47 hc rfl)
        omega
      have hk := splitK_parts n _ hc
      conv => rhs; rw [hd, parts_hit _ _ ha]
      rw [← hk]
      simp

theorem splitB_parts (s : ByteArray) : (Lib.splitB ⟨#[47]⟩ 0 (s.data.toList.count 47) s).map (·.data.toList) = parts s.data.toList := by
  rw [Lib.splitB_data]
  exact splitK_parts _ _ rfl

/-- A path's names; none: it is no path. -/
def splitP (p : List UInt8) : Option (List (List UInt8)) :=
  if p = [47] then some [] else if Lib.hasPrefix p [47] && decide (p.count 47 ≤ 16) && (parts (p.drop 1)).all chk then some (parts (p.drop 1)) else none

/-- The path of names. -/
def pathOf (ns : List (List UInt8)) : List UInt8 := ns.flatMap fun n => 47 :: n
theorem hasPrefix_one (p : List UInt8) : Lib.hasPrefix p [47] = true ↔ ∃ t, p = 47 :: t := by
  cases p with
  | nil => simp [Lib.hasPrefix]
  | cons c t =>
    simp [Lib.hasPrefix, List.isPrefixOf]
    exact eq_comm

end Go.Proofs.YthcjjekkjbidlaaGreatDoor.Nm
/-
  The stat index, plain: entries, the list that an index is, its calls, its bytes. No walk stands in this text.
-/
namespace Go.Proofs.YthcjjekkjbidlaaGreatDoor.St
open Go.RowKit Go.WideAt Go.WideShapes Go.Proofs.YthcjjekkjbidlaaGreatDoor.Rf Go.Proofs.YthcjjekkjbidlaaGreatDoor.Nm

/-- An entry. -/
structure SE where
  path : List UInt8
  node : Nat
  size : Int
  ino : Nat
  tick : Int
  kind : Nat
  id : List UInt8
instance : Inhabited SE := ⟨⟨[], 0, 0, 0, 0, 0, []⟩⟩

/-! ### the order of texts -/
theorem lt_irrefl (a : List UInt8) : lt a a = false := bytes_irrefl a
theorem lt_total {a b : List UInt8} (h : a ≠ b) : lt a b = true ∨ lt b a = true := bytes_total a b h
theorem lt_trans {a b c : List UInt8} (h : lt a b = true) (k : lt b c = true) : lt a c = true := bytes_trans a b c h k
theorem lt_ne {a b : List UInt8} (h : lt a b = true) : a ≠ b := by
  rintro rfl; rw [lt_irrefl] at h; cases h
theorem lt_asymm {a b : List UInt8} (h : lt a b = true) : lt b a = false := by
  cases k : lt b a
  · rfl
  · have := lt_trans h k; rw [lt_irrefl] at this; cases this
theorem lt_less : ∀ a b : List UInt8, Op.bytesLess a b = lt a b
  | [], [] => rfl
  | [], _ :: _ => rfl
  | _ :: _, [] => rfl
  | a :: r, b :: s => by
    show (decide (a < b) || (a == b && Op.bytesLess r s)) = (decide (a < b) || (a == b && lt r s))
    rw [lt_less r s]
theorem lt_iff : ∀ {a b : List UInt8}, lt a b = true ↔ a < b
  | [], [] => by simp [lt, Lit.before, bytesBefore]
  | [], _ :: _ => by simp [lt, Lit.before, bytesBefore]
  | _ :: _, [] => by simp [lt, Lit.before, bytesBefore]
  | a :: r, b :: s => by
    have e : lt (a :: r) (b :: s) = (decide (a < b) || (a == b && lt r s)) := rfl
    rw [e, List.cons_lt_cons_iff, Bool.or_eq_true, Bool.and_eq_true, decide_eq_true_eq, beq_iff_eq, lt_iff (a := r) (b := s)]

/-- Rising by path. -/
def Srt (L : List SE) : Prop := L.Pairwise fun a b => lt a.path b.path = true
theorem Srt.tail {e : SE} {L : List SE} (h : Srt (e :: L)) : Srt L := (List.pairwise_cons.1 h).2
theorem Srt.head {e : SE} {L : List SE} (h : Srt (e :: L)) : ∀ x ∈ L, lt e.path x.path = true := (List.pairwise_cons.1 h).1

/-! ### the calls of an index, on its list -/
/-- The place of a path. -/
def atL (p : List UInt8) : List SE → Nat
  | [] => 0
  | y :: r => if lt y.path p = true then atL p r + 1 else 0
def getL (p : List UInt8) : List SE → Option SE
  | [] => none
  | y :: r => if lt y.path p = true then getL p r else if y.path = p then some y else none
def insL (e : SE) : List SE → List SE
  | [] => [e]
  | y :: r => if lt y.path e.path = true then y :: insL e r else if y.path = e.path then e :: r else e :: y :: r
def remL (p : List UInt8) : List SE → List SE
  | [] => []
  | y :: r => if lt y.path p = true then y :: remL p r else if y.path = p then r else y :: r
theorem atL_le (p : List UInt8) : ∀ L : List SE, atL p L ≤ L.length
  | [] => Nat.le_refl _
  | y :: r => by rw [atL]; split <;> simp; exact atL_le p r
theorem remL_there {p : List UInt8} {x : SE} : ∀ {L : List SE}, getL p L = some x → remL p L = L.take (atL p L) ++ L.drop (atL p L + 1)
  | [], h => by simp [getL] at h
  | y :: r, h => by
    rw [getL] at h; rw [remL, atL]
    split
    · next hy =>
      rw [if_pos hy] at h
      rw [remL_there h]; simp
    · next hy =>
      rw [if_neg hy] at h
      have hy' : y.path = p := by
        cases Decidable.em (y.path = p) with
        | inl e1 => exact e1
        | inr e1 => rw [if_neg e1] at h; cases h
      rw [if_pos hy']; rfl
theorem remL_none {p : List UInt8} : ∀ {L : List SE}, getL p L = none → remL p L = L
  | [], _ => rfl
  | y :: r, h => by
    rw [getL] at h; rw [remL]
    split
    · next hy => rw [if_pos hy] at h; rw [remL_none h]
    · next hy =>
      rw [if_neg hy] at h
      have hne : y.path ≠ p := by intro e1; rw [if_pos e1] at h; cases h
      rw [if_neg hne]
theorem getL_path {p : List UInt8} {x : SE} : ∀ {L : List SE}, getL p L = some x → x.path = p ∧ x ∈ L
  | [], h => by simp [getL] at h
  | y :: r, h => by
    rw [getL] at h
    split at h
    · have := getL_path h; exact ⟨this.1, by simp [this.2]⟩
    · split at h
      · next hy => injection h with h; subst h; exact ⟨hy, by simp⟩
      · cases h

theorem mem_insL {e x : SE} : ∀ {L : List SE}, x ∈ insL e L → x = e ∨ x ∈ L
  | [], h => by simp [insL] at h; exact .inl h
  | y :: r, h => by
    rw [insL] at h
    split at h
    · rcases List.mem_cons.1 h with h | h
      · exact .inr (by simp [h])
      · rcases mem_insL h with h | h
        · exact .inl h
        · exact .inr (by simp [h])
    · split at h
      · rcases List.mem_cons.1 h with h | h
        · exact .inl h
        · exact .inr (by simp [h])
      · rcases List.mem_cons.1 h with h | h
        · exact .inl h
        · exact .inr h
theorem insL_srt (e : SE) : ∀ {L : List SE}, Srt L → Srt (insL e L)
  | [], _ => List.pairwise_singleton _ _
  | y :: r, h => by
    rw [insL]
    split
    · next hy =>
      refine List.pairwise_cons.2 ⟨fun x hx => ?_, insL_srt e h.tail⟩
      rcases mem_insL hx with rfl | hx
      · exact hy
      · exact h.head x hx
    · next hy =>
      split
      · next hp =>
        refine List.pairwise_cons.2 ⟨fun x hx => ?_, h.tail⟩
        rw [← hp]; exact h.head x hx
      · next hp =>
        have hey : lt e.path y.path = true := (lt_total hp).resolve_left hy
        refine List.pairwise_cons.2 ⟨fun x hx => ?_, h⟩
        rcases List.mem_cons.1 hx with rfl | hx
        · exact hey
        · exact lt_trans hey (h.head x hx)
theorem insL_length_le (e : SE) : ∀ L : List SE, (insL e L).length ≤ L.length + 1
  | [] => Nat.le_refl _
  | y :: r => by
    rw [insL]
    split
    · have := insL_length_le e r; simp; omega
    · split <;> simp
theorem remL_sub (p : List UInt8) : ∀ L : List SE, (remL p L).Sublist L
  | [] => .slnil
  | y :: r => by
    rw [remL]
    split
    · exact (remL_sub p r).cons_cons y
    · split
      · exact .cons _ (.refl _)
      · exact .refl _
theorem remL_srt {p : List UInt8} {L : List SE} (h : Srt L) : Srt (remL p L) := h.sublist (remL_sub p L)
/-! ### the list as a map by paths -/
def toZ (L : List SE) : MV SE := L.map fun e => (e.path, e)
theorem toZ_length (L : List SE) : (toZ L).length = L.length := List.length_map _
theorem toZ_get (p : List UInt8) : ∀ {L : List SE}, Srt L → getM (toZ L) p = getL p L
  | [], _ => rfl
  | y :: r, h => by
    rw [getL]
    have ih := toZ_get p h.tail
    show ((((y.path, y) :: toZ r).find? fun q => q.1 == p).map (·.2)) = _
    by_cases hp : y.path = p
    · rw [List.find?_cons_of_pos (by simpa using hp), if_neg (by rw [hp, lt_irrefl]; decide), if_pos hp]; rfl
    · rw [List.find?_cons_of_neg (by simpa using hp)]
      show getM (toZ r) p = _
      rw [ih]
      split
      · rfl
      · next hy =>
        have hpy : lt p y.path = true := (lt_total hp).resolve_left hy
        cases r with
        | nil => rfl
        | cons z r =>
          have hz := lt_trans hpy (h.head z (by simp))
          rw [getL, if_neg (by rw [lt_asymm hz]; decide), if_neg (fun e => by rw [e, lt_irrefl] at hz; cases hz)]
theorem toZ_del (p : List UInt8) : ∀ {L : List SE}, Srt L → delM (toZ L) p = toZ (remL p L)
  | [], _ => rfl
  | y :: r, h => by
    have e : delM (toZ (y :: r)) p = if y.path = p then delM (toZ r) p else (y.path, y) :: delM (toZ r) p := by
      show List.filter _ ((y.path, y) :: toZ r) = _
      rw [List.filter_cons]
      by_cases hp : y.path = p
      · rw [if_neg (by simpa using hp), if_pos hp]; rfl
      · rw [if_pos (by simpa using hp), if_neg hp]; rfl
    have hnone : ∀ {r : List SE}, (∀ x ∈ r, x.path ≠ p) → delM (toZ r) p = toZ r := fun {r} hr => by
      rw [delM, List.filter_eq_self]
      intro q hq
      obtain ⟨x, hx, rfl⟩ := List.mem_map.1 hq
      simpa using hr x hx
    rw [e, remL]
    by_cases hp : y.path = p
    · rw [if_pos hp, if_neg (by rw [hp, lt_irrefl]; decide), if_pos hp]
      exact hnone (fun x hx e1 => by have := h.head x hx; rw [hp, e1, lt_irrefl] at this; cases this)
    · rw [if_neg hp]
      by_cases hy : lt y.path p = true
      · rw [if_pos hy, toZ_del p h.tail]; rfl
      · rw [if_neg hy, if_neg hp]
        have hpy : lt p y.path = true := (lt_total hp).resolve_left hy
        rw [hnone (fun x hx e1 => by have := lt_trans hpy (h.head x hx); rw [e1, lt_irrefl] at this; cases this)]; rfl
theorem toZ_ins {e : SE} : ∀ {L : List SE}, Srt L → (∀ x ∈ L, x.path ≠ e.path) → insM e.path e (toZ L) = toZ (insL e L)
  | [], _, _ => rfl
  | y :: r, h, hn => by
    show insM e.path e ((y.path, y) :: toZ r) = _
    rw [insM, insL]
    have hne := hn y (by simp)
    by_cases hy : lt y.path e.path = true
    · rw [if_pos hy, if_neg (by rw [lt_asymm hy]; decide), toZ_ins h.tail (fun x hx => hn x (by simp [hx]))]; rfl
    · rw [if_neg hy, if_neg hne, if_pos ((lt_total hne).resolve_left hy)]; rfl
theorem insL_rem {e : SE} : ∀ {L : List SE}, Srt L → insL e (remL e.path L) = insL e L
  | [], _ => rfl
  | y :: r, h => by
    rw [remL]
    by_cases hy : lt y.path e.path = true
    · rw [if_pos hy, insL, if_pos hy, insL_rem h.tail, insL, if_pos hy]
    · rw [if_neg hy]
      by_cases hp : y.path = e.path
      · rw [if_pos hp, insL, if_neg hy, if_pos hp]
        cases r with
        | nil => rfl
        | cons z r =>
          have hz := h.head z (by simp)
          rw [hp] at hz
          rw [insL, if_neg (by rw [lt_asymm hz]; decide), if_neg (fun e1 => by rw [e1, lt_irrefl] at hz; cases hz)]
      · rw [if_neg hp]
theorem toZ_put {e : SE} {L : List SE} (h : Srt L) : putM (toZ L) e.path e = toZ (insL e L) := by
  rw [putM, toZ_del _ h, toZ_ins (remL_srt h), insL_rem h]
  intro x hx e1
  have h1 : (x.path, x) ∈ toZ (remL e.path L) := List.mem_map.2 ⟨x, hx, rfl⟩
  rw [← toZ_del _ h] at h1
  exact (mem_del.1 h1).2 e1
theorem toZ_keys (L : List SE) : (toZ L).map (·.1) = L.map (·.path) := by rw [toZ, List.map_map]; rfl
theorem srt_sort {L : List SE} (h : Srt L) : (L.map (·.path)).mergeSort (fun x y => decide (x ≤ y)) = L.map (·.path) := by
  refine List.mergeSort_of_pairwise ?_
  rw [List.pairwise_map]
  exact h.imp fun {a b} k => by simpa using List.le_of_lt (lt_iff.1 k)

/-- Two rising lists of the same entries are one. -/
theorem srt_ext : ∀ {A B : List SE}, Srt A → Srt B → (∀ e, e ∈ A ↔ e ∈ B) → A = B
  | [], [], _, _, _ => rfl
  | [], b :: B, _, _, h => by have := (h b).2 (by simp); cases this
  | a :: A, [], _, _, h => by have := (h a).1 (by simp); cases this
  | a :: A, b :: B, hA, hB, h => by
    have e1 : a = b := by
      rcases List.mem_cons.1 ((h a).1 (by simp)) with e | e
      · exact e
      · rcases List.mem_cons.1 ((h b).2 (by simp)) with e2 | e2
        · exact e2.symm
        · have h1 := hB.head a e; have h2 := hA.head b e2
          rw [lt_asymm h1] at h2; cases h2
    subst e1
    congr 1
    refine srt_ext hA.tail hB.tail fun e => ?_
    constructor
    · intro he
      rcases List.mem_cons.1 ((h e).1 (by simp [he])) with rfl | e2
      · have := hA.head e he; rw [lt_irrefl] at this; cases this
      · exact e2
    · intro he
      rcases List.mem_cons.1 ((h e).2 (by simp [he])) with rfl | e2
      · have := hB.head e he; rw [lt_irrefl] at this; cases this
      · exact e2
theorem getL_mem {L : List SE} (h : Srt L) {x : SE} (hx : x ∈ L) : getL x.path L = some x := by
  rw [← toZ_get _ h]
  have hk : ∀ y ∈ L, y.path = x.path → y = x := fun y hy e => by
    obtain ⟨i, hi, rfl⟩ := List.getElem_of_mem hx
    obtain ⟨j, hj, rfl⟩ := List.getElem_of_mem hy
    rcases Nat.lt_trichotomy i j with k | k | k
    · have := List.pairwise_iff_getElem.1 h i j hi hj k; rw [e, lt_irrefl] at this; cases this
    · subst k; rfl
    · have := List.pairwise_iff_getElem.1 h j i hj hi k; rw [e, lt_irrefl] at this; cases this
  cases hg : getM (toZ L) x.path with
  | none => exact absurd rfl (get_none_iff.1 hg (x.path, x) (List.mem_map.2 ⟨x, hx, rfl⟩))
  | some y =>
    obtain ⟨z, hz, e⟩ := List.mem_map.1 (getM_mem hg)
    injection e with e1 e2
    subst e2
    rw [hk z hz e1]
/-! ### May, and the bytes -/
/-- An entry may be. -/
def statBad (e : SE) : Bool := decide (e.node < 1) || decide (3 < e.node) || decide (e.size < 0) || decide (1048576 < e.size) || decide (e.ino < 1) || decide (e.tick < 0) || decide (1099511627776 < e.tick) || decide (e.kind < 1) || decide (5 < e.kind)
def mayN (e : SE) : Int := if (splitP e.path).isNone then 10 else if statBad e then 1 else 0
/-- An entry's bytes. -/
def encS (e : SE) : List UInt8 := putText e.path ++ [UInt8.ofNat e.node] ++ sh e.size.toNat ++ sh e.ino ++ sh e.tick.toNat ++ [UInt8.ofNat e.kind] ++ e.id
def mst : List UInt8 := [109, 115, 116, 49]
/-- An index's bytes. -/
def encX (L : List SE) : List UInt8 := mst ++ sh L.length ++ L.flatMap encS
end Go.Proofs.YthcjjekkjbidlaaGreatDoor.St
/-
  What may have turned; blocks and rows that a call owns.
-/
namespace Go.Proofs.YthcjjekkjbidlaaGreatDoor.Rf
open Go.RowKit Go.Maps

/-- Only the blocks of X may have turned; what is new lies behind. -/
structure Turn (X : List Nat) (w w' : World) : Prop where
  os : w'.os = w.os
  tape : w'.tape = w.tape
  output : w'.output = w.output
  size : w.heap.size ≤ w'.heap.size
  block : ∀ k, k < w.heap.size → k ∉ X → w'.heap[k]? = w.heap[k]?

theorem Turn.refl (X : List Nat) (w : World) : Turn X w w := ⟨rfl, rfl, rfl, Nat.le_refl _, fun _ _ _ => rfl⟩
theorem Turn.trans {X Y : List Nat} {a b c : World} (h : Turn X a b) (k : Turn Y b c) (hY : ∀ y ∈ Y, y ∈ X ∨ a.heap.size ≤ y) : Turn X a c :=
  ⟨k.os.trans h.os, k.tape.trans h.tape, k.output.trans h.output, Nat.le_trans h.size k.size, fun j hj hx => by
    rw [k.block j (Nat.lt_of_lt_of_le hj h.size) (fun hy => (hY j hy).elim hx (by omega)), h.block j hj hx]⟩
theorem Turn.mono {X Y : List Nat} {a b : World} (h : Turn X a b) (hX : ∀ x ∈ X, x ∈ Y) : Turn Y a b :=
  ⟨h.os, h.tape, h.output, h.size, fun k hk hy => h.block k hk (fun hx => hy (hX k hx))⟩
theorem Turn.alloc {X : List Nat} {a b : World} (h : Turn X a b) (o : Obj) : Turn X a (b.alloc o) :=
  ⟨h.os, h.tape, h.output, Nat.le_trans h.size (by show b.heap.size ≤ (b.heap.push o).size; rw [Array.size_push]; omega), fun k hk hx => (Below.heap_alloc _ _ _ (Nat.lt_of_lt_of_le hk h.size)).trans (h.block k hk hx)⟩
theorem Turn.drew {X : List Nat} {a b : World} (h : Turn X a b) : Turn X a b.drew := ⟨h.os, h.tape, h.output, h.size, h.block⟩
theorem Turn.setCell {X : List Nat} {a b : World} (h : Turn X a b) {p : Addr} (hp : p.block ∈ X ∨ a.heap.size ≤ p.block) (v : Value) : Turn X a (b.setCell p v) :=
  ⟨h.os, h.tape, h.output, by simpa [World.setCell] using h.size, fun k hk hx => by
    rw [Below.heap_setCell _ _ _ _ (by intro e; subst e; exact hp.elim hx (by omega))]; exact h.block k hk hx⟩
theorem Turn.of_below {X : List Nat} {a b : World} (h : Below a.heap.size a b) : Turn X a b := ⟨h.os, h.tape, h.output, h.size, fun k hk _ => h.block k hk⟩
theorem Turn.below {X : List Nat} {B : Nat} {a b : World} (h : Turn X a b) (hX : ∀ x ∈ X, B ≤ x) (hB : B ≤ a.heap.size) : Below B a b :=
  ⟨h.os, h.tape, h.output, h.size, fun k hk => h.block k (by omega) (fun hx => by have := hX k hx; omega)⟩

theorem setCell_heap (w : World) (g j : Nat) (v : Value) (cur : Array Value) (T : TypeId) (h : w.heap[g]? = some (.cells cur T)) :
    (w.setCell ⟨g, j, none⟩ v).heap[g]? = some (.cells (cur.setIfInBounds j v) T) := by
  simp [World.setCell, Array.getElem?_modify, h]
theorem cell_of_heap {w : World} {g j : Nat} {cur : Array Value} {T : TypeId} (h : w.heap[g]? = some (.cells cur T)) : w.cell? ⟨g, j, none⟩ = cur[j]? := by
  simp [World.cell?, h]
theorem frozen_of_heap {w : World} {g j : Nat} {cur : Array Value} {T : TypeId} (h : w.heap[g]? = some (.cells cur T)) : w.frozen? ⟨g, j, none⟩ = false := by
  simp [World.frozen?, h]

def ob (v : Value) : List Nat := v.ownBlock.toList
abbrev ptr (n : Nat) : Value := .pointer (some ⟨n, 0, none⟩)
theorem ownsMap_block {w w' : World} {R : Value → Option (DataW Value × List MemPlace)} {k : TypeId} {b n : Nat} {D : DataW Value} (h : w.ownsMap Tryz.prog k R b n D) (hb : w'.heap[b]? = w.heap[b]?) : w'.ownsMap Tryz.prog k R b n D := by
  obtain ⟨es, clock, h1, h2⟩ := h
  exact ⟨es, clock, hb.trans h1, h2⟩
theorem lt_of_heap {w : World} {q : Nat} {o : Obj} (h : w.heap[q]? = some o) : q < w.heap.size := (Array.getElem?_eq_some_iff.1 h).1
theorem row_kept {w w' : World} {B : Nat} {e : TypeId} {v : Value} {n : Nat} {xs : List Value} (h : w.ownsRow B e 1 v n xs) (hb : ∀ b ∈ ob v, b < w.heap.size → w'.heap[b]? = w.heap[b]?) : w'.ownsRow B e 1 v n xs := by
  obtain ⟨h1, h2 | ⟨g, cap, cur, rfl, a, b, c⟩⟩ := h
  · exact ⟨h1, .inl h2⟩
  · exact ⟨h1, .inr ⟨g, cap, cur, rfl, a, (hb g (by simp [ob, Value.ownBlock]) (lt_of_heap b)).trans b, c⟩⟩

theorem row_lt {w : World} {B : Nat} {e : TypeId} {v : Value} {n : Nat} {xs : List Value} (h : w.ownsRow B e 1 v n xs) : ∀ b ∈ ob v, b < w.heap.size := by
  obtain ⟨_, ⟨rfl, _⟩ | ⟨g, cap, cur, rfl, _, hh, _⟩⟩ := h
  · intro b hb; simp [ob, Value.ownBlock] at hb
  · intro b hb; simp [ob, Value.ownBlock] at hb; subst hb; exact lt_of_heap hh
theorem row_ge {w : World} {B : Nat} {e : TypeId} {v : Value} {n : Nat} {xs : List Value} (h : w.ownsRow B e 1 v n xs) : ∀ b ∈ ob v, B ≤ b := by
  obtain ⟨_, ⟨rfl, _⟩ | ⟨g, cap, cur, rfl, hg, _⟩⟩ := h
  · intro b hb; simp [ob, Value.ownBlock] at hb
  · intro b hb; simp [ob, Value.ownBlock] at hb; subst hb; exact hg
theorem row_mono {w : World} {B B' : Nat} {e : TypeId} {size : Nat} {v : Value} {n : Nat} {xs : List Value} (h : w.ownsRow B e size v n xs) (hB : B' ≤ B) : w.ownsRow B' e size v n xs := by
  obtain ⟨h1, h2 | ⟨g, cap, cur, rfl, hg, rest⟩⟩ := h
  · exact ⟨h1, .inl h2⟩
  · exact ⟨h1, .inr ⟨g, cap, cur, rfl, Nat.le_trans hB hg, rest⟩⟩
end Go.Proofs.YthcjjekkjbidlaaGreatDoor.Rf
/-
  How an entry, and an index of the program's and of the reference's, lie in memory.
-/
namespace Go.Proofs.YthcjjekkjbidlaaGreatDoor.St
open Go.RowKit Go.Maps Go.WideMaps Go.Proofs.YthcjjekkjbidlaaGreatDoor.Rf

/-- The four cells of an entry's stat. -/
def SE.stat (e : SE) : List Value := [.int .u8 (e.node : Int), .int .i64 e.size, .int .u64 (e.ino : Int), .int .i64 e.tick]
/-- An entry's 38 cells. -/
def SE.cells (e : SE) : List Value := .string ⟨e.path.toArray⟩ :: .int .u8 (e.node : Int) :: .int .i64 e.size :: .int .u64 (e.ino : Int) :: .int .i64 e.tick :: .int .u8 (e.kind : Int) :: Lib.byteCells e.id
abbrev enV (e : SE) : Value := .agg e.cells.toArray
structure SE.Fits (e : SE) : Prop where
  path : e.path.length ≤ 140737488355328
  node : e.node < 256
  size : -9223372036854775808 ≤ e.size ∧ e.size < 9223372036854775808
  ino : e.ino < 18446744073709551616
  tick : -9223372036854775808 ≤ e.tick ∧ e.tick < 9223372036854775808
  kind : e.kind < 256
  id : e.id.length = 32
/-- The entry of noughts. -/
def zeroS : SE := ⟨[], 0, 0, 0, 0, 0, List.replicate 32 0⟩
theorem zero_fits : zeroS.Fits := ⟨by decide, by decide, by decide, by decide, by decide, by decide, by decide⟩
theorem cells_size {e : SE} (h : e.id.length = 32) : e.cells.length = 38 := by simp [SE.cells, Lib.byteCells_length, h]
theorem cells_one (e : SE) : ∀ u ∈ e.cells, u.oneCell' = true := by
  intro u hu
  simp only [SE.cells, List.mem_cons, Lib.byteCells, List.mem_map] at hu
  rcases hu with rfl | rfl | rfl | rfl | rfl | rfl | ⟨b, _, rfl⟩ <;> rfl
theorem cells_all (e : SE) : e.cells.toArray.all (·.oneCell') = true := Array.all_eq_true_iff_forall_mem.2 (fun u hu => cells_one e u (by simpa using hu))
def cellsS (L : List SE) : List Value := L.flatMap SE.cells
theorem cellsS_length {L : List SE} (h : ∀ e ∈ L, e.id.length = 32) : (cellsS L).length = 38 * L.length := by
  induction L with
  | nil => rfl
  | cons e r ih =>
    have h2 : (cellsS r).length = 38 * r.length := ih (fun x hx => h x (by simp [hx]))
    rw [cellsS, List.flatMap_cons, List.length_append, cells_size (h e (by simp)), ← cellsS, h2, List.length_cons]; omega
theorem cellsS_append (A B : List SE) : cellsS (A ++ B) = cellsS A ++ cellsS B := by rw [cellsS, List.flatMap_append]; rfl
theorem cellsS_cons (e : SE) (B : List SE) : cellsS (e :: B) = e.cells ++ cellsS B := by rw [cellsS, List.flatMap_cons]; rfl
theorem cellsS_at {l : List SE} (h : ∀ e ∈ l, e.id.length = 32) {j : Nat} {e : SE} (hj : l[j]? = some e) {t : Nat} {v : Value} (hv : e.cells[t]? = some v) : (cellsS l)[j * 38 + t]? = some v := by
  obtain ⟨hjl, rfl⟩ := List.getElem?_eq_some_iff.1 hj
  have e1 : l = l.take j ++ (l[j] :: l.drop (j + 1)) := by rw [← List.drop_eq_getElem_cons hjl, List.take_append_drop]
  have h2 : (cellsS (l.take j)).length = 38 * j := by
    rw [cellsS_length (fun e he => h e (List.mem_of_mem_take he)), List.length_take, Nat.min_eq_left (by omega)]
  have ht := (List.getElem?_eq_some_iff.1 hv).1
  have e2 : cellsS l = cellsS (l.take j) ++ (l[j].cells ++ cellsS (l.drop (j + 1))) := by
    conv => lhs; rw [e1]
    rw [cellsS_append, cellsS_cons]
  rw [e2, List.getElem?_append_right (by omega), h2, show j * 38 + t - 38 * j = t by omega, List.getElem?_append_left ht]
  exact hv

/-! ### rows of many cells -/
theorem rowS_kept {w w' : World} {B : Nat} {e : TypeId} {s : Nat} {v : Value} {n : Nat} {xs : List Value} (h : w.ownsRow B e s v n xs) (hb : ∀ b ∈ ob v, b < w.heap.size → w'.heap[b]? = w.heap[b]?) : w'.ownsRow B e s v n xs := by
  obtain ⟨h1, h2 | ⟨g, cap, cur, rfl, a, b, c⟩⟩ := h
  · exact ⟨h1, .inl h2⟩
  · exact ⟨h1, .inr ⟨g, cap, cur, rfl, a, (hb g (by simp [ob, Value.ownBlock]) (lt_of_heap b)).trans b, c⟩⟩
theorem rowS_lt {w : World} {B : Nat} {e : TypeId} {s : Nat} {v : Value} {n : Nat} {xs : List Value} (h : w.ownsRow B e s v n xs) : ∀ b ∈ ob v, b < w.heap.size := by
  obtain ⟨_, ⟨rfl, _⟩ | ⟨g, cap, cur, rfl, _, hh, _⟩⟩ := h
  · intro b hb; simp [ob, Value.ownBlock] at hb
  · intro b hb; simp [ob, Value.ownBlock] at hb; subst hb; exact lt_of_heap hh
theorem rowS_ge {w : World} {B : Nat} {e : TypeId} {s : Nat} {v : Value} {n : Nat} {xs : List Value} (h : w.ownsRow B e s v n xs) : ∀ b ∈ ob v, B ≤ b := by
  obtain ⟨_, ⟨rfl, _⟩ | ⟨g, cap, cur, rfl, hg, _⟩⟩ := h
  · intro b hb; simp [ob, Value.ownBlock] at hb
  · intro b hb; simp [ob, Value.ownBlock] at hb; subst hb; exact hg
theorem rowS_form {w : World} {B : Nat} {e : TypeId} {s : Nat} {v : Value} {n : Nat} {xs : List Value} (h : w.ownsRow B e s v n xs) (hn : n ≠ 0) : ∃ g cap, v = .slice (some ⟨g, 0, none⟩) n cap ∧ g < w.heap.size ∧ B ≤ g ∧ n ≤ cap ∧ ∀ (j : Nat) x, xs[j]? = some x → w.cell? ⟨g, j, none⟩ = some x := by
  obtain ⟨h1, ⟨_, h2⟩ | ⟨g, cap, cur, rfl, hg, hh, hc, _, _, ht⟩⟩ := h
  · exact absurd h2 hn
  · refine ⟨g, cap, rfl, lt_of_heap hh, hg, hc, fun j x hj => ?_⟩
    rw [cell_of_heap hh]
    have e1 := congrArg (fun l => l[j]?) ht
    rw [hj] at e1
    have hjl : j < n * s := by
      have := (List.getElem?_eq_some_iff.1 hj).1
      omega
    rw [List.getElem?_take_of_lt hjl, Array.getElem?_toList] at e1
    exact e1
theorem rowS_slice {w : World} {B : Nat} {e : TypeId} {s : Nat} {v : Value} {n : Nat} {xs : List Value} (h : w.ownsRow B e s v n xs) : ∃ a cap, v = .slice a n cap := by
  obtain ⟨_, ⟨rfl, rfl⟩ | ⟨g, cap, cur, rfl, _⟩⟩ := h
  · exact ⟨_, _, rfl⟩
  · exact ⟨_, _, rfl⟩
theorem rowS_nil (w : World) (B : Nat) (e : TypeId) (s : Nat) : w.ownsRow B e s (.slice none 0 0) 0 [] := World.ownsRow_nil _ _ _ _

/-! ### an index of the program's -/
structure IndexAt (B : Nat) (w : World) (g b : Nat) (L : List SE) : Prop where
  book : w.heap[g]? = some (.cells #[.map (some b)] 118)
  map : w.ownsMap Tryz.prog 9 Rv b 1000000 (toD enV (toZ L))
  gb : g ≠ b
  baseg : B ≤ g
  baseb : B ≤ b
  srt : Srt L
  fits : ∀ e ∈ L, e.Fits
  len : L.length ≤ 65536
theorem IndexAt.lt_g {B : Nat} {w : World} {g b : Nat} {L : List SE} (h : IndexAt B w g b L) : g < w.heap.size := lt_of_heap h.book
theorem IndexAt.lt_b {B : Nat} {w : World} {g b : Nat} {L : List SE} (h : IndexAt B w g b L) : b < w.heap.size := h.map.lt
theorem IndexAt.kept {B : Nat} {w w' : World} {g b : Nat} {L : List SE} (h : IndexAt B w g b L) (hg : w'.heap[g]? = w.heap[g]?) (hb : w'.heap[b]? = w.heap[b]?) : IndexAt B w' g b L :=
  ⟨hg.trans h.book, ownsMap_block h.map hb, h.gb, h.baseg, h.baseb, h.srt, h.fits, h.len⟩
theorem IndexAt.below {B : Nat} {w w' : World} {g b : Nat} {L : List SE} (h : IndexAt B w g b L) (hb : Below w.heap.size w w') : IndexAt B w' g b L := h.kept (hb.block _ h.lt_g) (hb.block _ h.lt_b)
theorem IndexAt.mono {B B' : Nat} {w : World} {g b : Nat} {L : List SE} (h : IndexAt B w g b L) (hB : B' ≤ B) : IndexAt B' w g b L :=
  ⟨h.book, h.map, h.gb, Nat.le_trans hB h.baseg, Nat.le_trans hB h.baseb, h.srt, h.fits, h.len⟩
theorem IndexAt.get {B : Nat} {w : World} {g b : Nat} {L : List SE} (h : IndexAt B w g b L) (p : List UInt8) : getM (toZ L) p = getL p L := toZ_get p h.srt
theorem IndexAt.fitsGet {B : Nat} {w : World} {g b : Nat} {L : List SE} (h : IndexAt B w g b L) (p : List UInt8) : ((getL p L).getD zeroS).Fits := by
  cases hg : getL p L with
  | none => exact zero_fits
  | some e => exact h.fits e (getL_path hg).2

/-! ### the entry of noughts, and variables of entries -/
theorem zeroEn (w : World) : (zeroValue 44).run Tryz.prog w = .ok (enV zeroS) w := by kernel_rfl
theorem infoEn {e : SE} (h : e.id.length = 32) : (Tryz.prog.info? 44).map (·.size) = some e.cells.toArray.size := by
  rw [List.size_toArray, cells_size h]; kernel_rfl
/-- A look-up by a text. -/
theorem IndexAt.look {B : Nat} {w : World} {g b : Nat} {L : List SE} (h : IndexAt B w g b L) (S : ByteArray) (hS : S.size ≤ maxLen) :
    (Instr.lookup 116 (.map (some b)) (.string S) true).run Tryz.prog w = .ok (.tuple #[enV ((getL S.data.toList L).getD zeroS), .bool (getL S.data.toList L).isSome]) w := by
  have := look_run Tryz.underlying116 zeroEn h.map S hS
  rw [h.get] at this
  rw [this]
  cases getL S.data.toList L <;> rfl
theorem IndexAt.look1 {B : Nat} {w : World} {g b : Nat} {L : List SE} (h : IndexAt B w g b L) (S : ByteArray) (hS : S.size ≤ maxLen) :
    (Instr.lookup 116 (.map (some b)) (.string S) false).run Tryz.prog w = .ok (enV ((getL S.data.toList L).getD zeroS)) w := by
  have := look_run1 Tryz.underlying116 zeroEn h.map S hS
  rw [h.get] at this
  rw [this]
  cases getL S.data.toList L <;> rfl
/-- A variable that is written whole. -/
theorem store_new (w : World) (T : TypeId) (old cs : Array Value) : ((w.alloc (.cells old T)).setRow w.heap.size cs).heap[w.heap.size]? = some (.cells cs T) ∧ Below w.heap.size w ((w.alloc (.cells old T)).setRow w.heap.size cs) := by
  refine ⟨setRow_heap _ _ _ _ _ _ (MapKept.heap_alloc w _).1, ?_⟩
  refine ((Below.refl _ w).alloc (Nat.le_refl _) (.cells old T)).trans ⟨rfl, rfl, rfl, by simp [World.setRow], fun k hk => ?_⟩
  exact setRow_other _ _ _ _ (by omega)
theorem setRow_size (w : World) (g : Nat) (cs : Array Value) : (w.setRow g cs).heap.size = w.heap.size := by simp [World.setRow]
theorem below_setRow {B g : Nat} {w0 w : World} (hb : Below B w0 w) (hBg : B ≤ g) (cs : Array Value) : Below B w0 (w.setRow g cs) :=
  hb.trans ⟨rfl, rfl, rfl, by simp [World.setRow], fun k hk => setRow_other _ _ _ _ (by omega)⟩
theorem range_block {w : World} {g : Nat} {cs : Array Value} {T : TypeId} (h : w.heap[g]? = some (.cells cs T)) : w.rangeAt g 0 cs.toList := fun j v hv => by
  rw [Nat.zero_add, cell_of_heap h, ← Array.getElem?_toList]; exact hv
theorem one_size (w : World) (A : Obj) : (w.alloc A).heap.size = w.heap.size + 1 := by show (w.heap.push _).size = _; simp
theorem at_alloc {w : World} {x : Nat} {o : Obj} (h : w.heap[x]? = some o) (A : Obj) : (w.alloc A).heap[x]? = some o := (Below.heap_alloc _ _ _ (lt_of_heap h)).trans h
theorem map_tight {w : World} {b n n' : Nat} {α : Type} {enc : α → Value} {m : MV α} (h : w.ownsMap Tryz.prog 9 Rv b n (toD enc m)) (hs : m.length ≤ n') : w.ownsMap Tryz.prog 9 Rv b n' (toD enc m) := by
  obtain ⟨es, clock, h1, h2, h3, h4⟩ := h
  refine ⟨es, clock, h1, h2, ?_, h4⟩
  have := congrArg Maps.size h4
  rw [toD_size, Maps.size_eq, length_sorted] at this
  simp at this
  omega

set_option maxRecDepth 100000 in
theorem new_any (w : World) :
    Calls Tryz.prog 9 #[] w fun e w' => ∃ g b, e = .returned (ptr g) ∧ IndexAt w.heap.size w' g b [] ∧ Below w.heap.size w w' := by
  have hmm := @run_makeMap Tryz.prog
  go_enter Tryz.func9, Tryz.ntmps9
  go_wp2
  go_ret
  have hs : (w.alloc (.map #[] 0)).heap.size = w.heap.size + 1 := by show (w.heap.push _).size = _; simp
  refine ⟨w.heap.size + 1, w.heap.size, rfl, ?_, ((Below.refl _ _).alloc (Nat.le_refl _) _).alloc (by rw [hs]; omega) _⟩
  refine ⟨?_, ?_, by omega, by omega, by omega, List.Pairwise.nil, by simp, by simp⟩
  · have := (MapKept.heap_alloc (w.alloc (.map #[] 0)) (.cells #[.map (some w.heap.size)] 118)).1
    rwa [hs] at this
  · exact map_tight (enc := enV) (m := toZ []) ((World.ownsMap_made w Tryz.prog 9 Rv).alloc _) (by decide)

set_option maxRecDepth 100000 in
theorem len_any (B : Nat) (w : World) (g b : Nat) (L : List SE) (h : IndexAt B w g b L) :
    Calls Tryz.prog 44 #[ptr g] w fun e w' => e = .returned (.int .i64 (L.length : Int)) ∧ w' = w := by
  have c0 : w.cell? ⟨g, 0, none⟩ = some (.map (some b)) := cell_of_heap h.book
  have hlen := h.map.len Tryz.underlying116
  simp only [toD_size, toZ_length] at hlen
  unfold ptr
  go_enter Tryz.func44, Tryz.ntmps44
  go_wp2
  go_ret
  exact ⟨rfl, rfl⟩
end Go.Proofs.YthcjjekkjbidlaaGreatDoor.St
