import Derived.Test.YtkdkifciajfpnaaDoorProg
import Derived.Below
import Derived.ChangeSame
import Derived.WalkKit
import Derived.ProofKit
import Derived.OpenShut
import Derived.SizedLaws
import Derived.Lib.Strings
import Derived.Maps.OwnSet
import Derived.Maps.OwnOps
import Derived.StringKeys
import Derived.Lib.RuneCountTail
import Derived.Lib.DecodeN
import Derived.Lib.TrimByte
import Derived.Laws.Cover4
set_option linter.unusedSimpArgs false
set_option linter.unusedVariables false
/-
  The last step of a row where 'Below' alone is known of the world behind the call.
-/
namespace Go.Proofs.YtkdkifciajfpnaaDoor.Rk
open Go.RowKit Go.WideShapes Go.ChangeShapes
section
variable {H : Type} {enc : TypeId × Value → H} {P : Program}
theorem post_of_below {f : Func} {s : ChangeSpec} {apart fresh handsOn again : Bool} {W W' : World} {args : Array Value} {v : Value} {ds gs : List (DataW H)} {before pa pv : List MemPlace}
    (hW : DataW.Whole enc P f.params.toList s.vars apart W args.toList ds gs before)
    (hres : ∀ (b : Nat) (sp : Nat → Bool) (hd : Bool), DataW.TrodAll enc P W' b sp hd f.resultTypes.toList (v.resultList f.resultTypes.size) (s.fn H (ds ++ gs)).results [])
    (hargs : ∀ sp : Nat → Bool, (∀ p ∈ before, sp p.block = true) → DataW.TrodAll enc P W' 0 sp true f.params.toList args.toList (s.fn H (ds ++ gs)).args pa)
    (hvars : ∀ sp : Nat → Bool, (∀ p ∈ before, sp p.block = true) → DataW.TrodVars enc P W' sp s.vars (s.fn H (ds ++ gs)).vars pv)
    (hps : before = pa ++ pv) (hb : Below W.heap.size W W')
    (hok : ∀ (j : Nat) (t : TypeId) (r : Value), f.resultTypes[j]? = some t → (v.resultList f.resultTypes.size)[j]? = some r → Value.okWide P W' .any 0 t r) :
    s.post enc P f apart fresh handsOn again W args v W' := by
  have hlt : ∀ p ∈ before, p.block < W.heap.size := fun p hp => hW.lt p hp
  have hold : ∀ p ∈ before, (fun b => decide (b < W.heap.size)) p.block = true := fun p hp => by simpa using hlt p hp
  refine ⟨ds, gs, before, [], pa, pv, hW, hres _ _ _, hargs _ hold, hvars _ hold, World.keptBut_mono (fun p hp => ⟨hp, ?_⟩) (hb.frame (· ∈ before)), fun _ => ?_⟩
  · rw [hps, List.mem_append] at hp
    exact Or.inr hp
  · obtain ⟨_, _, _, _, _, hz, hn⟩ := hW
    refine ⟨hok, _, _, ([] ++ pa) ++ pv, ⟨[] ++ pa, pv, trodAll_append (hargs _ (fun _ _ => rfl)) (hres _ _ _), hvars _ (fun _ _ => rfl), rfl, ?_, ?_⟩, ?_⟩
    · intro b off hp
      have hin : MemPlace.cell b off ∈ before := by rw [hps]; simpa using hp
      rw [hb.frozen (hlt _ hin)]
      exact hz b off hin
    · intro ha
      have := hn ha
      rw [hps] at this
      simpa using this
    · intro p hp _
      rw [hps]
      simpa using hp
end

end Go.Proofs.YtkdkifciajfpnaaDoor.Rk
/-
  The wire's numbers and texts, as plain lists of bytes. No program stands in this text.
-/
namespace Go.Proofs.YtkdkifciajfpnaaDoor.Rf

/-- The short number at the front, and how many bytes it has. -/
def rd : Nat → Nat → List UInt8 → Option (Nat × Nat)
  | _, _, [] => none
  | i, n, b :: r => if 10 ≤ i then none else if (i = 9 ∧ 1 < b.toNat) ∨ (0 < i ∧ b.toNat = 0) then none
    else if b.toNat < 128 then some (n + b.toNat * 128 ^ i, i + 1) else rd (i + 1) (n + (b.toNat - 128) * 128 ^ i) r
def rd0 (s : List UInt8) : Option (Nat × Nat) := rd 0 0 s

end Go.Proofs.YtkdkifciajfpnaaDoor.Rf
/-
  Maps from texts to anything, as plain lists rising by key; how such a map lies in memory. 
-/
namespace Go.Proofs.YtkdkifciajfpnaaDoor.Rf
open Go.RowKit Go.Maps Go.WideMaps

theorem law : Keyed Tryd.prog 9 := string_keyed Tryd.underlying9

/-- A map's element as it stands. -/
def Rv (v : Value) : Option (DataW Value × List MemPlace) := some (.held v, [])
def lt (a b : List UInt8) : Bool := (Lit.string a).before (.string b)

section
variable {α : Type}
abbrev MV (α : Type) := List (List UInt8 × α)
def insM (k : List UInt8) (n : α) : MV α → MV α
  | [] => [(k, n)]
  | y :: r => if lt k y.1 then (k, n) :: y :: r else y :: insM k n r
def delM (m : MV α) (k : List UInt8) : MV α := m.filter fun p => !(p.1 == k)
def putM (m : MV α) (k : List UInt8) (n : α) : MV α := insM k n (delM m k)
def getM (m : MV α) (k : List UInt8) : Option α := (m.find? fun p => p.1 == k).map (·.2)
variable (enc : α → Value)
def toD (m : MV α) : DataW Value := .map (m.map fun p => (.string p.1, .held (enc p.2)))

theorem sameKey_string (a b : List UInt8) : (Lit.string a).sameKey (.string b) = (a == b) := by
  simp [Lit.sameKey]
theorem toD_ins (k : List UInt8) (n : α) : ∀ m : MV α, DataW.insert ((.string k, .held (enc n)) : Lit × DataW Value) (m.map fun p => (Lit.string p.1, DataW.held (enc p.2))) = (insM k n m).map fun p => (Lit.string p.1, DataW.held (enc p.2))
  | [] => rfl
  | y :: r => by
    rw [List.map_cons, DataW.insert, insM]
    by_cases h : lt k y.1 = true
    · rw [if_pos h, if_pos (by exact h)]; rfl
    · rw [if_neg h, if_neg (by exact h), toD_ins k n r]; rfl
theorem toD_filter (k : List UInt8) (m : MV α) : ((m.map fun p => ((Lit.string p.1, DataW.held (enc p.2)) : Lit × DataW Value)).filter fun p => !p.1.sameKey (.string k)) = (delM m k).map fun p => (Lit.string p.1, DataW.held (enc p.2)) := by
  rw [delM, List.filter_map]
  congr 1
theorem toD_del (m : MV α) (k : List UInt8) : (toD enc m).del (.string k) = toD enc (delM m k) := by
  rw [toD, DataW.del, toD_filter]; rfl
theorem toD_put (m : MV α) (k : List UInt8) (n : α) : (toD enc m).put (.string k) (.held (enc n)) = toD enc (putM m k n) := by
  rw [toD, DataW.put, toD_filter, toD_ins]; rfl
theorem toD_find (m : MV α) (k : List UInt8) : (m.map fun p => ((Lit.string p.1, DataW.held (enc p.2)) : Lit × DataW Value)).find? (fun p => p.1.sameKey (.string k)) = (m.find? fun p => p.1 == k).map fun p => (Lit.string p.1, DataW.held (enc p.2)) := by
  rw [List.find?_map]
  congr 1
theorem toD_at (m : MV α) (k : List UInt8) (z : Value) : (toD enc m).atKey (.string k) (.held z) = .held (((getM m k).map enc).getD z) := by
  rw [toD, DataW.atKey, toD_find, getM]
  cases m.find? fun p => p.1 == k <;> rfl
theorem toD_has (m : MV α) (k : List UInt8) : Maps.has (toD enc m) (.string k) = (getM m k).isSome := by
  rw [toD, Maps.has_eq, getM, Option.isSome_map, List.any_map]
  induction m with
  | nil => rfl
  | cons y r ih =>
    rw [List.any_cons, List.find?_cons, ih]
    simp only [Function.comp, sameKey_string]
    cases h : y.1 == k <;> simp
theorem toD_size (m : MV α) : Maps.size (toD enc m) = m.length := by rw [toD, Maps.size_eq, List.length_map]
theorem getM_mem {m : MV α} {k : List UInt8} {n : α} (h : getM m k = some n) : (k, n) ∈ m := by
  rw [getM] at h
  obtain ⟨p, hp, rfl⟩ := Option.map_eq_some_iff.1 h
  have h1 := List.mem_of_find?_eq_some hp
  have h2 := List.find?_some hp
  have : p.1 = k := by simpa using h2
  subst this; exact h1
theorem mem_ins {k : List UInt8} {n : α} {p : List UInt8 × α} : ∀ {m : MV α}, p ∈ insM k n m ↔ p = (k, n) ∨ p ∈ m
  | [] => by simp [insM]
  | y :: r => by
    rw [insM]; split
    · simp
    · rw [List.mem_cons, mem_ins (m := r), List.mem_cons]
      constructor
      · rintro (h | h | h)
        · exact .inr (.inl h)
        · exact .inl h
        · exact .inr (.inr h)
      · rintro (h | h | h)
        · exact .inr (.inl h)
        · exact .inl h
        · exact .inr (.inr h)
theorem mem_del {k : List UInt8} {p : List UInt8 × α} {m : MV α} : p ∈ delM m k ↔ p ∈ m ∧ p.1 ≠ k := by
  rw [delM, List.mem_filter]; simp
theorem ins_perm (k : List UInt8) (n : α) : ∀ m : MV α, (insM k n m).Perm ((k, n) :: m)
  | [] => .refl _
  | y :: r => by
    rw [insM]; split
    · exact .refl _
    · exact ((ins_perm k n r).cons y).trans (.swap _ _ _)
theorem put_perm (k : List UInt8) (n : α) (m : MV α) : (putM m k n).Perm ((k, n) :: delM m k) := ins_perm k n _
theorem get_none_iff {m : MV α} {k : List UInt8} : getM m k = none ↔ ∀ p ∈ m, p.1 ≠ k := by
  rw [getM, Option.map_eq_none_iff, List.find?_eq_none]; simp

/-! ### the same keys, other elements -/
variable {β : Type} (g : α → β)
end

/-! ### in memory -/
theorem keyK (S : ByteArray) (hS : S.size ≤ maxLen) : keyOf Tryd.prog 9 (.string S) = some (.string S.data.toList) := keyOf_string_mk Tryd.underlying9 hS

section
variable {α : Type} {enc : α → Value}
set_option maxRecDepth 100000 in
/-- A look-up that does not say it. -/
theorem look_run1 {T e : TypeId} {z : Value} (hT : Tryd.prog.underlying T = some (.map 9 e)) (hz : ∀ w, (zeroValue e).run Tryd.prog w = .ok z w) {w : World} {b n : Nat} {m : MV α} (h : w.ownsMap Tryd.prog 9 Rv b n (toD enc m)) (S : ByteArray) (hS : S.size ≤ maxLen) :
    (Instr.lookup T (.map (some b)) (.string S) false).run Tryd.prog w = .ok (((getM m S.data.toList).map enc).getD z) w := by
  obtain ⟨v, hr, ps, hv⟩ : ∃ v, (Instr.lookup T (.map (some b)) (.string S) false).run Tryd.prog w = .ok v w ∧ ∃ ps, Rv v = some ((toD enc m).atKey (.string S.data.toList) (.held z), ps) := by
    obtain ⟨es, clock, hb, F, _, hD⟩ := h
    rw [hD]
    rcases Maps.fit_look false law hT (hz w) hb F (keyK S hS) with ⟨hrun, _, hat⟩ | ⟨e0, y, _, _, hrun, hRv, hat, _⟩
    · exact ⟨_, hrun, [], by rw [hat]; rfl⟩
    · exact ⟨_, hrun, y.2, by rw [hat]; exact hRv⟩
  rw [toD_at] at hv
  have e := congrArg Prod.fst (Option.some.inj hv)
  dsimp only at e
  injection e with e
  rw [hr, e]
end
end Go.Proofs.YtkdkifciajfpnaaDoor.Rf
/-
  Plain facts on texts as runes: what a walk over a text's runes meets, and which names may be. No program stands in this text.
-/
namespace Go.Proofs.YtkdkifciajfpnaaDoor.Nm

def byteN (l : List UInt8) (i : Nat) : Nat := (l.getD i 0).toNat
/-- The rune at a text's beginning, and how many bytes it has. -/
def dec (l : List UInt8) : Nat × Nat := Lib.decodeN l.length (byteN l 0) (byteN l 1) (byteN l 2) (byteN l 3)

theorem getB (s : ByteArray) (i : Nat) : s.get! i = s.data.toList.getD i 0 := (Lib.getD_get!' s i).symm

theorem decode_drop (s : ByteArray) (i : Nat) : Utf8.decode s i = dec (s.data.toList.drop i) := by
  rw [Lib.decode_at, dec, List.length_drop, ← Lib.size_eq]
  have h : ∀ k, (s.get! (i + k)).toNat = byteN (s.data.toList.drop i) k := fun k => by
    rw [getB]; simp [byteN, List.getD, List.getElem?_drop]
  rw [← h 0, ← h 1, ← h 2, ← h 3]
  rfl

theorem byteN_lt (l : List UInt8) (i : Nat) : byteN l i < 256 := (l.getD i 0).toNat_lt

set_option maxHeartbeats 1000000 in
/-- The width is at least 1 and at most what there is. -/
theorem dec_width (l : List UInt8) (h : l ≠ []) : 1 ≤ (dec l).2 ∧ (dec l).2 ≤ l.length ∧ (dec l).2 ≤ 4 := by
  have hl : 1 ≤ l.length := by cases l with | nil => exact absurd rfl h | cons a t => simp
  unfold dec Lib.decodeN
  repeat' split
  all_goals (dsimp only; omega)

set_option maxHeartbeats 1000000 in
theorem dec_bound (l : List UInt8) : (dec l).1 ≤ 1114111 := by
  have h0 := byteN_lt l 0; have h1 := byteN_lt l 1; have h2 := byteN_lt l 2; have h3 := byteN_lt l 3
  unfold dec Lib.decodeN
  repeat' split
  all_goals (dsimp only; omega)

set_option maxHeartbeats 1000000 in
/-- U+FFFD comes of its own three bytes, or of one byte that begins no rune. -/
theorem dec_error (l : List UInt8) (h : (dec l).1 = 65533) : (dec l).2 = 1 ∨ ((dec l).2 = 3 ∧ 2 < l.length ∧ byteN l 0 = 239 ∧ byteN l 1 = 191 ∧ byteN l 2 = 189) := by
  have h0 := byteN_lt l 0; have h1 := byteN_lt l 1; have h2 := byteN_lt l 2; have h3 := byteN_lt l 3
  revert h
  unfold dec Lib.decodeN
  repeat' split
  all_goals (dsimp only; intro h; first | (left; rfl) | (right; omega) | (exfalso; omega))

theorem dec_fffd (l : List UInt8) (hl : 2 < l.length) (h0 : byteN l 0 = 239) (h1 : byteN l 1 = 191) (h2 : byteN l 2 = 189) : dec l = (65533, 3) := by
  unfold dec Lib.decodeN
  rw [h0, h1, h2]
  simp [hl, show 1 < l.length by omega]

/-- Does U+FFFD stand there, written out? -/
theorem prefix_fffd (l : List UInt8) : Lib.hasPrefix l [239, 191, 189] = true ↔ (2 < l.length ∧ byteN l 0 = 239 ∧ byteN l 1 = 191 ∧ byteN l 2 = 189) := by
  rcases l with _ | ⟨a, _ | ⟨b, _ | ⟨c, t⟩⟩⟩
  · simp [Lib.hasPrefix]
  · simp [Lib.hasPrefix, List.isPrefixOf]
  · simp [Lib.hasPrefix, List.isPrefixOf]
  · simp only [Lib.hasPrefix, List.isPrefixOf, byteN, Bool.and_true, Bool.and_eq_true, beq_iff_eq, List.length_cons, List.getD_cons_zero, List.getD_cons_succ, ← UInt8.toNat_inj]
    constructor
    · rintro ⟨x, y, z⟩; exact ⟨by omega, x.symm, y.symm, z.symm⟩
    · rintro ⟨_, x, y, z⟩; exact ⟨x.symm, y.symm, z.symm⟩

/-- At a rune U+FFFD: a byte that begins no rune has the width 1. -/
theorem bad_iff (l : List UInt8) (h : (dec l).1 = 65533) : Lib.hasPrefix l [239, 191, 189] = !((dec l).2 == 1) := by
  rcases dec_error l h with h1 | ⟨h3, hh⟩
  · rw [h1]
    cases hp : Lib.hasPrefix l [239, 191, 189] with
    | false => rfl
    | true =>
      obtain ⟨a, b, c, d⟩ := (prefix_fffd l).1 hp
      rw [dec_fffd l a b c d] at h1; cases h1
  · rw [h3, (prefix_fffd l).2 hh]; rfl

/-! ### A text cut into its runes -/
def segF : Nat → List UInt8 → List (Nat × List UInt8)
  | 0, _ => []
  | f + 1, l => if l = [] then [] else ((dec l).1, l.take (dec l).2) :: segF f (l.drop (dec l).2)
/-- The runes of a text, each with its bytes; a byte that begins no rune is U+FFFD by itself. -/
def seg (l : List UInt8) : List (Nat × List UInt8) := segF l.length l

theorem segF_enough : ∀ (f g : Nat) (l : List UInt8), l.length ≤ f → l.length ≤ g → segF f l = segF g l
  | 0, g, l, hf, _ => by
    have : l = [] := by cases l with | nil => rfl | cons a t => simp at hf
    subst this; cases g <;> simp [segF]
  | f + 1, 0, l, _, hg => by
    have : l = [] := by cases l with | nil => rfl | cons a t => simp at hg
    subst this; simp [segF]
  | f + 1, g + 1, l, hf, hg => by
    by_cases h : l = []
    · subst h; simp [segF]
    · have hw := dec_width l h
      simp only [segF, if_neg h]
      rw [segF_enough f g _ (by rw [List.length_drop]; omega) (by rw [List.length_drop]; omega)]

@[simp] theorem seg_nil : seg [] = [] := rfl
theorem seg_cons (l : List UInt8) (h : l ≠ []) : seg l = ((dec l).1, l.take (dec l).2) :: seg (l.drop (dec l).2) := by
  have hw := dec_width l h
  unfold seg
  rw [segF_enough l.length ((l.length - 1) + 1) l (Nat.le_refl _) (by omega)]
  simp only [segF, if_neg h]
  rw [segF_enough (l.length - 1) (l.drop (dec l).2).length _ (by rw [List.length_drop]; omega) (Nat.le_refl _)]

theorem seg_induct {P : List UInt8 → Prop} (h0 : P []) (h1 : ∀ l, l ≠ [] → P (l.drop (dec l).2) → P l) (l : List UInt8) : P l := by
  suffices ∀ n (l : List UInt8), l.length ≤ n → P l from this _ l (Nat.le_refl _)
  intro n
  induction n with
  | zero => intro l h; have : l = [] := by { cases l with | nil => rfl | cons a t => simp at h }
            subst this; exact h0
  | succ n ih =>
    intro l h
    by_cases e : l = []
    · subst e; exact h0
    · have hw := dec_width l e
      exact h1 l e (ih _ (by rw [List.length_drop]; omega))

/-- No whole rune: a byte by itself. -/
def isBad (p : Nat × List UInt8) : Bool := p.1 == 65533 && p.2.length == 1
/-- All bytes are whole runes. -/
def okB (l : List UInt8) : Bool := (seg l).all fun p => !isBad p
def count (l : List UInt8) : Nat := (seg l).length

theorem isBad_head (l : List UInt8) (h : l ≠ []) : isBad ((dec l).1, l.take (dec l).2) = ((dec l).1 == 65533 && (dec l).2 == 1) := by
  have hw := dec_width l h
  simp only [isBad, List.length_take, Nat.min_eq_left hw.2.1]

theorem okB_bad (l : List UInt8) (h : l ≠ []) (h1 : (dec l).1 = 65533) (h2 : Lib.hasPrefix l [239, 191, 189] = false) : okB l = false := by
  rw [bad_iff l h1] at h2
  rw [okB, seg_cons l h, List.all_cons, isBad_head l h]
  simp at h2
  simp [h1, h2]

theorem okB_good (l : List UInt8) (h : l ≠ []) (h1 : (dec l).1 = 65533 → Lib.hasPrefix l [239, 191, 189] = true) : okB l = okB (l.drop (dec l).2) := by
  rw [okB, seg_cons l h, List.all_cons, isBad_head l h, ← okB]
  by_cases e : (dec l).1 = 65533
  · have := h1 e
    rw [bad_iff l e] at this
    simp at this
    simp [this]
  · simp [e]

theorem count_cons (l : List UInt8) (h : l ≠ []) : count l = count (l.drop (dec l).2) + 1 := by
  rw [count, seg_cons l h]; rfl
theorem count_le (l : List UInt8) : count l ≤ l.length := by
  induction l using seg_induct with
  | h0 => simp [count]
  | h1 l h ih => rw [count_cons l h]; have := dec_width l h; rw [List.length_drop] at ih; omega

/-- What 'whole' answers. -/
def whN (l : List UInt8) : Nat := if okB l then count l else 0

end Go.Proofs.YtkdkifciajfpnaaDoor.Nm
/-
  Plain facts on patterns: what it is to be like a pattern, and that the greedy way with one star kept finds it. No program stands in this text.
-/
namespace Go.Proofs.YtkdkifciajfpnaaDoor.Nm

/-! ### The greedy way -/
/-- What is left of the pattern is stars alone, told from its bytes. -/
def enc (r : Nat) : List UInt8 := (Utf8.encode (Int.ofNat r)).data.toList
theorem enc_eq (r : Nat) : enc r = (Utf8.encode (r : Int)).data.toList := by rw [enc, Int.ofNat_eq_natCast]
def encs (rs : List Nat) : List UInt8 := rs.flatMap enc
theorem encs_cons (r : Nat) (rs : List Nat) : encs (r :: rs) = enc r ++ encs rs := List.flatMap_cons

end Go.Proofs.YtkdkifciajfpnaaDoor.Nm
