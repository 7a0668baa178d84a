import Derived.Test.YtkeegnhjemhblaaGreatDoorProg
import Derived.Below
import Derived.ChangeSame
import Derived.WalkKit
import Derived.ProofKit
import Derived.OpenShut
import Derived.SizedLaws
import Derived.Lib.Strings
import Derived.Maps.OwnSet
import Derived.Maps.OwnOps
import Derived.StringKeys
set_option linter.unusedSimpArgs false
set_option linter.unusedVariables false
/-
  The last step of a row where 'Below' alone is known of the world behind the call.
-/
namespace Go.Proofs.YtkeegnhjemhblaaGreatDoor.Rk
open Go.RowKit Go.WideShapes Go.ChangeShapes
section
variable {H : Type} {enc : TypeId × Value → H} {P : Program}
theorem post_of_below {f : Func} {s : ChangeSpec} {apart fresh handsOn again : Bool} {W W' : World} {args : Array Value} {v : Value} {ds gs : List (DataW H)} {before pa pv : List MemPlace}
    (hW : DataW.Whole enc P f.params.toList s.vars apart W args.toList ds gs before)
    (hres : ∀ (b : Nat) (sp : Nat → Bool) (hd : Bool), DataW.TrodAll enc P W' b sp hd f.resultTypes.toList (v.resultList f.resultTypes.size) (s.fn H (ds ++ gs)).results [])
    (hargs : ∀ sp : Nat → Bool, (∀ p ∈ before, sp p.block = true) → DataW.TrodAll enc P W' 0 sp true f.params.toList args.toList (s.fn H (ds ++ gs)).args pa)
    (hvars : ∀ sp : Nat → Bool, (∀ p ∈ before, sp p.block = true) → DataW.TrodVars enc P W' sp s.vars (s.fn H (ds ++ gs)).vars pv)
    (hps : before = pa ++ pv) (hb : Below W.heap.size W W')
    (hok : ∀ (j : Nat) (t : TypeId) (r : Value), f.resultTypes[j]? = some t → (v.resultList f.resultTypes.size)[j]? = some r → Value.okWide P W' .any 0 t r) :
    s.post enc P f apart fresh handsOn again W args v W' := by
  have hlt : ∀ p ∈ before, p.block < W.heap.size := fun p hp => hW.lt p hp
  have hold : ∀ p ∈ before, (fun b => decide (b < W.heap.size)) p.block = true := fun p hp => by simpa using hlt p hp
  refine ⟨ds, gs, before, [], pa, pv, hW, hres _ _ _, hargs _ hold, hvars _ hold, World.keptBut_mono (fun p hp => ⟨hp, ?_⟩) (hb.frame (· ∈ before)), fun _ => ?_⟩
  · rw [hps, List.mem_append] at hp
    exact Or.inr hp
  · obtain ⟨_, _, _, _, _, hz, hn⟩ := hW
    refine ⟨hok, _, _, ([] ++ pa) ++ pv, ⟨[] ++ pa, pv, trodAll_append (hargs _ (fun _ _ => rfl)) (hres _ _ _), hvars _ (fun _ _ => rfl), rfl, ?_, ?_⟩, ?_⟩
    · intro b off hp
      have hin : MemPlace.cell b off ∈ before := by rw [hps]; simpa using hp
      rw [hb.frozen (hlt _ hin)]
      exact hz b off hin
    · intro ha
      have := hn ha
      rw [hps] at this
      simpa using this
    · intro p hp _
      rw [hps]
      simpa using hp
end

theorem size_le' {H : Type} {P : Program} {ts : List TypeId} {ds : List (DataW H)} (h : (DataW.weightsEach P ts ds).all (· ≤ reachBytes) = true) (j : Nat) {t : TypeId} {s : ByteArray} (ht : ts[j]? = some t) (hd : ds[j]? = some (.lit (.string s.data.toList))) : s.size ≤ 140737488351232 := by
  have h1 := sized_string h ht hd
  have h3 := Lib.size_eq s
  have h4 : reachBytes ≤ 140737488351232 := by decide
  omega
end Go.Proofs.YtkeegnhjemhblaaGreatDoor.Rk
/-
  Maps from texts to anything, as plain lists rising by key; how such a map lies in memory. 
-/
namespace Go.Proofs.YtkeegnhjemhblaaGreatDoor.Rf
open Go.RowKit Go.Maps Go.WideMaps

theorem law : Keyed Tryz.prog 9 := string_keyed Tryz.underlying9

/-- A map's element as it stands. -/
def Rv (v : Value) : Option (DataW Value × List MemPlace) := some (.held v, [])
def lt (a b : List UInt8) : Bool := (Lit.string a).before (.string b)

section
variable {α : Type}
abbrev MV (α : Type) := List (List UInt8 × α)
def insM (k : List UInt8) (n : α) : MV α → MV α
  | [] => [(k, n)]
  | y :: r => if lt k y.1 then (k, n) :: y :: r else y :: insM k n r
def delM (m : MV α) (k : List UInt8) : MV α := m.filter fun p => !(p.1 == k)
def putM (m : MV α) (k : List UInt8) (n : α) : MV α := insM k n (delM m k)
def getM (m : MV α) (k : List UInt8) : Option α := (m.find? fun p => p.1 == k).map (·.2)
variable (enc : α → Value)
def toD (m : MV α) : DataW Value := .map (m.map fun p => (.string p.1, .held (enc p.2)))

theorem sameKey_string (a b : List UInt8) : (Lit.string a).sameKey (.string b) = (a == b) := by
  simp [Lit.sameKey]
theorem toD_ins (k : List UInt8) (n : α) : ∀ m : MV α, DataW.insert ((.string k, .held (enc n)) : Lit × DataW Value) (m.map fun p => (Lit.string p.1, DataW.held (enc p.2))) = (insM k n m).map fun p => (Lit.string p.1, DataW.held (enc p.2))
  | [] => rfl
  | y :: r => by
    rw [List.map_cons, DataW.insert, insM]
    by_cases h : lt k y.1 = true
    · rw [if_pos h, if_pos (by exact h)]; rfl
    · rw [if_neg h, if_neg (by exact h), toD_ins k n r]; rfl
theorem toD_filter (k : List UInt8) (m : MV α) : ((m.map fun p => ((Lit.string p.1, DataW.held (enc p.2)) : Lit × DataW Value)).filter fun p => !p.1.sameKey (.string k)) = (delM m k).map fun p => (Lit.string p.1, DataW.held (enc p.2)) := by
  rw [delM, List.filter_map]
  congr 1
theorem toD_put (m : MV α) (k : List UInt8) (n : α) : (toD enc m).put (.string k) (.held (enc n)) = toD enc (putM m k n) := by
  rw [toD, DataW.put, toD_filter, toD_ins]; rfl
theorem toD_find (m : MV α) (k : List UInt8) : (m.map fun p => ((Lit.string p.1, DataW.held (enc p.2)) : Lit × DataW Value)).find? (fun p => p.1.sameKey (.string k)) = (m.find? fun p => p.1 == k).map fun p => (Lit.string p.1, DataW.held (enc p.2)) := by
  rw [List.find?_map]
  congr 1
theorem toD_at (m : MV α) (k : List UInt8) (z : Value) : (toD enc m).atKey (.string k) (.held z) = .held (((getM m k).map enc).getD z) := by
  rw [toD, DataW.atKey, toD_find, getM]
  cases m.find? fun p => p.1 == k <;> rfl
theorem toD_has (m : MV α) (k : List UInt8) : Maps.has (toD enc m) (.string k) = (getM m k).isSome := by
  rw [toD, Maps.has_eq, getM, Option.isSome_map, List.any_map]
  induction m with
  | nil => rfl
  | cons y r ih =>
    rw [List.any_cons, List.find?_cons, ih]
    simp only [Function.comp, sameKey_string]
    cases h : y.1 == k <;> simp
theorem toD_size (m : MV α) : Maps.size (toD enc m) = m.length := by rw [toD, Maps.size_eq, List.length_map]
theorem getM_mem {m : MV α} {k : List UInt8} {n : α} (h : getM m k = some n) : (k, n) ∈ m := by
  rw [getM] at h
  obtain ⟨p, hp, rfl⟩ := Option.map_eq_some_iff.1 h
  have h1 := List.mem_of_find?_eq_some hp
  have h2 := List.find?_some hp
  have : p.1 = k := by simpa using h2
  subst this; exact h1
theorem mem_ins {k : List UInt8} {n : α} {p : List UInt8 × α} : ∀ {m : MV α}, p ∈ insM k n m ↔ p = (k, n) ∨ p ∈ m
  | [] => by simp [insM]
  | y :: r => by
    rw [insM]; split
    · simp
    · rw [List.mem_cons, mem_ins (m := r), List.mem_cons]
      constructor
      · rintro (h | h | h)
        · exact .inr (.inl h)
        · exact .inl h
        · exact .inr (.inr h)
      · rintro (h | h | h)
        · exact .inr (.inl h)
        · exact .inl h
        · exact .inr (.inr h)
theorem mem_del {k : List UInt8} {p : List UInt8 × α} {m : MV α} : p ∈ delM m k ↔ p ∈ m ∧ p.1 ≠ k := by
  rw [delM, List.mem_filter]; simp
theorem ins_perm (k : List UInt8) (n : α) : ∀ m : MV α, (insM k n m).Perm ((k, n) :: m)
  | [] => .refl _
  | y :: r => by
    rw [insM]; split
    · exact .refl _
    · exact ((ins_perm k n r).cons y).trans (.swap _ _ _)
theorem put_perm (k : List UInt8) (n : α) (m : MV α) : (putM m k n).Perm ((k, n) :: delM m k) := ins_perm k n _
theorem get_none_iff {m : MV α} {k : List UInt8} : getM m k = none ↔ ∀ p ∈ m, p.1 ≠ k := by
  rw [getM, Option.map_eq_none_iff, List.find?_eq_none]; simp

/-! ### the same keys, other elements -/
variable {β : Type} (g : α → β)
def mapM' (m : MV α) : MV β := m.map fun p => (p.1, g p.2)
theorem map_ins (k : List UInt8) (n : α) : ∀ m : MV α, mapM' g (insM k n m) = insM k (g n) (mapM' g m)
  | [] => rfl
  | y :: r => by
    show (insM k n (y :: r)).map _ = insM k (g n) ((y.1, g y.2) :: mapM' g r)
    rw [insM, insM]
    by_cases h : lt k y.1 = true
    · rw [if_pos h, if_pos (by exact h)]; rfl
    · rw [if_neg h, if_neg (by exact h), List.map_cons, ← map_ins k n r]; rfl
theorem map_del (k : List UInt8) (m : MV α) : mapM' g (delM m k) = delM (mapM' g m) k := by
  rw [mapM', delM, delM, mapM', List.filter_map]; rfl
theorem map_put (k : List UInt8) (n : α) (m : MV α) : mapM' g (putM m k n) = putM (mapM' g m) k (g n) := by
  rw [putM, map_ins, map_del, putM]
theorem map_get (k : List UInt8) (m : MV α) : getM (mapM' g m) k = (getM m k).map g := by
  rw [getM, mapM', List.find?_map, getM, Option.map_map, Option.map_map]; rfl
theorem map_length (m : MV α) : (mapM' g m).length = m.length := List.length_map _
end

/-! ### in memory -/
theorem keyK (S : ByteArray) (hS : S.size ≤ maxLen) : keyOf Tryz.prog 9 (.string S) = some (.string S.data.toList) := keyOf_string_mk Tryz.underlying9 hS

section
variable {α : Type} {enc : α → Value}
set_option maxRecDepth 100000 in
/-- A look-up that says whether the key is there. -/
theorem look_run {T e : TypeId} {z : Value} (hT : Tryz.prog.underlying T = some (.map 9 e)) (hz : ∀ w, (zeroValue e).run Tryz.prog w = .ok z w) {w : World} {b n : Nat} {m : MV α} (h : w.ownsMap Tryz.prog 9 Rv b n (toD enc m)) (S : ByteArray) (hS : S.size ≤ maxLen) :
    (Instr.lookup T (.map (some b)) (.string S) true).run Tryz.prog w = .ok (.tuple #[((getM m S.data.toList).map enc).getD z, .bool (getM m S.data.toList).isSome]) w := by
  obtain ⟨v, ps, hr, hv⟩ := h.look_ok law hT (hz w) (zd := .held z) (zp := []) rfl (keyK S hS)
  rw [toD_at] at hv
  have e := congrArg Prod.fst (Option.some.inj hv)
  dsimp only at e
  injection e with e
  rw [hr, toD_has, e]
set_option maxRecDepth 100000 in
/-- A look-up that does not say it. -/
theorem look_run1 {T e : TypeId} {z : Value} (hT : Tryz.prog.underlying T = some (.map 9 e)) (hz : ∀ w, (zeroValue e).run Tryz.prog w = .ok z w) {w : World} {b n : Nat} {m : MV α} (h : w.ownsMap Tryz.prog 9 Rv b n (toD enc m)) (S : ByteArray) (hS : S.size ≤ maxLen) :
    (Instr.lookup T (.map (some b)) (.string S) false).run Tryz.prog w = .ok (((getM m S.data.toList).map enc).getD z) w := by
  obtain ⟨v, hr, ps, hv⟩ : ∃ v, (Instr.lookup T (.map (some b)) (.string S) false).run Tryz.prog w = .ok v w ∧ ∃ ps, Rv v = some ((toD enc m).atKey (.string S.data.toList) (.held z), ps) := by
    obtain ⟨es, clock, hb, F, _, hD⟩ := h
    rw [hD]
    rcases Maps.fit_look false law hT (hz w) hb F (keyK S hS) with ⟨hrun, _, hat⟩ | ⟨e0, y, _, _, hrun, hRv, hat, _⟩
    · exact ⟨_, hrun, [], by rw [hat]; rfl⟩
    · exact ⟨_, hrun, y.2, by rw [hat]; exact hRv⟩
  rw [toD_at] at hv
  have e := congrArg Prod.fst (Option.some.inj hv)
  dsimp only at e
  injection e with e
  rw [hr, e]
end
end Go.Proofs.YtkeegnhjemhblaaGreatDoor.Rf
