import Derived.Test.YtpbhkaokgpacoaaGreatDoorProg
import Derived.Below
import Derived.ChangeSame
import Derived.WalkKit
import Derived.ProofKit
import Derived.OpenShut
import Derived.SizedLaws
import Derived.Lib.Strings
import Derived.Maps.OwnSet
import Derived.Maps.OwnOps
import Derived.StringKeys
import Derived.Lib.BufSteps
import Derived.Lib.Hide
import Derived.Laws.AppendOwn
import Derived.Maps.AppendAt
import Derived.OwnWalk
import Derived.BigRegion
import Derived.BigQuiet
import Derived.BigCall
import Derived.BigGuard
import Derived.Deep.QuietTactic
import Derived.Laws.Bits64b
import Derived.Laws.BitsLemmas
import Derived.Laws.Shifts
import Derived.Laws.Closers25b
import Derived.Laws.BitsAllLaws
import Derived.Laws.Tables
import Derived.Laws.Rows
import Derived.Laws.CopyOwn
import Derived.Laws.ResultCell
import Derived.Deep.MidRow
import Derived.Lib.ConvBytes
import Derived.Laws.Bits64
import Derived.Lib.UnsafeStr
set_option linter.unusedSimpArgs false
set_option linter.unusedVariables false
/-
  The last step of a row where 'Below' alone is known of the world behind the call.
-/
namespace Go.Proofs.YtpbhkaokgpacoaaGreatDoor.Rk
open Go.RowKit Go.WideShapes Go.ChangeShapes
section
variable {H : Type} {enc : TypeId × Value → H} {P : Program}
theorem post_of_below {f : Func} {s : ChangeSpec} {apart fresh handsOn again : Bool} {W W' : World} {args : Array Value} {v : Value} {ds gs : List (DataW H)} {before pa pv : List MemPlace}
    (hW : DataW.Whole enc P f.params.toList s.vars apart W args.toList ds gs before)
    (hres : ∀ (b : Nat) (sp : Nat → Bool) (hd : Bool), DataW.TrodAll enc P W' b sp hd f.resultTypes.toList (v.resultList f.resultTypes.size) (s.fn H (ds ++ gs)).results [])
    (hargs : ∀ sp : Nat → Bool, (∀ p ∈ before, sp p.block = true) → DataW.TrodAll enc P W' 0 sp true f.params.toList args.toList (s.fn H (ds ++ gs)).args pa)
    (hvars : ∀ sp : Nat → Bool, (∀ p ∈ before, sp p.block = true) → DataW.TrodVars enc P W' sp s.vars (s.fn H (ds ++ gs)).vars pv)
    (hps : before = pa ++ pv) (hb : Below W.heap.size W W')
    (hok : ∀ (j : Nat) (t : TypeId) (r : Value), f.resultTypes[j]? = some t → (v.resultList f.resultTypes.size)[j]? = some r → Value.okWide P W' .any 0 t r) :
    s.post enc P f apart fresh handsOn again W args v W' := by
  have hlt : ∀ p ∈ before, p.block < W.heap.size := fun p hp => hW.lt p hp
  have hold : ∀ p ∈ before, (fun b => decide (b < W.heap.size)) p.block = true := fun p hp => by simpa using hlt p hp
  refine ⟨ds, gs, before, [], pa, pv, hW, hres _ _ _, hargs _ hold, hvars _ hold, World.keptBut_mono (fun p hp => ⟨hp, ?_⟩) (hb.frame (· ∈ before)), fun _ => ?_⟩
  · rw [hps, List.mem_append] at hp
    exact Or.inr hp
  · obtain ⟨_, _, _, _, _, hz, hn⟩ := hW
    refine ⟨hok, _, _, ([] ++ pa) ++ pv, ⟨[] ++ pa, pv, trodAll_append (hargs _ (fun _ _ => rfl)) (hres _ _ _), hvars _ (fun _ _ => rfl), rfl, ?_, ?_⟩, ?_⟩
    · intro b off hp
      have hin : MemPlace.cell b off ∈ before := by rw [hps]; simpa using hp
      rw [hb.frozen (hlt _ hin)]
      exact hz b off hin
    · intro ha
      have := hn ha
      rw [hps] at this
      simpa using this
    · intro p hp _
      rw [hps]
      simpa using hp
end

/-- A string's size, out of the form's own reach. -/
theorem size_le {H : Type} {P : Program} {ts : List TypeId} {ds : List (DataW H)} (h : (DataW.weightsEach P ts ds).all (· ≤ reachBytes) = true) (j : Nat) {t : TypeId} {s : ByteArray} (ht : ts[j]? = some t) (hd : ds[j]? = some (.lit (.string s.data.toList))) : s.size ≤ 140737488355328 := by
  have h1 := sized_string h ht hd
  have h2 := reachBytes_lt
  have h3 := Lib.size_eq s
  have h4 : (2 : Nat) ^ 47 = 140737488355328 := by decide
  omega
theorem size_le' {H : Type} {P : Program} {ts : List TypeId} {ds : List (DataW H)} (h : (DataW.weightsEach P ts ds).all (· ≤ reachBytes) = true) (j : Nat) {t : TypeId} {s : ByteArray} (ht : ts[j]? = some t) (hd : ds[j]? = some (.lit (.string s.data.toList))) : s.size ≤ 140737488351232 := by
  have h1 := sized_string h ht hd
  have h3 := Lib.size_eq s
  have h4 : reachBytes ≤ 140737488351232 := by decide
  omega
end Go.Proofs.YtpbhkaokgpacoaaGreatDoor.Rk
/-
  Maps from texts to anything, as plain lists rising by key; how such a map lies in memory. 
-/
namespace Go.Proofs.YtpbhkaokgpacoaaGreatDoor.Rf
open Go.RowKit Go.Maps Go.WideMaps

theorem law : Keyed Tryz.prog 9 := string_keyed Tryz.underlying9

/-- A map's element as it stands. -/
def Rv (v : Value) : Option (DataW Value × List MemPlace) := some (.held v, [])
def lt (a b : List UInt8) : Bool := (Lit.string a).before (.string b)

section
variable {α : Type}
abbrev MV (α : Type) := List (List UInt8 × α)
def insM (k : List UInt8) (n : α) : MV α → MV α
  | [] => [(k, n)]
  | y :: r => if lt k y.1 then (k, n) :: y :: r else y :: insM k n r
def delM (m : MV α) (k : List UInt8) : MV α := m.filter fun p => !(p.1 == k)
def putM (m : MV α) (k : List UInt8) (n : α) : MV α := insM k n (delM m k)
def getM (m : MV α) (k : List UInt8) : Option α := (m.find? fun p => p.1 == k).map (·.2)
variable (enc : α → Value)
def toD (m : MV α) : DataW Value := .map (m.map fun p => (.string p.1, .held (enc p.2)))

theorem sameKey_string (a b : List UInt8) : (Lit.string a).sameKey (.string b) = (a == b) := by
  simp [Lit.sameKey]
theorem toD_ins (k : List UInt8) (n : α) : ∀ m : MV α, DataW.insert ((.string k, .held (enc n)) : Lit × DataW Value) (m.map fun p => (Lit.string p.1, DataW.held (enc p.2))) = (insM k n m).map fun p => (Lit.string p.1, DataW.held (enc p.2))
  | [] => rfl
  | y :: r => by
    rw [List.map_cons, DataW.insert, insM]
    by_cases h : lt k y.1 = true
    · rw [if_pos h, if_pos (by exact h)]; rfl
    · rw [if_neg h, if_neg (by exact h), toD_ins k n r]; rfl
theorem toD_filter (k : List UInt8) (m : MV α) : ((m.map fun p => ((Lit.string p.1, DataW.held (enc p.2)) : Lit × DataW Value)).filter fun p => !p.1.sameKey (.string k)) = (delM m k).map fun p => (Lit.string p.1, DataW.held (enc p.2)) := by
  rw [delM, List.filter_map]
  congr 1
theorem toD_del (m : MV α) (k : List UInt8) : (toD enc m).del (.string k) = toD enc (delM m k) := by
  rw [toD, DataW.del, toD_filter]; rfl
theorem toD_put (m : MV α) (k : List UInt8) (n : α) : (toD enc m).put (.string k) (.held (enc n)) = toD enc (putM m k n) := by
  rw [toD, DataW.put, toD_filter, toD_ins]; rfl
theorem toD_find (m : MV α) (k : List UInt8) : (m.map fun p => ((Lit.string p.1, DataW.held (enc p.2)) : Lit × DataW Value)).find? (fun p => p.1.sameKey (.string k)) = (m.find? fun p => p.1 == k).map fun p => (Lit.string p.1, DataW.held (enc p.2)) := by
  rw [List.find?_map]
  congr 1
theorem toD_at (m : MV α) (k : List UInt8) (z : Value) : (toD enc m).atKey (.string k) (.held z) = .held (((getM m k).map enc).getD z) := by
  rw [toD, DataW.atKey, toD_find, getM]
  cases m.find? fun p => p.1 == k <;> rfl
theorem toD_has (m : MV α) (k : List UInt8) : Maps.has (toD enc m) (.string k) = (getM m k).isSome := by
  rw [toD, Maps.has_eq, getM, Option.isSome_map, List.any_map]
  induction m with
  | nil => rfl
  | cons y r ih =>
    rw [List.any_cons, List.find?_cons, ih]
    simp only [Function.comp, sameKey_string]
    cases h : y.1 == k <;> simp
theorem toD_size (m : MV α) : Maps.size (toD enc m) = m.length := by rw [toD, Maps.size_eq, List.length_map]
theorem toD_nil : toD enc ([] : MV α) = .map [] := rfl

theorem getM_mem {m : MV α} {k : List UInt8} {n : α} (h : getM m k = some n) : (k, n) ∈ m := by
  rw [getM] at h
  obtain ⟨p, hp, rfl⟩ := Option.map_eq_some_iff.1 h
  have h1 := List.mem_of_find?_eq_some hp
  have h2 := List.find?_some hp
  have : p.1 = k := by simpa using h2
  subst this; exact h1
theorem mem_ins {k : List UInt8} {n : α} {p : List UInt8 × α} : ∀ {m : MV α}, p ∈ insM k n m ↔ p = (k, n) ∨ p ∈ m
  | [] => by simp [insM]
  | y :: r => by
    rw [insM]; split
    · simp
    · rw [List.mem_cons, mem_ins (m := r), List.mem_cons]
      constructor
      · rintro (h | h | h)
        · exact .inr (.inl h)
        · exact .inl h
        · exact .inr (.inr h)
      · rintro (h | h | h)
        · exact .inr (.inl h)
        · exact .inl h
        · exact .inr (.inr h)
theorem mem_del {k : List UInt8} {p : List UInt8 × α} {m : MV α} : p ∈ delM m k ↔ p ∈ m ∧ p.1 ≠ k := by
  rw [delM, List.mem_filter]; simp
theorem ins_perm (k : List UInt8) (n : α) : ∀ m : MV α, (insM k n m).Perm ((k, n) :: m)
  | [] => .refl _
  | y :: r => by
    rw [insM]; split
    · exact .refl _
    · exact ((ins_perm k n r).cons y).trans (.swap _ _ _)
theorem put_perm (k : List UInt8) (n : α) (m : MV α) : (putM m k n).Perm ((k, n) :: delM m k) := ins_perm k n _
theorem find_ins_hit {k : List UInt8} {n : α} : ∀ {m : MV α}, (∀ p ∈ m, p.1 ≠ k) → (insM k n m).find? (fun p => p.1 == k) = some (k, n)
  | [], _ => by simp [insM]
  | y :: r, h => by
    rw [insM]; split
    · simp
    · rw [List.find?_cons_of_neg (by simpa using h y (by simp)), find_ins_hit (fun p hp => h p (by simp [hp]))]
theorem find_ins_miss {k j : List UInt8} {n : α} (hne : k ≠ j) : ∀ {m : MV α}, (insM k n m).find? (fun p => p.1 == j) = m.find? (fun p => p.1 == j)
  | [] => by simp [insM, hne]
  | y :: r => by
    rw [insM]; split
    · rw [List.find?_cons_of_neg (by simpa using hne)]
    · rw [List.find?_cons, List.find?_cons, find_ins_miss hne]
theorem get_put_same (m : MV α) (k : List UInt8) (n : α) : getM (putM m k n) k = some n := by
  rw [getM, putM, find_ins_hit (fun p hp => (mem_del.1 hp).2)]; rfl
theorem find_del_other {k j : List UInt8} (hne : k ≠ j) (m : MV α) : (delM m k).find? (fun p => p.1 == j) = m.find? (fun p => p.1 == j) := by
  rw [delM, List.find?_filter]
  congr 1; funext p
  by_cases h : p.1 = j
  · subst h; simp [Ne.symm hne]
  · simp [h]
theorem get_put_other (m : MV α) {k j : List UInt8} (n : α) (hne : k ≠ j) : getM (putM m k n) j = getM m j := by
  rw [getM, putM, find_ins_miss hne, find_del_other hne]; rfl
theorem get_del_same (m : MV α) (k : List UInt8) : getM (delM m k) k = none := by
  rw [getM, Option.map_eq_none_iff, List.find?_eq_none]
  intro p hp
  simpa using (mem_del.1 hp).2
theorem get_del_other (m : MV α) {k j : List UInt8} (hne : k ≠ j) : getM (delM m k) j = getM m j := by
  rw [getM, find_del_other hne]; rfl
theorem get_none_iff {m : MV α} {k : List UInt8} : getM m k = none ↔ ∀ p ∈ m, p.1 ≠ k := by
  rw [getM, Option.map_eq_none_iff, List.find?_eq_none]; simp

/-! ### the same keys, other elements -/
variable {β : Type} (g : α → β)
def mapM' (m : MV α) : MV β := m.map fun p => (p.1, g p.2)
theorem map_ins (k : List UInt8) (n : α) : ∀ m : MV α, mapM' g (insM k n m) = insM k (g n) (mapM' g m)
  | [] => rfl
  | y :: r => by
    show (insM k n (y :: r)).map _ = insM k (g n) ((y.1, g y.2) :: mapM' g r)
    rw [insM, insM]
    by_cases h : lt k y.1 = true
    · rw [if_pos h, if_pos (by exact h)]; rfl
    · rw [if_neg h, if_neg (by exact h), List.map_cons, ← map_ins k n r]; rfl
theorem map_del (k : List UInt8) (m : MV α) : mapM' g (delM m k) = delM (mapM' g m) k := by
  rw [mapM', delM, delM, mapM', List.filter_map]; rfl
theorem map_put (k : List UInt8) (n : α) (m : MV α) : mapM' g (putM m k n) = putM (mapM' g m) k (g n) := by
  rw [putM, map_ins, map_del, putM]
theorem map_get (k : List UInt8) (m : MV α) : getM (mapM' g m) k = (getM m k).map g := by
  rw [getM, mapM', List.find?_map, getM, Option.map_map, Option.map_map]; rfl
theorem map_length (m : MV α) : (mapM' g m).length = m.length := List.length_map _
end

/-! ### in memory -/
theorem keyK (S : ByteArray) (hS : S.size ≤ maxLen) : keyOf Tryz.prog 9 (.string S) = some (.string S.data.toList) := keyOf_string_mk Tryz.underlying9 hS

section
variable {α : Type} {enc : α → Value}
set_option maxRecDepth 100000 in
/-- A look-up that says whether the key is there. -/
theorem look_run {T e : TypeId} {z : Value} (hT : Tryz.prog.underlying T = some (.map 9 e)) (hz : ∀ w, (zeroValue e).run Tryz.prog w = .ok z w) {w : World} {b n : Nat} {m : MV α} (h : w.ownsMap Tryz.prog 9 Rv b n (toD enc m)) (S : ByteArray) (hS : S.size ≤ maxLen) :
    (Instr.lookup T (.map (some b)) (.string S) true).run Tryz.prog w = .ok (.tuple #[((getM m S.data.toList).map enc).getD z, .bool (getM m S.data.toList).isSome]) w := by
  obtain ⟨v, ps, hr, hv⟩ := h.look_ok law hT (hz w) (zd := .held z) (zp := []) rfl (keyK S hS)
  rw [toD_at] at hv
  have e := congrArg Prod.fst (Option.some.inj hv)
  dsimp only at e
  injection e with e
  rw [hr, toD_has, e]
set_option maxRecDepth 100000 in
/-- A look-up that does not say it. -/
theorem look_run1 {T e : TypeId} {z : Value} (hT : Tryz.prog.underlying T = some (.map 9 e)) (hz : ∀ w, (zeroValue e).run Tryz.prog w = .ok z w) {w : World} {b n : Nat} {m : MV α} (h : w.ownsMap Tryz.prog 9 Rv b n (toD enc m)) (S : ByteArray) (hS : S.size ≤ maxLen) :
    (Instr.lookup T (.map (some b)) (.string S) false).run Tryz.prog w = .ok (((getM m S.data.toList).map enc).getD z) w := by
  obtain ⟨v, hr, ps, hv⟩ : ∃ v, (Instr.lookup T (.map (some b)) (.string S) false).run Tryz.prog w = .ok v w ∧ ∃ ps, Rv v = some ((toD enc m).atKey (.string S.data.toList) (.held z), ps) := by
    obtain ⟨es, clock, hb, F, _, hD⟩ := h
    rw [hD]
    rcases Maps.fit_look false law hT (hz w) hb F (keyK S hS) with ⟨hrun, _, hat⟩ | ⟨e0, y, _, _, hrun, hRv, hat, _⟩
    · exact ⟨_, hrun, [], by rw [hat]; rfl⟩
    · exact ⟨_, hrun, y.2, by rw [hat]; exact hRv⟩
  rw [toD_at] at hv
  have e := congrArg Prod.fst (Option.some.inj hv)
  dsimp only at e
  injection e with e
  rw [hr, e]
end
end Go.Proofs.YtpbhkaokgpacoaaGreatDoor.Rf
/-
  What may have turned; blocks and rows that a call owns.
-/
namespace Go.Proofs.YtpbhkaokgpacoaaGreatDoor.Rf
open Go.RowKit Go.Maps

/-- Only the blocks of X may have turned; what is new lies behind. -/
structure Turn (X : List Nat) (w w' : World) : Prop where
  os : w'.os = w.os
  tape : w'.tape = w.tape
  output : w'.output = w.output
  size : w.heap.size ≤ w'.heap.size
  block : ∀ k, k < w.heap.size → k ∉ X → w'.heap[k]? = w.heap[k]?

theorem Turn.refl (X : List Nat) (w : World) : Turn X w w := ⟨rfl, rfl, rfl, Nat.le_refl _, fun _ _ _ => rfl⟩
theorem Turn.trans {X Y : List Nat} {a b c : World} (h : Turn X a b) (k : Turn Y b c) (hY : ∀ y ∈ Y, y ∈ X ∨ a.heap.size ≤ y) : Turn X a c :=
  ⟨k.os.trans h.os, k.tape.trans h.tape, k.output.trans h.output, Nat.le_trans h.size k.size, fun j hj hx => by
    rw [k.block j (Nat.lt_of_lt_of_le hj h.size) (fun hy => (hY j hy).elim hx (by omega)), h.block j hj hx]⟩
theorem Turn.mono {X Y : List Nat} {a b : World} (h : Turn X a b) (hX : ∀ x ∈ X, x ∈ Y) : Turn Y a b :=
  ⟨h.os, h.tape, h.output, h.size, fun k hk hy => h.block k hk (fun hx => hy (hX k hx))⟩
theorem Turn.alloc {X : List Nat} {a b : World} (h : Turn X a b) (o : Obj) : Turn X a (b.alloc o) :=
  ⟨h.os, h.tape, h.output, Nat.le_trans h.size (by show b.heap.size ≤ (b.heap.push o).size; rw [Array.size_push]; omega), fun k hk hx => (Below.heap_alloc _ _ _ (Nat.lt_of_lt_of_le hk h.size)).trans (h.block k hk hx)⟩
theorem Turn.drew {X : List Nat} {a b : World} (h : Turn X a b) : Turn X a b.drew := ⟨h.os, h.tape, h.output, h.size, h.block⟩
theorem Turn.setCell {X : List Nat} {a b : World} (h : Turn X a b) {p : Addr} (hp : p.block ∈ X ∨ a.heap.size ≤ p.block) (v : Value) : Turn X a (b.setCell p v) :=
  ⟨h.os, h.tape, h.output, by simpa [World.setCell] using h.size, fun k hk hx => by
    rw [Below.heap_setCell _ _ _ _ (by intro e; subst e; exact hp.elim hx (by omega))]; exact h.block k hk hx⟩
theorem Turn.of_below {X : List Nat} {a b : World} (h : Below a.heap.size a b) : Turn X a b := ⟨h.os, h.tape, h.output, h.size, fun k hk _ => h.block k hk⟩
theorem Turn.below {X : List Nat} {B : Nat} {a b : World} (h : Turn X a b) (hX : ∀ x ∈ X, B ≤ x) (hB : B ≤ a.heap.size) : Below B a b :=
  ⟨h.os, h.tape, h.output, h.size, fun k hk => h.block k (by omega) (fun hx => by have := hX k hx; omega)⟩

theorem setCell_heap (w : World) (g j : Nat) (v : Value) (cur : Array Value) (T : TypeId) (h : w.heap[g]? = some (.cells cur T)) :
    (w.setCell ⟨g, j, none⟩ v).heap[g]? = some (.cells (cur.setIfInBounds j v) T) := by
  simp [World.setCell, Array.getElem?_modify, h]
theorem cell_of_heap {w : World} {g j : Nat} {cur : Array Value} {T : TypeId} (h : w.heap[g]? = some (.cells cur T)) : w.cell? ⟨g, j, none⟩ = cur[j]? := by
  simp [World.cell?, h]
theorem frozen_of_heap {w : World} {g j : Nat} {cur : Array Value} {T : TypeId} (h : w.heap[g]? = some (.cells cur T)) : w.frozen? ⟨g, j, none⟩ = false := by
  simp [World.frozen?, h]

def ob (v : Value) : List Nat := v.ownBlock.toList
abbrev ptr (n : Nat) : Value := .pointer (some ⟨n, 0, none⟩)
theorem ownsRow_block {w w' : World} {B : Nat} {e : TypeId} {size : Nat} {v : Value} {n : Nat} {xs : List Value} (h : w.ownsRow B e size v n xs) (hb : ∀ b ∈ ob v, w'.heap[b]? = w.heap[b]?) : w'.ownsRow B e size v n xs := by
  obtain ⟨h1, h2 | ⟨g, cap, cur, rfl, a, b, c⟩⟩ := h
  · exact ⟨h1, .inl h2⟩
  · exact ⟨h1, .inr ⟨g, cap, cur, rfl, a, (hb g (by simp [ob, Value.ownBlock])).trans b, c⟩⟩
theorem ownsMap_block {w w' : World} {R : Value → Option (DataW Value × List MemPlace)} {k : TypeId} {b n : Nat} {D : DataW Value} (h : w.ownsMap Tryz.prog k R b n D) (hb : w'.heap[b]? = w.heap[b]?) : w'.ownsMap Tryz.prog k R b n D := by
  obtain ⟨es, clock, h1, h2⟩ := h
  exact ⟨es, clock, hb.trans h1, h2⟩
theorem lt_of_heap {w : World} {q : Nat} {o : Obj} (h : w.heap[q]? = some o) : q < w.heap.size := (Array.getElem?_eq_some_iff.1 h).1
theorem row_kept {w w' : World} {B : Nat} {e : TypeId} {v : Value} {n : Nat} {xs : List Value} (h : w.ownsRow B e 1 v n xs) (hb : ∀ b ∈ ob v, b < w.heap.size → w'.heap[b]? = w.heap[b]?) : w'.ownsRow B e 1 v n xs := by
  obtain ⟨h1, h2 | ⟨g, cap, cur, rfl, a, b, c⟩⟩ := h
  · exact ⟨h1, .inl h2⟩
  · exact ⟨h1, .inr ⟨g, cap, cur, rfl, a, (hb g (by simp [ob, Value.ownBlock]) (lt_of_heap b)).trans b, c⟩⟩

theorem row_lt {w : World} {B : Nat} {e : TypeId} {v : Value} {n : Nat} {xs : List Value} (h : w.ownsRow B e 1 v n xs) : ∀ b ∈ ob v, b < w.heap.size := by
  obtain ⟨_, ⟨rfl, _⟩ | ⟨g, cap, cur, rfl, _, hh, _⟩⟩ := h
  · intro b hb; simp [ob, Value.ownBlock] at hb
  · intro b hb; simp [ob, Value.ownBlock] at hb; subst hb; exact lt_of_heap hh
theorem row_ge {w : World} {B : Nat} {e : TypeId} {v : Value} {n : Nat} {xs : List Value} (h : w.ownsRow B e 1 v n xs) : ∀ b ∈ ob v, B ≤ b := by
  obtain ⟨_, ⟨rfl, _⟩ | ⟨g, cap, cur, rfl, hg, _⟩⟩ := h
  · intro b hb; simp [ob, Value.ownBlock] at hb
  · intro b hb; simp [ob, Value.ownBlock] at hb; subst hb; exact hg
theorem ob_nodup (v : Value) : (ob v).Nodup := by
  unfold ob; cases v.ownBlock <;> simp

theorem row_mono {w : World} {B B' : Nat} {e : TypeId} {size : Nat} {v : Value} {n : Nat} {xs : List Value} (h : w.ownsRow B e size v n xs) (hB : B' ≤ B) : w.ownsRow B' e size v n xs := by
  obtain ⟨h1, h2 | ⟨g, cap, cur, rfl, hg, rest⟩⟩ := h
  · exact ⟨h1, .inl h2⟩
  · exact ⟨h1, .inr ⟨g, cap, cur, rfl, Nat.le_trans hB hg, rest⟩⟩
theorem row_cells {w : World} {B : Nat} {e : TypeId} {v : Value} {n : Nat} {xs : List Value} (h : w.ownsRow B e 1 v n xs) (hn : n ≠ 0) : ∃ g cap, v = .slice (some ⟨g, 0, none⟩) n cap ∧ g < w.heap.size ∧ B ≤ g ∧ ∀ (j : Nat) x, xs[j]? = some x → w.cell? ⟨g, j, none⟩ = some x := by
  obtain ⟨h1, ⟨_, h2⟩ | ⟨g, cap, cur, rfl, hg, hh, _, _, _, ht⟩⟩ := h
  · exact absurd h2 hn
  · refine ⟨g, cap, rfl, lt_of_heap hh, hg, fun j x hj => ?_⟩
    have hjl : j < n := by have := (List.getElem?_eq_some_iff.1 hj).1; omega
    rw [cell_of_heap hh]
    have := congrArg (fun l => l[j]?) ht
    simp only [Nat.mul_one] at this
    rw [List.getElem?_take_of_lt hjl, Array.getElem?_toList, hj] at this
    exact this

/-- One piece of a list of blocks put in another's place. -/
theorem nodup_swap {L1 M M' L2 : List Nat} {N : Nat} (h : (L1 ++ (M ++ L2)).Nodup) (hM : M'.Nodup) (hsub : ∀ x ∈ M', x ∈ M ∨ N ≤ x) (h1 : ∀ x ∈ L1, x < N) (h2 : ∀ x ∈ L2, x < N) : (L1 ++ (M' ++ L2)).Nodup := by
  rw [List.nodup_append] at h ⊢
  obtain ⟨a, b, c⟩ := h
  rw [List.nodup_append] at b ⊢
  obtain ⟨b1, b2, b3⟩ := b
  refine ⟨a, ⟨hM, b2, ?_⟩, ?_⟩
  · intro x hx y hy e
    subst e
    rcases hsub x hx with k | k
    · exact b3 x k x hy rfl
    · have := h2 x hy; omega
  · intro x hx y hy e
    subst e
    rcases List.mem_append.1 hy with k | k
    · rcases hsub x k with k | k
      · exact c x hx x (List.mem_append_left _ k) rfl
      · have := h1 x hx; omega
    · exact c x hx x (List.mem_append_right _ k) rfl
theorem nodup_apart {L1 M L2 : List Nat} (h : (L1 ++ (M ++ L2)).Nodup) {x : Nat} (hx : x ∈ L1 ∨ x ∈ L2) : x ∉ M := by
  rw [List.nodup_append] at h
  obtain ⟨a, b, c⟩ := h
  rw [List.nodup_append] at b
  intro hm
  rcases hx with k | k
  · exact c x k x (List.mem_append_left _ hm) rfl
  · exact b.2.2 x hm x k rfl

theorem split_at {α : Type} {l : List α} {i : Nat} {p : α} (h : l[i]? = some p) : ∃ A C, l = A ++ p :: C ∧ A.length = i ∧ ∀ p', l.set i p' = A ++ p' :: C := by
  have hi : i < l.length := (List.getElem?_eq_some_iff.1 h).1
  refine ⟨l.take i, l.drop (i + 1), ?_, by simp; omega, fun p' => ?_⟩
  · have : l.drop i = p :: l.drop (i + 1) := by rw [List.drop_eq_getElem_cons hi]; congr 1; exact Option.some.inj ((List.getElem?_eq_getElem hi).symm.trans h)
    rw [← this, List.take_append_drop]
  · rw [List.set_eq_take_append_cons_drop, if_pos hi]

end Go.Proofs.YtpbhkaokgpacoaaGreatDoor.Rf
/-
  SHA-256 in plain words: the words of a block, its rounds, the sum of bytes.
-/
namespace Go.Proofs.YtpbhkaokgpacoaaGreatDoor.Sh

/-- A word, turned right. -/
def rot (n : Nat) (x : Int) : Int := bits .or .u32 (x / 2 ^ n) (x * 2 ^ (32 - n) % 4294967296)
abbrev xor (a b : Int) : Int := bits .xor .u32 a b
abbrev and (a b : Int) : Int := bits .and .u32 a b
abbrev add (a b : Int) : Int := (a + b) % 4294967296
/-- Three turns, joined. -/
def tri (a b c : Nat) (x : Int) : Int := xor (xor (rot a x) (rot b x)) (rot c x)
def sg0 (x : Int) : Int := xor (xor (rot 7 x) (rot 18 x)) (x / 8)
def sg1 (y : Int) : Int := xor (xor (rot 17 y) (rot 19 y)) (y / 1024)
/-- The next word. -/
def nxt (W : List Int) (t : Nat) : Int := add (add (add (sg1 (W.getD (t - 2) 0)) (W.getD (t - 7) 0)) (sg0 (W.getD (t - 15) 0))) (W.getD (t - 16) 0)
/-- Words up to the t-th. -/
def sch (W : List Int) : Nat → List Int
  | 0 => W
  | k + 1 => sch W k ++ [nxt (sch W k) (16 + k)]
/-- Eight words. -/
structure V8 where
  (a b c d e f g h : Int)
deriving DecidableEq
def V8.list (v : V8) : List Int := [v.a, v.b, v.c, v.d, v.e, v.f, v.g, v.h]
def inv (x : Int) : Int := bits .xor .u32 IntKind.u32.max x
def t1 (v : V8) (k x : Int) : Int := (v.h + tri 6 11 25 v.e + xor (and v.e v.f) (and (inv v.e) v.g) + k + x) % 4294967296
def t2 (v : V8) : Int := add (tri 2 13 22 v.a) (xor (xor (and v.a v.b) (and v.a v.c)) (and v.b v.c))
/-- A round. -/
def rnd (v : V8) (k x : Int) : V8 := ⟨add (t1 v k x) (t2 v), v.a, v.b, v.c, add v.d (t1 v k x), v.e, v.f, v.g⟩
def rnds (K W : List Int) (v : V8) : Nat → V8
  | 0 => v
  | t + 1 => rnd (rnds K W v t) (K.getD t 0) (W.getD t 0)
def V8.add (u v : V8) : V8 := ⟨Sh.add u.a v.a, Sh.add u.b v.b, Sh.add u.c v.c, Sh.add u.d v.d, Sh.add u.e v.e, Sh.add u.f v.f, Sh.add u.g v.g, Sh.add u.h v.h⟩
/-- A number of some bytes. -/
def num (B : List UInt8) : Int := B.foldl (fun x b => x * 256 + (b.toNat : Int)) 0
/-- The j-th word of a block. -/
def wrd (B : List UInt8) (j : Nat) : Int := num ((B.drop (4 * j)).take 4)
def wrds (B : List UInt8) : List Int := (List.range 16).map (wrd B)
def K64 : List Int := [0x428a2f98, 0x71374491, 0xb5c0fbcf, 0xe9b5dba5, 0x3956c25b, 0x59f111f1, 0x923f82a4, 0xab1c5ed5,
  0xd807aa98, 0x12835b01, 0x243185be, 0x550c7dc3, 0x72be5d74, 0x80deb1fe, 0x9bdc06a7, 0xc19bf174,
  0xe49b69c1, 0xefbe4786, 0x0fc19dc6, 0x240ca1cc, 0x2de92c6f, 0x4a7484aa, 0x5cb0a9dc, 0x76f988da,
  0x983e5152, 0xa831c66d, 0xb00327c8, 0xbf597fc7, 0xc6e00bf3, 0xd5a79147, 0x06ca6351, 0x14292967,
  0x27b70a85, 0x2e1b2138, 0x4d2c6dfc, 0x53380d13, 0x650a7354, 0x766a0abb, 0x81c2c92e, 0x92722c85,
  0xa2bfe8a1, 0xa81a664b, 0xc24b8b70, 0xc76c51a3, 0xd192e819, 0xd6990624, 0xf40e3585, 0x106aa070,
  0x19a4c116, 0x1e376c08, 0x2748774c, 0x34b0bcb5, 0x391c0cb3, 0x4ed8aa4a, 0x5b9cca4f, 0x682e6ff3,
  0x748f82ee, 0x78a5636f, 0x84c87814, 0x8cc70208, 0x90befffa, 0xa4506ceb, 0xbef9a3f7, 0xc67178f2]
def H0 : V8 := ⟨0x6a09e667, 0xbb67ae85, 0x3c6ef372, 0xa54ff53a, 0x510e527f, 0x9b05688c, 0x1f83d9ab, 0x5be0cd19⟩
/-- What a block makes of the eight words. -/
def blk (h : V8) (B : List UInt8) : V8 := h.add (rnds K64 (sch (wrds B) 48) h 64)
/-- All whole blocks. -/
def run (h : V8) (L : List UInt8) : V8 := if _h : 64 ≤ L.length then run (blk h (L.take 64)) (L.drop 64) else h
termination_by L.length
decreasing_by rw [List.length_drop]; omega
def rest (L : List UInt8) : List UInt8 := L.drop (L.length / 64 * 64)
def be8 (n : Nat) : List UInt8 := (List.range 8).map fun i => UInt8.ofNat (n / 256 ^ (7 - i))
def gap (n : Nat) : Nat := (119 - n % 64) % 64
/-- What stands behind the bytes. -/
def pad (n : Nat) : List UInt8 := 128 :: (List.replicate (gap n) 0 ++ be8 (8 * n))
def byteOf (v : V8) (i : Nat) : UInt8 := UInt8.ofNat ((v.list.getD (i / 4) 0 / 2 ^ (24 - 8 * (i % 4))).toNat)
def bytesOf (v : V8) : List UInt8 := (List.range 32).map (byteOf v)
/-- The sum of bytes. -/
def sum (s : List UInt8) : List UInt8 := bytesOf (run H0 (s ++ pad s.length))

/-! ### bounds -/
def In (x : Int) : Prop := 0 ≤ x ∧ x < 4294967296
theorem In.bits (op : BinOp) (a b : Int) : In (bits op .u32 a b) := by
  have h : ∀ n : Int, In (IntKind.u32.wrap n) := fun n => by rw [IntKind.wrap_u32]; exact ⟨by omega, by omega⟩
  exact h _
theorem In.wrap (n : Int) : In (IntKind.u32.wrap n) := by rw [IntKind.wrap_u32]; exact ⟨by omega, by omega⟩
theorem In.mod (n : Int) : In (n % 4294967296) := ⟨by omega, by omega⟩
theorem In.add (a b : Int) : In (add a b) := In.mod _
theorem In.xor (a b : Int) : In (xor a b) := In.bits _ _ _
theorem In.rot (n : Nat) (x : Int) : In (rot n x) := In.bits _ _ _
theorem In.tri (a b c : Nat) (x : Int) : In (tri a b c x) := In.xor _ _
theorem In.sg0 (x : Int) : In (sg0 x) := In.xor _ _
theorem In.sg1 (x : Int) : In (sg1 x) := In.xor _ _
theorem In.nxt (W : List Int) (t : Nat) : In (nxt W t) := In.mod _
structure V8.In (v : V8) : Prop where
  (a : Sh.In v.a) (b : Sh.In v.b) (c : Sh.In v.c) (d : Sh.In v.d) (e : Sh.In v.e) (f : Sh.In v.f) (g : Sh.In v.g) (h : Sh.In v.h)
theorem rnd_in {v : V8} (h : v.In) (k x : Int) : (rnd v k x).In := ⟨In.add _ _, h.a, h.b, h.c, In.add _ _, h.e, h.f, h.g⟩
theorem rnds_in {v : V8} (h : v.In) (K W : List Int) (t : Nat) : (rnds K W v t).In := by
  induction t with
  | zero => exact h
  | succ t ih => exact rnd_in ih _ _
theorem add_in (u v : V8) : (u.add v).In := ⟨In.add _ _, In.add _ _, In.add _ _, In.add _ _, In.add _ _, In.add _ _, In.add _ _, In.add _ _⟩
theorem blk_in (h : V8) (B : List UInt8) : (blk h B).In := add_in _ _
theorem H0_in : H0.In := by constructor <;> exact ⟨by decide, by decide⟩
theorem K64_in : ∀ x ∈ K64, In x := by unfold In; decide
theorem sch_length (W : List Int) (k : Nat) : (sch W k).length = W.length + k := by
  induction k with
  | zero => rfl
  | succ k ih => rw [sch, List.length_append, ih]; rfl
theorem sch_in {W : List Int} (h : ∀ x ∈ W, In x) (k : Nat) : ∀ x ∈ sch W k, In x := by
  induction k with
  | zero => exact h
  | succ k ih =>
    intro x hx
    rw [sch, List.mem_append] at hx
    rcases hx with hx | hx
    · exact ih x hx
    · rw [List.mem_singleton] at hx; subst hx; exact In.nxt _ _
theorem sch_get {W : List Int} (k m : Nat) (i : Nat) (hi : i < W.length + k) : (sch W (k + m)).getD i 0 = (sch W k).getD i 0 := by
  induction m with
  | zero => rfl
  | succ m ih =>
    rw [← Nat.add_assoc, sch, List.getD_eq_getElem?_getD, List.getElem?_append_left (by rw [sch_length]; omega), ← List.getD_eq_getElem?_getD, ih]

theorem num_snoc (A : List UInt8) (b : UInt8) : num (A ++ [b]) = num A * 256 + (b.toNat : Int) := by simp [num, List.foldl_append]
theorem num_go : ∀ (A : List UInt8) (x : Int) (n : Nat), 0 ≤ x → x < 256 ^ n → 0 ≤ A.foldl (fun x b => x * 256 + (b.toNat : Int)) x ∧ A.foldl (fun x b => x * 256 + (b.toNat : Int)) x < 256 ^ (n + A.length)
  | [], x, n, h0, h1 => ⟨h0, h1⟩
  | b :: A, x, n, h0, h1 => by
    have hb := UInt8.toNat_lt b
    have := num_go A (x * 256 + (b.toNat : Int)) (n + 1) (by omega) (by rw [Int.pow_succ]; omega)
    rw [List.foldl_cons, List.length_cons, ← Nat.add_assoc, Nat.add_right_comm]
    exact this
theorem num_in (A : List UInt8) : 0 ≤ num A ∧ num A < 256 ^ A.length := by
  have := num_go A 0 0 (by decide) (by decide)
  rwa [Nat.zero_add] at this
theorem wrd_in (B : List UInt8) (j : Nat) : In (wrd B j) := by
  have h := num_in ((B.drop (4 * j)).take 4)
  have hl : ((B.drop (4 * j)).take 4).length ≤ 4 := List.length_take_le _ _
  refine ⟨h.1, Int.lt_of_lt_of_le h.2 ?_⟩
  clear h
  generalize ((B.drop (4 * j)).take 4).length = n at hl
  match n, hl with
  | 0, _ => decide
  | 1, _ => decide
  | 2, _ => decide
  | 3, _ => decide
  | 4, _ => decide
theorem wrds_in (B : List UInt8) : ∀ x ∈ wrds B, In x := by
  intro x hx
  obtain ⟨j, _, rfl⟩ := List.mem_map.1 hx
  exact wrd_in B j
theorem wrds_length (B : List UInt8) : (wrds B).length = 16 := by simp [wrds]

/-! ### the bits of a word -/
theorem wraps_u32 (n : Int) (h₀ : 0 ≤ n) (h₁ : n < 2 ^ 32) : IntKind.u32.wrap n = n := by rw [IntKind.wrap_u32]; omega
theorem or_comm (a b : Int) : bits .or .u32 a b = bits .or .u32 b a := by
  show IntKind.u32.wrap ((BitVec.ofInt 32 a ||| BitVec.ofInt 32 b).toNat : Int) = IntKind.u32.wrap ((BitVec.ofInt 32 b ||| BitVec.ofInt 32 a).toNat : Int)
  rw [BitVec.or_comm]
theorem or_byte (x b : Int) (hx0 : 0 ≤ x) (hx : x < 16777216) (hb0 : 0 ≤ b) (hb : b < 256) : bits .or .u32 (x * 256) b = x * 256 + b :=
  bits_join .u32 32 (by decide) wraps_u32 8 (x * 256) b (by omega) (by omega) (by omega) hb0 (by omega) (by omega)
theorem or_join (i : Nat) (x y : Int) (hx0 : 0 ≤ x) (hxi : x % 2 ^ i = 0) (hx : x < 4294967296) (hy0 : 0 ≤ y) (hy : y < 2 ^ i) (hy1 : y < 4294967296) : bits .or .u32 x y = x + y :=
  bits_join .u32 32 (by decide) wraps_u32 i x y hx0 hxi hx hy0 hy hy1

/-! ### blocks one behind the other -/
theorem run_lt {h : V8} {L : List UInt8} (hl : L.length < 64) : run h L = h := by rw [run, dif_neg (by omega)]
theorem run_ge {h : V8} {L : List UInt8} (hl : 64 ≤ L.length) : run h L = run (blk h (L.take 64)) (L.drop 64) := by rw [run, dif_pos hl]
theorem rest_lt {L : List UInt8} (hl : L.length < 64) : rest L = L := by
  rw [rest, Nat.div_eq_of_lt hl]; rfl
theorem rest_ge {L : List UInt8} (hl : 64 ≤ L.length) : rest L = rest (L.drop 64) := by
  rw [rest, rest, List.drop_drop, List.length_drop]
  congr 1
  omega
theorem rest_length (L : List UInt8) : (rest L).length = L.length % 64 := by
  rw [rest, List.length_drop]; omega
theorem run_in {h : V8} (hh : h.In) : ∀ (n : Nat) (L : List UInt8), L.length ≤ n → (run h L).In := by
  intro n
  induction n generalizing h with
  | zero => intro L hl; rw [run_lt (by omega)]; exact hh
  | succ n ih =>
    intro L hl
    by_cases h64 : 64 ≤ L.length
    · rw [run_ge h64]; exact ih (blk_in _ _) _ (by rw [List.length_drop]; omega)
    · rw [run_lt (by omega)]; exact hh
theorem run_append (B : List UInt8) : ∀ (n : Nat) (h : V8) (A : List UInt8), A.length ≤ n → run h (A ++ B) = run (run h A) (rest A ++ B) := by
  intro n
  induction n with
  | zero => intro h A hl; rw [run_lt (L := A) (by omega), rest_lt (by omega)]
  | succ n ih =>
    intro h A hl
    by_cases h64 : 64 ≤ A.length
    · rw [run_ge h64, rest_ge h64, run_ge (by rw [List.length_append]; omega), List.take_append_of_le_length h64, List.drop_append_of_le_length h64]
      exact ih _ _ (by rw [List.length_drop]; omega)
    · rw [run_lt (L := A) (by omega), rest_lt (by omega)]
theorem sum_split (s : List UInt8) : sum s = bytesOf (run (run H0 s) (rest s ++ pad s.length)) := by rw [sum, run_append _ s.length H0 s (Nat.le_refl _)]
theorem sum_length (s : List UInt8) : (sum s).length = 32 := by simp [sum, bytesOf]
end Go.Proofs.YtpbhkaokgpacoaaGreatDoor.Sh
/-
  The contracts of a word's turns: the program's and the reference's.
-/
namespace Go.Proofs.YtpbhkaokgpacoaaGreatDoor.Sh
open Go.RowKit

theorem wraps_u64 (n : Int) (h₀ : 0 ≤ n) (h₁ : n < 2 ^ 64) : IntKind.u64.wrap n = n := by rw [IntKind.wrap_u64]; omega
theorem turn_n (a : Nat) (h1 : 1 ≤ a) (h2 : a ≤ 31) : bits .and .u64 (IntKind.u64.wrap (-(a : Int))) 31 = ((32 - a : Nat) : Int) := by
  have := bits_mask .u64 64 (by decide) wraps_u64 5 (by decide) (IntKind.u64.wrap (-(a : Int))) (by rw [IntKind.wrap_u64]; omega) (by rw [IntKind.wrap_u64]; omega)
  rw [show ((2 : Int) ^ 5 - 1) = 31 from rfl] at this
  rw [this, IntKind.wrap_u64]
  omega

set_option maxRecDepth 100000 in
theorem rotl_any (w : World) (x : Int) (a : Nat) (h1 : 1 ≤ a) (h2 : a ≤ 31) :
    Calls Tryz.prog 133 #[.int .u32 x, .int .i64 (-(a : Int))] w fun e w' => e = .returned (.int .u32 (rot a x)) ∧ w' = w := by
  have HT := turn_n a h1 h2
  have hb : (0 : Int) ≤ 32 - (a : Int) := by omega
  go_enter Tryz.func133, Tryz.ntmps133
  go_wp2
  go_ret
  rw [rot, or_comm, show 32 - (32 - a) = a by omega]
  exact ⟨rfl, rfl⟩
set_option maxRecDepth 100000 in
theorem turn_any (w : World) (x : Int) (a : Nat) (h1 : 1 ≤ a) (h2 : a ≤ 31) :
    Calls Tryz.prog 104 #[.int .u32 x, .int .i64 (a : Int)] w fun e w' => e = .returned (.int .u32 (rot a x)) ∧ ∃ n, w' = w.drewN n := by
  have hb : (0 : Int) ≤ 32 - (a : Int) := by omega
  go_enter Tryz.func104, Tryz.ntmps104
  go_wp2
  go_quiet (fail)
  go_wp2
  go_ret
  exact ⟨rfl, nq, rfl⟩
set_option maxRecDepth 100000 in
/-- Three turns, joined. -/
theorem tri_any (w : World) (x : Int) (a b c : Nat) (ha : 1 ≤ a ∧ a ≤ 31) (hb : 1 ≤ b ∧ b ≤ 31) (hc : 1 ≤ c ∧ c ≤ 31) :
    Calls Tryz.prog 132 #[.int .u32 x, .int .i64 (a : Int), .int .i64 (b : Int), .int .i64 (c : Int)] w fun e w' => e = .returned (.int .u32 (tri a b c x)) ∧ w' = w := by
  have R1 := Lib.hid (rotl_any w x a ha.1 ha.2)
  have R2 := Lib.hid (rotl_any w x b hb.1 hb.2)
  have R3 := Lib.hid (rotl_any w x c hc.1 hc.2)
  have n1 : IntKind.i64.wrap (-(a : Int)) = -(a : Int) := by rw [IntKind.wrap_i64]; omega
  have n2 : IntKind.i64.wrap (-(b : Int)) = -(b : Int) := by rw [IntKind.wrap_i64]; omega
  have n3 : IntKind.i64.wrap (-(c : Int)) = -(c : Int) := by rw [IntKind.wrap_i64]; omega
  go_enter Tryz.func132, Tryz.ntmps132
  go_wp2_with fail
  refine R1.out.mono ?_
  rintro e w' ⟨rfl, rfl⟩
  go_wp2_with fail
  refine R2.out.mono ?_
  rintro e w' ⟨rfl, rfl⟩
  go_wp2_with fail
  refine R3.out.mono ?_
  rintro e w' ⟨rfl, rfl⟩
  go_wp2
  go_ret
  exact ⟨rfl, rfl⟩
theorem turn_lit (w : World) (x : Int) (n : Int) (a : Nat) (h : n = (a : Int)) (h1 : 1 ≤ a) (h2 : a ≤ 31) :
    Calls Tryz.prog 104 #[.int .u32 x, .int .i64 n] w fun e w' => e = .returned (.int .u32 (rot a x)) ∧ ∃ n, w' = w.drewN n := by
  subst h; exact turn_any w x a h1 h2
end Go.Proofs.YtpbhkaokgpacoaaGreatDoor.Sh
/-
  Variables of several cells: written and read whole.
-/
namespace Go.Proofs.YtpbhkaokgpacoaaGreatDoor.Sh
open Go.RowKit Go.Maps Go.Proofs.YtpbhkaokgpacoaaGreatDoor.Rf

theorem store_new (w : World) (T : TypeId) (old cs : Array Value) : ((w.alloc (.cells old T)).setRow w.heap.size cs).heap[w.heap.size]? = some (.cells cs T) ∧ Below w.heap.size w ((w.alloc (.cells old T)).setRow w.heap.size cs) := by
  refine ⟨setRow_heap _ _ _ _ _ _ (MapKept.heap_alloc w _).1, ?_⟩
  refine ((Below.refl _ w).alloc (Nat.le_refl _) (.cells old T)).trans ⟨rfl, rfl, rfl, by simp [World.setRow], fun k hk => ?_⟩
  exact setRow_other _ _ _ _ (by omega)
theorem setRow_size (w : World) (g : Nat) (cs : Array Value) : (w.setRow g cs).heap.size = w.heap.size := by simp [World.setRow]
theorem one_size (w : World) (A : Obj) : (w.alloc A).heap.size = w.heap.size + 1 := by show (w.heap.push _).size = _; simp
theorem at_alloc {w : World} {x : Nat} {o : Obj} (h : w.heap[x]? = some o) (A : Obj) : (w.alloc A).heap[x]? = some o := (Below.heap_alloc _ _ _ (lt_of_heap h)).trans h
theorem at_new (w : World) (A : Obj) : (w.alloc A).heap[w.heap.size]? = some A := (MapKept.heap_alloc w A).1
theorem below_drewN (w : World) (n : Nat) : Below w.heap.size w (w.drewN n) := (Below.refl _ _).trans ⟨rfl, rfl, rfl, Nat.le_of_eq (by rw [World.heap_drewN]), fun _ _ => by rw [World.heap_drewN]⟩
theorem Below.drewN {B : Nat} {w0 w : World} (h : Below B w0 w) (n : Nat) : Below B w0 (w.drewN n) := h.trans ⟨rfl, rfl, rfl, Nat.le_of_eq (by rw [World.heap_drewN]), fun _ _ => by rw [World.heap_drewN]⟩
theorem range_block {w : World} {g : Nat} {cs : Array Value} {T : TypeId} (h : w.heap[g]? = some (.cells cs T)) : w.rangeAt g 0 cs.toList := fun j v hv => by
  rw [Nat.zero_add, cell_of_heap h, ← Array.getElem?_toList]; exact hv

section
variable {P : Program} {ops : Array Oper} {rest : List Oper} {o : Oper} {a : Act} {w : World} {Q : Exit → Act → World → Prop}
/-- A new variable is written whole. -/
theorem wpList_store_new {old : Array Value} {T : TypeId} {p : Nat} (hp : p = w.heap.size) (hgd : o.guard = none) (ty : TypeId) (x y : Operand) (ho : o.op = .store ty x y)
    (cs : Array Value) (hx : a.eval x = .pointer (some ⟨p, 0, none⟩)) (hy : a.eval y = .agg cs) (hi : (P.info? ty).map (·.size) = some cs.size) (hold : old.size = cs.size) (h1 : cs.all (·.oneCell') = true)
    (h : ∀ w2 : World, w2.heap[p]? = some (.cells cs T) → Below p w w2 → w2.heap.size = p + 1 → wpList P ops Q rest (a.put o.dst undef) w2) :
    wpList P ops Q (o :: rest) a (w.alloc (.cells old T)) := by
  subst hp
  refine wpList_store_row hgd ty x y ho w.heap.size cs hx hy T old (MapKept.heap_alloc w _).1 hi hold h1 ?_
  obtain ⟨a1, a2⟩ := store_new w T old cs
  exact h _ a1 a2 (by rw [setRow_size, one_size])
/-- A variable is written whole. -/
theorem wpList_store_at {old : Array Value} {T : TypeId} {g : Nat} (hg : w.heap[g]? = some (.cells old T)) (hgd : o.guard = none) (ty : TypeId) (x y : Operand) (ho : o.op = .store ty x y)
    (cs : Array Value) (hx : a.eval x = .pointer (some ⟨g, 0, none⟩)) (hy : a.eval y = .agg cs) (hi : (P.info? ty).map (·.size) = some cs.size) (hold : old.size = cs.size) (h1 : cs.all (·.oneCell') = true)
    (h : ∀ w2 : World, w2.heap[g]? = some (.cells cs T) → Turn [g] w w2 → w2.heap.size = w.heap.size → wpList P ops Q rest (a.put o.dst undef) w2) :
    wpList P ops Q (o :: rest) a w := by
  refine wpList_store_row hgd ty x y ho g cs hx hy T old hg hi hold h1 ?_
  exact h _ (setRow_heap _ _ _ _ _ _ hg) ⟨rfl, rfl, rfl, by simp [World.setRow], fun k _ hk => setRow_other _ _ _ _ (by simpa using hk)⟩ (setRow_size _ _ _)
/-- A variable is read whole. -/
theorem wpList_load_at {cs : Array Value} {T : TypeId} {g : Nat} (hg : w.heap[g]? = some (.cells cs T)) (hgd : o.guard = none) (ty : TypeId) (x : Operand) (ho : o.op = .load ty x)
    (hx : a.eval x = .pointer (some ⟨g, 0, none⟩)) (d : TypeDesc) (hu : P.underlying ty = some d) (hd : (match d with | .struct _ | .array _ _ => true | _ => false) = true) (hi : (P.info? ty).map (·.size) = some cs.size)
    (h : wpList P ops Q rest (a.put o.dst (.agg cs)) w) : wpList P ops Q (o :: rest) a w :=
  wpList_load_row hgd ty x ho g hx T cs (0, 0) d hg hu hd hi h
end
end Go.Proofs.YtpbhkaokgpacoaaGreatDoor.Sh
/-
  The wire's numbers and texts, as plain lists of bytes. No program stands in this text.
-/
namespace Go.Proofs.YtpbhkaokgpacoaaGreatDoor.Rf

/-- A short number's bytes. -/
def shF : Nat → Nat → List UInt8
  | 0, n => [UInt8.ofNat n]
  | f + 1, n => if n < 128 then [UInt8.ofNat n] else UInt8.ofNat (n % 128 + 128) :: shF f (n / 128)
def sh (n : Nat) : List UInt8 := shF 9 n
theorem shF_small {f n : Nat} (h : n < 128) : shF f n = [UInt8.ofNat n] := by cases f <;> simp [shF, h]
theorem shF_step {f n : Nat} (h : ¬ n < 128) : shF (f + 1) n = UInt8.ofNat (n % 128 + 128) :: shF f (n / 128) := by simp [shF, h]
theorem shF_length : ∀ (f n : Nat), (shF f n).length ≤ f + 1
  | 0, _ => by simp [shF]
  | f + 1, n => by
    rw [shF]; split
    · simp
    · have := shF_length f (n / 128); simp; omega
theorem sh_length (n : Nat) : (sh n).length ≤ 10 := shF_length 9 n
theorem shF_ne (f n : Nat) : shF f n ≠ [] := by cases f <;> simp [shF]; split <;> simp

/-- The short number at the front, and how many bytes it has. -/
def rd : Nat → Nat → List UInt8 → Option (Nat × Nat)
  | _, _, [] => none
  | i, n, b :: r => if 10 ≤ i then none else if (i = 9 ∧ 1 < b.toNat) ∨ (0 < i ∧ b.toNat = 0) then none
    else if b.toNat < 128 then some (n + b.toNat * 128 ^ i, i + 1) else rd (i + 1) (n + (b.toNat - 128) * 128 ^ i) r
def rd0 (s : List UInt8) : Option (Nat × Nat) := rd 0 0 s

theorem rd_shF : ∀ (f i n m : Nat) (r : List UInt8), f + i = 9 → m < 2 ^ (64 - 7 * i) → (0 < i → 0 < m) → rd i n (shF f m ++ r) = some (n + m * 128 ^ i, i + (shF f m).length)
  | 0, i, n, m, r, hi, hm, h0 => by
    obtain rfl : i = 9 := by omega
    have hm2 : m < 2 := by simpa using hm
    have : m = 1 := by have := h0 (by omega); omega
    subst this
    simp [shF, rd]
  | f + 1, i, n, m, r, hi, hm, h0 => by
    by_cases hs : m < 128
    · rw [shF_small hs]
      have hb : (UInt8.ofNat m).toNat = m := by simp; omega
      simp only [List.cons_append, List.nil_append, rd, hb, List.length_cons, List.length_nil]
      rw [if_neg (by omega), if_neg (by omega), if_pos hs]
    · rw [shF_step hs]
      have hb : (UInt8.ofNat (m % 128 + 128)).toNat = m % 128 + 128 := by simp; omega
      simp only [List.cons_append, rd, hb, List.length_cons]
      rw [if_neg (by omega), if_neg (by omega), if_neg (by omega)]
      have hm' : m / 128 < 2 ^ (64 - 7 * (i + 1)) := by
        rw [Nat.div_lt_iff_lt_mul (by decide)]
        have e : 2 ^ (64 - 7 * i) = 2 ^ (64 - 7 * (i + 1)) * 128 := by
          have : 64 - 7 * i = (64 - 7 * (i + 1)) + 7 := by omega
          rw [this, Nat.pow_add]
        omega
      rw [rd_shF f (i + 1) _ _ r (by omega) hm' (fun _ => by omega)]
      refine congrArg some (Prod.ext ?_ ?_)
      · have e1 : m % 128 + 128 - 128 = m % 128 := by omega
        show n + (m % 128 + 128 - 128) * 128 ^ i + m / 128 * 128 ^ (i + 1) = n + m * 128 ^ i
        rw [e1, Nat.pow_succ]
        have e2 := Nat.mod_add_div m 128
        generalize 128 ^ i = P
        generalize m % 128 = x at *
        generalize m / 128 = y at *
        rw [← e2, Nat.add_mul, Nat.add_assoc]
        have e3 : y * (P * 128) = 128 * y * P := by rw [Nat.mul_comm P 128, ← Nat.mul_assoc, Nat.mul_comm y 128]
        rw [e3]
      · show i + 1 + (shF f (m / 128)).length = i + ((shF f (m / 128)).length + 1)
        omega
theorem rd_sh {n : Nat} (h : n < 2 ^ 64) (r : List UInt8) : rd0 (sh n ++ r) = some (n, (sh n).length) := by
  have := rd_shF 9 0 0 n r (by omega) (by simpa using h) (by omega)
  rw [rd0, sh, this]; simp
theorem rd_size : ∀ (s : List UInt8) (i n m k : Nat), rd i n s = some (m, k) → i < k ∧ k ≤ i + s.length ∧ k ≤ 10
  | [], _, _, _, _, h => by simp [rd] at h
  | b :: r, i, n, m, k, h => by
    simp only [rd] at h
    split at h
    · cases h
    split at h
    · cases h
    split at h
    · obtain ⟨rfl, rfl⟩ := Prod.mk.inj (Option.some.inj h)
      simp; omega
    · have := rd_size r _ _ _ _ h
      simp; omega

/-- Four bytes. -/
def be4 (n : Nat) : List UInt8 := [UInt8.ofNat (n / 16777216), UInt8.ofNat (n / 65536), UInt8.ofNat (n / 256), UInt8.ofNat n]
def un4 (s : List UInt8) : Nat := s.foldl (fun n b => n * 256 + b.toNat) 0
theorem un4_be4 {n : Nat} (h : n < 4294967296) : un4 (be4 n) = n := by
  simp [un4, be4]; omega

/-- A text behind its length. -/
def putText (t : List UInt8) : List UInt8 := sh t.length ++ t
end Go.Proofs.YtpbhkaokgpacoaaGreatDoor.Rf
/-
  The contracts of Put and PutText.
-/
namespace Go.Proofs.YtpbhkaokgpacoaaGreatDoor.Rf
open Go.RowKit Go.Maps

/-- An array of N bytes whose first ones are written. -/
def buf (pre : List UInt8) (N : Nat) : Array Value := (Lib.byteCells pre ++ List.replicate (N - pre.length) (Value.int .u8 0)).toArray
theorem buf_size (pre : List UInt8) (N : Nat) (h : pre.length ≤ N) : (buf pre N).size = N := by
  simp [buf, Lib.byteCells_length]; omega
theorem buf_get (pre : List UInt8) (N : Nat) (h : pre.length < N) : (buf pre N)[pre.length]? = some (.int .u8 0) := by
  rw [buf, List.getElem?_toArray, List.getElem?_append_right (by simp [Lib.byteCells_length]), Lib.byteCells_length, Nat.sub_self, List.getElem?_replicate, if_pos (by omega)]
theorem buf_set (pre : List UInt8) (N : Nat) (b : UInt8) (h : pre.length < N) : (buf pre N).setIfInBounds pre.length (.int .u8 b.toNat) = buf (pre ++ [b]) N := by
  unfold buf
  obtain ⟨d, hd⟩ : ∃ d, N - pre.length = d + 1 := ⟨N - pre.length - 1, by omega⟩
  have e : N - (pre ++ [b]).length = d := by simp; omega
  rw [e, hd, List.setIfInBounds_toArray, List.set_append_right _ _ (by simp [Lib.byteCells_length]), Lib.byteCells_length, Nat.sub_self, List.replicate_succ, List.set_cons_zero]
  simp [Lib.byteCells]
theorem buf_cell (pre : List UInt8) (N j : Nat) (h : j < pre.length) : (buf pre N)[j]? = some (.int .u8 (pre[j].toNat : Int)) := by
  rw [buf, List.getElem?_toArray, List.getElem?_append_left (by simpa [Lib.byteCells_length] using h), Lib.byteCells, List.getElem?_map, List.getElem?_eq_getElem h]; rfl

theorem conv_pre (w : World) (g c : Nat) (T : TypeId) (pre : List UInt8) (N : Nat) (h : w.heap[g]? = some (.cells (buf pre N) T)) :
    (convert 87 9 (.slice (some ⟨g, 0, none⟩) pre.length c)).run Tryz.prog w = .ok (.string ⟨pre.toArray⟩) w :=
  run_convert_bytes_back w _ _ 5 ⟨g, 0, none⟩ c pre Tryz.underlying87 Tryz.underlying5 Tryz.underlying9 (fun j hj => by
    rw [Addr.add_lit, Nat.zero_add, cell_of_heap h, buf_cell _ _ _ hj])

theorem arr10 : Tryz.prog.arrayLen 153 = 10 := by kernel_rfl
theorem und10 : Tryz.prog.underlying 153 = some (.array (Tryz.prog.arrayLen 153) (Tryz.prog.elem 153)) := by kernel_rfl
theorem elem10 : (Tryz.prog.info? (Tryz.prog.elem 153)).map (fun i => i.size) = some 1 := by kernel_rfl
theorem slice10 (w : World) (b j : Nat) (hj : j ≤ 10) :
    (Instr.sliceAt 153 (.pointer (some ⟨b, 0, none⟩)) none (some (.int .i64 (j : Int))) none).run Tryz.prog w = .ok (.slice (some ⟨b, 0, none⟩) j 10) w := by
  rw [run_sliceAt_array_h (P := Tryz.prog) w 153 ⟨b, 0, none⟩ und10 .i64 (j : Int) (by omega) (by rw [arr10]; omega)]
  obtain ⟨i, hi, hs⟩ := Option.map_eq_some_iff.1 elem10
  have hz : (sizeOf (Tryz.prog.elem 153)).run Tryz.prog w = .ok 1 w := by simp [sizeOf, typeInfo, hi, hs]
  rw [hz]
  simp only [Result.andThen, Int.toNat_natCast, arr10, slicedAt]
  rw [if_neg (by omega), Addr.add_lit]; simp

theorem cat_list (S : ByteArray) (l : List UInt8) : S ++ ⟨l.toArray⟩ = (⟨(S.data.toList ++ l).toArray⟩ : ByteArray) := by
  congr 1
theorem cat (S T : ByteArray) : S ++ T = (⟨(S.data.toList ++ T.data.toList).toArray⟩ : ByteArray) := by
  conv => lhs; rw [show T = ⟨T.data.toList.toArray⟩ by simp]
  exact cat_list S _
theorem or128 (m : Nat) : bits .or .u8 ((m : Int) % 256) 128 = ((UInt8.ofNat (m % 128 + 128)).toNat : Int) := by
  have h1 := u8_or_nat (m % 256) 128 (by omega) (by decide)
  have e : ((m % 256 : Nat) : Int) = (m : Int) % 256 := by omega
  rw [e] at h1
  rw [show (128 : Int) = ((128 : Nat) : Int) from rfl, h1]
  have h2 : ∀ x : Fin 256, x.val ||| 128 = x.val % 128 + 128 := by decide +kernel
  rw [h2 ⟨m % 256, by omega⟩]
  simp; omega

set_option maxHeartbeats 2000000 in
set_option maxRecDepth 100000 in
theorem put_any (w : World) (S : ByteArray) (n : Nat) (hn : n < 18446744073709551616) (hS : S.size ≤ 1099511627776) :
    Calls Tryz.prog 43 #[.string S, .int .u64 (n : Int)] w fun e w' => e = .returned (.string ⟨(S.data.toList ++ sh n).toArray⟩) ∧ Below w.heap.size w w' := by
  go_enter Tryz.func43, Tryz.ntmps43
  go_wp2
  go_loopw [1, 6] (fun vn vk w' => ∃ (k m : Nat) (pre : List UInt8), k ≤ 9 ∧ vn = .int .u64 (m : Int) ∧ vk = .int .i64 k ∧ w'.heap[w.heap.size]? = some (.cells (buf pre 10) 153) ∧ Below w.heap.size w w' ∧ Hid (pre.length = k ∧ sh n = pre ++ shF (9 - k) m ∧ m < 2 ^ (64 - 7 * k) ∧ (0 < k → 0 < m))) (fun _ k _ => 9 - (RowKit.intOf k).toNat)
  case atStart => exact ⟨0, n, [], by omega, rfl, rfl, (MapKept.heap_alloc w _).1, (Below.refl _ _).alloc (Nat.le_refl _) _, Lib.hid ⟨rfl, rfl, by simpa using hn, by omega⟩⟩
  case round =>
    obtain ⟨k, m, pre, hk, rfl, rfl, hh, hb, hid⟩ := hrel
    have HH := Lib.hid hh; have HB := Lib.hid hb
    have hlt : w.heap.size < wr.heap.size := lt_of_heap hh
    have hfz : ∀ j, wr.frozen? ⟨w.heap.size, j, none⟩ = false := fun j => frozen_of_heap hh
    have hck : wr.cell? ⟨w.heap.size, k, none⟩ = some (.int .u8 0) := by
      rw [cell_of_heap hh, ← hid.out.1]; exact buf_get _ _ (by have := hid.out.1; omega)
    by_cases h128 : (128 : Int) ≤ (m : Int)
    · have hk9 : k < 9 := by
        have := hid.out.2.2.1
        by_cases e : k = 9
        · subst e; simp at this; omega
        · omega
      have hm64 : m < 18446744073709551616 := Nat.lt_of_lt_of_le hid.out.2.2.1 (show 2 ^ (64 - 7 * k) ≤ 2 ^ 64 from Nat.pow_le_pow_right (by decide) (by omega))
      have HO := Lib.hid (or128 m)
      have HS : Hid ((wr.setCell ⟨w.heap.size, k, none⟩ (.int .u8 ((UInt8.ofNat (m % 128 + 128)).toNat : Int))).heap[w.heap.size]? = some (.cells (buf (pre ++ [UInt8.ofNat (m % 128 + 128)]) 10) 153)) :=
        Lib.hid (by rw [setCell_heap _ _ _ _ _ _ hh, ← hid.out.1, buf_set _ _ _ (by have := hid.out.1; omega)])
      have HB2 := Lib.hid (hb.setCell (Nat.le_refl _) (p := ⟨w.heap.size, k, none⟩) (.int .u8 ((UInt8.ofNat (m % 128 + 128)).toNat : Int)))
      clear hh hb
      go_wp2
      rw [HO.out]
      go_roundw
      case rel =>
        refine ⟨k + 1, m / 128, _, by omega, by simp, by simp, HS.out, HB2.out, Lib.hid ?_⟩
        obtain ⟨a1, a2, a3, a4⟩ := hid.out
        refine ⟨by simp [a1], ?_, ?_, fun _ => by omega⟩
        · rw [a2, List.append_assoc]
          have e : 9 - k = (9 - (k + 1)) + 1 := by omega
          rw [e, shF_step (by omega)]; rfl
        · rw [Nat.div_lt_iff_lt_mul (by decide)]
          have e : 64 - 7 * k = (64 - 7 * (k + 1)) + 7 := by omega
          rw [e, Nat.pow_add] at a3
          exact a3
      case measure => simp [RowKit.intOf]; omega
    · have HS : Hid ((wr.setCell ⟨w.heap.size, k, none⟩ (.int .u8 (m : Int))).heap[w.heap.size]? = some (.cells (buf (pre ++ [UInt8.ofNat m]) 10) 153)) :=
        Lib.hid (by
          rw [setCell_heap _ _ _ _ _ _ hh]
          have e : (m : Int) = ((UInt8.ofNat m).toNat : Int) := by simp; omega
          rw [e, ← hid.out.1, buf_set _ _ _ (by have := hid.out.1; omega)])
      have HB2 := Lib.hid (hb.setCell (Nat.le_refl _) (p := ⟨w.heap.size, k, none⟩) (.int .u8 (m : Int)))
      have hsl := slice10 (wr.setCell ⟨w.heap.size, k, none⟩ (.int .u8 (m : Int))) w.heap.size (k + 1) (by omega)
      have hcv := conv_pre _ _ 10 _ _ _ HS.out
      have hpl : (pre ++ [UInt8.ofNat m]).length = k + 1 := by simp [hid.out.1]
      rw [hpl] at hcv
      have e1 : ((k + 1 : Nat) : Int) = (k : Int) + 1 := by omega
      rw [e1] at hsl
      have HE : Hid (sh n = pre ++ [UInt8.ofNat m]) := Lib.hid (by rw [hid.out.2.1, shF_small (by omega)])
      have hpre : pre.length ≤ 9 := by rw [hid.out.1]; exact hk
      clear hh hb hpl
      go_wp2
      go_ret
      refine ⟨?_, HB2.out⟩
      rw [HE.out, cat_list]
      rfl

set_option maxRecDepth 100000 in
theorem putText_any (w : World) (S T : ByteArray) (hS : S.size ≤ 1099511627776) (hT : T.size ≤ 1099511627776) :
    Calls Tryz.prog 44 #[.string S, .string T] w fun e w' => e = .returned (.string ⟨(S.data.toList ++ putText T.data.toList).toArray⟩) ∧ Below w.heap.size w w' := by
  have hsz := Lib.size_eq T
  have K := Lib.hid (put_any w S T.size (by omega) hS)
  have hw : (T.size : Int) % 18446744073709551616 = (T.size : Int) := by omega
  have HW := Lib.hid hw
  have hln : ((⟨(S.data.toList ++ sh T.size).toArray⟩ : ByteArray)).size ≤ S.size + 10 := by
    rw [Lib.size_eq, Lib.size_eq]; simp; have := sh_length T.size; omega
  obtain ⟨U, hU⟩ : ∃ U, U = (⟨(S.data.toList ++ sh T.size).toArray⟩ : ByteArray) := ⟨_, rfl⟩
  rw [← hU] at hln K
  have HU : Hid (U.data.toList = S.data.toList ++ sh T.data.toList.length) := Lib.hid (by rw [hU, hsz])
  clear hw hU hsz
  go_enter Tryz.func44, Tryz.ntmps44
  go_wp2_with fail
  refine K.out.mono ?_
  rintro e w3 ⟨rfl, hb⟩
  have HB := Lib.hid hb
  clear hb
  go_wp2
  go_ret
  refine ⟨?_, HB.out⟩
  rw [cat, HU.out, putText, List.append_assoc]
  rfl
end Go.Proofs.YtpbhkaokgpacoaaGreatDoor.Rf
/-
  The contracts of the reader at any bytes: short, Uint, Take, Text, End.
-/
namespace Go.Proofs.YtpbhkaokgpacoaaGreatDoor.Rd
open Go.RowKit Go.Maps Go.WideMaps Go.Proofs.YtpbhkaokgpacoaaGreatDoor.Rf

theorem ba_ext {A B : ByteArray} (h : A.data.toList = B.data.toList) : A = B := by
  cases A; cases B
  congr 1
  exact Array.toList_inj.1 h
theorem ba_data (l : List UInt8) : (⟨l.toArray⟩ : ByteArray).data.toList = l := by simp
theorem ba_mk (s : ByteArray) : (⟨s.data.toList.toArray⟩ : ByteArray) = s := ba_ext (by simp)
/-- A piece of a text. -/
theorem extract_list (L : List UInt8) (i j : Nat) : (⟨L.toArray⟩ : ByteArray).extract i j = ⟨((L.drop i).take (j - i)).toArray⟩ := by
  apply ba_ext
  rw [Lib.extract_data]
theorem extract_rest (L : List UInt8) (i j : Nat) (h : L.length ≤ j) : (⟨L.toArray⟩ : ByteArray).extract i j = ⟨(L.drop i).toArray⟩ := by
  rw [extract_list, List.take_of_length_le (by rw [List.length_drop]; omega)]
theorem one_size (w : World) (A : Obj) : (w.alloc A).heap.size = w.heap.size + 1 := by show (w.heap.push _).size = _; simp

/-- What the front of bytes says as a short number. -/
def shN (L : List UInt8) : Nat := match rd0 L with | some p => p.1 | none => 0
def shK (L : List UInt8) : Int := match rd0 L with | some p => (p.2 : Int) | none => -1

theorem rd_lt : ∀ (s : List UInt8) (i n m k : Nat), i ≤ 9 → n < 128 ^ i → Rf.rd i n s = some (m, k) → m < 18446744073709551616
  | [], _, _, _, _, _, _, h => by simp [Rf.rd] at h
  | b :: r, i, n, m, k, hi, hn, h => by
    have hb := UInt8.toNat_lt b
    have p64 : 128 ^ 9 * 2 = 18446744073709551616 := by decide
    simp only [Rf.rd] at h
    split at h
    · cases h
    split at h
    · cases h
    · next h2 =>
      have hbig : n + b.toNat * 128 ^ i < 18446744073709551616 ∨ ¬ b.toNat < 128 := by
        by_cases h9 : i = 9
        · left
          subst h9
          have : b.toNat ≤ 1 := by omega
          have : b.toNat * 128 ^ 9 ≤ 1 * 128 ^ 9 := Nat.mul_le_mul_right _ this
          omega
        · by_cases h128 : b.toNat < 128
          · left
            have e1 : b.toNat * 128 ^ i ≤ 127 * 128 ^ i := Nat.mul_le_mul_right _ (by omega)
            have e2 : 128 ^ (i + 1) ≤ 128 ^ 9 := Nat.pow_le_pow_right (by decide) (by omega)
            rw [Nat.pow_succ] at e2
            omega
          · exact .inr h128
      split at h
      · next h3 =>
        obtain ⟨rfl, rfl⟩ := Prod.mk.inj (Option.some.inj h)
        exact hbig.resolve_right (by omega)
      · next h3 =>
        by_cases h9 : i = 9
        · subst h9
          omega
        · refine rd_lt r (i + 1) _ m k (by omega) ?_ h
          have e1 : (b.toNat - 128) * 128 ^ i ≤ 127 * 128 ^ i := Nat.mul_le_mul_right _ (by omega)
          rw [Nat.pow_succ]; omega
theorem shN_lt (L : List UInt8) : shN L < 18446744073709551616 := by
  unfold shN
  cases h : rd0 L with
  | none => decide
  | some p => exact rd_lt L 0 0 p.1 p.2 (by omega) (by decide) h
theorem shK_le (L : List UInt8) : -1 ≤ shK L ∧ shK L ≤ L.length ∧ shK L ≤ 10 := by
  unfold shK
  cases h : rd0 L with
  | none => simp
  | some p =>
    have := rd_size L 0 0 p.1 p.2 h
    dsimp only
    omega

theorem or_add (n b i : Nat) (hn : n < 128 ^ i) : n ||| (b * 128 ^ i) = n + b * 128 ^ i := by
  have e : (128 : Nat) ^ i = 2 ^ (7 * i) := by rw [show (128 : Nat) = 2 ^ 7 from rfl, ← Nat.pow_mul]
  rw [e] at hn ⊢
  have := Nat.two_pow_add_eq_or_of_lt hn b
  rw [Nat.or_comm, Nat.mul_comm b, ← this, Nat.add_comm]
theorem and127 (b : UInt8) : bits .and .u8 (b.toNat : Int) 127 = ((b.toNat % 128 : Nat) : Int) := by
  have h1 := u8_and_nat b.toNat 127 (UInt8.toNat_lt b) (by decide)
  rw [show (127 : Nat) = 2 ^ 7 - 1 from rfl, Nat.and_two_pow_sub_one_eq_mod] at h1
  exact h1
end Go.Proofs.YtpbhkaokgpacoaaGreatDoor.Rd
