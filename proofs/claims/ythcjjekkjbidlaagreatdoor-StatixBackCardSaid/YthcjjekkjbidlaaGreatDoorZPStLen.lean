import Derived.Test.YthcjjekkjbidlaaGreatDoorZPStStrs
import Derived.Test.YthcjjekkjbidlaaGreatDoorZPRowKit
import Derived.Test.YthcjjekkjbidlaaGreatDoorZPNmSplitCore
import Derived.Test.YthcjjekkjbidlaaGreatDoorZPStRead2
import Derived.Test.YthcjjekkjbidlaaGreatDoorZPStSet
import Derived.Laws.Tables
import Derived.Laws.Rows
import Derived.Laws.CopyOwn
import Derived.Laws.ResultCell
import Derived.Deep.MidRow
set_option linter.unusedSimpArgs false
set_option linter.unusedVariables false
/-
  An entry compared with itself.
-/
namespace Go.Proofs.YthcjjekkjbidlaaGreatDoor.St
open Go.RowKit Go.Maps Go.WideMaps Go.Proofs.YthcjjekkjbidlaaGreatDoor.Rf Go.Proofs.YthcjjekkjbidlaaGreatDoor.Rd

set_option maxHeartbeats 4000000 in
set_option maxRecDepth 100000 in
theorem neq_self (w : World) (e : SE) (he : e.id.length = 32) : (binOp .neq 44 (enV e) (enV e)).run Tryz.prog w = .ok (.bool false) w := by
  obtain ⟨p, n, s, i, t, k, id⟩ := e
  dsimp only at he
  have hid : (Op.equalIn 9999 42 (.agg (Lib.byteCells id).toArray) (.agg (Lib.byteCells id).toArray)).run Tryz.prog w = .ok true w := by
    have := run_equalIn_bytes (P := Tryz.prog) w 9997 42 5 32 Tryz.underlying42 Tryz.underlying5 size8 id id he he
    rw [beq_self_eq_true] at this
    exact this
  match id, he with
  | [a0,a1,a2,a3,a4,a5,a6,a7,a8,a9,b0,b1,b2,b3,b4,b5,b6,b7,b8,b9,c0,c1,c2,c3,c4,c5,c6,c7,c8,c9,d0,d1], _ =>
    unfold enV SE.cells Lib.byteCells
    unfold Lib.byteCells at hid
    simp only [List.map_cons, List.map_nil] at hid ⊢
    go_simp
/-- The same, as an operation. -/
theorem exec_self {o : Oper} {a : Act} {w : World} (x y : Operand) (e : SE) (he : e.id.length = 32) (ho : o.op = .binOp .neq 44 x y 44) (hx : a.eval x = enV e) (hy : a.eval y = enV e) :
    (execOp a.eval o).run Tryz.prog w = .ok (.value (.bool false)) w := by
  have hr := neq_self w e he
  have hg := run_eqGuard_agg (P := Tryz.prog) w .neq 44 x y e.cells.toArray e.cells.toArray (by kernel_rfl)
  unfold enV at *
  generalize e.cells.toArray = A at *
  unfold execOp
  simp only [ho, hx, hy, Sem.run_bind, hg, hr, Result.andThen_ok]
  rfl
end Go.Proofs.YthcjjekkjbidlaaGreatDoor.St
/-
  The plain tree of chapter 18: a list of nodes by their names, rising; what its calls make of it. No walk stands in this text.
-/
namespace Go.Proofs.YthcjjekkjbidlaaGreatDoor.Sr
open Go.RowKit Go.Proofs.YthcjjekkjbidlaaGreatDoor.Rf Go.Proofs.YthcjjekkjbidlaaGreatDoor.Nm Go.Proofs.YthcjjekkjbidlaaGreatDoor.St

/-- A node's names. -/
abbrev PN := List (List UInt8)
/-- The order of names. -/
def ahd : PN → PN → Bool
  | [], [] => false
  | [], _ :: _ => true
  | _ :: _, [] => false
  | a :: r, b :: s => if a = b then ahd r s else lt a b
theorem ahd_irrefl : ∀ a, ahd a a = false
  | [] => rfl
  | a :: r => by rw [ahd, if_pos rfl, ahd_irrefl r]
theorem ahd_trans : ∀ {a b c : PN}, ahd a b = true → ahd b c = true → ahd a c = true
  | [], [], _, h, _ => by cases h
  | [], _ :: _, [], _, h => by cases h
  | [], _ :: _, _ :: _, _, _ => rfl
  | _ :: _, [], _, h, _ => by cases h
  | _ :: _, _ :: _, [], _, h => by cases h
  | a :: r, b :: s, c :: t, h, k => by
    rw [ahd] at h k ⊢
    by_cases h1 : a = b
    · subst h1
      rw [if_pos rfl] at h
      by_cases h2 : a = c
      · subst h2; rw [if_pos rfl] at k ⊢; exact ahd_trans h k
      · rw [if_neg h2] at k ⊢; exact k
    · rw [if_neg h1] at h
      by_cases h2 : b = c
      · subst h2; rw [if_neg h1]; exact h
      · rw [if_neg h2] at k
        have := lt_trans h k
        rw [if_neg (lt_ne this)]; exact this
theorem ahd_total : ∀ {a b : PN}, a ≠ b → ahd a b = true ∨ ahd b a = true
  | [], [], h => absurd rfl h
  | [], _ :: _, _ => .inl rfl
  | _ :: _, [], _ => .inr rfl
  | a :: r, b :: s, h => by
    rw [ahd, ahd]
    by_cases h1 : a = b
    · subst h1; rw [if_pos rfl, if_pos rfl]; exact ahd_total (fun e => h (by rw [e]))
    · rw [if_neg h1, if_neg (Ne.symm h1)]; exact lt_total h1
theorem ahd_ne {a b : PN} (h : ahd a b = true) : a ≠ b := by rintro rfl; rw [ahd_irrefl] at h; cases h
theorem ahd_pre : ∀ (a b c : PN), ahd (a ++ b) (a ++ c) = ahd b c
  | [], _, _ => rfl
  | x :: r, b, c => by rw [List.cons_append, List.cons_append, ahd, if_pos rfl, ahd_pre r]
theorem ahd_one (a b : List UInt8) : ahd [a] [b] = lt a b := by
  rw [ahd]; split
  · next h => subst h; rw [lt_irrefl]; rfl
  · rfl
theorem ahd_below (a : PN) {b : PN} (h : b ≠ []) : ahd a (a ++ b) = true := by
  have := ahd_pre a [] b
  rw [List.append_nil] at this
  rw [this]
  match b, h with
  | _ :: _, _ => rfl

/-- Attributes. -/
structure XA where
  node : Nat
  mode : Nat
  uid : Nat
  gid : Nat
  mtime : Int
  target : List UInt8
  xs : List (List UInt8 × List UInt8)
/-- A node; and where it lies: its block, its map's, its row of extended attributes. -/
structure TE where
  nm : PN
  ino : Nat
  tick : Int
  at_ : XA
  data : List UInt8
  p : Nat
  m : Option Nat
  xv : Value

def SrtT (L : List TE) : Prop := L.Pairwise fun a b => ahd a.nm b.nm = true
def getT (n : PN) (L : List TE) : Option TE := L.find? fun e => decide (e.nm = n)
theorem getT_nm {n : PN} {L : List TE} {e : TE} (h : getT n L = some e) : e ∈ L ∧ e.nm = n :=
  ⟨List.mem_of_find?_eq_some h, by simpa using List.find?_some h⟩
theorem srtT_inj {L : List TE} (h : SrtT L) {a b : TE} (ha : a ∈ L) (hb : b ∈ L) (he : a.nm = b.nm) : a = b := by
  induction L with
  | nil => cases ha
  | cons y r ih =>
    obtain ⟨h1, h2⟩ := List.pairwise_cons.1 h
    rcases List.mem_cons.1 ha with ha | ha <;> rcases List.mem_cons.1 hb with hb | hb
    · rw [ha, hb]
    · exact absurd he (ahd_ne (by rw [ha]; exact h1 b hb))
    · exact absurd he.symm (ahd_ne (by rw [hb]; exact h1 a ha))
    · exact ih h2 ha hb
theorem getT_of {L : List TE} (h : SrtT L) {e : TE} (he : e ∈ L) : getT e.nm L = some e := by
  cases hg : getT e.nm L with
  | none =>
    rw [getT, List.find?_eq_none] at hg
    have := hg e he
    simp at this
  | some x =>
    obtain ⟨h1, h2⟩ := getT_nm hg
    rw [srtT_inj h h1 he h2]
theorem getT_none {n : PN} {L : List TE} : getT n L = none ↔ ∀ e ∈ L, e.nm ≠ n := by
  rw [getT, List.find?_eq_none]; simp

/-! ### what a folder has -/
def kidOf (n : PN) (e : TE) : Option (List UInt8 × Nat) := if h : e.nm ≠ [] then (if e.nm.dropLast = n then some (e.nm.getLast h, e.p) else none) else none
theorem kidOf_some {n : PN} {e : TE} {k : List UInt8 × Nat} : kidOf n e = some k ↔ e.nm = n ++ [k.1] ∧ e.p = k.2 := by
  unfold kidOf
  constructor
  · intro h
    split at h
    · next hn =>
      split at h
      · next hd =>
        obtain rfl := Option.some.inj h
        refine ⟨?_, rfl⟩
        rw [← hd]; exact (List.dropLast_concat_getLast hn).symm
      · cases h
    · cases h
  · rintro ⟨h1, h2⟩
    have hn : e.nm ≠ [] := by rw [h1]; simp
    rw [dif_pos hn, if_pos (by rw [h1]; simp)]
    congr 1
    refine Prod.ext ?_ h2
    show e.nm.getLast hn = k.1
    simp [h1]
/-- A folder's entries: names, and their nodes' blocks. -/
def kidsT (L : List TE) (n : PN) : MV Nat := L.filterMap (kidOf n)
theorem kidsT_mem {L : List TE} {n : PN} {k : List UInt8 × Nat} : k ∈ kidsT L n ↔ ∃ e ∈ L, e.nm = n ++ [k.1] ∧ e.p = k.2 := by
  rw [kidsT, List.mem_filterMap]
  simp only [kidOf_some]
theorem kidsT_get {L : List TE} (h : SrtT L) (n : PN) (s : List UInt8) : getM (kidsT L n) s = (getT (n ++ [s]) L).map TE.p := by
  cases hg : getT (n ++ [s]) L with
  | none =>
    rw [Option.map_none, get_none_iff]
    rintro ⟨k1, k2⟩ hk rfl
    obtain ⟨e, he, h1, _⟩ := kidsT_mem.1 hk
    exact getT_none.1 hg e he h1
  | some e =>
    obtain ⟨he, hn⟩ := getT_nm hg
    cases hm : getM (kidsT L n) s with
    | none =>
      rw [get_none_iff] at hm
      exact absurd rfl (hm (s, e.p) (kidsT_mem.2 ⟨e, he, hn, rfl⟩))
    | some q =>
      obtain ⟨x, hx, h1, h2⟩ := kidsT_mem.1 (getM_mem hm)
      rw [srtT_inj h hx he (h1.trans hn.symm)] at h2
      rw [Option.map_some]; exact congrArg some h2.symm
theorem kidsT_srt {L : List TE} (h : SrtT L) (n : PN) : (kidsT L n).Pairwise fun a b => lt a.1 b.1 = true := by
  rw [kidsT]
  refine List.Pairwise.filterMap _ (fun a b hab x hx y hy => ?_) h
  obtain ⟨h1, _⟩ := kidOf_some.1 hx
  obtain ⟨h2, _⟩ := kidOf_some.1 hy
  rw [h1, h2, ahd_pre, ahd_one] at hab
  exact hab
theorem kidOf_same {n : PN} {e e' : TE} (hn : e'.nm = e.nm) (hp : e'.p = e.p) : kidOf n e' = kidOf n e := by
  obtain ⟨a, b, c, d, f, g, h, i⟩ := e
  obtain ⟨a', b', c', d', f', g', h', i'⟩ := e'
  dsimp only at hn hp
  subst hn hp
  rfl
theorem kidsT_map {L : List TE} {f : TE → TE} (hn : ∀ e ∈ L, (f e).nm = e.nm) (hp : ∀ e ∈ L, (f e).p = e.p) (n : PN) : kidsT (L.map f) n = kidsT L n := by
  have key : ∀ e ∈ L, kidOf n (f e) = kidOf n e := by
   intro e he
   exact kidOf_same (hn e he) (hp e he)
  clear hn hp
  rw [kidsT, kidsT, List.filterMap_map]
  induction L with
  | nil => rfl
  | cons y r ih =>
    rw [List.filterMap_cons, List.filterMap_cons, ih (fun e he => key e (List.mem_cons_of_mem _ he))]
    rw [Function.comp_apply, key y (by simp)]

/-! ### a node more -/
def insT (e : TE) : List TE → List TE
  | [] => [e]
  | y :: r => if ahd e.nm y.nm then e :: y :: r else y :: insT e r
theorem mem_insT {e x : TE} : ∀ {L : List TE}, x ∈ insT e L ↔ x = e ∨ x ∈ L
  | [] => by simp [insT]
  | y :: r => by
    rw [insT]; split
    · simp
    · rw [List.mem_cons, mem_insT (L := r), List.mem_cons]
      constructor
      · rintro (h | h | h)
        · exact .inr (.inl h)
        · exact .inl h
        · exact .inr (.inr h)
      · rintro (h | h | h)
        · exact .inr (.inl h)
        · exact .inl h
        · exact .inr (.inr h)
theorem insT_perm (e : TE) : ∀ L : List TE, (insT e L).Perm (e :: L)
  | [] => .refl _
  | y :: r => by
    rw [insT]; split
    · exact .refl _
    · exact ((insT_perm e r).cons y).trans (.swap _ _ _)
theorem insT_srt {e : TE} : ∀ {L : List TE}, SrtT L → (∀ x ∈ L, x.nm ≠ e.nm) → SrtT (insT e L)
  | [], _, _ => List.pairwise_singleton _ _
  | y :: r, h, hn => by
    obtain ⟨h1, h2⟩ := List.pairwise_cons.1 h
    rw [insT]; split
    · next hy =>
      refine List.pairwise_cons.2 ⟨fun x hx => ?_, h⟩
      rcases List.mem_cons.1 hx with rfl | hx
      · exact hy
      · exact ahd_trans hy (h1 x hx)
    · next hy =>
      refine List.pairwise_cons.2 ⟨fun x hx => ?_, insT_srt h2 (fun x hx => hn x (List.mem_cons_of_mem _ hx))⟩
      rcases mem_insT.1 hx with rfl | hx
      · exact (ahd_total (hn y (by simp))).resolve_right hy
      · exact h1 x hx
theorem kids_ins_other {e : TE} {n : PN} (hk : kidOf n e = none) : ∀ L : List TE, kidsT (insT e L) n = kidsT L n
  | [] => by simp [insT, kidsT, hk]
  | y :: r => by
    rw [insT]; split
    · rw [kidsT, List.filterMap_cons, hk]; rfl
    · rw [kidsT, List.filterMap_cons, kidsT, List.filterMap_cons, ← kidsT, kids_ins_other hk r]; rfl
theorem kids_ins_here {e : TE} {n : PN} {k : List UInt8 × Nat} (hk : kidOf n e = some k) : ∀ {L : List TE}, SrtT L → (∀ x ∈ L, x.nm ≠ e.nm) → kidsT (insT e L) n = insM k.1 k.2 (kidsT L n)
  | [], _, _ => by simp [insT, kidsT, hk, insM]
  | y :: r, h, hn => by
    obtain ⟨h1, h2⟩ := List.pairwise_cons.1 h
    have e1 := (kidOf_some.1 hk).1
    have hfront : ∀ (M : MV Nat), (∀ z ∈ M, lt k.1 z.1 = true) → insM k.1 k.2 M = k :: M := by
      intro M hM
      cases M with
      | nil => rfl
      | cons z M => rw [insM, if_pos (hM z (by simp))]
    rw [insT]; split
    · next hy =>
      have hall : ∀ z ∈ kidsT (y :: r) n, lt k.1 z.1 = true := by
        intro z hz
        obtain ⟨x, hx, hx1, _⟩ := kidsT_mem.1 hz
        have : ahd e.nm x.nm = true := by
          rcases List.mem_cons.1 hx with rfl | hx
          · exact hy
          · exact ahd_trans hy (h1 x hx)
        rw [e1, hx1, ahd_pre, ahd_one] at this
        exact this
      rw [hfront _ hall, kidsT, List.filterMap_cons, hk]; rfl
    · next hy =>
      have hyn := hn y (by simp)
      have ih := kids_ins_here hk h2 (fun x hx => hn x (List.mem_cons_of_mem _ hx))
      cases hky : kidOf n y with
      | none =>
        rw [kidsT, List.filterMap_cons, hky, kidsT, List.filterMap_cons, hky]
        exact ih
      | some z =>
        have hz := (kidOf_some.1 hky).1
        have hlt : lt k.1 z.1 = false := by
          rw [e1, hz, ahd_pre, ahd_one] at hy
          simpa using hy
        rw [kidsT, List.filterMap_cons, hky, kidsT, List.filterMap_cons, hky]
        show z :: kidsT (insT e r) n = insM k.1 k.2 (z :: kidsT r n)
        rw [insM, if_neg (by rw [hlt]; decide), ih]
/-- The folder of the new node: its map as the program lays it. -/
theorem kids_put {e : TE} {n : PN} {s : List UInt8} {L : List TE} (he : e.nm = n ++ [s]) (h : SrtT L) (hn : ∀ x ∈ L, x.nm ≠ e.nm) : kidsT (insT e L) n = putM (kidsT L n) s e.p := by
  rw [kids_ins_here (k := (s, e.p)) (kidOf_some.2 ⟨he, rfl⟩) h hn, putM]
  congr 1
  rw [delM, List.filter_eq_self.2]
  intro z hz
  obtain ⟨x, hx, h1, _⟩ := kidsT_mem.1 hz
  have : z.1 ≠ s := by rintro rfl; exact hn x hx (h1.trans he.symm)
  simpa using this
theorem kids_put_other {e : TE} {n : PN} {L : List TE} (he : ∀ s, e.nm ≠ n ++ [s]) : kidsT (insT e L) n = kidsT L n :=
  kids_ins_other (by
    cases hk : kidOf n e with
    | none => rfl
    | some k => exact absurd (kidOf_some.1 hk).1 (he k.1)) L
end Go.Proofs.YthcjjekkjbidlaaGreatDoor.Sr
/-
  How a tree lies in memory; the contract of look.
-/
namespace Go.Proofs.YthcjjekkjbidlaaGreatDoor.Sr
open Go.RowKit Go.Maps Go.WideMaps Go.Proofs.YthcjjekkjbidlaaGreatDoor.Rf Go.Proofs.YthcjjekkjbidlaaGreatDoor.Nm Go.Proofs.YthcjjekkjbidlaaGreatDoor.St

abbrev NdT : TypeId := 150
abbrev TrT : TypeId := 152
def mapV (m : Option Nat) : Value := .map m
def ptrO (p : Option Nat) : Value := .pointer (p.map fun n => ⟨n, 0, none⟩)
theorem ptrO_some (n : Nat) : ptrO (some n) = ptr n := rfl
theorem ptrO_none : ptrO none = .pointer none := rfl
/-- Attributes' seven cells. -/
def XA.cells (a : XA) (xv : Value) : List Value := [.int .u8 (a.node : Int), .int .u32 (a.mode : Int), .int .u32 (a.uid : Int), .int .u32 (a.gid : Int), .int .i64 a.mtime, .string ⟨a.target.toArray⟩, xv]
/-- A node's eleven. -/
def TE.cells (e : TE) : List Value := .int .u64 (e.ino : Int) :: .int .i64 e.tick :: (e.at_.cells e.xv ++ [.string ⟨e.data.toArray⟩, mapV e.m])
def xcells (xs : List (List UInt8 × List UInt8)) : List Value := xs.flatMap fun x => [.string ⟨x.1.toArray⟩, .string ⟨x.2.toArray⟩]
/-- A row of extended attributes that is only read. -/
def XsAt (w : World) (v : Value) (xs : List (List UInt8 × List UInt8)) : Prop :=
  ∃ a cap, v = .slice a xs.length cap ∧ xs.length ≤ maxLen ∧ (∀ x ∈ xs, x.1.length ≤ maxLen ∧ x.2.length ≤ maxLen) ∧
    (xs ≠ [] → ∃ b o, a = some ⟨b, o, none⟩ ∧ b < w.heap.size ∧ ∀ (i : Nat) x, xs[i]? = some x → w.cell? ⟨b, o + i * 2, none⟩ = some (.string ⟨x.1.toArray⟩) ∧ w.cell? ⟨b, o + i * 2 + 1, none⟩ = some (.string ⟨x.2.toArray⟩))
/-- The block that such a row reads. -/
def xob (xs : List (List UInt8 × List UInt8)) (v : Value) : List Nat :=
  match xs, v with
  | _ :: _, .slice (some a) _ _ => [a.block]
  | _, _ => []
theorem XsAt.kept {w w' : World} {v : Value} {xs : List (List UInt8 × List UInt8)} (h : XsAt w v xs) (hs : w.heap.size ≤ w'.heap.size) (hb : ∀ b ∈ xob xs v, w'.heap[b]? = w.heap[b]?) : XsAt w' v xs := by
  obtain ⟨a, cap, rfl, h1, h2, h3⟩ := h
  refine ⟨a, cap, rfl, h1, h2, fun hne => ?_⟩
  obtain ⟨b, o, rfl, hlt, hc⟩ := h3 hne
  have hbb : w'.heap[b]? = w.heap[b]? := hb b (by
    cases xs with
    | nil => exact absurd rfl hne
    | cons x r => simp [xob])
  refine ⟨b, o, rfl, Nat.lt_of_lt_of_le hlt hs, fun i x hx => ?_⟩
  rw [World.cell?_of_block (a := ⟨b, o + i * 2, none⟩) hbb, World.cell?_of_block (a := ⟨b, o + i * 2 + 1, none⟩) hbb]
  exact hc i x hx
theorem XsAt.lt {w : World} {v : Value} {xs : List (List UInt8 × List UInt8)} (h : XsAt w v xs) : ∀ b ∈ xob xs v, b < w.heap.size := by
  obtain ⟨a, cap, rfl, h1, h2, h3⟩ := h
  intro b hb
  cases xs with
  | nil => simp [xob] at hb
  | cons x r =>
    obtain ⟨b', o, rfl, hlt, _⟩ := h3 (by simp)
    simp [xob] at hb
    subst hb; exact hlt

/-- A tree: its nodes, its clock, its greatest number, how many files were read. -/
structure Tr where
  L : List TE
  clock : Nat
  most : Nat
  reads : Nat
def ownE (e : TE) : List Nat := e.p :: e.m.toList
def ownL (L : List TE) : List Nat := L.flatMap ownE
def xobL (L : List TE) : List Nat := L.flatMap fun e => xob e.at_.xs e.xv
/-- What lies of one node. -/
structure NodeAt (w : World) (L : List TE) (e : TE) : Prop where
  cells : w.heap[e.p]? = some (.cells e.cells.toArray NdT)
  kids : ∀ b, e.m = some b → w.ownsMap Tryz.prog 9 Rv b 1000000 (toD ptr (kidsT L e.nm))
  xs : XsAt w e.xv e.at_.xs
structure TreeAt (B : Nat) (w : World) (r : Nat) (T : Tr) : Prop where
  root : ∃ e, getT [] T.L = some e ∧ w.heap[r]? = some (.cells #[ptr e.p, .int .i64 (T.clock : Int), .int .u64 (T.most : Int), .int .i64 (T.reads : Int)] TrT)
  node : ∀ e ∈ T.L, NodeAt w T.L e
  nod : (r :: ownL T.L).Nodup
  xoff : ∀ b ∈ xobL T.L, b ∉ r :: ownL T.L
  base : ∀ b ∈ r :: (ownL T.L ++ xobL T.L), B ≤ b
  srt : SrtT T.L
  par : ∀ e ∈ T.L, ∀ n s, e.nm = n ++ [s] → ∃ u ∈ T.L, u.nm = n ∧ u.m ≠ none
  kind : ∀ e ∈ T.L, (e.at_.node = 2 ↔ e.m ≠ none)
theorem ownL_mem {L : List TE} {e : TE} (he : e ∈ L) : e.p ∈ ownL L := List.mem_flatMap.2 ⟨e, he, by simp [ownE]⟩
theorem ownL_mem2 {L : List TE} {e : TE} {b : Nat} (he : e ∈ L) (hb : e.m = some b) : b ∈ ownL L := List.mem_flatMap.2 ⟨e, he, by simp [ownE, hb]⟩
theorem NodeAt.kept {w w' : World} {L : List TE} {e : TE} (h : NodeAt w L e) (hs : w.heap.size ≤ w'.heap.size) (hb : ∀ b ∈ ownE e ++ xob e.at_.xs e.xv, w'.heap[b]? = w.heap[b]?) : NodeAt w' L e :=
  ⟨(hb _ (by simp [ownE])).trans h.cells, fun b hm => ownsMap_block (h.kids b hm) (hb b (by simp [ownE, hm])), h.xs.kept hs (fun b hx => hb b (by simp [hx]))⟩
theorem NodeAt.lt {w : World} {L : List TE} {e : TE} (h : NodeAt w L e) : ∀ b ∈ ownE e ++ xob e.at_.xs e.xv, b < w.heap.size := by
  intro b hb
  rcases List.mem_append.1 hb with hb | hb
  · rw [ownE, List.mem_cons] at hb
    rcases hb with rfl | hb
    · exact lt_of_heap h.cells
    · exact (h.kids b (by simpa using hb)).lt
  · exact h.xs.lt b hb
theorem TreeAt.kept {B : Nat} {w w' : World} {r : Nat} {T : Tr} (h : TreeAt B w r T) (hs : w.heap.size ≤ w'.heap.size) (hb : ∀ b ∈ r :: (ownL T.L ++ xobL T.L), w'.heap[b]? = w.heap[b]?) : TreeAt B w' r T := by
  refine ⟨?_, fun e he => (h.node e he).kept hs (fun b hx => hb b ?_), h.nod, h.xoff, h.base, h.srt, h.par, h.kind⟩
  · obtain ⟨e, h1, h2⟩ := h.root
    exact ⟨e, h1, (hb r (by simp)).trans h2⟩
  · rw [List.mem_cons, List.mem_append]
    rcases List.mem_append.1 hx with hx | hx
    · exact .inr (.inl (List.mem_flatMap.2 ⟨e, he, hx⟩))
    · exact .inr (.inr (List.mem_flatMap.2 ⟨e, he, hx⟩))
theorem TreeAt.lt {B : Nat} {w : World} {r : Nat} {T : Tr} (h : TreeAt B w r T) : ∀ b ∈ r :: (ownL T.L ++ xobL T.L), b < w.heap.size := by
  intro b hb
  rw [List.mem_cons, List.mem_append] at hb
  rcases hb with rfl | hb | hb
  · obtain ⟨e, _, h2⟩ := h.root; exact lt_of_heap h2
  · obtain ⟨e, he, hx⟩ := List.mem_flatMap.1 hb
    exact (h.node e he).lt b (by simp [hx])
  · obtain ⟨e, he, hx⟩ := List.mem_flatMap.1 hb
    exact (h.node e he).lt b (by simp [hx])
theorem TreeAt.below {B : Nat} {w w' : World} {r : Nat} {T : Tr} (h : TreeAt B w r T) (hb : Below w.heap.size w w') : TreeAt B w' r T :=
  h.kept hb.size (fun b hx => hb.block b (h.lt b hx))
theorem TreeAt.mono {B B' : Nat} {w : World} {r : Nat} {T : Tr} (h : TreeAt B w r T) (hB : B' ≤ B) : TreeAt B' w r T :=
  ⟨h.root, h.node, h.nod, h.xoff, fun b hb => Nat.le_trans hB (h.base b hb), h.srt, h.par, h.kind⟩
theorem zeroPN (w : World) : (zeroValue 142).run Tryz.prog w = .ok (.pointer none) w := by kernel_rfl

set_option maxRecDepth 100000 in
theorem kid_look {B : Nat} {w : World} {r : Nat} {T : Tr} (h : TreeAt B w r T) {e : TE} (he : e ∈ T.L) (s : List UInt8) (hs : s.length ≤ maxLen) :
    (Instr.lookup 148 (mapV e.m) (.string ⟨s.toArray⟩) false).run Tryz.prog w = .ok (ptrO ((getT (e.nm ++ [s]) T.L).map TE.p)) w := by
  cases hm : e.m with
  | some b =>
    have := look_run1 Tryz.underlying148 zeroPN ((h.node e he).kids b hm) ⟨s.toArray⟩ hs
    rw [show (⟨s.toArray⟩ : ByteArray).data.toList = s from by simp, kidsT_get h.srt] at this
    rw [mapV, this]
    cases (getT (e.nm ++ [s]) T.L).map TE.p <;> rfl
  | none =>
    have hn : getT (e.nm ++ [s]) T.L = none := by
      rw [getT_none]
      intro x hx hxn
      obtain ⟨u, hu, h1, h2⟩ := h.par x hx _ _ hxn
      rw [srtT_inj h.srt hu he h1] at h2
      exact h2 hm
    rw [hn]
    have hu : Tryz.prog.underlying 148 = _ := Tryz.underlying148
    rw [mapV]
    go_simp
    rfl
end Go.Proofs.YthcjjekkjbidlaaGreatDoor.Sr
/-
  The contracts of look, find, above and still.
-/
namespace Go.Proofs.YthcjjekkjbidlaaGreatDoor.Sr
open Go.RowKit Go.Maps Go.WideMaps Go.Proofs.YthcjjekkjbidlaaGreatDoor.Rf Go.Proofs.YthcjjekkjbidlaaGreatDoor.Nm Go.Proofs.YthcjjekkjbidlaaGreatDoor.St

theorem wpList_kid {B : Nat} {w : World} {r : Nat} {T : Tr} (h : TreeAt B w r T) {e : TE} (he : e ∈ T.L) (s : List UInt8) (hs : s.length ≤ maxLen)
    {ops : Array Oper} {o : Oper} {rest : List Oper} {a : Act} {Q : Exit → Act → World → Prop} (hgd : o.guard = none) (x y : Operand) (ho : o.op = .lookup 148 x y false) (hx : a.eval x = mapV e.m) (hy : a.eval y = .string ⟨s.toArray⟩)
    (hk : wpList Tryz.prog ops Q rest (a.put o.dst (ptrO ((getT (e.nm ++ [s]) T.L).map TE.p))) w) : wpList Tryz.prog ops Q (o :: rest) a w := by
  exact wpList_plain hgd fun _ hK => by
    unfold Oper.wp
    simp [execOp, ho, hx, hy, kid_look h he s hs, Result.andThen]
    exact hK _ _ hk

set_option linter.unusedSimpArgs false in
set_option maxHeartbeats 4000000 in
set_option maxRecDepth 100000 in
/-- From the root on. -/
theorem look_any (B : Nat) (w : World) (r : Nat) (T : Tr) (v : Value) (l : PN) (hv : StrsAt w v l) (h : TreeAt B w r T) :
    Calls Tryz.prog 140 #[ptr r, v] w fun e w' => e = .returned (ptrO ((getT l T.L).map TE.p)) ∧ w' = w := by
  obtain ⟨va, vc, rfl, hlm, hlx, hlc⟩ := hv
  obtain ⟨e0, he0, hq0⟩ := h.root
  obtain ⟨hm0, hn0⟩ := getT_nm he0
  have c0 : w.cell? ⟨r, 0, none⟩ = some (ptr e0.p) := cell_of_heap hq0
  have H := Lib.hid h; have HLX := Lib.hid hlx; have HLC := Lib.hid hlc
  unfold maxLen at hlm
  unfold ptr at *
  clear hq0 hlx hlc
  go_enter Tryz.func140, Tryz.ntmps140
  go_wp2
  go_loopw [5, 14] (fun v5 v14 wr => ∃ (i : Nat) (e : TE), i ≤ l.length ∧ v14 = .int .i64 (i : Int) ∧ v5 = ptr e.p ∧ e ∈ T.L ∧ e.nm = l.take i ∧ wr = w) (fun _ v14 _ => l.length - (RowKit.intOf v14).toNat)
  case atStart => exact ⟨0, e0, by omega, rfl, rfl, hm0, hn0, rfl⟩
  case round =>
    obtain ⟨i, e, hi, rfl, rfl, he, hn, rfl⟩ := hrel
    clear c0 hm0 hn0 he0
    by_cases hil : (i : Int) < (l.length : Int)
    · have hi2 : i < l.length := by omega
      obtain ⟨s, hs⟩ : ∃ s, l[i]? = some s := ⟨_, List.getElem?_eq_getElem hi2⟩
      obtain ⟨b, o, rfl, hb, hc⟩ := HLC.out (fun h => by rw [h] at hi2; cases hi2)
      have cs := hc i s hs
      have ce : wr.cell? ⟨e.p, 10, none⟩ = some (mapV e.m) := cell_of_heap (H.out.node e he).cells
      have hsl := HLX.out s (List.mem_of_getElem? hs)
      have htk : l.take (i + 1) = e.nm ++ [s] := by rw [List.take_add_one, hs, hn]; rfl
      have HE := Lib.hid he
      clear hc hs
      unfold ptr
      cases hg : getT (e.nm ++ [s]) T.L with
      | none =>
        have hno : Hid (getT l T.L = none) := Lib.hid (by
          rw [getT_none]
          intro x hx hxl
          -- each node's fore-names are a node's
          have : ∀ k, k ≤ l.length → ∃ u ∈ T.L, u.nm = l.take (l.length - k) := by
            intro k
            induction k with
            | zero => intro _; exact ⟨x, hx, by rw [hxl]; simp⟩
            | succ k ih =>
              intro hk
              obtain ⟨u, hu, hun⟩ := ih (by omega)
              obtain ⟨q, hq⟩ : ∃ q, l[l.length - (k + 1)]? = some q := ⟨_, List.getElem?_eq_getElem (by omega)⟩
              have e1 : l.length - k = l.length - (k + 1) + 1 := by omega
              rw [e1, List.take_add_one, hq] at hun
              obtain ⟨u', hu', h1, _⟩ := H.out.par u hu _ _ hun
              exact ⟨u', hu', h1⟩
          obtain ⟨u, hu, hun⟩ := this (l.length - (i + 1)) (by omega)
          rw [show l.length - (l.length - (i + 1)) = i + 1 by omega, htk] at hun
          exact getT_none.1 hg u hu hun)
        have HG := Lib.hid hg
        clear hg htk he
        go_wp2_with (first
          | (refine wpList_kid H.out HE.out s hsl rfl _ _ rfl rfl rfl ?_; rw [HG.out, Option.map_none, ptrO_none]))
        go_ret
        rw [hno.out]
        exact ⟨rfl, rfl⟩
      | some x =>
        have HG := Lib.hid hg
        obtain ⟨hx, hxn⟩ := getT_nm hg
        clear hg he
        go_wp2_with (first
          | (refine wpList_kid H.out HE.out s hsl rfl _ _ rfl rfl rfl ?_; rw [HG.out, Option.map_some, ptrO_some, ptr]))
        go_roundw
        case rel => exact ⟨i + 1, x, by omega, by go_num, rfl, hx, by rw [htk, hxn], trivial⟩
        case measure => simp [RowKit.intOf]; omega
    · obtain rfl : i = l.length := by omega
      rw [List.take_length] at hn
      have hg : Hid (getT l T.L = some e) := Lib.hid (by rw [← hn]; exact getT_of H.out.srt he)
      unfold ptr
      go_wp2
      go_ret
      rw [hg.out]
      exact ⟨rfl, rfl⟩
set_option linter.unusedSimpArgs false in
set_option maxHeartbeats 4000000 in
set_option maxRecDepth 100000 in
theorem still_any (B : Nat) (w : World) (r : Nat) (T : Tr) (h : TreeAt B w r T) :
    Calls Tryz.prog 129 #[ptr r] w fun e w' => e = .returned (.bool (decide (1099511627776 ≤ T.clock))) ∧ w' = w := by
  obtain ⟨e0, he0, hq0⟩ := h.root
  have c1 : w.cell? ⟨r, 1, none⟩ = some (.int .i64 (T.clock : Int)) := cell_of_heap hq0
  have hd : decide ((1099511627776 : Int) ≤ (T.clock : Int)) = decide (1099511627776 ≤ T.clock) := by rw [decide_eq_decide]; omega
  unfold ptr at *
  clear he0 hq0 h
  go_enter Tryz.func129, Tryz.ntmps129
  go_wp2
  go_ret
  first | exact ⟨rfl, rfl⟩ | (rw [hd]; exact ⟨rfl, rfl⟩)
end Go.Proofs.YthcjjekkjbidlaaGreatDoor.Sr
/-
  What Decode makes of bytes, in plain words; and that it finds an index in its own bytes again.
-/
namespace Go.Proofs.YthcjjekkjbidlaaGreatDoor.St
open Go.RowKit Go.Proofs.YthcjjekkjbidlaaGreatDoor.Rf Go.Proofs.YthcjjekkjbidlaaGreatDoor.Rd Go.Proofs.YthcjjekkjbidlaaGreatDoor.Nm

/-- Bytes that are taken; what lacks is filled up with noughts. -/
def tkF (n : Nat) (L : List UInt8) : List UInt8 := tkT n L ++ List.replicate (n - (tkT n L).length) 0
theorem tkT_len (n : Nat) (L : List UInt8) : (tkT n L).length ≤ n := by
  unfold tkT; split
  · simp; omega
  · simp
theorem tkF_len (n : Nat) (L : List UInt8) : (tkF n L).length = n := by
  have := tkT_len n L
  rw [tkF, List.length_append, List.length_replicate]; omega
/-- A number is there, and is not too great. -/
def numB (most : Nat) (L : List UInt8) : Bool := (rd0 L).isSome && decide (shN L ≤ most)
def tkB (n : Nat) (L : List UInt8) : Bool := decide (n ≤ L.length)
def txB (most : Nat) (L : List UInt8) : Bool := (txt most L).isSome

def r1 (R : List UInt8) : List UInt8 := txR 65536 R
def r2 (R : List UInt8) : List UInt8 := tkR 1 (r1 R)
def r3 (R : List UInt8) : List UInt8 := shR (r2 R)
def r4 (R : List UInt8) : List UInt8 := shR (r3 R)
def r5 (R : List UInt8) : List UInt8 := shR (r4 R)
def r6 (R : List UInt8) : List UInt8 := tkR 1 (r5 R)
def r7 (R : List UInt8) : List UInt8 := tkR 32 (r6 R)
/-- The next entry. -/
def entE (R : List UInt8) : SE := ⟨txT 65536 R, ((tkF 1 (r1 R)).headD 0).toNat, IntKind.i64.wrap (shN (r2 R)), shN (r3 R), IntKind.i64.wrap (shN (r4 R)), ((tkF 1 (r5 R)).headD 0).toNat, tkF 32 (r6 R)⟩
/-- It is whole. -/
def entB (R : List UInt8) : Bool := txB 65536 R && (tkB 1 (r1 R) && (numB 1048576 (r2 R) && (numB 18446744073709551615 (r3 R) && (numB 1099511627776 (r4 R) && (tkB 1 (r5 R) && tkB 32 (r6 R))))))
def decGo : Nat → List UInt8 → List SE → List UInt8 → Option (List SE × List UInt8)
  | 0, _, L, R => some (L, R)
  | n + 1, last, L, R => if entB R && lt last (entE R).path && decide ((setX (entE R) L).1 = 0) then decGo n (entE R).path (setX (entE R) L).2 (r7 R) else none
/-- The index that bytes are. -/
def decX (s : List UInt8) : Option (List SE) :=
  if s.take 4 = mst ∧ numB 65536 (s.drop 4) = true then
    match decGo (shN (s.drop 4)) [] [] (shR (s.drop 4)) with
    | some (L, []) => some L
    | _ => none
  else none

/-! ### rests grow no longer -/
theorem shR_le (L : List UInt8) : (shR L).length ≤ L.length := by
  unfold shR; split
  · simp
  · simp
theorem tkR_le (n : Nat) (L : List UInt8) : (tkR n L).length ≤ L.length := by
  unfold tkR; split
  · simp
  · simp
theorem txR_le (n : Nat) (L : List UInt8) : (txR n L).length ≤ L.length := by
  unfold txR
  cases h : txt n L with
  | none => simp
  | some p =>
    unfold txt at h
    split at h
    · cases h
    · split at h
      · injection h with h; subst h; simp <;> omega
      · cases h
theorem txT_le (n : Nat) (L : List UInt8) : (txT n L).length ≤ L.length := by
  unfold txT
  cases h : txt n L with
  | none => simp
  | some p =>
    unfold txt at h
    split at h
    · cases h
    · split at h
      · injection h with h; subst h; simp; omega
      · cases h
theorem wrap_fits (n : Int) : -9223372036854775808 ≤ IntKind.i64.wrap n ∧ IntKind.i64.wrap n < 9223372036854775808 := by
  rw [IntKind.wrap_i64]; omega
theorem ent_fits {R : List UInt8} (h : R.length ≤ 140737488355328) : (entE R).Fits :=
  ⟨by have := txT_le 65536 R; show (txT 65536 R).length ≤ _; omega, UInt8.toNat_lt _, wrap_fits _, shN_lt _, wrap_fits _, UInt8.toNat_lt _, tkF_len _ _⟩

/-! ### an entry's own bytes -/
theorem shN_sh {n : Nat} (h : n < 2 ^ 64) (r : List UInt8) : shN (sh n ++ r) = n := by rw [shN, rd_sh h]
theorem shR_sh {n : Nat} (h : n < 2 ^ 64) (r : List UInt8) : shR (sh n ++ r) = r := by rw [shR, rd_sh h]; simp
theorem numB_sh {n most : Nat} (h : n < 2 ^ 64) (hm : n ≤ most) (r : List UInt8) : numB most (sh n ++ r) = true := by
  rw [numB, shN_sh h, rd_sh h]; simpa using hm
theorem txt_put {t : List UInt8} {most : Nat} (h : t.length < 2 ^ 64) (hm : t.length ≤ most) (r : List UInt8) : txt most (putText t ++ r) = some (t, r) := by
  rw [txt, putText, List.append_assoc, rd_sh h]
  dsimp only
  rw [if_pos ⟨hm, by simp⟩]
  simp
theorem mayN_zero {e : SE} (h : mayN e = 0) : (splitP e.path).isSome = true ∧ statBad e = false := by
  rw [mayN] at h
  split at h
  · cases h
  · next h1 =>
    split at h
    · cases h
    · next h2 => exact ⟨by rw [Option.isSome_iff_ne_none]; intro e; rw [e] at h1; exact h1 rfl, by simpa using h2⟩
theorem parts_sum (l : List UInt8) : ∀ k, (∀ x ∈ parts l, x.length ≤ k) → l.length ≤ (l.count 47 + 1) * (k + 1) := by
  intro k h
  have e : ∀ l : List UInt8, l.length + 1 = ((parts l).map (fun x => x.length + 1)).sum := by
    intro l
    induction l with
    | nil => rfl
    | cons c t ih =>
      rw [parts]
      split
      · simp only [List.map_cons, List.sum_cons, ← ih, List.length_cons, List.length_nil]; omega
      · cases hp : parts t with
        | nil => exact absurd hp (parts_ne t)
        | cons x r =>
          rw [hp] at ih
          simp only [List.map_cons, List.sum_cons, List.length_cons] at ih ⊢
          omega
  have s : ∀ (m : List (List UInt8)), (∀ x ∈ m, x.length ≤ k) → (m.map (fun x => x.length + 1)).sum ≤ m.length * (k + 1) := by
    intro m hm
    induction m with
    | nil => simp
    | cons x r ih =>
      have h1 := hm x (by simp)
      have h2 := ih (fun y hy => hm y (by simp [hy]))
      simp only [List.map_cons, List.sum_cons, List.length_cons, Nat.add_mul]
      omega
  have h1 := e l
  have h2 := s (parts l) h
  rw [parts_count] at h2
  omega
theorem split_len {p : List UInt8} (h : (splitP p).isSome = true) : p.length ≤ 4353 ∧ p ≠ [] := by
  rw [splitP] at h
  split at h
  · next e => subst e; decide
  · split at h
    · next hc =>
      simp only [Bool.and_eq_true, decide_eq_true_eq] at hc
      obtain ⟨⟨h1, h2⟩, h3⟩ := hc
      obtain ⟨t, rfl⟩ := (hasPrefix_one p).1 h1
      rw [List.drop_succ_cons, List.drop_zero, List.all_eq_true] at h3
      have := parts_sum t 255 (fun x hx => by
        have := h3 x hx
        simp only [chk, lenFine, Bool.and_eq_true, decide_eq_true_eq] at this
        exact this.1.1.1.2)
      rw [List.count_cons_self] at h2
      refine ⟨?_, by simp⟩
      have h4 : (t.count 47 + 1) * (255 + 1) ≤ 16 * 256 := Nat.mul_le_mul (by omega) (Nat.le_refl _)
      rw [List.length_cons]; omega
    · cases h
theorem tk_append {n : Nat} {a r : List UInt8} (h : a.length = n) : tkT n (a ++ r) = a ∧ tkR n (a ++ r) = r ∧ tkB n (a ++ r) = true := by
  subst h
  refine ⟨?_, ?_, ?_⟩
  · rw [tkT, if_pos (by simp)]; simp
  · rw [tkR, if_pos (by simp)]; simp
  · rw [tkB]; simp
theorem tkF_append {n : Nat} {a r : List UInt8} (h : a.length = n) : tkF n (a ++ r) = a := by
  rw [tkF, (tk_append h).1, h]; simp

theorem ent_enc {e : SE} (hf : e.Fits) (hm : mayN e = 0) (r : List UInt8) : entE (encS e ++ r) = e ∧ entB (encS e ++ r) = true ∧ r7 (encS e ++ r) = r := by
  obtain ⟨h1, h2⟩ := mayN_zero hm
  have hl := (split_len h1).1
  simp only [statBad, Bool.or_eq_false_iff, decide_eq_false_iff_not] at h2
  obtain ⟨path, node, size, ino, tick, kind, id⟩ := e
  have f := hf
  obtain ⟨f1, f2, f3, f4, f5, f6, f7⟩ := hf
  dsimp only at *
  have e0 : encS ⟨path, node, size, ino, tick, kind, id⟩ ++ r = putText path ++ ([UInt8.ofNat node] ++ (sh size.toNat ++ (sh ino ++ (sh tick.toNat ++ ([UInt8.ofNat kind] ++ (id ++ r)))))) := by simp [encS]
  rw [e0]
  have t0 := txt_put (most := 65536) (by omega) (by omega) ([UInt8.ofNat node] ++ (sh size.toNat ++ (sh ino ++ (sh tick.toNat ++ ([UInt8.ofNat kind] ++ (id ++ r))))) ) (t := path)
  have q1 : r1 (putText path ++ ([UInt8.ofNat node] ++ (sh size.toNat ++ (sh ino ++ (sh tick.toNat ++ ([UInt8.ofNat kind] ++ (id ++ r))))))) = [UInt8.ofNat node] ++ (sh size.toNat ++ (sh ino ++ (sh tick.toNat ++ ([UInt8.ofNat kind] ++ (id ++ r))))) := by rw [r1, txR, t0]
  have q2 := congrArg (tkR 1) q1
  rw [(tk_append (n := 1) rfl).2.1] at q2
  have q3 := congrArg shR q2
  rw [shR_sh (by omega)] at q3
  have q4 := congrArg shR q3
  rw [shR_sh (by omega)] at q4
  have q5 := congrArg shR q4
  rw [shR_sh (by omega)] at q5
  have q6 := congrArg (tkR 1) q5
  rw [(tk_append (n := 1) rfl).2.1] at q6
  have q7 := congrArg (tkR 32) q6
  rw [(tk_append f7).2.1] at q7
  have p0 : txT 65536 (putText path ++ ([UInt8.ofNat node] ++ (sh size.toNat ++ (sh ino ++ (sh tick.toNat ++ ([UInt8.ofNat kind] ++ (id ++ r))))))) = path := by rw [txT, t0]
  generalize putText path ++ ([UInt8.ofNat node] ++ (sh size.toNat ++ (sh ino ++ (sh tick.toNat ++ ([UInt8.ofNat kind] ++ (id ++ r)))))) = R at *
  have g2 : r2 R = _ := q2
  have g3 : r3 R = _ := q3
  have g4 : r4 R = _ := q4
  have g5 : r5 R = _ := q5
  have g6 : r6 R = _ := q6
  have hw : ∀ x : Int, 0 ≤ x → x ≤ 1099511627776 → IntKind.i64.wrap ((x.toNat : Nat) : Int) = x := fun x h0 h1 => by rw [IntKind.wrap_i64]; omega
  refine ⟨?_, ?_, q7⟩
  · rw [entE, p0, q1, g2, g3, g4, g5, g6, tkF_append (n := 1) rfl, tkF_append (n := 1) rfl, tkF_append f7, shN_sh (by omega), shN_sh (by omega), shN_sh (by omega), hw size (by omega) (by omega), hw tick (by omega) (by omega)]
    have a1 : ((List.headD [UInt8.ofNat node] 0)).toNat = node := UInt8.toNat_ofNat_of_lt' f2
    have a2 : ((List.headD [UInt8.ofNat kind] 0)).toNat = kind := UInt8.toNat_ofNat_of_lt' f6
    rw [a1, a2]
  · rw [entB, q1, g2, g3, g4, g5, g6, txB, t0, (tk_append (n := 1) rfl).2.2, (tk_append (n := 1) rfl).2.2, (tk_append f7).2.2, numB_sh (by omega) (by omega), numB_sh (by omega) (by omega), numB_sh (by omega) (by omega)]
    rfl

/-! ### an index's own bytes -/
theorem insL_above {e : SE} : ∀ {A : List SE}, (∀ x ∈ A, lt x.path e.path = true) → insL e A = A ++ [e]
  | [], _ => rfl
  | y :: r, h => by
    rw [insL, if_pos (h y (by simp)), insL_above (fun x hx => h x (by simp [hx]))]; rfl
theorem lt_nil {p : List UInt8} (h : p ≠ []) : lt [] p = true := by
  cases p with
  | nil => exact absurd rfl h
  | cons a r => rfl
theorem dec_go : ∀ (B A : List SE) (last : List UInt8) (r : List UInt8), Srt (A ++ B) → (∀ e ∈ B, e.Fits) → (∀ e ∈ B, mayN e = 0) → (A ++ B).length ≤ 65536 → (last = [] ∧ A = [] ∨ ∃ a, a ∈ A ∧ last = a.path) →
    decGo B.length last A (B.flatMap encS ++ r) = some (A ++ B, r)
  | [], A, last, r, _, _, _, _, _ => by simp [decGo]
  | e :: B, A, last, r, hs, hf, hm, hl, hlast => by
    have hem := hm e (by simp)
    obtain ⟨g1, g2, g3⟩ := ent_enc (hf e (by simp)) hem (B.flatMap encS ++ r)
    have hab : ∀ x ∈ A, lt x.path e.path = true := fun x hx => (List.pairwise_append.1 hs).2.2 x hx e (by simp)
    have hlt : lt last e.path = true := by
      rcases hlast with ⟨rfl, _⟩ | ⟨a, ha, rfl⟩
      · exact lt_nil (split_len (mayN_zero hem).1).2
      · exact hab a ha
    have hset : setX e A = (0, A ++ [e]) := by
      rw [setX, if_neg (by rw [hem]; simp), if_neg, insL_above hab]
      rintro ⟨_, h⟩
      rw [List.length_append, List.length_cons] at hl
      omega
    rw [List.flatMap_cons, List.append_assoc, List.length_cons, decGo, g1, g2, g3, hlt, hset]
    rw [if_pos (by rfl)]
    have := dec_go B (A ++ [e]) e.path r (by simpa using hs) (fun x hx => hf x (by simp [hx])) (fun x hx => hm x (by simp [hx])) (by simpa using hl) (.inr ⟨e, by simp, rfl⟩)
    dsimp only
    rw [this]
    simp
/-- An index's bytes are read as that index. -/
theorem dec_enc {L : List SE} (hs : Srt L) (hf : ∀ e ∈ L, e.Fits) (hm : ∀ e ∈ L, mayN e = 0) (hl : L.length ≤ 65536) : decX (encX L) = some L := by
  have e0 : encX L = mst ++ (sh L.length ++ (L.flatMap encS ++ [])) := by rw [encX]; simp
  have e1 : (encX L).take 4 = mst := by rw [e0]; rfl
  have e2 : (encX L).drop 4 = sh L.length ++ (L.flatMap encS ++ []) := by rw [e0]; rfl
  rw [decX, e1, e2, numB_sh (by omega) hl, if_pos ⟨rfl, rfl⟩, shN_sh (by omega), shR_sh (by omega)]
  rw [dec_go L [] [] [] (by simpa using hs) hf hm (by simpa using hl) (.inl ⟨rfl, rfl⟩)]
  rfl
theorem encS_len {e : SE} (hf : e.Fits) (hm : mayN e = 0) : (encS e).length ≤ 5000 := by
  have h := (split_len (mayN_zero hm).1).1
  have a := sh_length e.path.length; have b := sh_length e.size.toNat; have c := sh_length e.ino; have d := sh_length e.tick.toNat
  have i := hf.id
  simp only [encS, putText, List.length_append, List.length_cons, List.length_nil]
  omega
theorem flat_len : ∀ {L : List SE}, (∀ e ∈ L, e.Fits) → (∀ e ∈ L, mayN e = 0) → (L.flatMap encS).length ≤ 5000 * L.length
  | [], _, _ => by simp
  | e :: L, hf, hm => by
    have h1 := encS_len (hf e (by simp)) (hm e (by simp))
    have h2 := flat_len (L := L) (fun x hx => hf x (by simp [hx])) (fun x hx => hm x (by simp [hx]))
    rw [List.flatMap_cons, List.length_append, List.length_cons]; omega
theorem encX_len {L : List SE} (hf : ∀ e ∈ L, e.Fits) (hm : ∀ e ∈ L, mayN e = 0) (hl : L.length ≤ 65536) : (encX L).length ≤ 400000000 := by
  have h := flat_len hf hm
  have a := sh_length L.length
  simp only [encX, mst, List.length_append, List.length_cons, List.length_nil]
  omega
end Go.Proofs.YthcjjekkjbidlaaGreatDoor.St
/-
  The contracts of find and above.
-/
namespace Go.Proofs.YthcjjekkjbidlaaGreatDoor.Sr
open Go.RowKit Go.Maps Go.WideMaps Go.Proofs.YthcjjekkjbidlaaGreatDoor.Rf Go.Proofs.YthcjjekkjbidlaaGreatDoor.Nm Go.Proofs.YthcjjekkjbidlaaGreatDoor.St

theorem splitL_chk {p : List UInt8} {x : List UInt8} (h : x ∈ splitL p) : chk x = true := by
  rw [splitL] at h
  cases hs : splitP p with
  | none => rw [hs] at h; cases h
  | some l =>
    rw [hs] at h
    change x ∈ l at h
    rw [splitP] at hs
    split at hs
    · obtain rfl := Option.some.inj hs; cases h
    · split at hs
      · next hc =>
        obtain rfl := Option.some.inj hs
        simp only [Bool.and_eq_true] at hc
        exact List.all_eq_true.1 hc.2 x h
      · cases hs
theorem chk_le {x : List UInt8} (h : chk x = true) : x.length ≤ 255 ∧ x ≠ [] := by
  refine ⟨?_, ?_⟩
  · simp only [chk, lenFine, Bool.and_eq_true, decide_eq_true_eq] at h
    exact h.1.1.1.2
  · rintro rfl
    exact absurd h (by decide)

theorem splitL_short (p : List UInt8) : (splitL p).length ≤ 1000000 := by
  rw [splitL]
  cases hs : splitP p with
  | none => simp
  | some l =>
    show l.length ≤ _
    rw [splitP] at hs
    split at hs
    · obtain rfl := Option.some.inj hs; simp
    · split at hs
      · next hc =>
        obtain rfl := Option.some.inj hs
        simp only [Bool.and_eq_true, decide_eq_true_eq] at hc
        rw [parts_count]
        have : (p.drop 1).count 47 ≤ p.count 47 := List.Sublist.count_le _ (List.drop_sublist 1 p)
        omega
      · cases hs
/-- Names in a row of one's own. -/
structure PathAt (B : Nat) (w : World) (v : Value) (l : PN) : Prop where
  row : w.ownsRow B 9 1 v l.length (l.map sv)
  len : ∀ x ∈ l, x.length ≤ maxLen
theorem PathAt.strs {B : Nat} {w : World} {v : Value} {l : PN} (h : PathAt B w v l) : StrsAt w v l := by
  obtain ⟨a, c, rfl⟩ := rowS_slice h.row
  have hm : l.length ≤ maxLen := by
    rcases h.row with ⟨_, ⟨_, h0⟩ | ⟨g, cap, cur, _, _, _, h1, h2, _⟩⟩
    · rw [h0]; exact Nat.zero_le _
    · exact Nat.le_trans h1 h2
  refine ⟨a, c, rfl, hm, h.len, fun hne => ?_⟩
  obtain ⟨g, cap, hv, hg, _, _, hc⟩ := rowS_form h.row (by intro h0; exact hne (List.length_eq_zero_iff.1 h0))
  injection hv with e1 e2 e3
  subst e1
  refine ⟨g, 0, rfl, hg, fun i p hp => ?_⟩
  rw [Nat.zero_add]
  exact hc i _ (by rw [List.getElem?_map, hp]; rfl)
theorem PathAt.below {B : Nat} {w w' : World} {v : Value} {l : PN} (h : PathAt B w v l) (hb : Below w.heap.size w w') : PathAt B w' v l :=
  ⟨rowS_kept h.row (fun x _ hl => hb.block x hl), h.len⟩
theorem PathAt.kept {B : Nat} {w w' : World} {v : Value} {l : PN} (h : PathAt B w v l) (hb : ∀ x ∈ ob v, w'.heap[x]? = w.heap[x]?) : PathAt B w' v l :=
  ⟨rowS_kept h.row (fun x hx _ => hb x hx), h.len⟩
/-- Its first names. -/
theorem PathAt.front {B : Nat} {w : World} {v : Value} {l : PN} (h : PathAt B w v l) (hne : l ≠ []) : ∃ g c, v = .slice (some ⟨g, 0, none⟩) l.length c ∧ l.length ≤ c ∧ c ≤ maxLen ∧ StrsAt w (.slice (some ⟨g, 0, none⟩) (l.length - 1) c) l.dropLast := by
  have hs := h.strs
  have h0 : l.length ≠ 0 := fun h0 => hne (List.length_eq_zero_iff.1 h0)
  obtain ⟨g, cap, hv, hg, _, hc, hcell⟩ := rowS_form h.row h0
  have hcm : cap ≤ maxLen := by
    rcases h.row with ⟨_, ⟨_, h0'⟩ | ⟨g', cap', cur, hv', _, _, h1, h2, _⟩⟩
    · exact absurd h0' h0
    · rw [hv] at hv'; injection hv' with e1 e2 e3; rw [e3]; exact h2
  refine ⟨g, cap, hv, hc, hcm, some ⟨g, 0, none⟩, cap, by rw [List.length_dropLast], by rw [List.length_dropLast]; omega, fun x hx => h.len x (List.dropLast_subset _ hx), fun _ => ⟨g, 0, rfl, hg, fun i p hp => ?_⟩⟩
  rw [Nat.zero_add]
  refine hcell i _ ?_
  have hi := (List.getElem?_eq_some_iff.1 hp).1
  rw [List.length_dropLast] at hi
  rw [List.getElem?_map]
  rw [List.getElem?_dropLast] at hp
  rw [if_pos hi] at hp
  rw [hp]; rfl

/-- What find answers. -/
def findE (p : List UInt8) (L : List TE) : Int := if splitE p = 0 then (if (getT (splitL p) L).isSome then 0 else 6) else 10
def findN (p : List UInt8) (L : List TE) : Option TE := if splitE p = 0 then getT (splitL p) L else none
def FindPost (w : World) (p : List UInt8) (L : List TE) (e : Ending) (w' : World) : Prop :=
  ∃ v, e = .returned (.tuple #[ptrO ((findN p L).map TE.p), v, .int .i64 (findE p L)]) ∧ PathAt w.heap.size w' v (splitL p) ∧ Below w.heap.size w w'
theorem splitE_cases (p : List UInt8) : splitE p = 0 ∨ (splitE p = 10 ∧ splitL p = []) := by
  rw [splitE, splitL]
  cases splitP p
  · exact .inr ⟨rfl, rfl⟩
  · exact .inl rfl
set_option linter.unusedSimpArgs false in
set_option maxHeartbeats 4000000 in
set_option maxRecDepth 100000 in
theorem find_any (B : Nat) (w : World) (r : Nat) (T : Tr) (p : List UInt8) (hp : p.length ≤ 4611686018427387904) (h : TreeAt B w r T) :
    Calls Tryz.prog 80 #[ptr r, .string ⟨p.toArray⟩] w (FindPost w p T.L) := by
  have SP := split_any ⟨p.toArray⟩ w hp
  rw [show (⟨p.toArray⟩ : ByteArray).data.toList = p from by simp] at SP
  have SP := Lib.hid SP
  have H := Lib.hid h
  clear h
  unfold ptr at *
  go_enter Tryz.func80, Tryz.ntmps80
  go_wp2_with fail
  refine SP.out.mono ?_
  rintro ex w1 ⟨v, rfl, hr1, hb1⟩
  have HP : Hid (PathAt w.heap.size w1 v (splitL p)) := Lib.hid ⟨hr1, fun x hx => by have := (chk_le (splitL_chk hx)).1; unfold maxLen; omega⟩
  have HB := Lib.hid hb1
  clear hr1 hb1 SP
  rcases splitE_cases p with h0 | ⟨h0, hl⟩
  · have HN : Hid (findN p T.L = getT (splitL p) T.L) := Lib.hid (by rw [findN, if_pos h0])
    have HE : Hid (findE p T.L = if (getT (splitL p) T.L).isSome then 0 else 6) := Lib.hid (by rw [findE, if_pos h0])
    have LK := look_any B w1 r T v (splitL p) HP.out.strs (H.out.below HB.out)
    obtain ⟨a, c, rfl⟩ := rowS_slice HP.out.row
    rw [h0]
    cases hg : getT (splitL p) T.L with
    | none =>
      rw [hg] at LK
      have LK := Lib.hid LK
      unfold ptr ptrO at LK
      have HN2 : Hid (findN p T.L = none) := Lib.hid (HN.out.trans hg)
      have HE2 : Hid (findE p T.L = 6) := Lib.hid (by rw [HE.out, hg]; rfl)
      clear hg HN HE h0
      go_wp2_with fail
      refine LK.out.mono ?_
      rintro ex w2 ⟨rfl, hw2⟩
      obtain rfl : w1 = w2 := hw2.symm
      go_wp2
      go_ret3
      refine ⟨_, by rw [HN2.out, HE2.out]; rfl, HP.out, HB.out⟩
    | some e =>
      rw [hg] at LK
      have LK := Lib.hid LK
      unfold ptr ptrO at LK
      have HN2 : Hid (findN p T.L = some e) := Lib.hid (HN.out.trans hg)
      have HE2 : Hid (findE p T.L = 0) := Lib.hid (by rw [HE.out, hg]; rfl)
      clear hg HN HE h0
      go_wp2_with fail
      refine LK.out.mono ?_
      rintro ex w2 ⟨rfl, hw2⟩
      obtain rfl : w1 = w2 := hw2.symm
      go_wp2
      go_ret3
      refine ⟨_, by rw [HN2.out, HE2.out]; rfl, HP.out, HB.out⟩
  · have HN : Hid (findN p T.L = none) := Lib.hid (by rw [findN, if_neg (by rw [h0]; decide)])
    have HE : Hid (findE p T.L = 10) := Lib.hid (by rw [findE, if_neg (by rw [h0]; decide)])
    rw [h0]
    clear h0
    go_wp2
    go_ret3
    refine ⟨_, by rw [HN.out, HE.out]; rfl, ⟨by rw [hl]; exact ⟨rfl, .inl ⟨rfl, rfl⟩⟩, by rw [hl]; simp⟩, HB.out⟩
def abvE (l : PN) (L : List TE) : Int := match getT l.dropLast L with | none => 6 | some u => if u.at_.node = 2 then 0 else 11
def abvN (l : PN) (L : List TE) : Option TE := match getT l.dropLast L with | none => none | some u => if u.at_.node = 2 then some u else none
set_option linter.unusedSimpArgs false in
set_option maxHeartbeats 4000000 in
set_option maxRecDepth 100000 in
theorem above_any (B B' : Nat) (w : World) (r : Nat) (T : Tr) (v : Value) (l : PN) (hne : l ≠ []) (hl : l.length ≤ 1000000) (hv : PathAt B' w v l) (h : TreeAt B w r T) :
    Calls Tryz.prog 132 #[ptr r, v] w fun e w' => e = .returned (.tuple #[ptrO ((abvN l T.L).map TE.p), .int .i64 (abvE l T.L)]) ∧ w' = w := by
  obtain ⟨g, c, rfl, hlc, hcm, hs⟩ := hv.front hne
  have LK := look_any B w r T _ l.dropLast hs h
  have hn0 : (1 : Int) ≤ (l.length : Int) := by have := List.length_pos_iff.2 hne; omega
  have hsub : ((l.length - 1 : Nat) : Int) = (l.length : Int) - 1 := by omega
  rw [abvN, abvE]
  unfold ptr ptrO at *
  unfold maxLen at hcm
  have H := Lib.hid h
  have hi1 : (l.length : Int) - 1 ≤ (c : Int) := by omega
  have hi0 : (0 : Int) ≤ (l.length : Int) - 1 := by omega
  have hwr : IntKind.i64.wrap ((l.length : Int) - 1) = (l.length : Int) - 1 := by rw [IntKind.wrap_i64]; omega
  have htn : ((l.length : Int) - 1).toNat = l.length - 1 := by omega
  cases hg : getT l.dropLast T.L with
  | none =>
    rw [hg] at LK
    have LK := Lib.hid LK
    clear hg hs hv h
    go_enter Tryz.func132, Tryz.ntmps132
    go_wp2_with fail
    refine LK.out.mono ?_
    rintro ex w2 ⟨rfl, hw2⟩
    obtain rfl : w = w2 := hw2.symm
    go_wp2
    go_ret2
    exact ⟨rfl, rfl⟩
  | some u =>
    rw [hg] at LK
    have LK := Lib.hid LK
    obtain ⟨hu, _⟩ := getT_nm hg
    have c2 : w.cell? ⟨u.p, 2, none⟩ = some (.int .u8 (u.at_.node : Int)) := cell_of_heap (h.node u hu).cells
    clear hg hs hv h
    dsimp only
    by_cases h2 : u.at_.node = 2
    · rw [if_pos h2, if_pos h2]
      rw [h2] at c2
      go_enter Tryz.func132, Tryz.ntmps132
      go_wp2_with fail
      refine LK.out.mono ?_
      rintro ex w2 ⟨rfl, hw2⟩
      obtain rfl : w = w2 := hw2.symm
      go_wp2
      go_ret2
      exact ⟨rfl, rfl⟩
    · rw [if_neg h2, if_neg h2]
      have hb : (((u.at_.node : Nat) : Int) == 2) = false := by rw [beq_eq_false_iff_ne]; omega
      have hb2 : (((u.at_.node : Nat) : Int) != 2) = true := by rw [bne, hb]; rfl
      go_enter Tryz.func132, Tryz.ntmps132
      go_wp2_with fail
      refine LK.out.mono ?_
      rintro ex w2 ⟨rfl, hw2⟩
      obtain rfl : w = w2 := hw2.symm
      go_wp2
      go_ret2
      exact ⟨rfl, rfl⟩
end Go.Proofs.YthcjjekkjbidlaaGreatDoor.Sr
/-
  A node's cells written; the contract of touch.
-/
namespace Go.Proofs.YthcjjekkjbidlaaGreatDoor.Sr
open Go.RowKit Go.Maps Go.WideMaps Go.Proofs.YthcjjekkjbidlaaGreatDoor.Rf Go.Proofs.YthcjjekkjbidlaaGreatDoor.Nm Go.Proofs.YthcjjekkjbidlaaGreatDoor.St

/-- One node in the place of the one that lies there. -/
def updT (e' : TE) (L : List TE) : List TE := L.map fun x => if x.p = e'.p then e' else x
theorem flat_inj {L : List TE} (h : (ownL L).Nodup) {a b : TE} (ha : a ∈ L) (hb : b ∈ L) {x : Nat} (hx : x ∈ ownE a) (hy : x ∈ ownE b) : a = b := by
  induction L with
  | nil => cases ha
  | cons y r ih =>
    rw [ownL, List.flatMap_cons, List.nodup_append] at h
    obtain ⟨_, h2, h3⟩ := h
    rcases List.mem_cons.1 ha with ha | ha <;> rcases List.mem_cons.1 hb with hb | hb
    · rw [ha, hb]
    · rw [ha] at hx; exact absurd rfl (h3 x hx x (List.mem_flatMap.2 ⟨b, hb, hy⟩))
    · rw [hb] at hy; exact absurd rfl (h3 x hy x (List.mem_flatMap.2 ⟨a, ha, hx⟩))
    · exact ih h2 ha hb
theorem own_nodE {L : List TE} (h : (ownL L).Nodup) {x : TE} (hx : x ∈ L) : (ownE x).Nodup := by
  induction L with
  | nil => cases hx
  | cons y r ih =>
    rw [ownL, List.flatMap_cons, List.nodup_append] at h
    rcases List.mem_cons.1 hx with hx | hx
    · rw [hx]; exact h.1
    · exact ih h.2.1 hx
theorem TreeAt.own_nod {B : Nat} {w : World} {r : Nat} {T : Tr} (h : TreeAt B w r T) : (ownL T.L).Nodup := (List.nodup_cons.1 h.nod).2
theorem TreeAt.p_inj {B : Nat} {w : World} {r : Nat} {T : Tr} (h : TreeAt B w r T) {a b : TE} (ha : a ∈ T.L) (hb : b ∈ T.L) (hp : a.p = b.p) : a = b :=
  flat_inj h.own_nod ha hb (x := a.p) (by simp [ownE]) (by simp [ownE, hp])
theorem TreeAt.r_own {B : Nat} {w : World} {r : Nat} {T : Tr} (h : TreeAt B w r T) : r ∉ ownL T.L := (List.nodup_cons.1 h.nod).1
theorem updT_facts {L : List TE} {e e' : TE} (hinj : ∀ x ∈ L, x.p = e.p → x = e) (hn : e'.nm = e.nm) (hp : e'.p = e.p) (hm : e'.m = e.m) :
    (∀ x ∈ L, ((if x.p = e'.p then e' else x) : TE).nm = x.nm ∧ ((if x.p = e'.p then e' else x) : TE).p = x.p ∧ ((if x.p = e'.p then e' else x) : TE).m = x.m) := by
  intro x hx
  split
  · next h =>
    have := hinj x hx (h.trans hp)
    subst this
    exact ⟨hn, hp, hm⟩
  · exact ⟨rfl, rfl, rfl⟩
theorem ownL_map {L : List TE} {f : TE → TE} (h : ∀ x ∈ L, (f x).nm = x.nm ∧ (f x).p = x.p ∧ (f x).m = x.m) : ownL (L.map f) = ownL L := by
  induction L with
  | nil => rfl
  | cons y r ih =>
    have h1 := h y (by simp)
    have ih2 := ih (fun x hx => h x (List.mem_cons_of_mem _ hx))
    unfold ownL at ih2 ⊢
    rw [List.map_cons, List.flatMap_cons, ih2, List.flatMap_cons, ownE, ownE, h1.2.1, h1.2.2]
theorem srtT_map {L : List TE} {f : TE → TE} (hs : SrtT L) (h : ∀ x ∈ L, (f x).nm = x.nm ∧ (f x).p = x.p ∧ (f x).m = x.m) : SrtT (L.map f) := by
  rw [SrtT, List.pairwise_map]
  refine hs.imp_of_mem (fun {a b} ha hb hab => ?_)
  rw [(h a ha).1, (h b hb).1]; exact hab
theorem getT_map {L : List TE} {f : TE → TE} (h : ∀ x ∈ L, (f x).nm = x.nm) (n : PN) : getT n (L.map f) = (getT n L).map f := by
  rw [getT, List.find?_map, getT]
  congr 1
  induction L with
  | nil => rfl
  | cons y r ih =>
    rw [List.find?_cons, List.find?_cons, ih (fun x hx => h x (List.mem_cons_of_mem _ hx))]
    rw [Function.comp_apply, h y (by simp)]
theorem getT_upd {L : List TE} {e e' : TE} (hinj : ∀ x ∈ L, x.p = e.p → x = e) (hn : e'.nm = e.nm) (hp : e'.p = e.p) (hm : e'.m = e.m) (n : PN) : getT n (updT e' L) = (getT n L).map fun x => if x.p = e'.p then e' else x :=
  getT_map (fun x hx => (updT_facts hinj hn hp hm x hx).1) n
/-- A node's cells are written. -/
theorem TreeAt.put {B : Nat} {w w' : World} {r : Nat} {T : Tr} (h : TreeAt B w r T) {e e' : TE} (he : e ∈ T.L) (hn : e'.nm = e.nm) (hp : e'.p = e.p) (hm : e'.m = e.m) (hk : e'.at_.node = 2 ↔ e'.m ≠ none)
    (hc : w'.heap[e.p]? = some (.cells e'.cells.toArray NdT)) (hxs : XsAt w' e'.xv e'.at_.xs) (hxo : ∀ b ∈ xob e'.at_.xs e'.xv, b ∉ r :: ownL T.L ∧ B ≤ b)
    (hoth : ∀ b ∈ r :: (ownL T.L ++ xobL T.L), b ≠ e.p → w'.heap[b]? = w.heap[b]?) (hs : w.heap.size ≤ w'.heap.size) : TreeAt B w' r { T with L := updT e' T.L } := by
  have hinj : ∀ x ∈ T.L, x.p = e.p → x = e := fun x hx hxp => h.p_inj hx he hxp
  have hf := updT_facts hinj hn hp hm
  have hown : ownL (updT e' T.L) = ownL T.L := ownL_map hf
  have hxob : ∀ b ∈ xobL (updT e' T.L), b ∈ xobL T.L ∨ b ∈ xob e'.at_.xs e'.xv := by
    intro b hb
    obtain ⟨x, hx, hxb⟩ := List.mem_flatMap.1 hb
    obtain ⟨y, hy, rfl⟩ := List.mem_map.1 hx
    split at hxb
    · exact .inr hxb
    · exact .inl (List.mem_flatMap.2 ⟨y, hy, hxb⟩)
  have hkid : ∀ n, kidsT (updT e' T.L) n = kidsT T.L n := kidsT_map (fun x hx => (hf x hx).1) (fun x hx => (hf x hx).2.1)
  have hne : ∀ x ∈ T.L, ¬ x.p = e'.p → ∀ b ∈ ownE x ++ xob x.at_.xs x.xv, b ≠ e.p := by
    intro x hx hxp b hb hbe
    subst hbe
    rcases List.mem_append.1 hb with hb | hb
    · exact hxp ((flat_inj h.own_nod hx he hb (by simp [ownE])) ▸ hp.symm)
    · exact h.xoff _ (List.mem_flatMap.2 ⟨x, hx, hb⟩) (List.mem_cons_of_mem _ (ownL_mem he))
  have hin : ∀ x ∈ T.L, ∀ b ∈ ownE x ++ xob x.at_.xs x.xv, b ∈ r :: (ownL T.L ++ xobL T.L) := by
    intro x hx b hb
    rw [List.mem_cons, List.mem_append]
    rcases List.mem_append.1 hb with hb | hb
    · exact .inr (.inl (List.mem_flatMap.2 ⟨x, hx, hb⟩))
    · exact .inr (.inr (List.mem_flatMap.2 ⟨x, hx, hb⟩))
  refine ⟨?_, fun x hx => ?_, ?_, fun b hb => ?_, fun b hb => ?_, srtT_map h.srt hf, fun x hx n s hxn => ?_, fun x hx => ?_⟩
  · obtain ⟨e0, h1, h2⟩ := h.root
    refine ⟨_, by rw [getT_upd hinj hn hp hm, h1]; rfl, ?_⟩
    have : r ≠ e.p := fun hr => h.r_own (hr ▸ ownL_mem he)
    rw [(hf e0 (getT_nm h1).1).2.1]
    exact (hoth r (by simp) this).trans h2
  · obtain ⟨y, hy, rfl⟩ := List.mem_map.1 hx
    by_cases hyp : y.p = e'.p
    · rw [if_pos hyp]
      have := hinj y hy (hyp.trans hp)
      subst this
      refine ⟨by rw [hp]; exact hc, fun b hb => ?_, hxs⟩
      rw [hkid, hn]
      refine ownsMap_block ((h.node y hy).kids b (hm ▸ hb)) (hoth b (hin y hy b (by simp [ownE, ← hm, hb])) ?_)
      rintro rfl
      have hnd : (ownE y).Nodup := own_nodE h.own_nod hy
      rw [ownE, List.nodup_cons] at hnd
      exact hnd.1 (by rw [← hm, hb]; simp)
    · rw [if_neg hyp]
      have := (h.node y hy).kept hs (fun b hb => hoth b (hin y hy b hb) (hne y hy hyp b hb))
      exact ⟨this.cells, fun b hb => by rw [hkid]; exact this.kids b hb, this.xs⟩
  · show (r :: ownL (updT e' T.L)).Nodup
    rw [hown]; exact h.nod
  · show b ∉ r :: ownL (updT e' T.L)
    rw [hown]
    rcases hxob b hb with hb | hb
    · exact h.xoff b hb
    · exact (hxo b hb).1
  · rw [List.mem_cons, List.mem_append] at hb
    rcases hb with rfl | hb | hb
    · exact h.base _ (by simp)
    · have hb : b ∈ ownL (updT e' T.L) := hb
      rw [hown] at hb
      exact h.base b (by simp [hb])
    · rcases hxob b hb with hb | hb
      · exact h.base b (by simp [hb])
      · exact (hxo b hb).2
  · obtain ⟨y, hy, rfl⟩ := List.mem_map.1 hx
    rw [(hf y hy).1] at hxn
    obtain ⟨u, hu, h1, h2⟩ := h.par y hy n s hxn
    exact ⟨_, List.mem_map.2 ⟨u, hu, rfl⟩, by rw [(hf u hu).1]; exact h1, by rw [(hf u hu).2.2]; exact h2⟩
  · obtain ⟨y, hy, rfl⟩ := List.mem_map.1 hx
    split
    · exact hk
    · exact h.kind y hy
/-- The tree's own cells are written. -/
theorem TreeAt.head {B : Nat} {w w' : World} {r : Nat} {T : Tr} (h : TreeAt B w r T) {c m n : Nat} {e : TE} (he : getT [] T.L = some e)
    (hc : w'.heap[r]? = some (.cells #[ptr e.p, .int .i64 (c : Int), .int .u64 (m : Int), .int .i64 (n : Int)] TrT))
    (hoth : ∀ b ∈ ownL T.L ++ xobL T.L, w'.heap[b]? = w.heap[b]?) (hs : w.heap.size ≤ w'.heap.size) : TreeAt B w' r { T with clock := c, most := m, reads := n } := by
  refine ⟨⟨e, he, hc⟩, fun x hx => (h.node x hx).kept hs (fun b hb => hoth b ?_), h.nod, h.xoff, h.base, h.srt, h.par, h.kind⟩
  rw [List.mem_append]
  rcases List.mem_append.1 hb with hb | hb
  · exact .inl (List.mem_flatMap.2 ⟨x, hx, hb⟩)
  · exact .inr (List.mem_flatMap.2 ⟨x, hx, hb⟩)
end Go.Proofs.YthcjjekkjbidlaaGreatDoor.Sr
/-
  The contract of touch.
-/
namespace Go.Proofs.YthcjjekkjbidlaaGreatDoor.Sr
open Go.RowKit Go.Maps Go.WideMaps Go.Proofs.YthcjjekkjbidlaaGreatDoor.Rf Go.Proofs.YthcjjekkjbidlaaGreatDoor.Nm Go.Proofs.YthcjjekkjbidlaaGreatDoor.St

theorem TreeAt.turn {B : Nat} {w w' : World} {r : Nat} {T : Tr} {X : List Nat} (h : TreeAt B w r T) (ht : Turn X w w') (hX : ∀ b ∈ r :: (ownL T.L ++ xobL T.L), b ∉ X) : TreeAt B w' r T :=
  h.kept ht.size (fun b hb => ht.block b (h.lt b hb) (hX b hb))
/-- One cell of a node is written. -/
theorem TreeAt.setNode {B : Nat} {w : World} {r : Nat} {T : Tr} (h : TreeAt B w r T) {e e' : TE} {j : Nat} {v : Value} (he : e ∈ T.L) (hn : e'.nm = e.nm) (hp : e'.p = e.p) (hm : e'.m = e.m) (hx : e'.at_.xs = e.at_.xs) (hxv : e'.xv = e.xv) (hno : e'.at_.node = e.at_.node)
    (hc : e.cells.toArray.setIfInBounds j v = e'.cells.toArray) : TreeAt B (w.setCell ⟨e.p, j, none⟩ v) r { T with L := updT e' T.L } := by
  have hxb : ∀ b ∈ xob e.at_.xs e.xv, b ∈ xobL T.L := fun b hb => List.mem_flatMap.2 ⟨e, he, hb⟩
  have hxp : ∀ b ∈ xob e.at_.xs e.xv, b ≠ e.p := fun b hb hbe => h.xoff b (hxb b hb) (hbe ▸ List.mem_cons_of_mem _ (ownL_mem he))
  refine h.put he hn hp hm (by rw [hno, hm]; exact h.kind e he) ?_ ?_ (fun b hb => ?_) (fun b hb hbe => Below.heap_setCell _ _ _ _ hbe) (Turn.refl [e.p] w |>.setCell (.inl (by simp)) _).size
  · rw [setCell_heap _ _ _ _ _ _ (h.node e he).cells, hc]
  · rw [hx, hxv]
    exact (h.node e he).xs.kept (Turn.refl [e.p] w |>.setCell (p := ⟨e.p, j, none⟩) (.inl (by simp)) v).size (fun b hb => Below.heap_setCell _ _ _ _ (hxp b hb))
  · rw [hx, hxv] at hb
    exact ⟨h.xoff b (hxb b hb), h.base b (by have := hxb b hb; simp [this])⟩
/-- The node at a block gets a tick. -/
def tick1 (q : Nat) (c : Int) (L : List TE) : List TE := L.map fun x => if x.p = q then { x with tick := c } else x
def tickT (qs : List Nat) (c : Int) (L : List TE) : List TE := qs.foldl (fun L q => tick1 q c L) L
theorem tick1_fine (q : Nat) (c : Int) (L : List TE) : ∀ x ∈ L, ((if x.p = q then { x with tick := c } else x) : TE).nm = x.nm ∧ ((if x.p = q then { x with tick := c } else x) : TE).p = x.p ∧ ((if x.p = q then { x with tick := c } else x) : TE).m = x.m := by
  intro x _; split <;> exact ⟨rfl, rfl, rfl⟩
theorem tick1_upd {L : List TE} {e : TE} (hinj : ∀ x ∈ L, x.p = e.p → x = e) (c : Int) : updT { e with tick := c } L = tick1 e.p c L := by
  rw [updT, tick1]
  refine List.map_congr_left (fun x hx => ?_)
  show (if x.p = e.p then _ else x) = _
  by_cases h : x.p = e.p
  · rw [if_pos h, if_pos h, hinj x hx h]
  · rw [if_neg h, if_neg h]
theorem own_tick1 (q : Nat) (c : Int) (L : List TE) : ownL (tick1 q c L) = ownL L := ownL_map (tick1_fine q c L)
theorem own_tickT (c : Int) : ∀ (qs : List Nat) (L : List TE), ownL (tickT qs c L) = ownL L
  | [], _ => rfl
  | q :: r, L => by
    show ownL (tickT r c (tick1 q c L)) = _
    rw [own_tickT c r, own_tick1]
theorem p_tickT (c : Int) : ∀ (qs : List Nat) (L : List TE) {q : Nat}, (∃ e ∈ L, e.p = q) → ∃ e ∈ tickT qs c L, e.p = q
  | [], _, _, h => h
  | a :: r, L, q, ⟨e, he, hq⟩ => p_tickT c r (tick1 a c L) ⟨_, List.mem_map.2 ⟨e, he, rfl⟩, by rw [(tick1_fine a c L e he).2.1]; exact hq⟩

/-- A row of pointers to nodes. -/
def PtrsAt (w : World) (v : Value) (qs : List Nat) : Prop :=
  ∃ a cap, v = .slice a qs.length cap ∧ qs.length ≤ 100 ∧ (qs ≠ [] → ∃ b o, a = some ⟨b, o, none⟩ ∧ b < w.heap.size ∧ ∀ (i : Nat) q, qs[i]? = some q → w.cell? ⟨b, o + i, none⟩ = some (ptr q))
set_option linter.unusedSimpArgs false in
set_option maxHeartbeats 4000000 in
set_option maxRecDepth 100000 in
theorem touch_any (B : Nat) (w : World) (r : Nat) (T : Tr) (v : Value) (qs : List Nat) (hv : PtrsAt w v qs) (ho : ∀ b o n c, v = .slice (some ⟨b, o, none⟩) n c → b ∉ r :: ownL T.L) (hq : ∀ q ∈ qs, ∃ e ∈ T.L, e.p = q) (hc : T.clock < 4611686018427387904) (h : TreeAt B w r T) :
    Calls Tryz.prog 130 #[ptr r, v] w fun e w' => e = .returned (.tuple #[]) ∧ TreeAt B w' r { T with clock := T.clock + 1, L := tickT qs ((T.clock + 1 : Nat) : Int) T.L } ∧ Turn (r :: ownL T.L) w w' := by
  obtain ⟨va, vc, rfl, hlm, hcell⟩ := hv
  obtain ⟨e0, he0, hq0⟩ := h.root
  have c1 : w.cell? ⟨r, 1, none⟩ = some (.int .i64 (T.clock : Int)) := cell_of_heap hq0
  have f1 : w.frozen? ⟨r, 1, none⟩ = false := frozen_of_heap hq0
  have HC := Lib.hid hcell; have HQ := Lib.hid hq; have HO := Lib.hid ho
  obtain ⟨c, hcc⟩ : ∃ c : Int, c = ((T.clock + 1 : Nat) : Int) := ⟨_, rfl⟩
  have hcc2 : c = (T.clock : Int) + 1 := by omega
  have h1 : TreeAt B (w.setCell ⟨r, 1, none⟩ (.int .i64 ((T.clock : Int) + 1))) r { T with clock := T.clock + 1 } := by
    refine h.head he0 (e := e0) (c := T.clock + 1) (m := T.most) (n := T.reads) ?_ (fun b hb => Below.heap_setCell _ _ _ _ ?_) (Turn.refl [r] w |>.setCell (p := ⟨r, 1, none⟩) (.inl (by simp)) _).size
    · rw [setCell_heap _ _ _ _ _ _ hq0]; rfl
    · rintro hbr
      have hbr : b = r := hbr
      subst hbr
      rcases List.mem_append.1 hb with hb | hb
      · exact h.r_own hb
      · exact h.xoff b hb (by simp)
  have HH1 : Hid (TreeAt B (w.setCell ⟨r, 1, none⟩ (.int .i64 ((T.clock : Int) + 1))) r { T with clock := T.clock + 1, L := tickT (qs.take 0) c T.L }) := Lib.hid h1
  have HT1 : Hid (Turn (r :: ownL T.L) w (w.setCell ⟨r, 1, none⟩ (.int .i64 ((T.clock : Int) + 1)))) := Lib.hid ((Turn.refl (r :: ownL T.L) w).setCell (.inl (by simp)) _)
  rw [← hcc]
  unfold ptr at *
  clear hq0 he0 hcell h h1 hq ho hcc
  have HCC := Lib.hid hcc2
  clear hcc2
  go_enter Tryz.func130, Tryz.ntmps130
  go_wp2
  go_loopw [15] (fun v15 wr => ∃ i : Nat, i ≤ qs.length ∧ v15 = .int .i64 (i : Int) ∧ Hid (TreeAt B wr r { T with clock := T.clock + 1, L := tickT (qs.take i) c T.L }) ∧ Hid (Turn (r :: ownL T.L) w wr)) (fun v15 _ => qs.length - (RowKit.intOf v15).toNat)
  case atStart => exact ⟨0, by omega, rfl, HH1, HT1⟩
  case round =>
    obtain ⟨i, hi, rfl, HA, HT⟩ := hrel
    by_cases hil : (i : Int) < (qs.length : Int)
    · have hi2 : i < qs.length := by omega
      obtain ⟨q, hq⟩ : ∃ q, qs[i]? = some q := ⟨_, List.getElem?_eq_getElem hi2⟩
      obtain ⟨b, o, rfl, hb, hcl⟩ := HC.out (fun h => by rw [h] at hi2; cases hi2)
      obtain ⟨e, he, rfl⟩ := p_tickT c (qs.take i) T.L (HQ.out q (List.mem_of_getElem? hq))
      have cq : wr.cell? ⟨b, o + i, none⟩ = some (.pointer (some ⟨e.p, 0, none⟩)) := (World.cell?_of_block (a := ⟨b, o + i, none⟩) (HT.out.block b hb (HO.out b o _ _ rfl))).trans (hcl i _ hq)
      obtain ⟨er, her, hqr⟩ := HA.out.root
      have cr : wr.cell? ⟨r, 1, none⟩ = some (.int .i64 ((T.clock : Int) + 1)) := cell_of_heap hqr
      have ce := (HA.out.node e he).cells
      have fe : wr.frozen? ⟨e.p, 1, none⟩ = false := frozen_of_heap ce
      have cx : wr.cell? ⟨e.p, 1, none⟩ = some (.int .i64 e.tick) := cell_of_heap ce
      have HN : Hid (TreeAt B (wr.setCell ⟨e.p, 1, none⟩ (.int .i64 ((T.clock : Int) + 1))) r { T with clock := T.clock + 1, L := tickT (qs.take (i + 1)) c T.L }) := Lib.hid (by
        have := HA.out.setNode (e := e) (e' := { e with tick := c }) (j := 1) (v := .int .i64 c) he rfl rfl rfl rfl rfl rfl rfl
        rw [← HCC.out]
        have e1 : tickT (qs.take (i + 1)) c T.L = updT { e with tick := c } (tickT (qs.take i) c T.L) := by
          rw [tick1_upd (fun x hx hxp => HA.out.p_inj hx he hxp), List.take_add_one, hq, tickT, List.foldl_append]; rfl
        rw [e1]
        exact this)
      have hqo : e.p ∈ ownL T.L := by
        have := ownL_mem he
        have e2 : ownL (tickT (qs.take i) c T.L) = ownL T.L := own_tickT _ _ _
        rw [← e2]; exact this
      have HTN : Hid (Turn (r :: ownL T.L) w (wr.setCell ⟨e.p, 1, none⟩ (.int .i64 ((T.clock : Int) + 1)))) := Lib.hid (HT.out.setCell (.inl (by simp [hqo])) _)
      clear hcl hq he her hqr ce hqo
      go_wp2
      go_roundw
      case rel => exact ⟨i + 1, by omega, by go_num, HN, HTN⟩
      case measure => simp [RowKit.intOf]; omega
    · obtain rfl : i = qs.length := by omega
      have HX := HA.out
      rw [List.take_length] at HX
      have HX := Lib.hid HX
      go_wp2
      exact bodyPost_end (results_none rfl _ _ _) rfl ⟨rfl, HX.out, HT.out⟩
end Go.Proofs.YthcjjekkjbidlaaGreatDoor.Sr
/-
  The contract of Write.
-/
namespace Go.Proofs.YthcjjekkjbidlaaGreatDoor.Sr
open Go.RowKit Go.Maps Go.WideMaps Go.Proofs.YthcjjekkjbidlaaGreatDoor.Rf Go.Proofs.YthcjjekkjbidlaaGreatDoor.Nm Go.Proofs.YthcjjekkjbidlaaGreatDoor.St

/-- What Write answers, and what it makes of the tree. -/
def writeE (p d : List UInt8) (T : Tr) : Int :=
  if splitE p ≠ 0 then 10 else if 1048576 < d.length then 1 else match getT (splitL p) T.L with
    | none => 6
    | some n => if n.at_.node ≠ 1 then 11 else if 1099511627776 ≤ T.clock then 3 else 0
def writeT (p d : List UInt8) (T : Tr) : Tr :=
  if writeE p d T = 0 then match getT (splitL p) T.L with
    | none => T
    | some n => { T with clock := T.clock + 1, L := tickT [n.p] ((T.clock + 1 : Nat) : Int) (updT { n with data := d } T.L) }
  else T
/-- A call that turns a tree. -/
def TreePost (B : Nat) (w : World) (r : Nat) (T T' : Tr) (c : Int) (e : Ending) (w' : World) : Prop :=
  e = .returned (.int .i64 c) ∧ TreeAt B w' r T' ∧ Turn (r :: ownL T.L) w w'
theorem treePost_same {B : Nat} {w w' : World} {r : Nat} {T : Tr} {c : Int} {e : Ending} (h : TreeAt B w r T) (he : e = .returned (.int .i64 c)) (hb : Below w.heap.size w w') : TreePost B w r T T c e w' :=
  ⟨he, h.below hb, Turn.of_below hb⟩
set_option linter.unusedSimpArgs false in
set_option maxHeartbeats 8000000 in
set_option maxRecDepth 100000 in
theorem write_any (B : Nat) (w : World) (r : Nat) (T : Tr) (p d : List UInt8) (hp : p.length ≤ 4611686018427387904) (hd : d.length ≤ 4611686018427387904) (h : TreeAt B w r T) :
    Calls Tryz.prog 71 #[ptr r, .string ⟨p.toArray⟩, .string ⟨d.toArray⟩] w (TreePost B w r T (writeT p d T) (writeE p d T)) := by
  have FI := Lib.hid (find_any B w r T p hp h)
  have H := Lib.hid h
  have hds : (⟨d.toArray⟩ : ByteArray).size = d.length := rfl
  have HW : Hid (writeT p d T = if writeE p d T = 0 then match getT (splitL p) T.L with
    | none => T
    | some n => { T with clock := T.clock + 1, L := tickT [n.p] ((T.clock + 1 : Nat) : Int) (updT { n with data := d } T.L) }
    else T) := Lib.hid rfl
  have HE : Hid (writeE p d T = if splitE p ≠ 0 then 10 else if 1048576 < d.length then 1 else match getT (splitL p) T.L with
    | none => 6
    | some n => if n.at_.node ≠ 1 then 11 else if 1099511627776 ≤ T.clock then 3 else 0) := Lib.hid rfl
  generalize writeT p d T = T' at *
  generalize writeE p d T = c at *
  clear h
  unfold ptr at *
  go_enter Tryz.func71, Tryz.ntmps71
  go_wp2_with fail
  refine FI.out.mono ?_
  rintro ex w1 ⟨v, rfl, hp1, hb1⟩
  have HP := Lib.hid hp1; have HB := Lib.hid hb1
  obtain ⟨va, vc, rfl⟩ := rowS_slice hp1.row
  clear FI hp1 hb1
  rw [findE, findN]
  rcases splitE_cases p with h0 | ⟨h0, _⟩
  case inr =>
    have hc : c = 10 := by rw [HE.out, if_pos (by rw [h0]; decide)]
    have HT : Hid (T' = T) := Lib.hid (by rw [HW.out, if_neg (by rw [hc]; decide)])
    subst hc
    rw [if_neg (by rw [h0]; decide), if_neg (by rw [h0]; decide)]
    unfold ptrO
    clear h0 HE HW
    go_wp2
    go_ret
    rw [HT.out]
    exact treePost_same H.out rfl HB.out
  rw [if_pos h0, if_pos h0]
  by_cases hbig : 1048576 < d.length
  · have hc : c = 1 := by rw [HE.out, if_neg (by rw [h0]; decide), if_pos hbig]
    have HT : Hid (T' = T) := Lib.hid (by rw [HW.out, if_neg (by rw [hc]; decide)])
    have hbi : (1048576 : Int) < (d.length : Int) := by omega
    subst hc
    clear h0 HE HW hbig
    cases hg : getT (splitL p) T.L with
    | none =>
      unfold ptrO
      clear hg
      go_wp2
      go_ret
      rw [HT.out]
      exact treePost_same H.out rfl HB.out
    | some n =>
      unfold ptrO
      clear hg
      go_wp2
      go_ret
      rw [HT.out]
      exact treePost_same H.out rfl HB.out
  have hbi : ¬ (1048576 : Int) < (d.length : Int) := by omega
  have HE1 : Hid (c = match getT (splitL p) T.L with
    | none => 6
    | some n => if n.at_.node ≠ 1 then 11 else if 1099511627776 ≤ T.clock then 3 else 0) := Lib.hid (by rw [HE.out, if_neg (by rw [h0]; decide), if_neg hbig])
  clear HE hbig h0
  cases hg : getT (splitL p) T.L with
  | none =>
    have hc : c = 6 := by rw [HE1.out, hg]
    have HT : Hid (T' = T) := Lib.hid (by rw [HW.out, if_neg (by rw [hc]; decide)])
    subst hc
    unfold ptrO
    clear hg HE1 HW
    go_wp2
    go_ret
    rw [HT.out]
    exact treePost_same H.out rfl HB.out
  | some n =>
    have HE2 : Hid (c = if n.at_.node ≠ 1 then 11 else if 1099511627776 ≤ T.clock then 3 else 0) := Lib.hid (by rw [HE1.out, hg])
    have HW2 : Hid (T' = if c = 0 then { T with clock := T.clock + 1, L := tickT [n.p] ((T.clock + 1 : Nat) : Int) (updT { n with data := d } T.L) } else T) := Lib.hid (by rw [HW.out, hg])
    obtain ⟨hn, _⟩ := getT_nm hg
    have HN := Lib.hid hn
    have H1 := Lib.hid (H.out.below HB.out)
    have c2 : w1.cell? ⟨n.p, 2, none⟩ = some (.int .u8 (n.at_.node : Int)) := cell_of_heap (H1.out.node n hn).cells
    clear hg HE1 HW hn
    unfold ptrO
    by_cases h1 : n.at_.node = 1
    case neg =>
      have hc : c = 11 := by rw [HE2.out, if_pos h1]
      have HT : Hid (T' = T) := Lib.hid (by rw [HW2.out, if_neg (by rw [hc]; decide)])
      subst hc
      have hb : (((n.at_.node : Nat) : Int) == 1) = false := by rw [beq_eq_false_iff_ne]; omega
      have hb2 : (((n.at_.node : Nat) : Int) != 1) = true := by rw [bne, hb]; rfl
      clear HE2 HW2 h1
      go_wp2
      go_ret
      rw [HT.out]
      exact treePost_same H.out rfl HB.out
    have HE3 : Hid (c = if 1099511627776 ≤ T.clock then 3 else 0) := Lib.hid (by rw [HE2.out, if_neg (by simpa using h1)])
    rw [h1] at c2
    have ST := still_any B w1 r T H1.out
    unfold ptr at ST
    clear HE2 h1
    by_cases hst : 1099511627776 ≤ T.clock
    · have hc : c = 3 := by rw [HE3.out, if_pos hst]
      have HT : Hid (T' = T) := Lib.hid (by rw [HW2.out, if_neg (by rw [hc]; decide)])
      subst hc
      rw [decide_eq_true hst] at ST
      have ST := Lib.hid ST
      clear HE3 HW2 hst
      go_wp2_with fail
      refine ST.out.mono ?_
      rintro ex w2 ⟨rfl, hw2⟩
      obtain rfl : w1 = w2 := hw2.symm
      go_wp2
      go_ret
      rw [HT.out]
      exact treePost_same H.out rfl HB.out
    · have hc : c = 0 := by rw [HE3.out, if_neg hst]
      have HT : Hid (T' = { T with clock := T.clock + 1, L := tickT [n.p] ((T.clock + 1 : Nat) : Int) (updT { n with data := d } T.L) }) := Lib.hid (by rw [HW2.out, if_pos hc])
      subst hc
      rw [decide_eq_false hst] at ST
      have ST := Lib.hid ST
      have HCL : Hid (T.clock < 4611686018427387904) := Lib.hid (by omega)
      have cd : w1.cell? ⟨n.p, 9, none⟩ = some (.string ⟨n.data.toArray⟩) := cell_of_heap (H1.out.node n HN.out).cells
      have fd : w1.frozen? ⟨n.p, 9, none⟩ = false := frozen_of_heap (H1.out.node n HN.out).cells
      have HNX : Hid (TreeAt B (w1.setCell ⟨n.p, 9, none⟩ (.string ⟨d.toArray⟩)) r { T with L := updT { n with data := d } T.L }) := Lib.hid (H1.out.setNode (e' := { n with data := d }) HN.out rfl rfl rfl rfl rfl rfl rfl)
      have HTX : Hid (Turn (r :: ownL T.L) w (w1.setCell ⟨n.p, 9, none⟩ (.string ⟨d.toArray⟩))) := Lib.hid ((Turn.of_below HB.out).setCell (.inl (by have := ownL_mem HN.out; simp [this])) _)
      have hown : Hid (ownL (updT { n with data := d } T.L) = ownL T.L) := Lib.hid (ownL_map (updT_facts (fun x hx hxp => H.out.p_inj hx HN.out hxp) rfl rfl rfl))
      have HPN : Hid (∃ e ∈ updT { n with data := d } T.L, e.p = n.p) := Lib.hid ⟨_, List.mem_map.2 ⟨n, HN.out, rfl⟩, by rw [if_pos rfl]⟩
      clear HE3 HW2 hst
      go_wp2_with fail
      refine ST.out.mono ?_
      rintro ex w2 ⟨rfl, hw2⟩
      obtain rfl : w1 = w2 := hw2.symm
      go_wp2_with fail
      obtain ⟨W, hW⟩ : ∃ W, W = w1.setCell ⟨n.p, 9, none⟩ (.string ⟨d.toArray⟩) := ⟨_, rfl⟩
      have hWs : W.heap.size = w1.heap.size := by rw [hW, World.size_setCell]
      rw [← hW] at HNX HTX ⊢
      rw [← hWs]
      refine (touch_any B _ r { T with L := updT { n with data := d } T.L } _ [n.p] ?_ ?_ ?_ HCL.out (HNX.out.below ((Below.refl _ _).alloc (Nat.le_refl _) _))).mono ?_
      · refine ⟨some ⟨W.heap.size, 0, none⟩, 1, rfl, by simp, fun _ => ⟨W.heap.size, 0, rfl, by rw [one_size]; omega, fun i q hq => ?_⟩⟩
        match i, hq with
        | 0, hq =>
          obtain rfl := Option.some.inj hq
          exact cell_of_heap (MapKept.heap_alloc W _).1
      · intro b o n' c' hv hb
        injection hv with e1 _ _
        injection e1 with e1
        injection e1 with e1 _ _
        subst e1
        have := HNX.out.lt W.heap.size (by
          rw [List.mem_cons] at hb ⊢
          rcases hb with hb | hb
          · exact .inl hb
          · exact .inr (List.mem_append_left _ hb))
        omega
      · intro q hq
        rw [List.mem_singleton] at hq
        subst hq
        exact HPN.out
      · rintro ex w3 ⟨rfl, ht3, hu3⟩
        have HT3 := Lib.hid ht3; have HU3 := Lib.hid hu3
        clear ht3 hu3
        go_wp2
        go_ret
        rw [HT.out]
        refine ⟨rfl, HT3.out, ?_⟩
        have h5 := HU3.out
        rw [show ownL ({ T with L := updT { n with data := d } T.L } : Tr).L = ownL T.L from hown.out] at h5
        have h6 := (HTX.out.alloc (Obj.cells #[ptr n.p] 142))
        exact h6.trans h5 (fun y hy => .inl hy)
end Go.Proofs.YthcjjekkjbidlaaGreatDoor.Sr
/-
  Variables of several cells: written and read whole.
-/
namespace Go.Proofs.YthcjjekkjbidlaaGreatDoor.Sh
open Go.RowKit Go.Maps Go.Proofs.YthcjjekkjbidlaaGreatDoor.Rf

theorem store_new (w : World) (T : TypeId) (old cs : Array Value) : ((w.alloc (.cells old T)).setRow w.heap.size cs).heap[w.heap.size]? = some (.cells cs T) ∧ Below w.heap.size w ((w.alloc (.cells old T)).setRow w.heap.size cs) := by
  refine ⟨setRow_heap _ _ _ _ _ _ (MapKept.heap_alloc w _).1, ?_⟩
  refine ((Below.refl _ w).alloc (Nat.le_refl _) (.cells old T)).trans ⟨rfl, rfl, rfl, by simp [World.setRow], fun k hk => ?_⟩
  exact setRow_other _ _ _ _ (by omega)
theorem setRow_size (w : World) (g : Nat) (cs : Array Value) : (w.setRow g cs).heap.size = w.heap.size := by simp [World.setRow]
theorem one_size (w : World) (A : Obj) : (w.alloc A).heap.size = w.heap.size + 1 := by show (w.heap.push _).size = _; simp
theorem at_alloc {w : World} {x : Nat} {o : Obj} (h : w.heap[x]? = some o) (A : Obj) : (w.alloc A).heap[x]? = some o := (Below.heap_alloc _ _ _ (lt_of_heap h)).trans h
theorem at_new (w : World) (A : Obj) : (w.alloc A).heap[w.heap.size]? = some A := (MapKept.heap_alloc w A).1
theorem below_drewN (w : World) (n : Nat) : Below w.heap.size w (w.drewN n) := (Below.refl _ _).trans ⟨rfl, rfl, rfl, Nat.le_of_eq (by rw [World.heap_drewN]), fun _ _ => by rw [World.heap_drewN]⟩
theorem Below.drewN {B : Nat} {w0 w : World} (h : Below B w0 w) (n : Nat) : Below B w0 (w.drewN n) := h.trans ⟨rfl, rfl, rfl, Nat.le_of_eq (by rw [World.heap_drewN]), fun _ _ => by rw [World.heap_drewN]⟩
theorem range_block {w : World} {g : Nat} {cs : Array Value} {T : TypeId} (h : w.heap[g]? = some (.cells cs T)) : w.rangeAt g 0 cs.toList := fun j v hv => by
  rw [Nat.zero_add, cell_of_heap h, ← Array.getElem?_toList]; exact hv

section
variable {P : Program} {ops : Array Oper} {rest : List Oper} {o : Oper} {a : Act} {w : World} {Q : Exit → Act → World → Prop}
/-- A new variable is written whole. -/
theorem wpList_store_new {old : Array Value} {T : TypeId} {p : Nat} (hp : p = w.heap.size) (hgd : o.guard = none) (ty : TypeId) (x y : Operand) (ho : o.op = .store ty x y)
    (cs : Array Value) (hx : a.eval x = .pointer (some ⟨p, 0, none⟩)) (hy : a.eval y = .agg cs) (hi : (P.info? ty).map (·.size) = some cs.size) (hold : old.size = cs.size) (h1 : cs.all (·.oneCell') = true)
    (h : ∀ w2 : World, w2.heap[p]? = some (.cells cs T) → Below p w w2 → w2.heap.size = p + 1 → wpList P ops Q rest (a.put o.dst undef) w2) :
    wpList P ops Q (o :: rest) a (w.alloc (.cells old T)) := by
  subst hp
  refine wpList_store_row hgd ty x y ho w.heap.size cs hx hy T old (MapKept.heap_alloc w _).1 hi hold h1 ?_
  obtain ⟨a1, a2⟩ := store_new w T old cs
  exact h _ a1 a2 (by rw [setRow_size, one_size])
/-- A variable is written whole. -/
theorem wpList_store_at {old : Array Value} {T : TypeId} {g : Nat} (hg : w.heap[g]? = some (.cells old T)) (hgd : o.guard = none) (ty : TypeId) (x y : Operand) (ho : o.op = .store ty x y)
    (cs : Array Value) (hx : a.eval x = .pointer (some ⟨g, 0, none⟩)) (hy : a.eval y = .agg cs) (hi : (P.info? ty).map (·.size) = some cs.size) (hold : old.size = cs.size) (h1 : cs.all (·.oneCell') = true)
    (h : ∀ w2 : World, w2.heap[g]? = some (.cells cs T) → Turn [g] w w2 → w2.heap.size = w.heap.size → wpList P ops Q rest (a.put o.dst undef) w2) :
    wpList P ops Q (o :: rest) a w := by
  refine wpList_store_row hgd ty x y ho g cs hx hy T old hg hi hold h1 ?_
  exact h _ (setRow_heap _ _ _ _ _ _ hg) ⟨rfl, rfl, rfl, by simp [World.setRow], fun k _ hk => setRow_other _ _ _ _ (by simpa using hk)⟩ (setRow_size _ _ _)
/-- A variable is read whole. -/
theorem wpList_load_at {cs : Array Value} {T : TypeId} {g : Nat} (hg : w.heap[g]? = some (.cells cs T)) (hgd : o.guard = none) (ty : TypeId) (x : Operand) (ho : o.op = .load ty x)
    (hx : a.eval x = .pointer (some ⟨g, 0, none⟩)) (d : TypeDesc) (hu : P.underlying ty = some d) (hd : (match d with | .struct _ | .array _ _ => true | _ => false) = true) (hi : (P.info? ty).map (·.size) = some cs.size)
    (h : wpList P ops Q rest (a.put o.dst (.agg cs)) w) : wpList P ops Q (o :: rest) a w :=
  wpList_load_row hgd ty x ho g hx T cs (0, 0) d hg hu hd hi h
end
end Go.Proofs.YthcjjekkjbidlaaGreatDoor.Sh
