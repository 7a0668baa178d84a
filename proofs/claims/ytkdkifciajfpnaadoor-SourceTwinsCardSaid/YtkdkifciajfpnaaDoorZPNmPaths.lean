import Derived.Test.YtkdkifciajfpnaaDoorZPRowKit
import Derived.Lib.Split
import Derived.Lib.SplitLaws
import Derived.WideAt
import Derived.WideShapes
import Derived.Lib.BufSteps
import Derived.Lib.Hide
import Derived.Laws.AppendOwn
import Derived.Maps.AppendAt
import Derived.OwnWalk
import Derived.BigRegion
import Derived.BigQuiet
import Derived.BigCall
import Derived.BigGuard
import Derived.Deep.QuietTactic
set_option linter.unusedSimpArgs false
set_option linter.unusedVariables false
/-
  Plain facts on paths: the names of a path, the path of names. No program stands in this text.
-/
namespace Go.Proofs.YtkdkifciajfpnaaDoor.Nm

def fine (r : Nat) : Bool := !(decide (r < 32)) && !(r == 127) && !(r == 47)
def runesFine (l : List UInt8) : Bool := (seg l).all fun p => fine p.1
def lenFine (l : List UInt8) : Bool := okB l && decide (1 ≤ count l) && decide (count l ≤ 64) && decide (l.length ≤ 255) && !(l == [46]) && !(l == [46, 46])
/-- A name may be. -/
def chk (l : List UInt8) : Bool := lenFine l && runesFine l

/-- A text cut at its slashes. -/
def parts : List UInt8 → List (List UInt8)
  | [] => [[]]
  | c :: t => if c = 47 then [] :: parts t else match parts t with | [] => [[c]] | h :: r => (c :: h) :: r

theorem parts_ne (l : List UInt8) : parts l ≠ [] := by
  cases l with
  | nil => simp [parts]
  | cons c t => rw [parts]; split; · simp
                split <;> simp

theorem parts_none (l : List UInt8) (h : ∀ c ∈ l, c ≠ 47) : parts l = [l] := by
  induction l with
  | nil => rfl
  | cons c t ih =>
    rw [parts, if_neg (h c (by simp)), ih (fun x hx => h x (by simp [hx]))]

theorem parts_hit (a b : List UInt8) (h : ∀ c ∈ a, c ≠ 47) : parts (a ++ 47 :: b) = a :: parts b := by
  induction a with
  | nil => simp [parts]
  | cons c t ih =>
    rw [List.cons_append, parts, if_neg (h c (by simp)), ih (fun x hx => h x (by simp [hx]))]

theorem parts_count (l : List UInt8) : (parts l).length = l.count 47 + 1 := by
  induction l with
  | nil => rfl
  | cons c t ih =>
    rw [parts]
    by_cases h : c = 47
    · subst h; simp [ih]
    · rw [if_neg h, List.count_cons_of_ne h]
      cases hp : parts t with
      | nil => exact absurd hp (parts_ne t)
      | cons x r => rw [hp] at ih; simpa using ih

theorem parts_le (l : List UInt8) : ∀ x ∈ parts l, x.length ≤ l.length := by
  induction l with
  | nil => intro x hx; simp [parts] at hx; subst hx; simp
  | cons c t ih =>
    intro x hx
    rw [parts] at hx
    split at hx
    · rcases List.mem_cons.1 hx with rfl | hx
      · simp
      · have := ih x hx; simp; omega
    · split at hx
      · rename_i e; exact absurd e (parts_ne t)
      · rename_i a r e
        rw [e] at ih
        rcases List.mem_cons.1 hx with rfl | hx
        · have := ih a (by simp); simp; omega
        · have := ih x (by simp [hx]); simp; omega

theorem splitK_parts : ∀ (n : Nat) (l : List UInt8), l.count 47 = n → Lib.splitK [47] 0 n l = parts l
  | 0, l, h => by
    rw [parts_none l (fun c hc e => by subst e; have := List.count_pos_iff.2 hc; omega)]
    rfl
  | n + 1, l, h => by
    have hmem : (47 : UInt8) ∈ l := List.count_pos_iff.1 (by omega)
    rw [Lib.splitK]
    cases hi : Lib.index l [47] with
    | negSucc k =>
      exfalso
      have h1 := Lib.index_ge l [47]
      have hm : Lib.index l [47] = -1 := by omega
      rw [Lib.index_one] at hm
      obtain ⟨j, hj, e⟩ := List.getElem_of_mem hmem
      exact Lib.indexByte_none hm j (by rw [List.getElem?_eq_getElem hj, e])
    | ofNat i =>
      have hne : (Int.ofNat i == (-1 : Int)) = false := by rw [beq_eq_false_iff_ne]; simp
      simp only [hne, Bool.false_eq_true, if_false]
      have hib : Lib.indexByte l 47 = (i : Nat) := by rw [← Lib.index_one, hi]; rfl
      obtain ⟨h1, h2⟩ := Lib.indexByte_some hib
      have hl : i < l.length := (List.getElem?_eq_some_iff.1 h1).1
      have hd : l = l.take i ++ 47 :: l.drop (i + 1) := by
        have := List.drop_eq_getElem_cons hl
        rw [(List.getElem?_eq_some_iff.1 h1).2] at this
        rw [← this, List.take_append_drop]
      have ha : ∀ c ∈ l.take i, c ≠ 47 := by
        intro c hc e
        subst e
        obtain ⟨j, hj, e⟩ := List.getElem_of_mem hc
        have hj' : j < i := by rw [List.length_take] at hj; omega
        refine h2 j hj' ?_
        rw [List.getElem_take] at e
        rw [List.getElem?_eq_getElem (by omega), e]
      have hc : (l.drop (i + 1)).count 47 = n := by
        have e := congrArg (List.count 47) hd
        rw [List.count_append, List.count_cons_self, h] at e
        have : (l.take i).count 47 = 0 := List.count_eq_zero.2 (fun hc => ha 47 hc rfl)
        omega
      have hk := splitK_parts n _ hc
      conv => rhs; rw [hd, parts_hit _ _ ha]
      rw [← hk]
      simp

theorem splitB_parts (s : ByteArray) : (Lib.splitB ⟨#[47]⟩ 0 (s.data.toList.count 47) s).map (·.data.toList) = parts s.data.toList := by
  rw [Lib.splitB_data]
  exact splitK_parts _ _ rfl

/-- A path's names; none: it is no path. -/
def splitP (p : List UInt8) : Option (List (List UInt8)) :=
  if p = [47] then some [] else if Lib.hasPrefix p [47] && decide (p.count 47 ≤ 16) && (parts (p.drop 1)).all chk then some (parts (p.drop 1)) else none

/-- The path of names. -/
def pathOf (ns : List (List UInt8)) : List UInt8 := ns.flatMap fun n => 47 :: n
theorem hasPrefix_one (p : List UInt8) : Lib.hasPrefix p [47] = true ↔ ∃ t, p = 47 :: t := by
  cases p with
  | nil => simp [Lib.hasPrefix]
  | cons c t =>
    simp [Lib.hasPrefix, List.isPrefixOf]
    exact eq_comm

end Go.Proofs.YtkdkifciajfpnaaDoor.Nm
/-
  The stat index, plain: entries, the list that an index is, its calls, its bytes. No walk stands in this text.
-/
namespace Go.Proofs.YtkdkifciajfpnaaDoor.St
open Go.RowKit Go.WideAt Go.WideShapes Go.Proofs.YtkdkifciajfpnaaDoor.Rf Go.Proofs.YtkdkifciajfpnaaDoor.Nm

/-- An entry. -/
structure SE where
  path : List UInt8
  node : Nat
  size : Int
  ino : Nat
  tick : Int
  kind : Nat
  id : List UInt8
instance : Inhabited SE := ⟨⟨[], 0, 0, 0, 0, 0, []⟩⟩

/-! ### the order of texts -/
theorem lt_irrefl (a : List UInt8) : lt a a = false := bytes_irrefl a
theorem lt_total {a b : List UInt8} (h : a ≠ b) : lt a b = true ∨ lt b a = true := bytes_total a b h
theorem lt_trans {a b c : List UInt8} (h : lt a b = true) (k : lt b c = true) : lt a c = true := bytes_trans a b c h k
theorem lt_ne {a b : List UInt8} (h : lt a b = true) : a ≠ b := by
  rintro rfl; rw [lt_irrefl] at h; cases h
theorem lt_asymm {a b : List UInt8} (h : lt a b = true) : lt b a = false := by
  cases k : lt b a
  · rfl
  · have := lt_trans h k; rw [lt_irrefl] at this; cases this
theorem lt_less : ∀ a b : List UInt8, Op.bytesLess a b = lt a b
  | [], [] => rfl
  | [], _ :: _ => rfl
  | _ :: _, [] => rfl
  | a :: r, b :: s => by
    show (decide (a < b) || (a == b && Op.bytesLess r s)) = (decide (a < b) || (a == b && lt r s))
    rw [lt_less r s]
theorem lt_iff : ∀ {a b : List UInt8}, lt a b = true ↔ a < b
  | [], [] => by simp [lt, Lit.before, bytesBefore]
  | [], _ :: _ => by simp [lt, Lit.before, bytesBefore]
  | _ :: _, [] => by simp [lt, Lit.before, bytesBefore]
  | a :: r, b :: s => by
    have e : lt (a :: r) (b :: s) = (decide (a < b) || (a == b && lt r s)) := rfl
    rw [e, List.cons_lt_cons_iff, Bool.or_eq_true, Bool.and_eq_true, decide_eq_true_eq, beq_iff_eq, lt_iff (a := r) (b := s)]

/-- Rising by path. -/
def Srt (L : List SE) : Prop := L.Pairwise fun a b => lt a.path b.path = true
theorem Srt.tail {e : SE} {L : List SE} (h : Srt (e :: L)) : Srt L := (List.pairwise_cons.1 h).2
theorem Srt.head {e : SE} {L : List SE} (h : Srt (e :: L)) : ∀ x ∈ L, lt e.path x.path = true := (List.pairwise_cons.1 h).1

/-! ### the calls of an index, on its list -/
def getL (p : List UInt8) : List SE → Option SE
  | [] => none
  | y :: r => if lt y.path p = true then getL p r else if y.path = p then some y else none
/-! ### the list as a map by paths -/
/-- Two rising lists of the same entries are one. -/
theorem srt_ext : ∀ {A B : List SE}, Srt A → Srt B → (∀ e, e ∈ A ↔ e ∈ B) → A = B
  | [], [], _, _, _ => rfl
  | [], b :: B, _, _, h => by have := (h b).2 (by simp); cases this
  | a :: A, [], _, _, h => by have := (h a).1 (by simp); cases this
  | a :: A, b :: B, hA, hB, h => by
    have e1 : a = b := by
      rcases List.mem_cons.1 ((h a).1 (by simp)) with e | e
      · exact e
      · rcases List.mem_cons.1 ((h b).2 (by simp)) with e2 | e2
        · exact e2.symm
        · have h1 := hB.head a e; have h2 := hA.head b e2
          rw [lt_asymm h1] at h2; cases h2
    subst e1
    congr 1
    refine srt_ext hA.tail hB.tail fun e => ?_
    constructor
    · intro he
      rcases List.mem_cons.1 ((h e).1 (by simp [he])) with rfl | e2
      · have := hA.head e he; rw [lt_irrefl] at this; cases this
      · exact e2
    · intro he
      rcases List.mem_cons.1 ((h e).2 (by simp [he])) with rfl | e2
      · have := hB.head e he; rw [lt_irrefl] at this; cases this
      · exact e2
/-! ### May, and the bytes -/
end Go.Proofs.YtkdkifciajfpnaaDoor.St
/-
  The plain tree of chapter 18: a list of nodes by their names, rising; what its calls make of it. No walk stands in this text.
-/
namespace Go.Proofs.YtkdkifciajfpnaaDoor.Sr
open Go.RowKit Go.Proofs.YtkdkifciajfpnaaDoor.Rf Go.Proofs.YtkdkifciajfpnaaDoor.Nm Go.Proofs.YtkdkifciajfpnaaDoor.St

/-- A node's names. -/
abbrev PN := List (List UInt8)
/-- The order of names. -/
def ahd : PN → PN → Bool
  | [], [] => false
  | [], _ :: _ => true
  | _ :: _, [] => false
  | a :: r, b :: s => if a = b then ahd r s else lt a b
theorem ahd_irrefl : ∀ a, ahd a a = false
  | [] => rfl
  | a :: r => by rw [ahd, if_pos rfl, ahd_irrefl r]
theorem ahd_trans : ∀ {a b c : PN}, ahd a b = true → ahd b c = true → ahd a c = true
  | [], [], _, h, _ => by cases h
  | [], _ :: _, [], _, h => by cases h
  | [], _ :: _, _ :: _, _, _ => rfl
  | _ :: _, [], _, h, _ => by cases h
  | _ :: _, _ :: _, [], _, h => by cases h
  | a :: r, b :: s, c :: t, h, k => by
    rw [ahd] at h k ⊢
    by_cases h1 : a = b
    · subst h1
      rw [if_pos rfl] at h
      by_cases h2 : a = c
      · subst h2; rw [if_pos rfl] at k ⊢; exact ahd_trans h k
      · rw [if_neg h2] at k ⊢; exact k
    · rw [if_neg h1] at h
      by_cases h2 : b = c
      · subst h2; rw [if_neg h1]; exact h
      · rw [if_neg h2] at k
        have := lt_trans h k
        rw [if_neg (lt_ne this)]; exact this
theorem ahd_total : ∀ {a b : PN}, a ≠ b → ahd a b = true ∨ ahd b a = true
  | [], [], h => absurd rfl h
  | [], _ :: _, _ => .inl rfl
  | _ :: _, [], _ => .inr rfl
  | a :: r, b :: s, h => by
    rw [ahd, ahd]
    by_cases h1 : a = b
    · subst h1; rw [if_pos rfl, if_pos rfl]; exact ahd_total (fun e => h (by rw [e]))
    · rw [if_neg h1, if_neg (Ne.symm h1)]; exact lt_total h1
theorem ahd_ne {a b : PN} (h : ahd a b = true) : a ≠ b := by rintro rfl; rw [ahd_irrefl] at h; cases h
theorem ahd_pre : ∀ (a b c : PN), ahd (a ++ b) (a ++ c) = ahd b c
  | [], _, _ => rfl
  | x :: r, b, c => by rw [List.cons_append, List.cons_append, ahd, if_pos rfl, ahd_pre r]
theorem ahd_one (a b : List UInt8) : ahd [a] [b] = lt a b := by
  rw [ahd]; split
  · next h => subst h; rw [lt_irrefl]; rfl
  · rfl
theorem ahd_below (a : PN) {b : PN} (h : b ≠ []) : ahd a (a ++ b) = true := by
  have := ahd_pre a [] b
  rw [List.append_nil] at this
  rw [this]
  match b, h with
  | _ :: _, _ => rfl

/-- Attributes. -/
structure XA where
  node : Nat
  mode : Nat
  uid : Nat
  gid : Nat
  mtime : Int
  target : List UInt8
  xs : List (List UInt8 × List UInt8)
/-- A node; and where it lies: its block, its map's, its row of extended attributes. -/
structure TE where
  nm : PN
  ino : Nat
  tick : Int
  at_ : XA
  data : List UInt8
  p : Nat
  m : Option Nat
  xv : Value

def SrtT (L : List TE) : Prop := L.Pairwise fun a b => ahd a.nm b.nm = true
def getT (n : PN) (L : List TE) : Option TE := L.find? fun e => decide (e.nm = n)
theorem getT_nm {n : PN} {L : List TE} {e : TE} (h : getT n L = some e) : e ∈ L ∧ e.nm = n :=
  ⟨List.mem_of_find?_eq_some h, by simpa using List.find?_some h⟩
theorem srtT_inj {L : List TE} (h : SrtT L) {a b : TE} (ha : a ∈ L) (hb : b ∈ L) (he : a.nm = b.nm) : a = b := by
  induction L with
  | nil => cases ha
  | cons y r ih =>
    obtain ⟨h1, h2⟩ := List.pairwise_cons.1 h
    rcases List.mem_cons.1 ha with ha | ha <;> rcases List.mem_cons.1 hb with hb | hb
    · rw [ha, hb]
    · exact absurd he (ahd_ne (by rw [ha]; exact h1 b hb))
    · exact absurd he.symm (ahd_ne (by rw [hb]; exact h1 a ha))
    · exact ih h2 ha hb
theorem getT_of {L : List TE} (h : SrtT L) {e : TE} (he : e ∈ L) : getT e.nm L = some e := by
  cases hg : getT e.nm L with
  | none =>
    rw [getT, List.find?_eq_none] at hg
    have := hg e he
    simp at this
  | some x =>
    obtain ⟨h1, h2⟩ := getT_nm hg
    rw [srtT_inj h h1 he h2]
theorem getT_none {n : PN} {L : List TE} : getT n L = none ↔ ∀ e ∈ L, e.nm ≠ n := by
  rw [getT, List.find?_eq_none]; simp

/-! ### what a folder has -/
def kidOf (n : PN) (e : TE) : Option (List UInt8 × Nat) := if h : e.nm ≠ [] then (if e.nm.dropLast = n then some (e.nm.getLast h, e.p) else none) else none
theorem kidOf_some {n : PN} {e : TE} {k : List UInt8 × Nat} : kidOf n e = some k ↔ e.nm = n ++ [k.1] ∧ e.p = k.2 := by
  unfold kidOf
  constructor
  · intro h
    split at h
    · next hn =>
      split at h
      · next hd =>
        obtain rfl := Option.some.inj h
        refine ⟨?_, rfl⟩
        rw [← hd]; exact (List.dropLast_concat_getLast hn).symm
      · cases h
    · cases h
  · rintro ⟨h1, h2⟩
    have hn : e.nm ≠ [] := by rw [h1]; simp
    rw [dif_pos hn, if_pos (by rw [h1]; simp)]
    congr 1
    refine Prod.ext ?_ h2
    show e.nm.getLast hn = k.1
    simp [h1]
/-- A folder's entries: names, and their nodes' blocks. -/
def kidsT (L : List TE) (n : PN) : MV Nat := L.filterMap (kidOf n)
theorem kidsT_mem {L : List TE} {n : PN} {k : List UInt8 × Nat} : k ∈ kidsT L n ↔ ∃ e ∈ L, e.nm = n ++ [k.1] ∧ e.p = k.2 := by
  rw [kidsT, List.mem_filterMap]
  simp only [kidOf_some]
theorem kidsT_get {L : List TE} (h : SrtT L) (n : PN) (s : List UInt8) : getM (kidsT L n) s = (getT (n ++ [s]) L).map TE.p := by
  cases hg : getT (n ++ [s]) L with
  | none =>
    rw [Option.map_none, get_none_iff]
    rintro ⟨k1, k2⟩ hk rfl
    obtain ⟨e, he, h1, _⟩ := kidsT_mem.1 hk
    exact getT_none.1 hg e he h1
  | some e =>
    obtain ⟨he, hn⟩ := getT_nm hg
    cases hm : getM (kidsT L n) s with
    | none =>
      rw [get_none_iff] at hm
      exact absurd rfl (hm (s, e.p) (kidsT_mem.2 ⟨e, he, hn, rfl⟩))
    | some q =>
      obtain ⟨x, hx, h1, h2⟩ := kidsT_mem.1 (getM_mem hm)
      rw [srtT_inj h hx he (h1.trans hn.symm)] at h2
      rw [Option.map_some]; exact congrArg some h2.symm
theorem kidsT_srt {L : List TE} (h : SrtT L) (n : PN) : (kidsT L n).Pairwise fun a b => lt a.1 b.1 = true := by
  rw [kidsT]
  refine List.Pairwise.filterMap _ (fun a b hab x hx y hy => ?_) h
  obtain ⟨h1, _⟩ := kidOf_some.1 hx
  obtain ⟨h2, _⟩ := kidOf_some.1 hy
  rw [h1, h2, ahd_pre, ahd_one] at hab
  exact hab
theorem kidOf_same {n : PN} {e e' : TE} (hn : e'.nm = e.nm) (hp : e'.p = e.p) : kidOf n e' = kidOf n e := by
  obtain ⟨a, b, c, d, f, g, h, i⟩ := e
  obtain ⟨a', b', c', d', f', g', h', i'⟩ := e'
  dsimp only at hn hp
  subst hn hp
  rfl
theorem kidsT_map {L : List TE} {f : TE → TE} (hn : ∀ e ∈ L, (f e).nm = e.nm) (hp : ∀ e ∈ L, (f e).p = e.p) (n : PN) : kidsT (L.map f) n = kidsT L n := by
  have key : ∀ e ∈ L, kidOf n (f e) = kidOf n e := by
   intro e he
   exact kidOf_same (hn e he) (hp e he)
  clear hn hp
  rw [kidsT, kidsT, List.filterMap_map]
  induction L with
  | nil => rfl
  | cons y r ih =>
    rw [List.filterMap_cons, List.filterMap_cons, ih (fun e he => key e (List.mem_cons_of_mem _ he))]
    rw [Function.comp_apply, key y (by simp)]

/-! ### a node more -/
def insT (e : TE) : List TE → List TE
  | [] => [e]
  | y :: r => if ahd e.nm y.nm then e :: y :: r else y :: insT e r
theorem mem_insT {e x : TE} : ∀ {L : List TE}, x ∈ insT e L ↔ x = e ∨ x ∈ L
  | [] => by simp [insT]
  | y :: r => by
    rw [insT]; split
    · simp
    · rw [List.mem_cons, mem_insT (L := r), List.mem_cons]
      constructor
      · rintro (h | h | h)
        · exact .inr (.inl h)
        · exact .inl h
        · exact .inr (.inr h)
      · rintro (h | h | h)
        · exact .inr (.inl h)
        · exact .inl h
        · exact .inr (.inr h)
theorem insT_perm (e : TE) : ∀ L : List TE, (insT e L).Perm (e :: L)
  | [] => .refl _
  | y :: r => by
    rw [insT]; split
    · exact .refl _
    · exact ((insT_perm e r).cons y).trans (.swap _ _ _)
theorem insT_srt {e : TE} : ∀ {L : List TE}, SrtT L → (∀ x ∈ L, x.nm ≠ e.nm) → SrtT (insT e L)
  | [], _, _ => List.pairwise_singleton _ _
  | y :: r, h, hn => by
    obtain ⟨h1, h2⟩ := List.pairwise_cons.1 h
    rw [insT]; split
    · next hy =>
      refine List.pairwise_cons.2 ⟨fun x hx => ?_, h⟩
      rcases List.mem_cons.1 hx with rfl | hx
      · exact hy
      · exact ahd_trans hy (h1 x hx)
    · next hy =>
      refine List.pairwise_cons.2 ⟨fun x hx => ?_, insT_srt h2 (fun x hx => hn x (List.mem_cons_of_mem _ hx))⟩
      rcases mem_insT.1 hx with rfl | hx
      · exact (ahd_total (hn y (by simp))).resolve_right hy
      · exact h1 x hx
theorem kids_ins_other {e : TE} {n : PN} (hk : kidOf n e = none) : ∀ L : List TE, kidsT (insT e L) n = kidsT L n
  | [] => by simp [insT, kidsT, hk]
  | y :: r => by
    rw [insT]; split
    · rw [kidsT, List.filterMap_cons, hk]; rfl
    · rw [kidsT, List.filterMap_cons, kidsT, List.filterMap_cons, ← kidsT, kids_ins_other hk r]; rfl
theorem kids_ins_here {e : TE} {n : PN} {k : List UInt8 × Nat} (hk : kidOf n e = some k) : ∀ {L : List TE}, SrtT L → (∀ x ∈ L, x.nm ≠ e.nm) → kidsT (insT e L) n = insM k.1 k.2 (kidsT L n)
  | [], _, _ => by simp [insT, kidsT, hk, insM]
  | y :: r, h, hn => by
    obtain ⟨h1, h2⟩ := List.pairwise_cons.1 h
    have e1 := (kidOf_some.1 hk).1
    have hfront : ∀ (M : MV Nat), (∀ z ∈ M, lt k.1 z.1 = true) → insM k.1 k.2 M = k :: M := by
      intro M hM
      cases M with
      | nil => rfl
      | cons z M => rw [insM, if_pos (hM z (by simp))]
    rw [insT]; split
    · next hy =>
      have hall : ∀ z ∈ kidsT (y :: r) n, lt k.1 z.1 = true := by
        intro z hz
        obtain ⟨x, hx, hx1, _⟩ := kidsT_mem.1 hz
        have : ahd e.nm x.nm = true := by
          rcases List.mem_cons.1 hx with rfl | hx
          · exact hy
          · exact ahd_trans hy (h1 x hx)
        rw [e1, hx1, ahd_pre, ahd_one] at this
        exact this
      rw [hfront _ hall, kidsT, List.filterMap_cons, hk]; rfl
    · next hy =>
      have hyn := hn y (by simp)
      have ih := kids_ins_here hk h2 (fun x hx => hn x (List.mem_cons_of_mem _ hx))
      cases hky : kidOf n y with
      | none =>
        rw [kidsT, List.filterMap_cons, hky, kidsT, List.filterMap_cons, hky]
        exact ih
      | some z =>
        have hz := (kidOf_some.1 hky).1
        have hlt : lt k.1 z.1 = false := by
          rw [e1, hz, ahd_pre, ahd_one] at hy
          simpa using hy
        rw [kidsT, List.filterMap_cons, hky, kidsT, List.filterMap_cons, hky]
        show z :: kidsT (insT e r) n = insM k.1 k.2 (z :: kidsT r n)
        rw [insM, if_neg (by rw [hlt]; decide), ih]
/-- The folder of the new node: its map as the program lays it. -/
theorem kids_put {e : TE} {n : PN} {s : List UInt8} {L : List TE} (he : e.nm = n ++ [s]) (h : SrtT L) (hn : ∀ x ∈ L, x.nm ≠ e.nm) : kidsT (insT e L) n = putM (kidsT L n) s e.p := by
  rw [kids_ins_here (k := (s, e.p)) (kidOf_some.2 ⟨he, rfl⟩) h hn, putM]
  congr 1
  rw [delM, List.filter_eq_self.2]
  intro z hz
  obtain ⟨x, hx, h1, _⟩ := kidsT_mem.1 hz
  have : z.1 ≠ s := by rintro rfl; exact hn x hx (h1.trans he.symm)
  simpa using this
theorem kids_put_other {e : TE} {n : PN} {L : List TE} (he : ∀ s, e.nm ≠ n ++ [s]) : kidsT (insT e L) n = kidsT L n :=
  kids_ins_other (by
    cases hk : kidOf n e with
    | none => rfl
    | some k => exact absurd (kidOf_some.1 hk).1 (he k.1)) L
end Go.Proofs.YtkdkifciajfpnaaDoor.Sr
/-
  What may have turned; blocks and rows that a call owns.
-/
namespace Go.Proofs.YtkdkifciajfpnaaDoor.Rf
open Go.RowKit Go.Maps

/-- Only the blocks of X may have turned; what is new lies behind. -/
structure Turn (X : List Nat) (w w' : World) : Prop where
  os : w'.os = w.os
  tape : w'.tape = w.tape
  output : w'.output = w.output
  size : w.heap.size ≤ w'.heap.size
  block : ∀ k, k < w.heap.size → k ∉ X → w'.heap[k]? = w.heap[k]?

theorem Turn.refl (X : List Nat) (w : World) : Turn X w w := ⟨rfl, rfl, rfl, Nat.le_refl _, fun _ _ _ => rfl⟩
theorem Turn.trans {X Y : List Nat} {a b c : World} (h : Turn X a b) (k : Turn Y b c) (hY : ∀ y ∈ Y, y ∈ X ∨ a.heap.size ≤ y) : Turn X a c :=
  ⟨k.os.trans h.os, k.tape.trans h.tape, k.output.trans h.output, Nat.le_trans h.size k.size, fun j hj hx => by
    rw [k.block j (Nat.lt_of_lt_of_le hj h.size) (fun hy => (hY j hy).elim hx (by omega)), h.block j hj hx]⟩
theorem Turn.mono {X Y : List Nat} {a b : World} (h : Turn X a b) (hX : ∀ x ∈ X, x ∈ Y) : Turn Y a b :=
  ⟨h.os, h.tape, h.output, h.size, fun k hk hy => h.block k hk (fun hx => hy (hX k hx))⟩
theorem Turn.alloc {X : List Nat} {a b : World} (h : Turn X a b) (o : Obj) : Turn X a (b.alloc o) :=
  ⟨h.os, h.tape, h.output, Nat.le_trans h.size (by show b.heap.size ≤ (b.heap.push o).size; rw [Array.size_push]; omega), fun k hk hx => (Below.heap_alloc _ _ _ (Nat.lt_of_lt_of_le hk h.size)).trans (h.block k hk hx)⟩
theorem Turn.drew {X : List Nat} {a b : World} (h : Turn X a b) : Turn X a b.drew := ⟨h.os, h.tape, h.output, h.size, h.block⟩
theorem Turn.setCell {X : List Nat} {a b : World} (h : Turn X a b) {p : Addr} (hp : p.block ∈ X ∨ a.heap.size ≤ p.block) (v : Value) : Turn X a (b.setCell p v) :=
  ⟨h.os, h.tape, h.output, by simpa [World.setCell] using h.size, fun k hk hx => by
    rw [Below.heap_setCell _ _ _ _ (by intro e; subst e; exact hp.elim hx (by omega))]; exact h.block k hk hx⟩
theorem Turn.of_below {X : List Nat} {a b : World} (h : Below a.heap.size a b) : Turn X a b := ⟨h.os, h.tape, h.output, h.size, fun k hk _ => h.block k hk⟩
theorem Turn.below {X : List Nat} {B : Nat} {a b : World} (h : Turn X a b) (hX : ∀ x ∈ X, B ≤ x) (hB : B ≤ a.heap.size) : Below B a b :=
  ⟨h.os, h.tape, h.output, h.size, fun k hk => h.block k (by omega) (fun hx => by have := hX k hx; omega)⟩

theorem setCell_heap (w : World) (g j : Nat) (v : Value) (cur : Array Value) (T : TypeId) (h : w.heap[g]? = some (.cells cur T)) :
    (w.setCell ⟨g, j, none⟩ v).heap[g]? = some (.cells (cur.setIfInBounds j v) T) := by
  simp [World.setCell, Array.getElem?_modify, h]
theorem cell_of_heap {w : World} {g j : Nat} {cur : Array Value} {T : TypeId} (h : w.heap[g]? = some (.cells cur T)) : w.cell? ⟨g, j, none⟩ = cur[j]? := by
  simp [World.cell?, h]
theorem frozen_of_heap {w : World} {g j : Nat} {cur : Array Value} {T : TypeId} (h : w.heap[g]? = some (.cells cur T)) : w.frozen? ⟨g, j, none⟩ = false := by
  simp [World.frozen?, h]

def ob (v : Value) : List Nat := v.ownBlock.toList
abbrev ptr (n : Nat) : Value := .pointer (some ⟨n, 0, none⟩)
theorem ownsMap_block {w w' : World} {R : Value → Option (DataW Value × List MemPlace)} {k : TypeId} {b n : Nat} {D : DataW Value} (h : w.ownsMap Tryd.prog k R b n D) (hb : w'.heap[b]? = w.heap[b]?) : w'.ownsMap Tryd.prog k R b n D := by
  obtain ⟨es, clock, h1, h2⟩ := h
  exact ⟨es, clock, hb.trans h1, h2⟩
theorem lt_of_heap {w : World} {q : Nat} {o : Obj} (h : w.heap[q]? = some o) : q < w.heap.size := (Array.getElem?_eq_some_iff.1 h).1
theorem row_mono {w : World} {B B' : Nat} {e : TypeId} {size : Nat} {v : Value} {n : Nat} {xs : List Value} (h : w.ownsRow B e size v n xs) (hB : B' ≤ B) : w.ownsRow B' e size v n xs := by
  obtain ⟨h1, h2 | ⟨g, cap, cur, rfl, hg, rest⟩⟩ := h
  · exact ⟨h1, .inl h2⟩
  · exact ⟨h1, .inr ⟨g, cap, cur, rfl, Nat.le_trans hB hg, rest⟩⟩
end Go.Proofs.YtkdkifciajfpnaaDoor.Rf
