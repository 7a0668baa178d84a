import Derived.Test.YthcjjekkjbidlaaDoorZPRowKit
import Derived.Test.YthcjjekkjbidlaaDoorZPRfMap
import Derived.Test.YthcjjekkjbidlaaDoorZPNmLike
import Derived.WideAt
import Derived.WideShapes
set_option linter.unusedSimpArgs false
set_option linter.unusedVariables false
/-
  The stat index, plain: entries, the list that an index is, its calls, its bytes. No walk stands in this text.
-/
namespace Go.Proofs.YthcjjekkjbidlaaDoor.St
open Go.RowKit Go.WideAt Go.WideShapes Go.Proofs.YthcjjekkjbidlaaDoor.Rf Go.Proofs.YthcjjekkjbidlaaDoor.Nm

/-- An entry. -/
structure SE where
  path : List UInt8
  node : Nat
  size : Int
  ino : Nat
  tick : Int
  kind : Nat
  id : List UInt8
instance : Inhabited SE := ⟨⟨[], 0, 0, 0, 0, 0, []⟩⟩

/-! ### the order of texts -/
theorem lt_irrefl (a : List UInt8) : lt a a = false := bytes_irrefl a
theorem lt_total {a b : List UInt8} (h : a ≠ b) : lt a b = true ∨ lt b a = true := bytes_total a b h
theorem lt_trans {a b c : List UInt8} (h : lt a b = true) (k : lt b c = true) : lt a c = true := bytes_trans a b c h k
theorem lt_ne {a b : List UInt8} (h : lt a b = true) : a ≠ b := by
  rintro rfl; rw [lt_irrefl] at h; cases h
theorem lt_asymm {a b : List UInt8} (h : lt a b = true) : lt b a = false := by
  cases k : lt b a
  · rfl
  · have := lt_trans h k; rw [lt_irrefl] at this; cases this
theorem lt_less : ∀ a b : List UInt8, Op.bytesLess a b = lt a b
  | [], [] => rfl
  | [], _ :: _ => rfl
  | _ :: _, [] => rfl
  | a :: r, b :: s => by
    show (decide (a < b) || (a == b && Op.bytesLess r s)) = (decide (a < b) || (a == b && lt r s))
    rw [lt_less r s]
theorem lt_iff : ∀ {a b : List UInt8}, lt a b = true ↔ a < b
  | [], [] => by simp [lt, Lit.before, bytesBefore]
  | [], _ :: _ => by simp [lt, Lit.before, bytesBefore]
  | _ :: _, [] => by simp [lt, Lit.before, bytesBefore]
  | a :: r, b :: s => by
    have e : lt (a :: r) (b :: s) = (decide (a < b) || (a == b && lt r s)) := rfl
    rw [e, List.cons_lt_cons_iff, Bool.or_eq_true, Bool.and_eq_true, decide_eq_true_eq, beq_iff_eq, lt_iff (a := r) (b := s)]

/-- Rising by path. -/
def Srt (L : List SE) : Prop := L.Pairwise fun a b => lt a.path b.path = true
theorem Srt.tail {e : SE} {L : List SE} (h : Srt (e :: L)) : Srt L := (List.pairwise_cons.1 h).2
theorem Srt.head {e : SE} {L : List SE} (h : Srt (e :: L)) : ∀ x ∈ L, lt e.path x.path = true := (List.pairwise_cons.1 h).1

/-! ### the calls of an index, on its list -/
/-- The place of a path. -/
def atL (p : List UInt8) : List SE → Nat
  | [] => 0
  | y :: r => if lt y.path p = true then atL p r + 1 else 0
def getL (p : List UInt8) : List SE → Option SE
  | [] => none
  | y :: r => if lt y.path p = true then getL p r else if y.path = p then some y else none
def insL (e : SE) : List SE → List SE
  | [] => [e]
  | y :: r => if lt y.path e.path = true then y :: insL e r else if y.path = e.path then e :: r else e :: y :: r
def remL (p : List UInt8) : List SE → List SE
  | [] => []
  | y :: r => if lt y.path p = true then y :: remL p r else if y.path = p then r else y :: r
def keepL (ps : List (List UInt8)) (L : List SE) : List SE := L.filter fun e => ps.contains e.path

theorem atL_le (p : List UInt8) : ∀ L : List SE, atL p L ≤ L.length
  | [] => Nat.le_refl _
  | y :: r => by rw [atL]; split <;> simp; exact atL_le p r
theorem remL_there {p : List UInt8} {x : SE} : ∀ {L : List SE}, getL p L = some x → remL p L = L.take (atL p L) ++ L.drop (atL p L + 1)
  | [], h => by simp [getL] at h
  | y :: r, h => by
    rw [getL] at h; rw [remL, atL]
    split
    · next hy =>
      rw [if_pos hy] at h
      rw [remL_there h]; simp
    · next hy =>
      rw [if_neg hy] at h
      have hy' : y.path = p := by
        cases Decidable.em (y.path = p) with
        | inl e1 => exact e1
        | inr e1 => rw [if_neg e1] at h; cases h
      rw [if_pos hy']; rfl
theorem remL_none {p : List UInt8} : ∀ {L : List SE}, getL p L = none → remL p L = L
  | [], _ => rfl
  | y :: r, h => by
    rw [getL] at h; rw [remL]
    split
    · next hy => rw [if_pos hy] at h; rw [remL_none h]
    · next hy =>
      rw [if_neg hy] at h
      have hne : y.path ≠ p := by intro e1; rw [if_pos e1] at h; cases h
      rw [if_neg hne]
theorem getL_path {p : List UInt8} {x : SE} : ∀ {L : List SE}, getL p L = some x → x.path = p ∧ x ∈ L
  | [], h => by simp [getL] at h
  | y :: r, h => by
    rw [getL] at h
    split at h
    · have := getL_path h; exact ⟨this.1, by simp [this.2]⟩
    · split at h
      · next hy => injection h with h; subst h; exact ⟨hy, by simp⟩
      · cases h

theorem mem_insL {e x : SE} : ∀ {L : List SE}, x ∈ insL e L → x = e ∨ x ∈ L
  | [], h => by simp [insL] at h; exact .inl h
  | y :: r, h => by
    rw [insL] at h
    split at h
    · rcases List.mem_cons.1 h with h | h
      · exact .inr (by simp [h])
      · rcases mem_insL h with h | h
        · exact .inl h
        · exact .inr (by simp [h])
    · split at h
      · rcases List.mem_cons.1 h with h | h
        · exact .inl h
        · exact .inr (by simp [h])
      · rcases List.mem_cons.1 h with h | h
        · exact .inl h
        · exact .inr h
theorem insL_srt (e : SE) : ∀ {L : List SE}, Srt L → Srt (insL e L)
  | [], _ => List.pairwise_singleton _ _
  | y :: r, h => by
    rw [insL]
    split
    · next hy =>
      refine List.pairwise_cons.2 ⟨fun x hx => ?_, insL_srt e h.tail⟩
      rcases mem_insL hx with rfl | hx
      · exact hy
      · exact h.head x hx
    · next hy =>
      split
      · next hp =>
        refine List.pairwise_cons.2 ⟨fun x hx => ?_, h.tail⟩
        rw [← hp]; exact h.head x hx
      · next hp =>
        have hey : lt e.path y.path = true := (lt_total hp).resolve_left hy
        refine List.pairwise_cons.2 ⟨fun x hx => ?_, h⟩
        rcases List.mem_cons.1 hx with rfl | hx
        · exact hey
        · exact lt_trans hey (h.head x hx)
theorem insL_length_le (e : SE) : ∀ L : List SE, (insL e L).length ≤ L.length + 1
  | [] => Nat.le_refl _
  | y :: r => by
    rw [insL]
    split
    · have := insL_length_le e r; simp; omega
    · split <;> simp
theorem remL_sub (p : List UInt8) : ∀ L : List SE, (remL p L).Sublist L
  | [] => .slnil
  | y :: r => by
    rw [remL]
    split
    · exact (remL_sub p r).cons_cons y
    · split
      · exact .cons _ (.refl _)
      · exact .refl _
theorem remL_srt {p : List UInt8} {L : List SE} (h : Srt L) : Srt (remL p L) := h.sublist (remL_sub p L)
theorem keepL_srt {ps : List (List UInt8)} {L : List SE} (h : Srt L) : Srt (keepL ps L) := h.sublist List.filter_sublist
theorem keepL_sub (ps : List (List UInt8)) (L : List SE) : (keepL ps L).Sublist L := List.filter_sublist

/-! ### the list as a map by paths -/
def toZ (L : List SE) : MV SE := L.map fun e => (e.path, e)
theorem toZ_length (L : List SE) : (toZ L).length = L.length := List.length_map _
theorem toZ_get (p : List UInt8) : ∀ {L : List SE}, Srt L → getM (toZ L) p = getL p L
  | [], _ => rfl
  | y :: r, h => by
    rw [getL]
    have ih := toZ_get p h.tail
    show ((((y.path, y) :: toZ r).find? fun q => q.1 == p).map (·.2)) = _
    by_cases hp : y.path = p
    · rw [List.find?_cons_of_pos (by simpa using hp), if_neg (by rw [hp, lt_irrefl]; decide), if_pos hp]; rfl
    · rw [List.find?_cons_of_neg (by simpa using hp)]
      show getM (toZ r) p = _
      rw [ih]
      split
      · rfl
      · next hy =>
        have hpy : lt p y.path = true := (lt_total hp).resolve_left hy
        cases r with
        | nil => rfl
        | cons z r =>
          have hz := lt_trans hpy (h.head z (by simp))
          rw [getL, if_neg (by rw [lt_asymm hz]; decide), if_neg (fun e => by rw [e, lt_irrefl] at hz; cases hz)]
theorem toZ_del (p : List UInt8) : ∀ {L : List SE}, Srt L → delM (toZ L) p = toZ (remL p L)
  | [], _ => rfl
  | y :: r, h => by
    have e : delM (toZ (y :: r)) p = if y.path = p then delM (toZ r) p else (y.path, y) :: delM (toZ r) p := by
      show List.filter _ ((y.path, y) :: toZ r) = _
      rw [List.filter_cons]
      by_cases hp : y.path = p
      · rw [if_neg (by simpa using hp), if_pos hp]; rfl
      · rw [if_pos (by simpa using hp), if_neg hp]; rfl
    have hnone : ∀ {r : List SE}, (∀ x ∈ r, x.path ≠ p) → delM (toZ r) p = toZ r := fun {r} hr => by
      rw [delM, List.filter_eq_self]
      intro q hq
      obtain ⟨x, hx, rfl⟩ := List.mem_map.1 hq
      simpa using hr x hx
    rw [e, remL]
    by_cases hp : y.path = p
    · rw [if_pos hp, if_neg (by rw [hp, lt_irrefl]; decide), if_pos hp]
      exact hnone (fun x hx e1 => by have := h.head x hx; rw [hp, e1, lt_irrefl] at this; cases this)
    · rw [if_neg hp]
      by_cases hy : lt y.path p = true
      · rw [if_pos hy, toZ_del p h.tail]; rfl
      · rw [if_neg hy, if_neg hp]
        have hpy : lt p y.path = true := (lt_total hp).resolve_left hy
        rw [hnone (fun x hx e1 => by have := lt_trans hpy (h.head x hx); rw [e1, lt_irrefl] at this; cases this)]; rfl
theorem toZ_ins {e : SE} : ∀ {L : List SE}, Srt L → (∀ x ∈ L, x.path ≠ e.path) → insM e.path e (toZ L) = toZ (insL e L)
  | [], _, _ => rfl
  | y :: r, h, hn => by
    show insM e.path e ((y.path, y) :: toZ r) = _
    rw [insM, insL]
    have hne := hn y (by simp)
    by_cases hy : lt y.path e.path = true
    · rw [if_pos hy, if_neg (by rw [lt_asymm hy]; decide), toZ_ins h.tail (fun x hx => hn x (by simp [hx]))]; rfl
    · rw [if_neg hy, if_neg hne, if_pos ((lt_total hne).resolve_left hy)]; rfl
theorem insL_rem {e : SE} : ∀ {L : List SE}, Srt L → insL e (remL e.path L) = insL e L
  | [], _ => rfl
  | y :: r, h => by
    rw [remL]
    by_cases hy : lt y.path e.path = true
    · rw [if_pos hy, insL, if_pos hy, insL_rem h.tail, insL, if_pos hy]
    · rw [if_neg hy]
      by_cases hp : y.path = e.path
      · rw [if_pos hp, insL, if_neg hy, if_pos hp]
        cases r with
        | nil => rfl
        | cons z r =>
          have hz := h.head z (by simp)
          rw [hp] at hz
          rw [insL, if_neg (by rw [lt_asymm hz]; decide), if_neg (fun e1 => by rw [e1, lt_irrefl] at hz; cases hz)]
      · rw [if_neg hp]
theorem toZ_put {e : SE} {L : List SE} (h : Srt L) : putM (toZ L) e.path e = toZ (insL e L) := by
  rw [putM, toZ_del _ h, toZ_ins (remL_srt h), insL_rem h]
  intro x hx e1
  have h1 : (x.path, x) ∈ toZ (remL e.path L) := List.mem_map.2 ⟨x, hx, rfl⟩
  rw [← toZ_del _ h] at h1
  exact (mem_del.1 h1).2 e1
/-- Two rising lists of the same entries are one. -/
theorem srt_ext : ∀ {A B : List SE}, Srt A → Srt B → (∀ e, e ∈ A ↔ e ∈ B) → A = B
  | [], [], _, _, _ => rfl
  | [], b :: B, _, _, h => by have := (h b).2 (by simp); cases this
  | a :: A, [], _, _, h => by have := (h a).1 (by simp); cases this
  | a :: A, b :: B, hA, hB, h => by
    have e1 : a = b := by
      rcases List.mem_cons.1 ((h a).1 (by simp)) with e | e
      · exact e
      · rcases List.mem_cons.1 ((h b).2 (by simp)) with e2 | e2
        · exact e2.symm
        · have h1 := hB.head a e; have h2 := hA.head b e2
          rw [lt_asymm h1] at h2; cases h2
    subst e1
    congr 1
    refine srt_ext hA.tail hB.tail fun e => ?_
    constructor
    · intro he
      rcases List.mem_cons.1 ((h e).1 (by simp [he])) with rfl | e2
      · have := hA.head e he; rw [lt_irrefl] at this; cases this
      · exact e2
    · intro he
      rcases List.mem_cons.1 ((h e).2 (by simp [he])) with rfl | e2
      · have := hB.head e he; rw [lt_irrefl] at this; cases this
      · exact e2
theorem mem_insL_iff {e x : SE} : ∀ {L : List SE}, Srt L → (x ∈ insL e L ↔ x = e ∨ (x ∈ L ∧ x.path ≠ e.path))
  | [], _ => by simp [insL]
  | y :: r, h => by
    rw [insL]
    split
    · next hy =>
      rw [List.mem_cons, mem_insL_iff h.tail, List.mem_cons]
      constructor
      · rintro (rfl | h1 | ⟨h1, h2⟩)
        · exact .inr ⟨.inl rfl, lt_ne hy⟩
        · exact .inl h1
        · exact .inr ⟨.inr h1, h2⟩
      · rintro (h1 | ⟨rfl | h1, h2⟩)
        · exact .inr (.inl h1)
        · exact .inl rfl
        · exact .inr (.inr ⟨h1, h2⟩)
    · next hy =>
      split
      · next hp =>
        rw [List.mem_cons, List.mem_cons]
        constructor
        · rintro (rfl | h1)
          · exact .inl rfl
          · exact .inr ⟨.inr h1, fun e1 => by have := h.head x h1; rw [hp, e1, lt_irrefl] at this; cases this⟩
        · rintro (h1 | ⟨rfl | h1, h2⟩)
          · exact .inl h1
          · exact absurd hp h2
          · exact .inr h1
      · next hp =>
        have hey : lt e.path y.path = true := (lt_total hp).resolve_left hy
        rw [List.mem_cons]
        constructor
        · rintro (h1 | h1)
          · exact .inl h1
          · refine .inr ⟨h1, fun e1 => ?_⟩
            rcases List.mem_cons.1 h1 with rfl | h1
            · exact hp e1
            · have := lt_trans hey (h.head x h1); rw [e1, lt_irrefl] at this; cases this
        · rintro (h1 | ⟨h1, _⟩)
          · exact .inl h1
          · exact .inr h1
/-- What Keep's loop over the paths builds. -/
def stayL (L : List SE) : List (List UInt8) → List SE → List SE
  | [], S => S
  | p :: ps, S => stayL L ps (match getL p L with | none => S | some e => insL e S)
theorem getL_mem {L : List SE} (h : Srt L) {x : SE} (hx : x ∈ L) : getL x.path L = some x := by
  rw [← toZ_get _ h]
  have hk : ∀ y ∈ L, y.path = x.path → y = x := fun y hy e => by
    obtain ⟨i, hi, rfl⟩ := List.getElem_of_mem hx
    obtain ⟨j, hj, rfl⟩ := List.getElem_of_mem hy
    rcases Nat.lt_trichotomy i j with k | k | k
    · have := List.pairwise_iff_getElem.1 h i j hi hj k; rw [e, lt_irrefl] at this; cases this
    · subst k; rfl
    · have := List.pairwise_iff_getElem.1 h j i hj hi k; rw [e, lt_irrefl] at this; cases this
  cases hg : getM (toZ L) x.path with
  | none => exact absurd rfl (get_none_iff.1 hg (x.path, x) (List.mem_map.2 ⟨x, hx, rfl⟩))
  | some y =>
    obtain ⟨z, hz, e⟩ := List.mem_map.1 (getM_mem hg)
    injection e with e1 e2
    subst e2
    rw [hk z hz e1]
theorem stayL_srt {L : List SE} : ∀ {ps : List (List UInt8)} {S : List SE}, Srt S → Srt (stayL L ps S)
  | [], _, h => h
  | p :: ps, S, h => by
    rw [stayL]
    refine stayL_srt ?_
    split
    · exact h
    · exact insL_srt _ h
theorem stayL_mem {L : List SE} (hL : Srt L) {x : SE} : ∀ {ps : List (List UInt8)} {S : List SE}, Srt S → (∀ y ∈ S, y ∈ L) → (x ∈ stayL L ps S ↔ x ∈ S ∨ (x ∈ L ∧ x.path ∈ ps))
  | [], S, _, _ => by simp [stayL]
  | p :: ps, S, h, hs => by
    rw [stayL]
    cases hg : getL p L with
    | none =>
      rw [stayL_mem hL h hs]
      constructor
      · rintro (h1 | ⟨h1, h2⟩)
        · exact .inl h1
        · exact .inr ⟨h1, by simp [h2]⟩
      · rintro (h1 | ⟨h1, h2⟩)
        · exact .inl h1
        · rcases List.mem_cons.1 h2 with e | h2
          · subst e; rw [getL_mem hL h1] at hg; cases hg
          · exact .inr ⟨h1, h2⟩
    | some e =>
      obtain ⟨g1, g2⟩ := getL_path hg
      have hsub : ∀ y ∈ insL e S, y ∈ L := fun y hy => by
        rcases mem_insL hy with rfl | hy
        · exact g2
        · exact hs y hy
      rw [stayL_mem hL (insL_srt e h) hsub, mem_insL_iff h]
      constructor
      · rintro ((rfl | ⟨h1, h2⟩) | ⟨h1, h2⟩)
        · exact .inr ⟨g2, by simp [g1]⟩
        · exact .inl h1
        · exact .inr ⟨h1, by simp [h2]⟩
      · rintro (h1 | ⟨h1, h2⟩)
        · by_cases hp : x.path = e.path
          · have h3 := getL_mem hL (hs x h1)
            rw [hp, g1, hg] at h3
            injection h3 with h3
            exact .inl (.inl h3.symm)
          · exact .inl (.inr ⟨h1, hp⟩)
        · rcases List.mem_cons.1 h2 with e1 | h2
          · have h3 := getL_mem hL h1
            rw [e1, hg] at h3
            injection h3 with h3
            exact .inl (.inl h3.symm)
          · exact .inr ⟨h1, h2⟩
theorem stay_keep {L : List SE} (h : Srt L) (ps : List (List UInt8)) : stayL L ps [] = keepL ps L := by
  refine srt_ext (stayL_srt List.Pairwise.nil) (keepL_srt h) fun x => ?_
  rw [stayL_mem h List.Pairwise.nil (by simp), keepL, List.mem_filter]
  simp

/-! ### May, and the bytes -/
/-- An entry may be. -/
def statBad (e : SE) : Bool := decide (e.node < 1) || decide (3 < e.node) || decide (e.size < 0) || decide (1048576 < e.size) || decide (e.ino < 1) || decide (e.tick < 0) || decide (1099511627776 < e.tick) || decide (e.kind < 1) || decide (5 < e.kind)
def mayN (e : SE) : Int := if (splitP e.path).isNone then 10 else if statBad e then 1 else 0
end Go.Proofs.YthcjjekkjbidlaaDoor.St
/-
  The plain tree of chapter 18: a list of nodes by their names, rising; what its calls make of it. No walk stands in this text.
-/
namespace Go.Proofs.YthcjjekkjbidlaaDoor.Sr
open Go.RowKit Go.Proofs.YthcjjekkjbidlaaDoor.Rf Go.Proofs.YthcjjekkjbidlaaDoor.Nm Go.Proofs.YthcjjekkjbidlaaDoor.St

/-- A node's names. -/
abbrev PN := List (List UInt8)
/-- The order of names. -/
def ahd : PN → PN → Bool
  | [], [] => false
  | [], _ :: _ => true
  | _ :: _, [] => false
  | a :: r, b :: s => if a = b then ahd r s else lt a b
theorem ahd_irrefl : ∀ a, ahd a a = false
  | [] => rfl
  | a :: r => by rw [ahd, if_pos rfl, ahd_irrefl r]
theorem ahd_trans : ∀ {a b c : PN}, ahd a b = true → ahd b c = true → ahd a c = true
  | [], [], _, h, _ => by cases h
  | [], _ :: _, [], _, h => by cases h
  | [], _ :: _, _ :: _, _, _ => rfl
  | _ :: _, [], _, h, _ => by cases h
  | _ :: _, _ :: _, [], _, h => by cases h
  | a :: r, b :: s, c :: t, h, k => by
    rw [ahd] at h k ⊢
    by_cases h1 : a = b
    · subst h1
      rw [if_pos rfl] at h
      by_cases h2 : a = c
      · subst h2; rw [if_pos rfl] at k ⊢; exact ahd_trans h k
      · rw [if_neg h2] at k ⊢; exact k
    · rw [if_neg h1] at h
      by_cases h2 : b = c
      · subst h2; rw [if_neg h1]; exact h
      · rw [if_neg h2] at k
        have := lt_trans h k
        rw [if_neg (lt_ne this)]; exact this
theorem ahd_total : ∀ {a b : PN}, a ≠ b → ahd a b = true ∨ ahd b a = true
  | [], [], h => absurd rfl h
  | [], _ :: _, _ => .inl rfl
  | _ :: _, [], _ => .inr rfl
  | a :: r, b :: s, h => by
    rw [ahd, ahd]
    by_cases h1 : a = b
    · subst h1; rw [if_pos rfl, if_pos rfl]; exact ahd_total (fun e => h (by rw [e]))
    · rw [if_neg h1, if_neg (Ne.symm h1)]; exact lt_total h1
theorem ahd_ne {a b : PN} (h : ahd a b = true) : a ≠ b := by rintro rfl; rw [ahd_irrefl] at h; cases h
theorem ahd_pre : ∀ (a b c : PN), ahd (a ++ b) (a ++ c) = ahd b c
  | [], _, _ => rfl
  | x :: r, b, c => by rw [List.cons_append, List.cons_append, ahd, if_pos rfl, ahd_pre r]
theorem ahd_one (a b : List UInt8) : ahd [a] [b] = lt a b := by
  rw [ahd]; split
  · next h => subst h; rw [lt_irrefl]; rfl
  · rfl
theorem ahd_below (a : PN) {b : PN} (h : b ≠ []) : ahd a (a ++ b) = true := by
  have := ahd_pre a [] b
  rw [List.append_nil] at this
  rw [this]
  match b, h with
  | _ :: _, _ => rfl

/-- Attributes. -/
structure XA where
  node : Nat
  mode : Nat
  uid : Nat
  gid : Nat
  mtime : Int
  target : List UInt8
  xs : List (List UInt8 × List UInt8)
/-- A node; and where it lies: its block, its map's, its row of extended attributes. -/
structure TE where
  nm : PN
  ino : Nat
  tick : Int
  at_ : XA
  data : List UInt8
  p : Nat
  m : Option Nat
  xv : Value

def SrtT (L : List TE) : Prop := L.Pairwise fun a b => ahd a.nm b.nm = true
def getT (n : PN) (L : List TE) : Option TE := L.find? fun e => decide (e.nm = n)
theorem getT_nm {n : PN} {L : List TE} {e : TE} (h : getT n L = some e) : e ∈ L ∧ e.nm = n :=
  ⟨List.mem_of_find?_eq_some h, by simpa using List.find?_some h⟩
theorem srtT_inj {L : List TE} (h : SrtT L) {a b : TE} (ha : a ∈ L) (hb : b ∈ L) (he : a.nm = b.nm) : a = b := by
  induction L with
  | nil => cases ha
  | cons y r ih =>
    obtain ⟨h1, h2⟩ := List.pairwise_cons.1 h
    rcases List.mem_cons.1 ha with ha | ha <;> rcases List.mem_cons.1 hb with hb | hb
    · rw [ha, hb]
    · exact absurd he (ahd_ne (by rw [ha]; exact h1 b hb))
    · exact absurd he.symm (ahd_ne (by rw [hb]; exact h1 a ha))
    · exact ih h2 ha hb
theorem getT_of {L : List TE} (h : SrtT L) {e : TE} (he : e ∈ L) : getT e.nm L = some e := by
  cases hg : getT e.nm L with
  | none =>
    rw [getT, List.find?_eq_none] at hg
    have := hg e he
    simp at this
  | some x =>
    obtain ⟨h1, h2⟩ := getT_nm hg
    rw [srtT_inj h h1 he h2]
theorem getT_none {n : PN} {L : List TE} : getT n L = none ↔ ∀ e ∈ L, e.nm ≠ n := by
  rw [getT, List.find?_eq_none]; simp

/-! ### what a folder has -/
def kidOf (n : PN) (e : TE) : Option (List UInt8 × Nat) := if h : e.nm ≠ [] then (if e.nm.dropLast = n then some (e.nm.getLast h, e.p) else none) else none
theorem kidOf_some {n : PN} {e : TE} {k : List UInt8 × Nat} : kidOf n e = some k ↔ e.nm = n ++ [k.1] ∧ e.p = k.2 := by
  unfold kidOf
  constructor
  · intro h
    split at h
    · next hn =>
      split at h
      · next hd =>
        obtain rfl := Option.some.inj h
        refine ⟨?_, rfl⟩
        rw [← hd]; exact (List.dropLast_concat_getLast hn).symm
      · cases h
    · cases h
  · rintro ⟨h1, h2⟩
    have hn : e.nm ≠ [] := by rw [h1]; simp
    rw [dif_pos hn, if_pos (by rw [h1]; simp)]
    congr 1
    refine Prod.ext ?_ h2
    show e.nm.getLast hn = k.1
    simp [h1]
/-- A folder's entries: names, and their nodes' blocks. -/
def kidsT (L : List TE) (n : PN) : MV Nat := L.filterMap (kidOf n)
theorem kidsT_mem {L : List TE} {n : PN} {k : List UInt8 × Nat} : k ∈ kidsT L n ↔ ∃ e ∈ L, e.nm = n ++ [k.1] ∧ e.p = k.2 := by
  rw [kidsT, List.mem_filterMap]
  simp only [kidOf_some]
theorem kidsT_get {L : List TE} (h : SrtT L) (n : PN) (s : List UInt8) : getM (kidsT L n) s = (getT (n ++ [s]) L).map TE.p := by
  cases hg : getT (n ++ [s]) L with
  | none =>
    rw [Option.map_none, get_none_iff]
    rintro ⟨k1, k2⟩ hk rfl
    obtain ⟨e, he, h1, _⟩ := kidsT_mem.1 hk
    exact getT_none.1 hg e he h1
  | some e =>
    obtain ⟨he, hn⟩ := getT_nm hg
    cases hm : getM (kidsT L n) s with
    | none =>
      rw [get_none_iff] at hm
      exact absurd rfl (hm (s, e.p) (kidsT_mem.2 ⟨e, he, hn, rfl⟩))
    | some q =>
      obtain ⟨x, hx, h1, h2⟩ := kidsT_mem.1 (getM_mem hm)
      rw [srtT_inj h hx he (h1.trans hn.symm)] at h2
      rw [Option.map_some]; exact congrArg some h2.symm
theorem kidsT_srt {L : List TE} (h : SrtT L) (n : PN) : (kidsT L n).Pairwise fun a b => lt a.1 b.1 = true := by
  rw [kidsT]
  refine List.Pairwise.filterMap _ (fun a b hab x hx y hy => ?_) h
  obtain ⟨h1, _⟩ := kidOf_some.1 hx
  obtain ⟨h2, _⟩ := kidOf_some.1 hy
  rw [h1, h2, ahd_pre, ahd_one] at hab
  exact hab
theorem kidOf_same {n : PN} {e e' : TE} (hn : e'.nm = e.nm) (hp : e'.p = e.p) : kidOf n e' = kidOf n e := by
  obtain ⟨a, b, c, d, f, g, h, i⟩ := e
  obtain ⟨a', b', c', d', f', g', h', i'⟩ := e'
  dsimp only at hn hp
  subst hn hp
  rfl
theorem kidsT_map {L : List TE} {f : TE → TE} (hn : ∀ e ∈ L, (f e).nm = e.nm) (hp : ∀ e ∈ L, (f e).p = e.p) (n : PN) : kidsT (L.map f) n = kidsT L n := by
  have key : ∀ e ∈ L, kidOf n (f e) = kidOf n e := by
   intro e he
   exact kidOf_same (hn e he) (hp e he)
  clear hn hp
  rw [kidsT, kidsT, List.filterMap_map]
  induction L with
  | nil => rfl
  | cons y r ih =>
    rw [List.filterMap_cons, List.filterMap_cons, ih (fun e he => key e (List.mem_cons_of_mem _ he))]
    rw [Function.comp_apply, key y (by simp)]

/-! ### a node more -/
def insT (e : TE) : List TE → List TE
  | [] => [e]
  | y :: r => if ahd e.nm y.nm then e :: y :: r else y :: insT e r
theorem mem_insT {e x : TE} : ∀ {L : List TE}, x ∈ insT e L ↔ x = e ∨ x ∈ L
  | [] => by simp [insT]
  | y :: r => by
    rw [insT]; split
    · simp
    · rw [List.mem_cons, mem_insT (L := r), List.mem_cons]
      constructor
      · rintro (h | h | h)
        · exact .inr (.inl h)
        · exact .inl h
        · exact .inr (.inr h)
      · rintro (h | h | h)
        · exact .inr (.inl h)
        · exact .inl h
        · exact .inr (.inr h)
theorem insT_perm (e : TE) : ∀ L : List TE, (insT e L).Perm (e :: L)
  | [] => .refl _
  | y :: r => by
    rw [insT]; split
    · exact .refl _
    · exact ((insT_perm e r).cons y).trans (.swap _ _ _)
theorem insT_srt {e : TE} : ∀ {L : List TE}, SrtT L → (∀ x ∈ L, x.nm ≠ e.nm) → SrtT (insT e L)
  | [], _, _ => List.pairwise_singleton _ _
  | y :: r, h, hn => by
    obtain ⟨h1, h2⟩ := List.pairwise_cons.1 h
    rw [insT]; split
    · next hy =>
      refine List.pairwise_cons.2 ⟨fun x hx => ?_, h⟩
      rcases List.mem_cons.1 hx with rfl | hx
      · exact hy
      · exact ahd_trans hy (h1 x hx)
    · next hy =>
      refine List.pairwise_cons.2 ⟨fun x hx => ?_, insT_srt h2 (fun x hx => hn x (List.mem_cons_of_mem _ hx))⟩
      rcases mem_insT.1 hx with rfl | hx
      · exact (ahd_total (hn y (by simp))).resolve_right hy
      · exact h1 x hx
theorem kids_ins_other {e : TE} {n : PN} (hk : kidOf n e = none) : ∀ L : List TE, kidsT (insT e L) n = kidsT L n
  | [] => by simp [insT, kidsT, hk]
  | y :: r => by
    rw [insT]; split
    · rw [kidsT, List.filterMap_cons, hk]; rfl
    · rw [kidsT, List.filterMap_cons, kidsT, List.filterMap_cons, ← kidsT, kids_ins_other hk r]; rfl
theorem kids_ins_here {e : TE} {n : PN} {k : List UInt8 × Nat} (hk : kidOf n e = some k) : ∀ {L : List TE}, SrtT L → (∀ x ∈ L, x.nm ≠ e.nm) → kidsT (insT e L) n = insM k.1 k.2 (kidsT L n)
  | [], _, _ => by simp [insT, kidsT, hk, insM]
  | y :: r, h, hn => by
    obtain ⟨h1, h2⟩ := List.pairwise_cons.1 h
    have e1 := (kidOf_some.1 hk).1
    have hfront : ∀ (M : MV Nat), (∀ z ∈ M, lt k.1 z.1 = true) → insM k.1 k.2 M = k :: M := by
      intro M hM
      cases M with
      | nil => rfl
      | cons z M => rw [insM, if_pos (hM z (by simp))]
    rw [insT]; split
    · next hy =>
      have hall : ∀ z ∈ kidsT (y :: r) n, lt k.1 z.1 = true := by
        intro z hz
        obtain ⟨x, hx, hx1, _⟩ := kidsT_mem.1 hz
        have : ahd e.nm x.nm = true := by
          rcases List.mem_cons.1 hx with rfl | hx
          · exact hy
          · exact ahd_trans hy (h1 x hx)
        rw [e1, hx1, ahd_pre, ahd_one] at this
        exact this
      rw [hfront _ hall, kidsT, List.filterMap_cons, hk]; rfl
    · next hy =>
      have hyn := hn y (by simp)
      have ih := kids_ins_here hk h2 (fun x hx => hn x (List.mem_cons_of_mem _ hx))
      cases hky : kidOf n y with
      | none =>
        rw [kidsT, List.filterMap_cons, hky, kidsT, List.filterMap_cons, hky]
        exact ih
      | some z =>
        have hz := (kidOf_some.1 hky).1
        have hlt : lt k.1 z.1 = false := by
          rw [e1, hz, ahd_pre, ahd_one] at hy
          simpa using hy
        rw [kidsT, List.filterMap_cons, hky, kidsT, List.filterMap_cons, hky]
        show z :: kidsT (insT e r) n = insM k.1 k.2 (z :: kidsT r n)
        rw [insM, if_neg (by rw [hlt]; decide), ih]
/-- The folder of the new node: its map as the program lays it. -/
theorem kids_put {e : TE} {n : PN} {s : List UInt8} {L : List TE} (he : e.nm = n ++ [s]) (h : SrtT L) (hn : ∀ x ∈ L, x.nm ≠ e.nm) : kidsT (insT e L) n = putM (kidsT L n) s e.p := by
  rw [kids_ins_here (k := (s, e.p)) (kidOf_some.2 ⟨he, rfl⟩) h hn, putM]
  congr 1
  rw [delM, List.filter_eq_self.2]
  intro z hz
  obtain ⟨x, hx, h1, _⟩ := kidsT_mem.1 hz
  have : z.1 ≠ s := by rintro rfl; exact hn x hx (h1.trans he.symm)
  simpa using this
theorem kids_put_other {e : TE} {n : PN} {L : List TE} (he : ∀ s, e.nm ≠ n ++ [s]) : kidsT (insT e L) n = kidsT L n :=
  kids_ins_other (by
    cases hk : kidOf n e with
    | none => rfl
    | some k => exact absurd (kidOf_some.1 hk).1 (he k.1)) L
end Go.Proofs.YthcjjekkjbidlaaDoor.Sr
