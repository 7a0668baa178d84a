import Derived.Test.YthcjjekkjbidlaaDoorZPNmLike
import Derived.Lib.Split
import Derived.Lib.SplitLaws
import Derived.Test.YthcjjekkjbidlaaDoorZPRowKit
import Derived.WideAt
import Derived.WideShapes
set_option linter.unusedSimpArgs false
set_option linter.unusedVariables false
/-
  Plain facts on paths: the names of a path, the path of names. No program stands in this text.
-/
namespace Go.Proofs.YthcjjekkjbidlaaDoor.Nm

def fine (r : Nat) : Bool := !(decide (r < 32)) && !(r == 127) && !(r == 47)
def runesFine (l : List UInt8) : Bool := (seg l).all fun p => fine p.1
def lenFine (l : List UInt8) : Bool := okB l && decide (1 ≤ count l) && decide (count l ≤ 64) && decide (l.length ≤ 255) && !(l == [46]) && !(l == [46, 46])
/-- A name may be. -/
def chk (l : List UInt8) : Bool := lenFine l && runesFine l

/-- A text cut at its slashes. -/
def parts : List UInt8 → List (List UInt8)
  | [] => [[]]
  | c :: t => if c = 47 then [] :: parts t else match parts t with | [] => [[c]] | h :: r => (c :: h) :: r

theorem parts_ne (l : List UInt8) : parts l ≠ [] := by
  cases l with
  | nil => simp [parts]
  | cons c t => rw [parts]; split; · simp
                split <;> simp

theorem parts_none (l : List UInt8) (h : ∀ c ∈ l, c ≠ 47) : parts l = [l] := by
  induction l with
  | nil => rfl
  | cons c t ih =>
    rw [parts, if_neg (h c (by simp)), ih (fun x hx => h x (by simp [hx]))]

theorem parts_hit (a b : List UInt8) (h : ∀ c ∈ a, c ≠ 47) : parts (a ++ 47 :: b) = a :: parts b := by
  induction a with
  | nil => simp [parts]
  | cons c t ih =>
    rw [List.cons_append, parts, if_neg (h c (by simp)), ih (fun x hx => h x (by simp [hx]))]

theorem parts_count (l : List UInt8) : (parts l).length = l.count 47 + 1 := by
  induction l with
  | nil => rfl
  | cons c t ih =>
    rw [parts]
    by_cases h : c = 47
    · subst h; simp [ih]
    · rw [if_neg h, List.count_cons_of_ne h]
      cases hp : parts t with
      | nil => exact absurd hp (parts_ne t)
      | cons x r => rw [hp] at ih; simpa using ih

theorem parts_le (l : List UInt8) : ∀ x ∈ parts l, x.length ≤ l.length := by
  induction l with
  | nil => intro x hx; simp [parts] at hx; subst hx; simp
  | cons c t ih =>
    intro x hx
    rw [parts] at hx
    split at hx
    · rcases List.mem_cons.1 hx with rfl | hx
      · simp
      · have := ih x hx; simp; omega
    · split at hx
      · rename_i e; exact absurd e (parts_ne t)
      · rename_i a r e
        rw [e] at ih
        rcases List.mem_cons.1 hx with rfl | hx
        · have := ih a (by simp); simp; omega
        · have := ih x (by simp [hx]); simp; omega

theorem splitK_parts : ∀ (n : Nat) (l : List UInt8), l.count 47 = n → Lib.splitK [47] 0 n l = parts l
  | 0, l, h => by
    rw [parts_none l (fun c hc e => by subst e; have := List.count_pos_iff.2 hc; omega)]
    rfl
  | n + 1, l, h => by
    have hmem : (47 : UInt8) ∈ l := List.count_pos_iff.1 (by omega)
    rw [Lib.splitK]
    cases hi : Lib.index l [47] with
    | negSucc k =>
      exfalso
      have h1 := Lib.index_ge l [47]
      have hm : Lib.index l [47] = -1 := by omega
      rw [Lib.index_one] at hm
      obtain ⟨j, hj, e⟩ := List.getElem_of_mem hmem
      exact Lib.indexByte_none hm j (by rw [List.getElem?_eq_getElem hj, e])
    | ofNat i =>
      have hne : (Int.ofNat i == (-1 : Int)) = false := by rw [beq_eq_false_iff_ne]; simp
      simp only [hne, Bool.false_eq_true, if_false]
      have hib : Lib.indexByte l 47 = (i : Nat) := by rw [← Lib.index_one, hi]; rfl
      obtain ⟨h1, h2⟩ := Lib.indexByte_some hib
      have hl : i < l.length := (List.getElem?_eq_some_iff.1 h1).1
      have hd : l = l.take i ++ 47 :: l.drop (i + 1) := by
        have := List.drop_eq_getElem_cons hl
        rw [(List.getElem?_eq_some_iff.1 h1).2] at this
        rw [← this, List.take_append_drop]
      have ha : ∀ c ∈ l.take i, c ≠ 47 := by
        intro c hc e
        subst e
        obtain ⟨j, hj, e⟩ := List.getElem_of_mem hc
        have hj' : j < i := by rw [List.length_take] at hj; omega
        refine h2 j hj' ?_
        rw [List.getElem_take] at e
        rw [List.getElem?_eq_getElem (by omega), e]
      have hc : (l.drop (i + 1)).count 47 = n := by
        have e := congrArg (List.count 47) hd
        rw [List.count_append, List.count_cons_self, h] at e
        have : (l.take i).count 47 = 0 := List.count_eq_zero.2 (fun hc => ha 47 hc rfl)
        omega
      have hk := splitK_parts n _ hc
      conv => rhs; rw [hd, parts_hit _ _ ha]
      rw [← hk]
      simp

theorem splitB_parts (s : ByteArray) : (Lib.splitB ⟨#[47]⟩ 0 (s.data.toList.count 47) s).map (·.data.toList) = parts s.data.toList := by
  rw [Lib.splitB_data]
  exact splitK_parts _ _ rfl

/-- A path's names; none: it is no path. -/
def splitP (p : List UInt8) : Option (List (List UInt8)) :=
  if p = [47] then some [] else if Lib.hasPrefix p [47] && decide (p.count 47 ≤ 16) && (parts (p.drop 1)).all chk then some (parts (p.drop 1)) else none

/-- The path of names. -/
def pathOf (ns : List (List UInt8)) : List UInt8 := ns.flatMap fun n => 47 :: n
theorem hasPrefix_one (p : List UInt8) : Lib.hasPrefix p [47] = true ↔ ∃ t, p = 47 :: t := by
  cases p with
  | nil => simp [Lib.hasPrefix]
  | cons c t =>
    simp [Lib.hasPrefix, List.isPrefixOf]
    exact eq_comm

end Go.Proofs.YthcjjekkjbidlaaDoor.Nm
/-
  The stat index, plain: entries, the list that an index is, its calls, its bytes. No walk stands in this text.
-/
namespace Go.Proofs.YthcjjekkjbidlaaDoor.St
open Go.RowKit Go.WideAt Go.WideShapes Go.Proofs.YthcjjekkjbidlaaDoor.Rf Go.Proofs.YthcjjekkjbidlaaDoor.Nm

/-- An entry. -/
structure SE where
  path : List UInt8
  node : Nat
  size : Int
  ino : Nat
  tick : Int
  kind : Nat
  id : List UInt8
instance : Inhabited SE := ⟨⟨[], 0, 0, 0, 0, 0, []⟩⟩

/-! ### the order of texts -/
theorem lt_irrefl (a : List UInt8) : lt a a = false := bytes_irrefl a
theorem lt_total {a b : List UInt8} (h : a ≠ b) : lt a b = true ∨ lt b a = true := bytes_total a b h
theorem lt_trans {a b c : List UInt8} (h : lt a b = true) (k : lt b c = true) : lt a c = true := bytes_trans a b c h k
theorem lt_ne {a b : List UInt8} (h : lt a b = true) : a ≠ b := by
  rintro rfl; rw [lt_irrefl] at h; cases h
theorem lt_asymm {a b : List UInt8} (h : lt a b = true) : lt b a = false := by
  cases k : lt b a
  · rfl
  · have := lt_trans h k; rw [lt_irrefl] at this; cases this
theorem lt_less : ∀ a b : List UInt8, Op.bytesLess a b = lt a b
  | [], [] => rfl
  | [], _ :: _ => rfl
  | _ :: _, [] => rfl
  | a :: r, b :: s => by
    show (decide (a < b) || (a == b && Op.bytesLess r s)) = (decide (a < b) || (a == b && lt r s))
    rw [lt_less r s]
/-- Rising by path. -/
def Srt (L : List SE) : Prop := L.Pairwise fun a b => lt a.path b.path = true
theorem Srt.tail {e : SE} {L : List SE} (h : Srt (e :: L)) : Srt L := (List.pairwise_cons.1 h).2
theorem Srt.head {e : SE} {L : List SE} (h : Srt (e :: L)) : ∀ x ∈ L, lt e.path x.path = true := (List.pairwise_cons.1 h).1

/-! ### the calls of an index, on its list -/
def getL (p : List UInt8) : List SE → Option SE
  | [] => none
  | y :: r => if lt y.path p = true then getL p r else if y.path = p then some y else none
def insL (e : SE) : List SE → List SE
  | [] => [e]
  | y :: r => if lt y.path e.path = true then y :: insL e r else if y.path = e.path then e :: r else e :: y :: r
def remL (p : List UInt8) : List SE → List SE
  | [] => []
  | y :: r => if lt y.path p = true then y :: remL p r else if y.path = p then r else y :: r
theorem remL_none {p : List UInt8} : ∀ {L : List SE}, getL p L = none → remL p L = L
  | [], _ => rfl
  | y :: r, h => by
    rw [getL] at h; rw [remL]
    split
    · next hy => rw [if_pos hy] at h; rw [remL_none h]
    · next hy =>
      rw [if_neg hy] at h
      have hne : y.path ≠ p := by intro e1; rw [if_pos e1] at h; cases h
      rw [if_neg hne]
theorem getL_path {p : List UInt8} {x : SE} : ∀ {L : List SE}, getL p L = some x → x.path = p ∧ x ∈ L
  | [], h => by simp [getL] at h
  | y :: r, h => by
    rw [getL] at h
    split at h
    · have := getL_path h; exact ⟨this.1, by simp [this.2]⟩
    · split at h
      · next hy => injection h with h; subst h; exact ⟨hy, by simp⟩
      · cases h

theorem mem_insL {e x : SE} : ∀ {L : List SE}, x ∈ insL e L → x = e ∨ x ∈ L
  | [], h => by simp [insL] at h; exact .inl h
  | y :: r, h => by
    rw [insL] at h
    split at h
    · rcases List.mem_cons.1 h with h | h
      · exact .inr (by simp [h])
      · rcases mem_insL h with h | h
        · exact .inl h
        · exact .inr (by simp [h])
    · split at h
      · rcases List.mem_cons.1 h with h | h
        · exact .inl h
        · exact .inr (by simp [h])
      · rcases List.mem_cons.1 h with h | h
        · exact .inl h
        · exact .inr h
theorem insL_srt (e : SE) : ∀ {L : List SE}, Srt L → Srt (insL e L)
  | [], _ => List.pairwise_singleton _ _
  | y :: r, h => by
    rw [insL]
    split
    · next hy =>
      refine List.pairwise_cons.2 ⟨fun x hx => ?_, insL_srt e h.tail⟩
      rcases mem_insL hx with rfl | hx
      · exact hy
      · exact h.head x hx
    · next hy =>
      split
      · next hp =>
        refine List.pairwise_cons.2 ⟨fun x hx => ?_, h.tail⟩
        rw [← hp]; exact h.head x hx
      · next hp =>
        have hey : lt e.path y.path = true := (lt_total hp).resolve_left hy
        refine List.pairwise_cons.2 ⟨fun x hx => ?_, h⟩
        rcases List.mem_cons.1 hx with rfl | hx
        · exact hey
        · exact lt_trans hey (h.head x hx)
theorem remL_sub (p : List UInt8) : ∀ L : List SE, (remL p L).Sublist L
  | [] => .slnil
  | y :: r => by
    rw [remL]
    split
    · exact (remL_sub p r).cons_cons y
    · split
      · exact .cons _ (.refl _)
      · exact .refl _
theorem remL_srt {p : List UInt8} {L : List SE} (h : Srt L) : Srt (remL p L) := h.sublist (remL_sub p L)
/-! ### the list as a map by paths -/
def toZ (L : List SE) : MV SE := L.map fun e => (e.path, e)
theorem toZ_length (L : List SE) : (toZ L).length = L.length := List.length_map _
theorem toZ_get (p : List UInt8) : ∀ {L : List SE}, Srt L → getM (toZ L) p = getL p L
  | [], _ => rfl
  | y :: r, h => by
    rw [getL]
    have ih := toZ_get p h.tail
    show ((((y.path, y) :: toZ r).find? fun q => q.1 == p).map (·.2)) = _
    by_cases hp : y.path = p
    · rw [List.find?_cons_of_pos (by simpa using hp), if_neg (by rw [hp, lt_irrefl]; decide), if_pos hp]; rfl
    · rw [List.find?_cons_of_neg (by simpa using hp)]
      show getM (toZ r) p = _
      rw [ih]
      split
      · rfl
      · next hy =>
        have hpy : lt p y.path = true := (lt_total hp).resolve_left hy
        cases r with
        | nil => rfl
        | cons z r =>
          have hz := lt_trans hpy (h.head z (by simp))
          rw [getL, if_neg (by rw [lt_asymm hz]; decide), if_neg (fun e => by rw [e, lt_irrefl] at hz; cases hz)]
theorem toZ_del (p : List UInt8) : ∀ {L : List SE}, Srt L → delM (toZ L) p = toZ (remL p L)
  | [], _ => rfl
  | y :: r, h => by
    have e : delM (toZ (y :: r)) p = if y.path = p then delM (toZ r) p else (y.path, y) :: delM (toZ r) p := by
      show List.filter _ ((y.path, y) :: toZ r) = _
      rw [List.filter_cons]
      by_cases hp : y.path = p
      · rw [if_neg (by simpa using hp), if_pos hp]; rfl
      · rw [if_pos (by simpa using hp), if_neg hp]; rfl
    have hnone : ∀ {r : List SE}, (∀ x ∈ r, x.path ≠ p) → delM (toZ r) p = toZ r := fun {r} hr => by
      rw [delM, List.filter_eq_self]
      intro q hq
      obtain ⟨x, hx, rfl⟩ := List.mem_map.1 hq
      simpa using hr x hx
    rw [e, remL]
    by_cases hp : y.path = p
    · rw [if_pos hp, if_neg (by rw [hp, lt_irrefl]; decide), if_pos hp]
      exact hnone (fun x hx e1 => by have := h.head x hx; rw [hp, e1, lt_irrefl] at this; cases this)
    · rw [if_neg hp]
      by_cases hy : lt y.path p = true
      · rw [if_pos hy, toZ_del p h.tail]; rfl
      · rw [if_neg hy, if_neg hp]
        have hpy : lt p y.path = true := (lt_total hp).resolve_left hy
        rw [hnone (fun x hx e1 => by have := lt_trans hpy (h.head x hx); rw [e1, lt_irrefl] at this; cases this)]; rfl
theorem toZ_ins {e : SE} : ∀ {L : List SE}, Srt L → (∀ x ∈ L, x.path ≠ e.path) → insM e.path e (toZ L) = toZ (insL e L)
  | [], _, _ => rfl
  | y :: r, h, hn => by
    show insM e.path e ((y.path, y) :: toZ r) = _
    rw [insM, insL]
    have hne := hn y (by simp)
    by_cases hy : lt y.path e.path = true
    · rw [if_pos hy, if_neg (by rw [lt_asymm hy]; decide), toZ_ins h.tail (fun x hx => hn x (by simp [hx]))]; rfl
    · rw [if_neg hy, if_neg hne, if_pos ((lt_total hne).resolve_left hy)]; rfl
theorem insL_rem {e : SE} : ∀ {L : List SE}, Srt L → insL e (remL e.path L) = insL e L
  | [], _ => rfl
  | y :: r, h => by
    rw [remL]
    by_cases hy : lt y.path e.path = true
    · rw [if_pos hy, insL, if_pos hy, insL_rem h.tail, insL, if_pos hy]
    · rw [if_neg hy]
      by_cases hp : y.path = e.path
      · rw [if_pos hp, insL, if_neg hy, if_pos hp]
        cases r with
        | nil => rfl
        | cons z r =>
          have hz := h.head z (by simp)
          rw [hp] at hz
          rw [insL, if_neg (by rw [lt_asymm hz]; decide), if_neg (fun e1 => by rw [e1, lt_irrefl] at hz; cases hz)]
      · rw [if_neg hp]
theorem toZ_put {e : SE} {L : List SE} (h : Srt L) : putM (toZ L) e.path e = toZ (insL e L) := by
  rw [putM, toZ_del _ h, toZ_ins (remL_srt h), insL_rem h]
  intro x hx e1
  have h1 : (x.path, x) ∈ toZ (remL e.path L) := List.mem_map.2 ⟨x, hx, rfl⟩
  rw [← toZ_del _ h] at h1
  exact (mem_del.1 h1).2 e1
/-! ### May, and the bytes -/
end Go.Proofs.YthcjjekkjbidlaaDoor.St
