import Derived.Test.YthcjjekkjbidlaaDoorZPRfMap
import Derived.Lib.TrimByte
import Derived.Laws.Cover4
import Derived.Lib.Split
import Derived.Lib.SplitLaws
set_option linter.unusedSimpArgs false
set_option linter.unusedVariables false
/-
  Plain facts on patterns: what it is to be like a pattern, and that the greedy way with one star kept finds it. No program stands in this text.
-/
namespace Go.Proofs.YthcjjekkjbidlaaDoor.Nm

/-! ### The greedy way -/
/-- What is left of the pattern is stars alone, told from its bytes. -/
def enc (r : Nat) : List UInt8 := (Utf8.encode (Int.ofNat r)).data.toList
theorem enc_eq (r : Nat) : enc r = (Utf8.encode (r : Int)).data.toList := by rw [enc, Int.ofNat_eq_natCast]
def encs (rs : List Nat) : List UInt8 := rs.flatMap enc
theorem encs_cons (r : Nat) (rs : List Nat) : encs (r :: rs) = enc r ++ encs rs := List.flatMap_cons

end Go.Proofs.YthcjjekkjbidlaaDoor.Nm
/-
  Plain facts on paths: the names of a path, the path of names. No program stands in this text.
-/
namespace Go.Proofs.YthcjjekkjbidlaaDoor.Nm

def fine (r : Nat) : Bool := !(decide (r < 32)) && !(r == 127) && !(r == 47)
def runesFine (l : List UInt8) : Bool := (seg l).all fun p => fine p.1
def lenFine (l : List UInt8) : Bool := okB l && decide (1 ≤ count l) && decide (count l ≤ 64) && decide (l.length ≤ 255) && !(l == [46]) && !(l == [46, 46])
/-- A name may be. -/
def chk (l : List UInt8) : Bool := lenFine l && runesFine l

/-- A text cut at its slashes. -/
def parts : List UInt8 → List (List UInt8)
  | [] => [[]]
  | c :: t => if c = 47 then [] :: parts t else match parts t with | [] => [[c]] | h :: r => (c :: h) :: r

theorem parts_ne (l : List UInt8) : parts l ≠ [] := by
  cases l with
  | nil => simp [parts]
  | cons c t => rw [parts]; split; · simp
                split <;> simp

theorem parts_none (l : List UInt8) (h : ∀ c ∈ l, c ≠ 47) : parts l = [l] := by
  induction l with
  | nil => rfl
  | cons c t ih =>
    rw [parts, if_neg (h c (by simp)), ih (fun x hx => h x (by simp [hx]))]

theorem parts_hit (a b : List UInt8) (h : ∀ c ∈ a, c ≠ 47) : parts (a ++ 47 :: b) = a :: parts b := by
  induction a with
  | nil => simp [parts]
  | cons c t ih =>
    rw [List.cons_append, parts, if_neg (h c (by simp)), ih (fun x hx => h x (by simp [hx]))]

theorem parts_count (l : List UInt8) : (parts l).length = l.count 47 + 1 := by
  induction l with
  | nil => rfl
  | cons c t ih =>
    rw [parts]
    by_cases h : c = 47
    · subst h; simp [ih]
    · rw [if_neg h, List.count_cons_of_ne h]
      cases hp : parts t with
      | nil => exact absurd hp (parts_ne t)
      | cons x r => rw [hp] at ih; simpa using ih

theorem parts_le (l : List UInt8) : ∀ x ∈ parts l, x.length ≤ l.length := by
  induction l with
  | nil => intro x hx; simp [parts] at hx; subst hx; simp
  | cons c t ih =>
    intro x hx
    rw [parts] at hx
    split at hx
    · rcases List.mem_cons.1 hx with rfl | hx
      · simp
      · have := ih x hx; simp; omega
    · split at hx
      · rename_i e; exact absurd e (parts_ne t)
      · rename_i a r e
        rw [e] at ih
        rcases List.mem_cons.1 hx with rfl | hx
        · have := ih a (by simp); simp; omega
        · have := ih x (by simp [hx]); simp; omega

theorem splitK_parts : ∀ (n : Nat) (l : List UInt8), l.count 47 = n → Lib.splitK [47] 0 n l = parts l
  | 0, l, h => by
    rw [parts_none l (fun c hc e => by subst e; have := List.count_pos_iff.2 hc; omega)]
    rfl
  | n + 1, l, h => by
    have hmem : (47 : UInt8) ∈ l := List.count_pos_iff.1 (by omega)
    rw [Lib.splitK]
    cases hi : Lib.index l [47] with
    | negSucc k =>
      exfalso
      have h1 := Lib.index_ge l [47]
      have hm : Lib.index l [47] = -1 := by omega
      rw [Lib.index_one] at hm
      obtain ⟨j, hj, e⟩ := List.getElem_of_mem hmem
      exact Lib.indexByte_none hm j (by rw [List.getElem?_eq_getElem hj, e])
    | ofNat i =>
      have hne : (Int.ofNat i == (-1 : Int)) = false := by rw [beq_eq_false_iff_ne]; simp
      simp only [hne, Bool.false_eq_true, if_false]
      have hib : Lib.indexByte l 47 = (i : Nat) := by rw [← Lib.index_one, hi]; rfl
      obtain ⟨h1, h2⟩ := Lib.indexByte_some hib
      have hl : i < l.length := (List.getElem?_eq_some_iff.1 h1).1
      have hd : l = l.take i ++ 47 :: l.drop (i + 1) := by
        have := List.drop_eq_getElem_cons hl
        rw [(List.getElem?_eq_some_iff.1 h1).2] at this
        rw [← this, List.take_append_drop]
      have ha : ∀ c ∈ l.take i, c ≠ 47 := by
        intro c hc e
        subst e
        obtain ⟨j, hj, e⟩ := List.getElem_of_mem hc
        have hj' : j < i := by rw [List.length_take] at hj; omega
        refine h2 j hj' ?_
        rw [List.getElem_take] at e
        rw [List.getElem?_eq_getElem (by omega), e]
      have hc : (l.drop (i + 1)).count 47 = n := by
        have e := congrArg (List.count 47) hd
        rw [List.count_append, List.count_cons_self, h] at e
        have : (l.take i).count 47 = 0 := List.count_eq_zero.2 (fun hc => ha 47 hc rfl)
        omega
      have hk := splitK_parts n _ hc
      conv => rhs; rw [hd, parts_hit _ _ ha]
      rw [← hk]
      simp

theorem splitB_parts (s : ByteArray) : (Lib.splitB ⟨#[47]⟩ 0 (s.data.toList.count 47) s).map (·.data.toList) = parts s.data.toList := by
  rw [Lib.splitB_data]
  exact splitK_parts _ _ rfl

/-- A path's names; none: it is no path. -/
def splitP (p : List UInt8) : Option (List (List UInt8)) :=
  if p = [47] then some [] else if Lib.hasPrefix p [47] && decide (p.count 47 ≤ 16) && (parts (p.drop 1)).all chk then some (parts (p.drop 1)) else none

/-- The path of names. -/
def pathOf (ns : List (List UInt8)) : List UInt8 := ns.flatMap fun n => 47 :: n
theorem hasPrefix_one (p : List UInt8) : Lib.hasPrefix p [47] = true ↔ ∃ t, p = 47 :: t := by
  cases p with
  | nil => simp [Lib.hasPrefix]
  | cons c t =>
    simp [Lib.hasPrefix, List.isPrefixOf]
    exact eq_comm

end Go.Proofs.YthcjjekkjbidlaaDoor.Nm
