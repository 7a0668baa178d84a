import Derived.Test.YtkeegnhjemhblaaGreatDoorZPRbKit
import Derived.Test.YtkeegnhjemhblaaGreatDoorZPRfAdd
import Derived.Test.YtkeegnhjemhblaaGreatDoorZPRfTurns
import Derived.Test.YtkeegnhjemhblaaGreatDoorZPRfFixed
set_option linter.unusedSimpArgs false
set_option linter.unusedVariables false
/-
  A book of the program's beside the reference's, both the same: what a call on both leaves.
-/
namespace Go.Proofs.YtkeegnhjemhblaaGreatDoor.Rb
open Go.RowKit Go.Maps Go.WideMaps Go.Proofs.YtkeegnhjemhblaaGreatDoor.Rf

/-- The blocks of a book of the program's. -/
def pbB (g b : Nat) (Z : BM) : List Nat := g :: b :: enB Z
theorem pbB_cases {g b x : Nat} {Z : BM} (h : x ∈ pbB g b Z) : x = g ∨ x = b ∨ ∃ p ∈ Z, x ∈ ob p.2.1 := by
  rw [pbB, List.mem_cons, List.mem_cons] at h
  exact h.imp id (fun h => h.imp id (fun h => List.mem_flatMap.1 h))
theorem pbB_g {g b : Nat} {Z : BM} : g ∈ pbB g b Z := List.mem_cons_self ..
theorem pbB_b {g b : Nat} {Z : BM} : b ∈ pbB g b Z := List.mem_cons_of_mem _ (List.mem_cons_self ..)
theorem pbB_e {g b x : Nat} {Z : BM} {p} (hp : p ∈ Z) (h : x ∈ ob p.2.1) : x ∈ pbB g b Z := List.mem_cons_of_mem _ (List.mem_cons_of_mem _ (enB_mem hp h))
section
variable {B : Nat} {w w' : World} {g b : Nat} {Z : BM}
theorem _root_.Go.Proofs.YtkeegnhjemhblaaGreatDoor.Rf.BookAt.keptP (h : BookAt noSp B w g b Z) (hb : ∀ x ∈ pbB g b Z, w'.heap[x]? = w.heap[x]?) : BookAt noSp B w' g b Z :=
  ⟨(hb g pbB_g).trans h.book, ownsMap_block h.map (hb b pbB_b), fun p hp => rowS_kept (h.each p hp) (fun x hx _ => hb x (pbB_e hp hx)), h.gb, h.off, h.apart, h.baseg, h.baseb, fun _ hp => False.elim hp⟩
theorem _root_.Go.Proofs.YtkeegnhjemhblaaGreatDoor.Rf.BookAt.ltP {X : Spect} (h : BookAt X B w g b Z) : ∀ x ∈ pbB g b Z, x < w.heap.size := by
  intro x hx
  rcases pbB_cases hx with rfl | rfl | ⟨p, hp, hx⟩
  · exact h.lt_g
  · exact h.lt_b
  · exact rowS_lt (h.each p hp) x hx
theorem _root_.Go.Proofs.YtkeegnhjemhblaaGreatDoor.Rf.BookAt.geP {X : Spect} (h : BookAt X B w g b Z) : ∀ x ∈ pbB g b Z, B ≤ x := by
  intro x hx
  rcases pbB_cases hx with rfl | rfl | ⟨p, hp, hx⟩
  · exact h.baseg
  · exact h.baseb
  · exact rowS_ge (h.each p hp) x hx
end
/-- What a call did to the blocks that it works on. -/
structure Eff (X Y : List Nat) (w w' : World) : Prop where
  turn : Turn X w w'
  new_ : ∀ x ∈ Y, x ∈ X ∨ w.heap.size ≤ x
theorem Eff.of_below {X : List Nat} {w w' : World} (h : Below w.heap.size w w') : Eff X X w w' := ⟨Turn.of_below h, fun _ h => .inl h⟩
theorem Eff.trans {X Y V : List Nat} {a b c : World} (h : Eff X Y a b) (k : Eff Y V b c) : Eff X V a c :=
  ⟨h.turn.trans k.turn h.new_, fun x hx => (k.new_ x hx).elim (h.new_ x) (fun h2 => .inr (Nat.le_trans h.turn.size h2))⟩
theorem Eff.after {X Y : List Nat} {a b c : World} (h : Below a.heap.size a b) (k : Eff X Y b c) : Eff X Y a c := (Eff.of_below h).trans k
theorem Eff.then {X Y : List Nat} {a b c : World} (h : Eff X Y a b) (k : Below b.heap.size b c) : Eff X Y a c := h.trans (Eff.of_below k)
theorem Eff.left {X Y : List Nat} (V : List Nat) {a b : World} (h : Eff X Y a b) : Eff (X ++ V) (Y ++ V) a b :=
  ⟨h.turn.mono (fun x hx => List.mem_append_left _ hx), fun x hx => (List.mem_append.1 hx).elim (fun h2 => (h.new_ x h2).imp (fun h3 => List.mem_append_left _ h3) id) (fun h2 => .inl (List.mem_append_right _ h2))⟩
theorem Eff.right {X Y : List Nat} (V : List Nat) {a b : World} (h : Eff X Y a b) : Eff (V ++ X) (V ++ Y) a b :=
  ⟨h.turn.mono (fun x hx => List.mem_append_right _ hx), fun x hx => (List.mem_append.1 hx).elim (fun h2 => .inl (List.mem_append_left _ h2)) (fun h2 => (h.new_ x h2).imp (fun h3 => List.mem_append_right _ h3) id)⟩
theorem Eff.below {X Y : List Nat} {B : Nat} {a b : World} (h : Eff X Y a b) (hX : ∀ x ∈ X, B ≤ x) (hB : B ≤ a.heap.size) : Below B a b := h.turn.below hX hB
theorem rb_eff {B : Nat} {w w' : World} {r : Nat} {v : Value} {Z : BM} {c : Int} {K : BK} {e : Ending} (hp : RBPost B w r v Z c K e w') :
    ∃ v' Z', e = .returned (.int .i64 c) ∧ RBk B w' r v' Z' ∧ plainB Z' = K ∧ Eff (rbB r v Z) (rbB r v' Z') w w' := by
  obtain ⟨he, v', Z', h1, h2, h3, h4, _⟩ := hp
  exact ⟨v', Z', he, h1, h2, ⟨h3.mono (fun x hx => by
    rcases List.mem_cons.1 hx with rfl | hx
    · exact rbB_r
    · exact rbB_v hx), h4⟩⟩
/-- A book of the program's and one of the reference's, apart. -/
structure Pair (B : Nat) (w : World) (g b : Nat) (Z1 : BM) (r : Nat) (v : Value) (Z2 : BM) (K1 K2 : BK) : Prop where
  bk : BookAt noSp B w g b Z1
  rb : RBk B w r v Z2
  e1 : plainB Z1 = K1
  e2 : plainB Z2 = K2
  ok : OkB K1
  ok2 : OkB K2
  ap : ∀ x ∈ pbB g b Z1, x ∉ rbB r v Z2
def prB (g b : Nat) (Z1 : BM) (r : Nat) (v : Value) (Z2 : BM) : List Nat := pbB g b Z1 ++ rbB r v Z2
section
variable {B : Nat} {w w' : World} {g b : Nat} {Z1 : BM} {r : Nat} {v : Value} {Z2 : BM} {K1 K2 : BK}
theorem Pair.lt (h : Pair B w g b Z1 r v Z2 K1 K2) : ∀ x ∈ prB g b Z1 r v Z2, x < w.heap.size := fun x hx => (List.mem_append.1 hx).elim (h.bk.ltP x) (h.rb.lt x)
theorem Pair.ge (h : Pair B w g b Z1 r v Z2 K1 K2) : ∀ x ∈ prB g b Z1 r v Z2, B ≤ x := fun x hx => (List.mem_append.1 hx).elim (h.bk.geP x) (h.rb.ge x)
theorem Pair.kept (h : Pair B w g b Z1 r v Z2 K1 K2) (hb : ∀ x ∈ prB g b Z1 r v Z2, w'.heap[x]? = w.heap[x]?) : Pair B w' g b Z1 r v Z2 K1 K2 :=
  ⟨h.bk.keptP (fun x hx => hb x (List.mem_append_left _ hx)), h.rb.kept (fun x hx => hb x (List.mem_append_right _ hx)), h.e1, h.e2, h.ok, h.ok2, h.ap⟩
theorem Pair.below (h : Pair B w g b Z1 r v Z2 K1 K2) (hb : Below w.heap.size w w') : Pair B w' g b Z1 r v Z2 K1 K2 := h.kept (fun x hx => hb.block x (h.lt x hx))
theorem Pair.size (h : Pair B w g b Z1 r v Z2 K1 K2) : B ≤ w.heap.size := h.rb.size
end
end Go.Proofs.YtkeegnhjemhblaaGreatDoor.Rb
/-
  What bytes say as a book of branches: the program's reading and the reference's, as plain functions.
-/
namespace Go.Proofs.YtkeegnhjemhblaaGreatDoor.Rb
open Go.RowKit Go.Maps Go.WideMaps Go.Proofs.YtkeegnhjemhblaaGreatDoor.Rf Go.Proofs.YtkeegnhjemhblaaGreatDoor.Rd

/-- A branch's snapshots are read. -/
def goE (k : List UInt8) : Nat → List UInt8 → BK → Option (List UInt8 × BK)
  | 0, R, K => some (R, K)
  | m + 1, R, K =>
    if 32 ≤ R.length ∧ (rd0 (tkR 32 R)).isSome = true ∧ shN (tkR 32 R) ≤ 1099511627776 ∧ (addB K k ⟨tkT 32 R, (shN (tkR 32 R) : Int)⟩).1 = 0
    then goE k m (shR (tkR 32 R)) (addB K k ⟨tkT 32 R, (shN (tkR 32 R) : Int)⟩).2 else none
/-- Branches are read, each of which is asked f. -/
def goB (f : List UInt8 → List UInt8 → BK → Bool) : Nat → List UInt8 → List UInt8 → BK → Option (List UInt8 × BK)
  | 0, R, _, K => some (R, K)
  | n + 1, R, last, K =>
    if (txt 255 R).isSome = true ∧ (rd0 (txR 255 R)).isSome = true ∧ shN (txR 255 R) ≤ 4096 ∧ 0 < shN (txR 255 R) ∧ f last (txT 255 R) K = true
    then (goE (txT 255 R) (shN (txR 255 R)) (shR (txR 255 R)) K).bind fun p => goB f n p.1 (txT 255 R) p.2 else none
def fP (last k : List UInt8) (_ : BK) : Bool := lt last k
def fR (_ k : List UInt8) (K : BK) : Bool := (getM K k).isNone
def okH (s : List UInt8) : Prop := unC s = 0 ∧ unR s = [] ∧ (rd0 (unP s)).isSome = true ∧ shN (unP s) ≤ 64
instance (s : List UInt8) : Decidable (okH s) := by unfold okH; infer_instance
def endP : Option (List UInt8 × BK) → Option BK
  | some ([], K) => some K
  | _ => none
def decP (s : List UInt8) : Option BK := if okH s then endP (goB fP (shN (unP s)) (shR (unP s)) [] []) else none
def decR (s : List UInt8) : Option BK := if okH s then (goB fR (shN (unP s)) (shR (unP s)) [] []).bind fun p => if encodeB p.2 = s then some p.2 else none else none
theorem _root_.Go.Proofs.YtkeegnhjemhblaaGreatDoor.Rd.shR_le' (L : List UInt8) : (shR L).length ≤ L.length := by
  unfold shR
  cases rd0 L with
  | none => exact Nat.le_refl _
  | some p => simp only [List.length_drop]; omega
theorem tkR_le (n : Nat) (L : List UInt8) : (tkR n L).length ≤ L.length := by
  unfold tkR; split
  · rw [List.length_drop]; omega
  · exact Nat.le_refl _
end Go.Proofs.YtkeegnhjemhblaaGreatDoor.Rb
