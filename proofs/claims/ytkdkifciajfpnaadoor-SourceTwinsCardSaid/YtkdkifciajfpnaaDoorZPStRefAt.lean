import Derived.Test.YtkdkifciajfpnaaDoorZPStKit
import Derived.Maps.AppendAt
import Derived.Laws.OwnMore
import Derived.Test.YtkdkifciajfpnaaDoorZPNmCodec
import Derived.Test.YtkdkifciajfpnaaDoorProg
import Derived.Shelf.Lay
import Derived.Shelf.SlIter.Nil
import Derived.Shelf.SortM.Plain
import Derived.Shelf.SortM.SortNone
import Derived.RangeFuncStops
import Derived.Ground.GgzProg
import Derived.Ground.SlgmProg
set_option linter.unusedSimpArgs false
set_option linter.unusedVariables false
/-
  How an index of the reference's lies in memory; the contract of its At.
-/
namespace Go.Proofs.YtkdkifciajfpnaaDoor.St
open Go.RowKit Go.Maps Go.WideMaps Go.Proofs.YtkdkifciajfpnaaDoor.Rf Go.Proofs.YtkdkifciajfpnaaDoor.Rd

theorem below_drewN (w : World) (n : Nat) : Below w.heap.size w (w.drewN n) := (Below.refl _ _).trans ⟨rfl, rfl, rfl, Nat.le_of_eq (by rw [World.heap_drewN]), fun _ _ => by rw [World.heap_drewN]⟩

end Go.Proofs.YtkdkifciajfpnaaDoor.St
/-
  A region that draws its order and whose LAST operation writes what its loads read: the loads may be taken first, for that operation waits for them.
-/
namespace Go.Proofs.YtkdkifciajfpnaaDoor.St
open Go.RowKit Go.Maps Go.WideMaps Go.Proofs.YtkdkifciajfpnaaDoor.Rf

section
variable {P : Program} {ops : Array Oper} {Q : Exit → Act → World → Prop} {md : Region.Mode} {S : World → Prop} {k : Nat}

/-- Whatever order is picked, S holds behind each operation but number k. -/
def Held (P : Program) (md : Region.Mode) (ops : Array Oper) (Q : Exit → Act → World → Prop) (S : World → Prop) (k : Nat) : Nat → Array Bool → Act → World → Prop
  | 0, listed, a, w => Region.ready md ops listed = [] ∧ Q .normal a w
  | n + 1, listed, a, w => (Region.ready md ops listed = [] → Q .normal a w) ∧
      ∀ j ∈ Region.ready md ops listed, wpOp P ops Q j (fun b u => (j ≠ k → S u) ∧ Held P md ops Q S k n (listed.setIfInBounds j true) b u) a w

theorem Held.any : ∀ (n : Nat) (listed : Array Bool) (a : Act) (w : World), Held P md ops Q S k n listed a w → wpAny P md ops Q n listed a w
  | 0, _, _, _, h => h
  | n + 1, _, _, _, h => ⟨h.1, fun j hj => wpOp_mono (fun b u h' => Held.any n _ b u h'.2) (h.2 j hj)⟩
/-- The operations that may come up next. -/
def AllHeld (P : Program) (md : Region.Mode) (ops : Array Oper) (Q : Exit → Act → World → Prop) (S : World → Prop) (k n : Nat) (listed : Array Bool) (a : Act) (w : World) (rs : List Nat) : Prop :=
  ∀ i ∈ rs, wpOp P ops Q i (fun b u => (i ≠ k → S u) ∧ Held P md ops Q S k n (listed.setIfInBounds i true) b u) a w
theorem AllHeld.nil {n : Nat} {listed : Array Bool} {a : Act} {w : World} : AllHeld P md ops Q S k n listed a w [] := fun _ h => by cases h
theorem AllHeld.cons {n : Nat} {listed : Array Bool} {a : Act} {w : World} {i : Nat} {o : Oper} {rs : List Nat} (ho : ops[i]? = some o)
    (h : ∀ K' : Act → World → Prop, Shut (∀ a w, (i ≠ k → S w) → ((i ≠ k → S w) → Held P md ops Q S k n (listed.setIfInBounds i true) a w) → K' a w) → if Region.wanted o (yielded ops a.tmps) = true then Oper.wp P o a w K' Q else K' (a.put o.dst undef) w)
    (hs : AllHeld P md ops Q S k n listed a w rs) : AllHeld P md ops Q S k n listed a w (i :: rs) := fun j hj => by
  rcases List.mem_cons.1 hj with rfl | hj
  · exact wpOp_step ho (fun K' hK => h K' (fun a w hS hW => hK a w ⟨hS, hW hS⟩))
  · exact hs j hj
end
end Go.Proofs.YtkdkifciajfpnaaDoor.St
/-
  Rows of entries put together: append of whatever holds entries, a row of none, a row of one; slices of a row.
-/
namespace Go.Proofs.YtkdkifciajfpnaaDoor.St
open Go.RowKit Go.Maps Go.WideMaps Go.Proofs.YtkdkifciajfpnaaDoor.Rf Go.Proofs.YtkdkifciajfpnaaDoor.Rd

/-- A slice value that holds cells. -/
def Holds (w : World) (x : Value) (m : Nat) (cs : List Value) : Prop :=
  (∃ a c, x = .slice (some a) m c ∧ ∀ j u, cs[j]? = some u → w.cell? (a.add j) = some u) ∨ (x = .slice none 0 0 ∧ m = 0 ∧ cs = [])

section
variable {P : Program}
theorem fold_set (cs : List Value) : ∀ (k : Nat) (acc : Array Value), acc.size = k + cs.length → (cs.zipIdx k).foldl (fun a p => a.setIfInBounds p.2 p.1) acc = (acc.toList.take k ++ cs).toArray := by
  induction cs with
  | nil => intro k acc h; simp at h; simp; rw [List.take_of_length_le (by simp; omega)]
  | cons c r ih =>
    intro k acc h
    rw [List.zipIdx_cons, List.foldl_cons, ih (k + 1) _ (by simp at h ⊢; omega)]
    congr 1
    have hk : k < acc.toList.length := by simp at h ⊢; omega
    simp only [Array.toList_setIfInBounds]
    rw [List.take_add_one, List.take_set_of_le (Nat.le_refl _)]
    simp at hk
    simp [hk]
end

theorem addr_block (a : Addr) (n : Nat) : (a.add n).block = a.block := by unfold Addr.add; split <;> rfl
theorem Holds.block {w w' : World} {x : Value} {m : Nat} {cs : List Value} (h : Holds w x m cs) (hb : ∀ a c, x = .slice (some a) m c → w'.heap[a.block]? = w.heap[a.block]?) : Holds w' x m cs := by
  rcases h with ⟨a, c, rfl, hc⟩ | h
  · exact .inl ⟨a, c, rfl, fun j u hj => (World.cell?_of_block (by rw [addr_block]; exact hb a c rfl)).trans (hc j u hj)⟩
  · exact .inr h
section
variable {P : Program} {o : Oper} {a : Act} {w : World} {K : Act → World → Prop} {Q : Exit → Act → World → Prop}
end
theorem Holds.grown {w w' : World} {x : Value} {m : Nat} {cs : List Value} {row : Option Nat} (h : Holds w x m cs) (hg : w.grownBy w' row) (hb : ∀ a c, x = .slice (some a) m c → a.block < w.heap.size ∧ some a.block ≠ row) : Holds w' x m cs :=
  h.block (fun a c e => hg.block _ (hb a c e).1 (hb a c e).2)
theorem Holds.below {w w' : World} {x : Value} {m : Nat} {cs : List Value} {n : Nat} (h : Holds w x m cs) (hg : Below n w w') (hb : ∀ a c, x = .slice (some a) m c → a.block < n) : Holds w' x m cs :=
  h.block (fun a c e => hg.block _ (hb a c e))
end Go.Proofs.YtkdkifciajfpnaaDoor.St
/-
  The contract of the program's All.
-/
namespace Go.Proofs.YtkdkifciajfpnaaDoor.St
open Go.RowKit Go.Maps Go.WideMaps Go.Proofs.YtkdkifciajfpnaaDoor.Rf Go.Proofs.YtkdkifciajfpnaaDoor.Rd

theorem strKeys_toD {α : Type} (enc : α → Value) (m : MV α) : strKeys (toD enc m) = m.map (·.1) := by
  show (m.map fun p => ((Lit.string p.1, DataW.held (enc p.2)) : Lit × DataW Value)).map (fun p => strOf p.1) = _
  rw [List.map_map]; rfl
end Go.Proofs.YtkdkifciajfpnaaDoor.St
