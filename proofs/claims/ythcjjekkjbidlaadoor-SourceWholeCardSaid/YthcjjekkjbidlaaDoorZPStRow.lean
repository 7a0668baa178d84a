import Derived.Test.YthcjjekkjbidlaaDoorZPStRefAt
import Derived.Test.YthcjjekkjbidlaaDoorZPShRef
import Derived.Test.YthcjjekkjbidlaaDoorZPSrWrite
import Derived.Test.YthcjjekkjbidlaaDoorZPShRounds
import Derived.Test.YthcjjekkjbidlaaDoorZPStReg
import Derived.Deep.RegionHeld3
import Derived.Great.BuildSlice
import Derived.Deep.LoopGhost
import Derived.Deep.OwnRows
import Derived.Test.YthcjjekkjbidlaaDoorZPSrLook
import Derived.Test.YthcjjekkjbidlaaDoorZPNmPaths
import Derived.Test.YthcjjekkjbidlaaDoorZPNmCodec
import Derived.Deep.QuietTactic
import Derived.BigQuiet
set_option linter.unusedSimpArgs false
set_option linter.unusedVariables false
/-
  An entry written over another one of a row.
-/
namespace Go.Proofs.YthcjjekkjbidlaaDoor.St
open Go.RowKit Go.Maps Go.WideMaps Go.Proofs.YthcjjekkjbidlaaDoor.Rf Go.Proofs.YthcjjekkjbidlaaDoor.Rd

theorem list_mid {α : Type} (l : List α) (o : Nat) (v : α) (m : Nat) (h : o < l.length) : (l.take o ++ v :: l.drop (o + 1)).take (o + 1) = l.take o ++ [v] ∧ (l.take o ++ v :: l.drop (o + 1)).drop (o + 1 + m) = l.drop (o + 1 + m) := by
  have hA : (l.take o).length = o := by rw [List.length_take]; omega
  have hC : l.drop (o + 1 + m) = (l.drop (o + 1)).drop m := by rw [List.drop_drop]
  rw [hC]
  generalize l.take o = A at *
  generalize l.drop (o + 1) = C at *
  subst hA
  constructor
  · simp [List.take_append]
    exact List.take_of_length_le (by omega)
  · rw [Nat.add_assoc, ← List.drop_drop, List.drop_left, Nat.add_comm, List.drop_succ_cons]
theorem heap_setCells {b : Nat} {T : TypeId} : ∀ (vs : List Value) (o : Nat) (w : World) (cur : Array Value), w.heap[b]? = some (.cells cur T) → o + vs.length ≤ cur.size →
    ∃ cur' : Array Value, (w.setCells b o vs).heap[b]? = some (.cells cur' T) ∧ cur'.size = cur.size ∧ cur'.toList = cur.toList.take o ++ vs ++ cur.toList.drop (o + vs.length)
  | [], o, w, cur, h, _ => ⟨cur, h, rfl, by simp⟩
  | v :: r, o, w, cur, h, hl => by
    have h1 := setCell_heap w b o v cur T h
    have hsz : (cur.setIfInBounds o v).size = cur.size := Array.size_setIfInBounds ..
    obtain ⟨cur', a1, a2, a3⟩ := heap_setCells r (o + 1) _ _ h1 (by rw [hsz]; simp at hl; omega)
    refine ⟨cur', a1, a2.trans hsz, ?_⟩
    have ho : o < cur.toList.length := by simp at hl ⊢; omega
    rw [a3, Array.toList_setIfInBounds, List.set_eq_take_append_cons_drop, if_pos ho]
    obtain ⟨l1, l2⟩ := list_mid cur.toList o v r.length ho
    rw [l1, l2]
    simp [show o + (r.length + 1) = o + 1 + r.length by omega]
theorem turn_setCells (w : World) (g o : Nat) (vs : List Value) : Turn [g] w (w.setCells g o vs) := by
  induction vs generalizing w o with
  | nil => exact Turn.refl _ _
  | cons v r ih => exact ((Turn.refl [g] w).setCell (p := ⟨g, o, none⟩) (.inl (by simp)) v).trans (ih _ _) (fun y hy => .inl hy)
end Go.Proofs.YthcjjekkjbidlaaDoor.St
/-
  The contracts of the sum's parts: the constants, a new sum, bytes that are written, the sum.
-/
namespace Go.Proofs.YthcjjekkjbidlaaDoor.Sh
open Go.RowKit Go.Maps Go.Proofs.YthcjjekkjbidlaaDoor.Rf Go.Proofs.YthcjjekkjbidlaaDoor.Rd Go.Proofs.YthcjjekkjbidlaaDoor.St

/-- A sum under way. -/
def stC (h : V8) (t : List UInt8) (n : Nat) : Array Value := #[wdV h.a, wdV h.b, wdV h.c, wdV h.d, wdV h.e, wdV h.f, wdV h.g, wdV h.h, .string ⟨t.toArray⟩, .int .u64 (n : Int)]
theorem oneSt (h : V8) (t : List UInt8) (n : Nat) : (stC h t n).all (·.oneCell') = true := by simp [stC, Value.oneCell']
end Go.Proofs.YthcjjekkjbidlaaDoor.Sh
/-
  The contract of the reference's Decode, at any bytes. 
-/
namespace Go.Proofs.YthcjjekkjbidlaaDoor.St
open Go.RowKit Go.Maps Go.WideMaps Go.Proofs.YthcjjekkjbidlaaDoor.Rf Go.Proofs.YthcjjekkjbidlaaDoor.Rd Go.Proofs.YthcjjekkjbidlaaDoor.Nm

theorem turn_grown {X : List Nat} {w w' w'' : World} {row : Option Nat} (h : Turn X w w') (hg : w'.grownBy w'' row) (hX : ∀ k, row = some k → k ∈ X) : Turn X w w'' :=
  ⟨hg.os.trans h.os, hg.tape.trans h.tape, hg.output.trans h.output, Nat.le_trans h.size hg.size, fun k hk hn => (hg.block k (Nat.lt_of_lt_of_le hk h.size) (fun e => hn (hX k e.symm))).trans (h.block k hk hn)⟩
end Go.Proofs.YthcjjekkjbidlaaDoor.St
