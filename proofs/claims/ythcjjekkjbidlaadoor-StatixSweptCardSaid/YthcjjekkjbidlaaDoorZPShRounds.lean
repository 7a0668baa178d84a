import Derived.Test.YthcjjekkjbidlaaDoorZPShPlain
import Derived.Test.YthcjjekkjbidlaaDoorZPShKit
import Derived.Test.YthcjjekkjbidlaaDoorZPStRead
import Derived.StillTailTactics
import Derived.Test.YthcjjekkjbidlaaDoorZPRfKit
import Derived.Lib.Builder
import Derived.Lib.AppendStr
import Derived.Lib.UnsafeStr
import Derived.Laws.Externs
import Derived.Laws.BytesString
set_option linter.unusedSimpArgs false
set_option linter.unusedVariables false
/-
  The contract of what a block makes of the eight words: the program's.
-/
namespace Go.Proofs.YthcjjekkjbidlaaDoor.Sh
open Go.RowKit Go.Proofs.YthcjjekkjbidlaaDoor.Rf Go.Proofs.YthcjjekkjbidlaaDoor.Rd

abbrev wdV (x : Int) : Value := .int .u32 x
def V8.cells (v : V8) : Array Value := #[wdV v.a, wdV v.b, wdV v.c, wdV v.d, wdV v.e, wdV v.f, wdV v.g, wdV v.h]
abbrev T8 : TypeId := 125
abbrev T64 : TypeId := 127
/-- A row of words as cells. -/
def wc (L : List Int) : Array Value := (L.map wdV).toArray
theorem wc_size (L : List Int) : (wc L).size = L.length := by simp [wc]
theorem wc_get {L : List Int} {j : Nat} (h : j < L.length) : (wc L)[j]? = some (wdV (L.getD j 0)) := by
  simp [wc, List.getD_eq_getElem?_getD, h]
theorem wc_set (L : List Int) (j : Nat) (x : Int) : (wc L).setIfInBounds j (wdV x) = wc (L.set j x) := by
  simp [wc]

theorem add_left (A x : Int) : (A % 4294967296 + x) % 4294967296 = (A + x) % 4294967296 := by omega
theorem ext_getD {A C : List Int} {n : Nat} (hA : A.length = n) (hC : C.length = n) (h : ∀ j, j < n → A.getD j 0 = C.getD j 0) : A = C := by
  apply List.ext_getElem (by omega)
  intro j h1 h2
  have := h j (by omega)
  rwa [List.getD_eq_getElem?_getD, List.getD_eq_getElem?_getD, List.getElem?_eq_getElem h1, List.getElem?_eq_getElem h2] at this
theorem getD_set (A : List Int) (i : Nat) (x : Int) (j : Nat) (hi : i < A.length) : (A.set i x).getD j 0 = if i = j then x else A.getD j 0 := by
  rw [List.getD_eq_getElem?_getD, List.getElem?_set]
  split
  · next h => subst h; simp
  · rw [List.getD_eq_getElem?_getD]
theorem getD_rep (n : Nat) (j : Nat) : (List.replicate n (0 : Int)).getD j 0 = 0 := by
  rw [List.getD_eq_getElem?_getD, List.getElem?_replicate]
  split <;> rfl
/-- The words when k more were reckoned. -/
def L2 (B : List UInt8) (k : Nat) : List Int := sch (wrds B) k ++ List.replicate (48 - k) 0
theorem L2_length (B : List UInt8) (k : Nat) (h : k ≤ 48) : (L2 B k).length = 64 := by rw [L2, List.length_append, sch_length, wrds_length, List.length_replicate]; omega
theorem L2_get (B : List UInt8) (k j : Nat) (h : j < 16 + k) : (L2 B k).getD j 0 = (sch (wrds B) k).getD j 0 := by
  rw [L2, List.getD_eq_getElem?_getD, List.getElem?_append_left (by rw [sch_length, wrds_length]; exact h), ← List.getD_eq_getElem?_getD]
theorem L2_step (B : List UInt8) (k : Nat) (h : k < 48) : (L2 B k).set (16 + k) (nxt (L2 B k) (16 + k)) = L2 B (k + 1) := by
  have e : nxt (L2 B k) (16 + k) = nxt (sch (wrds B) k) (16 + k) := by
    unfold nxt
    rw [L2_get _ _ _ (by omega), L2_get _ _ _ (by omega), L2_get _ _ _ (by omega), L2_get _ _ _ (by omega)]
  rw [e]
  have e2 : List.replicate (48 - k) (0 : Int) = 0 :: List.replicate (48 - (k + 1)) 0 := by
    rw [show 48 - k = (48 - (k + 1)) + 1 by omega]; rfl
  rw [L2, L2, e2, sch, List.set_append_right _ _ (by rw [sch_length, wrds_length]; omega), sch_length, wrds_length, show 16 + k - (16 + k) = 0 by omega, List.append_assoc]
  rfl
theorem L2_end (B : List UInt8) : L2 B 48 = sch (wrds B) 48 := by simp [L2]

theorem info8 (v : V8) : (Tryd.prog.info? T8).map (·.size) = some v.cells.size := by kernel_rfl
theorem info64 {L : List Int} (h : L.length = 64) : (Tryd.prog.info? T64).map (·.size) = some (wc L).size := by rw [wc_size, h]; kernel_rfl
theorem one8 (v : V8) : v.cells.all (·.oneCell') = true := by simp [V8.cells, Value.oneCell']
/-- The blocks under a block's rounds. -/
structure RSt (w : World) (kb a c d : Nat) (h z : V8) (W : List Int) (wr : World) : Prop where
  hh : wr.heap[a]? = some (.cells h.cells T8)
  hz : wr.heap[c]? = some (.cells z.cells T8)
  hw : wr.heap[d]? = some (.cells (wc W) T64)
  hk : wr.heap[kb]? = some (.cells (wc K64) T64)
  be : Below w.heap.size w wr
theorem RSt.drew {w : World} {kb a c d : Nat} {h z : V8} {W : List Int} {wr : World} (H : RSt w kb a c d h z W wr) : RSt w kb a c d h z W wr.drew := ⟨H.hh, H.hz, H.hw, H.hk, H.be.drew⟩
theorem RSt.drewN {w : World} {kb a c d : Nat} {h z : V8} {W : List Int} {wr : World} (H : RSt w kb a c d h z W wr) (n : Nat) : RSt w kb a c d h z W (wr.drewN n) :=
  ⟨by rw [World.heap_drewN]; exact H.hh, by rw [World.heap_drewN]; exact H.hz, by rw [World.heap_drewN]; exact H.hw, by rw [World.heap_drewN]; exact H.hk, H.be.trans ⟨rfl, rfl, rfl, Nat.le_of_eq (by rw [World.heap_drewN]), fun _ _ => by rw [World.heap_drewN]⟩⟩
theorem RSt.below {w : World} {kb a c d : Nat} {h z : V8} {W : List Int} {wr w' : World} (H : RSt w kb a c d h z W wr) (hb : Below wr.heap.size wr w') : RSt w kb a c d h z W w' :=
  ⟨(hb.block _ (lt_of_heap H.hh)).trans H.hh, (hb.block _ (lt_of_heap H.hz)).trans H.hz, (hb.block _ (lt_of_heap H.hw)).trans H.hw, (hb.block _ (lt_of_heap H.hk)).trans H.hk, H.be.trans (hb.mono H.be.size)⟩
/-- The words when i of them were added. -/
def L3 (h v : V8) (i : Nat) : List Int := (List.range 8).map fun j => if j < i then add (h.list.getD j 0) (v.list.getD j 0) else h.list.getD j 0
theorem L3_length (h v : V8) (i : Nat) : (L3 h v i).length = 8 := by simp [L3]
theorem L3_get (h v : V8) (i j : Nat) (hj : j < 8) : (L3 h v i).getD j 0 = if j < i then add (h.list.getD j 0) (v.list.getD j 0) else h.list.getD j 0 := by
  simp [L3, hj]
theorem L3_zero (h v : V8) : L3 h v 0 = h.list := by
  refine ext_getD (n := 8) (L3_length _ _ _) rfl (fun j hj => ?_)
  rw [L3_get _ _ _ _ hj, if_neg (by omega)]
theorem L3_step (h v : V8) (i : Nat) (hi : i < 8) : (L3 h v i).set i (add (h.list.getD i 0) (v.list.getD i 0)) = L3 h v (i + 1) := by
  refine ext_getD (n := 8) (by rw [List.length_set, L3_length]) (L3_length _ _ _) (fun j hj => ?_)
  rw [getD_set _ _ _ _ (by rw [L3_length]; omega), L3_get _ _ _ _ hj, L3_get _ _ _ _ hj]
  by_cases e : i = j
  · subst e; rw [if_pos rfl, if_pos (by omega)]
  · rw [if_neg e]
    by_cases h1 : j < i
    · rw [if_pos h1, if_pos (by omega)]
    · rw [if_neg h1, if_neg (by omega)]
/-- The blocks under the adding up. -/
structure ASt (w : World) (a c e : Nat) (L : List Int) (v z : V8) (wr : World) : Prop where
  hh : wr.heap[a]? = some (.cells (wc L) T8)
  hz : wr.heap[c]? = some (.cells z.cells T8)
  hv : wr.heap[e]? = some (.cells (wc v.list) T8)
  be : Below w.heap.size w wr
theorem ASt.set {w : World} {a c e : Nat} {L : List Int} {v z : V8} {wr : World} (H : ASt w a c e L v z wr) (hac : c ≠ a) (hae : e ≠ a) (hw : w.heap.size ≤ a) (j : Nat) (x : Int) : ASt w a c e (L.set j x) v z (wr.drew.setCell ⟨a, j, none⟩ (wdV x)) :=
  ⟨by rw [setCell_heap _ _ _ _ _ _ (show wr.drew.heap[a]? = _ from H.hh), wc_set], (Below.heap_setCell _ _ _ _ hac).trans H.hz, (Below.heap_setCell _ _ _ _ hae).trans H.hv, (H.be.drew).setCell hw _⟩
end Go.Proofs.YthcjjekkjbidlaaDoor.Sh
/-
  The contracts of strings.Builder's copyCheck and WriteString, at this program's translation of them.
-/
namespace Go.Proofs.YthcjjekkjbidlaaDoor.St
open Go.RowKit Go.Proofs.YthcjjekkjbidlaaDoor.Rf

theorem infoByte : (Tryd.prog.info? 5).map (fun i => (i.zero, i.size, i.bytes)) = some (some (.int .u8 0), 1, 1) := by kernel_rfl

end Go.Proofs.YthcjjekkjbidlaaDoor.St
