import Derived.Test.YthcjjekkjbidlaaDoorZPStReg
import Derived.Test.YthcjjekkjbidlaaDoorZPStPut
import Derived.Maps.AppendAt
import Derived.Laws.OwnMore
import Derived.Test.YthcjjekkjbidlaaDoorZPStStrs
import Derived.Test.YthcjjekkjbidlaaDoorProg
import Derived.Shelf.Lay
import Derived.Shelf.SlIter.Nil
import Derived.Shelf.SortM.Plain
import Derived.Shelf.SortM.SortNone
import Derived.RangeFuncStops
import Derived.Ground.GgzProg
import Derived.Ground.SlgmProg
import Derived.Test.YthcjjekkjbidlaaDoorZPSrAdd
import Derived.Test.YthcjjekkjbidlaaDoorZPSrIns
import Derived.Test.YthcjjekkjbidlaaDoorZPSrSort
set_option linter.unusedSimpArgs false
set_option linter.unusedVariables false
/-
  How an index of the reference's lies in memory; the contract of its At.
-/
namespace Go.Proofs.YthcjjekkjbidlaaDoor.St
open Go.RowKit Go.Maps Go.WideMaps Go.Proofs.YthcjjekkjbidlaaDoor.Rf Go.Proofs.YthcjjekkjbidlaaDoor.Rd

theorem below_drewN (w : World) (n : Nat) : Below w.heap.size w (w.drewN n) := (Below.refl _ _).trans ⟨rfl, rfl, rfl, Nat.le_of_eq (by rw [World.heap_drewN]), fun _ _ => by rw [World.heap_drewN]⟩

end Go.Proofs.YthcjjekkjbidlaaDoor.St
/-
  The contracts of the reference's Get and of both Freshs.
-/
namespace Go.Proofs.YthcjjekkjbidlaaDoor.St
open Go.RowKit Go.Maps Go.WideMaps Go.Proofs.YthcjjekkjbidlaaDoor.Rf Go.Proofs.YthcjjekkjbidlaaDoor.Rd

theorem range_stat {w : World} {x : Nat} {e : SE} {T : TypeId} (h : w.heap[x]? = some (.cells e.cells.toArray T)) : w.rangeAt x 1 e.stat := fun j v hv => by
  rw [cell_of_heap h]
  match j, hv with
  | 0, hv => exact hv
  | 1, hv => exact hv
  | 2, hv => exact hv
  | 3, hv => exact hv
end Go.Proofs.YthcjjekkjbidlaaDoor.St
/-
  A region that draws its order and whose LAST operation writes what its loads read: the loads may be taken first, for that operation waits for them.
-/
namespace Go.Proofs.YthcjjekkjbidlaaDoor.St
open Go.RowKit Go.Maps Go.WideMaps Go.Proofs.YthcjjekkjbidlaaDoor.Rf

section
variable {P : Program} {ops : Array Oper} {Q : Exit → Act → World → Prop} {md : Region.Mode} {S : World → Prop} {k : Nat}

/-- Whatever order is picked, S holds behind each operation but number k. -/
def Held (P : Program) (md : Region.Mode) (ops : Array Oper) (Q : Exit → Act → World → Prop) (S : World → Prop) (k : Nat) : Nat → Array Bool → Act → World → Prop
  | 0, listed, a, w => Region.ready md ops listed = [] ∧ Q .normal a w
  | n + 1, listed, a, w => (Region.ready md ops listed = [] → Q .normal a w) ∧
      ∀ j ∈ Region.ready md ops listed, wpOp P ops Q j (fun b u => (j ≠ k → S u) ∧ Held P md ops Q S k n (listed.setIfInBounds j true) b u) a w

theorem Held.any : ∀ (n : Nat) (listed : Array Bool) (a : Act) (w : World), Held P md ops Q S k n listed a w → wpAny P md ops Q n listed a w
  | 0, _, _, _, h => h
  | n + 1, _, _, _, h => ⟨h.1, fun j hj => wpOp_mono (fun b u h' => Held.any n _ b u h'.2) (h.2 j hj)⟩
/-- The operations that may come up next. -/
def AllHeld (P : Program) (md : Region.Mode) (ops : Array Oper) (Q : Exit → Act → World → Prop) (S : World → Prop) (k n : Nat) (listed : Array Bool) (a : Act) (w : World) (rs : List Nat) : Prop :=
  ∀ i ∈ rs, wpOp P ops Q i (fun b u => (i ≠ k → S u) ∧ Held P md ops Q S k n (listed.setIfInBounds i true) b u) a w
theorem AllHeld.nil {n : Nat} {listed : Array Bool} {a : Act} {w : World} : AllHeld P md ops Q S k n listed a w [] := fun _ h => by cases h
theorem AllHeld.cons {n : Nat} {listed : Array Bool} {a : Act} {w : World} {i : Nat} {o : Oper} {rs : List Nat} (ho : ops[i]? = some o)
    (h : ∀ K' : Act → World → Prop, Shut (∀ a w, (i ≠ k → S w) → ((i ≠ k → S w) → Held P md ops Q S k n (listed.setIfInBounds i true) a w) → K' a w) → if Region.wanted o (yielded ops a.tmps) = true then Oper.wp P o a w K' Q else K' (a.put o.dst undef) w)
    (hs : AllHeld P md ops Q S k n listed a w rs) : AllHeld P md ops Q S k n listed a w (i :: rs) := fun j hj => by
  rcases List.mem_cons.1 hj with rfl | hj
  · exact wpOp_step ho (fun K' hK => h K' (fun a w hS hW => hK a w ⟨hS, hW hS⟩))
  · exact hs j hj
end
end Go.Proofs.YthcjjekkjbidlaaDoor.St
/-
  Rows of entries put together: append of whatever holds entries, a row of none, a row of one; slices of a row.
-/
namespace Go.Proofs.YthcjjekkjbidlaaDoor.St
open Go.RowKit Go.Maps Go.WideMaps Go.Proofs.YthcjjekkjbidlaaDoor.Rf Go.Proofs.YthcjjekkjbidlaaDoor.Rd

/-- A slice value that holds cells. -/
def Holds (w : World) (x : Value) (m : Nat) (cs : List Value) : Prop :=
  (∃ a c, x = .slice (some a) m c ∧ ∀ j u, cs[j]? = some u → w.cell? (a.add j) = some u) ∨ (x = .slice none 0 0 ∧ m = 0 ∧ cs = [])

section
variable {P : Program}
theorem fold_set (cs : List Value) : ∀ (k : Nat) (acc : Array Value), acc.size = k + cs.length → (cs.zipIdx k).foldl (fun a p => a.setIfInBounds p.2 p.1) acc = (acc.toList.take k ++ cs).toArray := by
  induction cs with
  | nil => intro k acc h; simp at h; simp; rw [List.take_of_length_le (by simp; omega)]
  | cons c r ih =>
    intro k acc h
    rw [List.zipIdx_cons, List.foldl_cons, ih (k + 1) _ (by simp at h ⊢; omega)]
    congr 1
    have hk : k < acc.toList.length := by simp at h ⊢; omega
    simp only [Array.toList_setIfInBounds]
    rw [List.take_add_one, List.take_set_of_le (Nat.le_refl _)]
    simp at hk
    simp [hk]
end

theorem addr_block (a : Addr) (n : Nat) : (a.add n).block = a.block := by unfold Addr.add; split <;> rfl
theorem Holds.block {w w' : World} {x : Value} {m : Nat} {cs : List Value} (h : Holds w x m cs) (hb : ∀ a c, x = .slice (some a) m c → w'.heap[a.block]? = w.heap[a.block]?) : Holds w' x m cs := by
  rcases h with ⟨a, c, rfl, hc⟩ | h
  · exact .inl ⟨a, c, rfl, fun j u hj => (World.cell?_of_block (by rw [addr_block]; exact hb a c rfl)).trans (hc j u hj)⟩
  · exact .inr h
section
variable {P : Program} {o : Oper} {a : Act} {w : World} {K : Act → World → Prop} {Q : Exit → Act → World → Prop}
end
theorem Holds.grown {w w' : World} {x : Value} {m : Nat} {cs : List Value} {row : Option Nat} (h : Holds w x m cs) (hg : w.grownBy w' row) (hb : ∀ a c, x = .slice (some a) m c → a.block < w.heap.size ∧ some a.block ≠ row) : Holds w' x m cs :=
  h.block (fun a c e => hg.block _ (hb a c e).1 (hb a c e).2)
theorem Holds.below {w w' : World} {x : Value} {m : Nat} {cs : List Value} {n : Nat} (h : Holds w x m cs) (hg : Below n w w') (hb : ∀ a c, x = .slice (some a) m c → a.block < n) : Holds w' x m cs :=
  h.block (fun a c e => hg.block _ (hb a c e))
end Go.Proofs.YthcjjekkjbidlaaDoor.St
/-
  The contract of the program's All.
-/
namespace Go.Proofs.YthcjjekkjbidlaaDoor.St
open Go.RowKit Go.Maps Go.WideMaps Go.Proofs.YthcjjekkjbidlaaDoor.Rf Go.Proofs.YthcjjekkjbidlaaDoor.Rd

theorem strKeys_toD {α : Type} (enc : α → Value) (m : MV α) : strKeys (toD enc m) = m.map (·.1) := by
  show (m.map fun p => ((Lit.string p.1, DataW.held (enc p.2)) : Lit × DataW Value)).map (fun p => strOf p.1) = _
  rw [List.map_map]; rfl
end Go.Proofs.YthcjjekkjbidlaaDoor.St
/-
  Rows of n cells an element: append, a row of one; the rows that a tree's Value is.
-/
namespace Go.Proofs.YthcjjekkjbidlaaDoor.Sr
open Go.RowKit Go.Maps Go.WideMaps Go.Proofs.YthcjjekkjbidlaaDoor.Rf Go.Proofs.YthcjjekkjbidlaaDoor.Nm Go.Proofs.YthcjjekkjbidlaaDoor.St

section
variable {P : Program}
theorem wp_appendN (size : Nat) (hpos : 0 < size) {o : Oper} {a : Act} {w : World} {K : Act → World → Prop} {Q : Exit → Act → World → Prop} (s x : Operand) (t : TypeId) (ho : o.op = .call { callee := .builtin .append, args := #[s, x], argTypes := #[t, t] })
    (base : Nat) (e : TypeId) (i : TypeInfo) (z : Value) (bytes : Nat) (ht : P.underlying t = some (.slice e)) (hi : P.info? e = some i) (hz : i.zero = some z)
    (hsize : i.size = size) (hby : i.bytes = bytes) (hzs : z.cells.size = size) (v : Value) (n : Nat) (xs : List Value) (hs : a.eval s = v) (hown : w.ownsRow base e size v n xs)
    (ad : Addr) (m c : Nat) (cs : List Value) (hxv : a.eval x = .slice (some ad) m c) (hx : ∀ j u, cs[j]? = some u → w.cell? (ad.add j) = some u) (hl : cs.length = m * size) (h1 : ∀ u ∈ cs, u.oneCell' = true) (h63 : n + m ≤ maxLen) (hbytes : (n + m) * bytes ≤ 140737488355328) (hbase : base ≤ w.heap.size)
    (h : ∀ v' w', w'.ownsRow base e size v' (n + m) (xs ++ cs) → w.grownBy w' v.ownBlock → (v'.ownBlock = v.ownBlock ∨ v'.ownBlock = some w.heap.size) → K (a.put o.dst v') w') : o.wp P a w K Q := by
  obtain ⟨v', w', hr, h2, h3, _, h4⟩ := run_append_own_at (P := P) w base t o.type e i z size bytes ht hi hz hsize hby hzs hpos v n xs hown ad m c cs hl hx h1 h63 hbytes hbase
  unfold Oper.wp execOp
  simp only [ho, resolve, invoke, builtin, Sem.run_bind, Sem.run_pure, Result.andThen_ok, List.map_toArray, List.map_cons, List.map_nil, hs, hxv, hr]
  exact h v' w' h2 h3 h4
theorem run_buildOneN (size : Nat) (hp0 : 0 < size) (hp1 : ¬ 16777216 < size) (w : World) (t e : TypeId) (i : TypeInfo) (z : Value) (cs : List Value) (ht : P.underlying t = some (.slice e)) (hi : P.info? e = some i) (hz : i.zero = some z) (hs : i.size = size) (hl : cs.length = size) :
    (Instr.buildSlice t 1 #[(0, .agg cs.toArray)]).run P w = .ok (.slice (some ⟨w.heap.size, 0, none⟩) 1 1) (w.alloc (.cells cs.toArray e)) := by
  simp [Instr.buildSlice, run_underlying ht, sizeOf, typeInfo, hi, hs, zeroValue, hz, Instr.fill, Value.cells, hl]
  rw [if_neg hp1, if_neg (by omega), fold_set cs 0 _ (by simp [hl])]
  simp [newRow, Result.andThen]
theorem wp_oneN (size : Nat) (hp0 : 0 < size) (hp1 : ¬ 16777216 < size) {o : Oper} {a : Act} {w : World} {K : Act → World → Prop} {Q : Exit → Act → World → Prop} (t e : TypeId) (x : Operand) (cs : List Value) (i : TypeInfo) (z : Value) (ho : o.op = .buildSlice t 1 #[(0, x)]) (hx : a.eval x = .agg cs.toArray)
    (ht : P.underlying t = some (.slice e)) (hi : P.info? e = some i) (hz : i.zero = some z) (hs : i.size = size) (hl : cs.length = size)
    (h : K (a.put o.dst (.slice (some ⟨w.heap.size, 0, none⟩) 1 1)) (w.alloc (.cells cs.toArray e))) : o.wp P a w K Q := by
  have hrun := run_buildOneN size hp0 hp1 w t e i z cs ht hi hz hs hl
  unfold Oper.wp
  have hp : (#[(0, x)] : Array (Nat × Operand)).map (fun p => (p.1, a.eval p.2)) = #[(0, .agg cs.toArray)] := by simp [hx]
  simp [execOp, ho, hx, hrun, Result.andThen]
  exact h
end

/-- A node's path. -/
def pathN (n : PN) : List UInt8 := if pathOf n = [] then [47] else pathOf n
/-- The eleven cells of a row of Value. -/
def vcells (e : TE) (xv : Value) : List Value := .string ⟨(pathN e.nm).toArray⟩ :: (e.at_.cells xv ++ [.string ⟨e.data.toArray⟩, .int .u64 (e.ino : Int), .int .i64 e.tick])
def vrows (R : List (TE × Value)) : List Value := R.flatMap fun p => vcells p.1 p.2
theorem vcells_len (e : TE) (xv : Value) : (vcells e xv).length = 11 := rfl
theorem vrows_append (A B : List (TE × Value)) : vrows (A ++ B) = vrows A ++ vrows B := by rw [vrows, List.flatMap_append]; rfl
abbrev VnT : TypeId := 70
def zeroVn : Value := .agg (.string ⟨#[]⟩ :: (zeroA.cells (.slice none 0 0) ++ [.string ⟨#[]⟩, .int .u64 0, .int .i64 0])).toArray
theorem infoVn : (Tryd.prog.info? VnT).map (fun i => (i.zero, i.size, i.bytes)) = some (some zeroVn, 11, 112) := by kernel_rfl
end Go.Proofs.YthcjjekkjbidlaaDoor.Sr
