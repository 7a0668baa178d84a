import Derived.Test.YthcjjekkjbidlaaDoorZPNmPaths
import Derived.Test.YthcjjekkjbidlaaDoorZPStRefAt
import Derived.Laws.Shifts
import Derived.Laws.Closers25b
import Derived.Laws.BitsAllLaws
import Derived.Test.YthcjjekkjbidlaaDoorZPSrWrite
import Derived.Test.YthcjjekkjbidlaaDoorZPStReg
import Derived.StillTailTactics
import Derived.Lib.Builder
import Derived.Lib.AppendStr
import Derived.Lib.UnsafeStr
import Derived.Laws.Externs
import Derived.Laws.BytesString
import Derived.Test.YthcjjekkjbidlaaDoorZPNmCodec
import Derived.Stop.BytesEq
import Derived.Test.YthcjjekkjbidlaaDoorZPSrLook
import Derived.Deep.CutRange
import Derived.Deep.DeepCutAuto
import Derived.Lib.FrozenHead
import Derived.Lib.ConvBytes
import Derived.StillTail
import Derived.BigQuiet
import Derived.Deep.QuietTactic
set_option linter.unusedSimpArgs false
set_option linter.unusedVariables false
/-
  The contract of what a block makes of the eight words: the program's.
-/
namespace Go.Proofs.YthcjjekkjbidlaaDoor.Sh
open Go.RowKit Go.Proofs.YthcjjekkjbidlaaDoor.Rf Go.Proofs.YthcjjekkjbidlaaDoor.Rd

abbrev wdV (x : Int) : Value := .int .u32 x
def V8.cells (v : V8) : Array Value := #[wdV v.a, wdV v.b, wdV v.c, wdV v.d, wdV v.e, wdV v.f, wdV v.g, wdV v.h]
abbrev T8 : TypeId := 125
abbrev T64 : TypeId := 127
/-- A row of words as cells. -/
def wc (L : List Int) : Array Value := (L.map wdV).toArray
theorem wc_set (L : List Int) (j : Nat) (x : Int) : (wc L).setIfInBounds j (wdV x) = wc (L.set j x) := by
  simp [wc]

/-- The words when k more were reckoned. -/
def L2 (B : List UInt8) (k : Nat) : List Int := sch (wrds B) k ++ List.replicate (48 - k) 0
/-- The blocks under a block's rounds. -/
structure RSt (w : World) (kb a c d : Nat) (h z : V8) (W : List Int) (wr : World) : Prop where
  hh : wr.heap[a]? = some (.cells h.cells T8)
  hz : wr.heap[c]? = some (.cells z.cells T8)
  hw : wr.heap[d]? = some (.cells (wc W) T64)
  hk : wr.heap[kb]? = some (.cells (wc K64) T64)
  be : Below w.heap.size w wr
theorem RSt.drew {w : World} {kb a c d : Nat} {h z : V8} {W : List Int} {wr : World} (H : RSt w kb a c d h z W wr) : RSt w kb a c d h z W wr.drew := ⟨H.hh, H.hz, H.hw, H.hk, H.be.drew⟩
theorem RSt.drewN {w : World} {kb a c d : Nat} {h z : V8} {W : List Int} {wr : World} (H : RSt w kb a c d h z W wr) (n : Nat) : RSt w kb a c d h z W (wr.drewN n) :=
  ⟨by rw [World.heap_drewN]; exact H.hh, by rw [World.heap_drewN]; exact H.hz, by rw [World.heap_drewN]; exact H.hw, by rw [World.heap_drewN]; exact H.hk, H.be.trans ⟨rfl, rfl, rfl, Nat.le_of_eq (by rw [World.heap_drewN]), fun _ _ => by rw [World.heap_drewN]⟩⟩
theorem RSt.below {w : World} {kb a c d : Nat} {h z : V8} {W : List Int} {wr w' : World} (H : RSt w kb a c d h z W wr) (hb : Below wr.heap.size wr w') : RSt w kb a c d h z W w' :=
  ⟨(hb.block _ (lt_of_heap H.hh)).trans H.hh, (hb.block _ (lt_of_heap H.hz)).trans H.hz, (hb.block _ (lt_of_heap H.hw)).trans H.hw, (hb.block _ (lt_of_heap H.hk)).trans H.hk, H.be.trans (hb.mono H.be.size)⟩
/-- The blocks under the adding up. -/
structure ASt (w : World) (a c e : Nat) (L : List Int) (v z : V8) (wr : World) : Prop where
  hh : wr.heap[a]? = some (.cells (wc L) T8)
  hz : wr.heap[c]? = some (.cells z.cells T8)
  hv : wr.heap[e]? = some (.cells (wc v.list) T8)
  be : Below w.heap.size w wr
theorem ASt.set {w : World} {a c e : Nat} {L : List Int} {v z : V8} {wr : World} (H : ASt w a c e L v z wr) (hac : c ≠ a) (hae : e ≠ a) (hw : w.heap.size ≤ a) (j : Nat) (x : Int) : ASt w a c e (L.set j x) v z (wr.drew.setCell ⟨a, j, none⟩ (wdV x)) :=
  ⟨by rw [setCell_heap _ _ _ _ _ _ (show wr.drew.heap[a]? = _ from H.hh), wc_set], (Below.heap_setCell _ _ _ _ hac).trans H.hz, (Below.heap_setCell _ _ _ _ hae).trans H.hv, (H.be.drew).setCell hw _⟩
end Go.Proofs.YthcjjekkjbidlaaDoor.Sh
/-
  The contract of the program's Encode.
-/
namespace Go.Proofs.YthcjjekkjbidlaaDoor.St
open Go.RowKit Go.Maps Go.WideMaps Go.Proofs.YthcjjekkjbidlaaDoor.Rf Go.Proofs.YthcjjekkjbidlaaDoor.Rd

theorem conv_row {w : World} {g o c : Nat} (l : List UInt8) (h : w.rangeAt g o (Lib.byteCells l)) : (convert 38 9 (.slice (some ⟨g, o, none⟩) l.length c)).run Tryd.prog w = .ok (.string ⟨l.toArray⟩) w :=
  run_convert_bytes_back w _ _ 5 ⟨g, o, none⟩ c l Tryd.underlying38 Tryd.underlying5 Tryd.underlying9 (fun j hj => by
    rw [Addr.add_lit]
    exact h j _ (by rw [Lib.byteCells, List.getElem?_map, List.getElem?_eq_getElem hj]; rfl))
end Go.Proofs.YthcjjekkjbidlaaDoor.St
/-
  A row of bytes that a text was turned into, and texts appended to it.
-/
namespace Go.Proofs.YthcjjekkjbidlaaDoor.St
open Go.RowKit Go.Maps Go.WideMaps Go.Proofs.YthcjjekkjbidlaaDoor.Rf Go.Proofs.YthcjjekkjbidlaaDoor.Rd

/-- A row of the call's own that holds these bytes; a mark may stand behind its last place. -/
def RowM (w : World) (B : Nat) (v : Value) (l : List UInt8) : Prop :=
  ∃ (g cap : Nat) (cur : Array Value) (fz : Nat × Nat), v = .slice (some ⟨g, 0, none⟩) l.length cap ∧ B ≤ g ∧ w.heap[g]? = some (.cells cur 5 fz) ∧ (fz.2 ≤ l.length ∨ cap ≤ fz.1) ∧ l.length ≤ cap ∧ cap ≤ maxLen ∧ cur.size = cap ∧ cur.toList.take l.length = Lib.byteCells l
theorem RowM.lt {w : World} {B : Nat} {v : Value} {l : List UInt8} (h : RowM w B v l) : ∀ x ∈ ob v, B ≤ x ∧ x < w.heap.size := by
  obtain ⟨g, cap, cur, fz, rfl, hB, hg, _⟩ := h
  intro x hx
  have : x = g := by simpa [ob, Value.ownBlock] using hx
  subst this
  exact ⟨hB, lt_of_heap' hg⟩
where lt_of_heap' {w : World} {q : Nat} {o : Obj} (h : w.heap[q]? = some o) : q < w.heap.size := (Array.getElem?_eq_some_iff.1 h).1
theorem RowM.kept {w w' : World} {B : Nat} {v : Value} {l : List UInt8} (h : RowM w B v l) (hb : ∀ x ∈ ob v, x < w.heap.size → w'.heap[x]? = w.heap[x]?) : RowM w' B v l := by
  have hl := h.lt
  obtain ⟨g, cap, cur, fz, rfl, hB, hg, rest⟩ := h
  exact ⟨g, cap, cur, fz, rfl, hB, (hb g (by simp [ob, Value.ownBlock]) (hl g (by simp [ob, Value.ownBlock])).2).trans hg, rest⟩
theorem RowM.below {w w' : World} {B : Nat} {v : Value} {l : List UInt8} (h : RowM w B v l) (hb : Below w.heap.size w w') : RowM w' B v l := h.kept (fun x _ hl => hb.block x hl)
theorem RowM.range {w : World} {B : Nat} {l : List UInt8} {g n cap : Nat} (h : RowM w B (.slice (some ⟨g, 0, none⟩) n cap) l) : w.rangeAt g 0 (Lib.byteCells l) := by
  obtain ⟨g', cap', cur, fz, hv, _, hg, _, _, _, _, ht⟩ := h
  injection hv with e1 _ _
  injection e1 with e1
  injection e1 with e1
  subst e1
  intro j v hv
  rw [Nat.zero_add]
  have hj : j < l.length := by have := (List.getElem?_eq_some_iff.1 hv).1; rwa [Lib.byteCells_length] at this
  rw [← ht, List.getElem?_take_of_lt hj, Array.getElem?_toList] at hv
  rw [World.cell?, hg]; simpa using hv
theorem RowM.conv {w : World} {B : Nat} {l : List UInt8} {v : Value} (h : RowM w B v l) : (convert 38 9 v).run Tryd.prog w = .ok (.string ⟨l.toArray⟩) w := by
  have h0 := h
  obtain ⟨g, cap, cur, fz, rfl, _⟩ := h
  exact conv_row l h0.range

section
variable {w : World} {B : Nat}
end
end Go.Proofs.YthcjjekkjbidlaaDoor.St
/-
  Bytes of a row appended to a row of bytes.
-/
namespace Go.Proofs.YthcjjekkjbidlaaDoor.Sh
open Go.RowKit Go.Maps Go.WideMaps Go.Proofs.YthcjjekkjbidlaaDoor.Rf Go.Proofs.YthcjjekkjbidlaaDoor.Rd Go.Proofs.YthcjjekkjbidlaaDoor.St

section
variable {w : World} {B : Nat}
end
theorem RowM.slice {w : World} {B : Nat} {v : Value} {l : List UInt8} (h : RowM w B v l) : ∃ g cap, v = .slice (some ⟨g, 0, none⟩) l.length cap := by
  obtain ⟨g, cap, _, _, hv, _⟩ := h
  exact ⟨g, cap, hv⟩
end Go.Proofs.YthcjjekkjbidlaaDoor.Sh
/-
  A region that draws its order: quiet operations first, and a chain of others behind them.
-/
namespace Go.Proofs.YthcjjekkjbidlaaDoor.Sh
open Go

section
variable {P : Program} {ops : Array Oper} {md : Region.Mode} {C : World → Prop}
/-- All of the first n came up, whatever the order; then L. -/
def AllFirst (P : Program) (md : Region.Mode) (ops : Array Oper) (C : World → Prop) (n : Nat) (L : Array Bool → Act → Prop) : Nat → Array Bool → Act → Prop
  | 0 => L
  | f + 1 => fun ls a => Region.ready md ops ls ≠ [] ∧ ∀ i ∈ Region.ready md ops ls, i < n ∧ qOp P ops C i (AllFirst P md ops C n L f (ls.setIfInBounds i true)) a
theorem AllFirst.any {n g : Nat} {L : Array Bool → Act → Prop} {Q : Exit → Act → World → Prop} (hL : ∀ ls a w, C w → L ls a → wpAny P md ops Q g ls a w) (f : Nat) :
    ∀ (ls : Array Bool) (a : Act) (w : World), C w → AllFirst P md ops C n L f ls a → wpAny P md ops Q (f + g) ls a w := by
  induction f with
  | zero => intro ls a w hw h; rw [Nat.zero_add]; exact hL _ _ _ hw h
  | succ f ih =>
    intro ls a w hw h
    rw [Nat.succ_add]
    exact ⟨fun e => absurd e h.1, fun i hi => wpOp_of_qOp hw (fun a' w' hw' h' => ih _ a' w' hw' h') (h.2 i hi).2⟩
theorem AllFirst.take {n i : Nat} {oi : Oper} {v : Value} {L : Array Bool → Act → Prop} (hi : ops[i]? = some oi) (hsel : ∀ (j : Nat) (o : Oper) cs b, ops[j]? = some o → o.op ≠ .select cs b)
    (hs : Region.sinkB md ops n = true) (hc : Region.chainB md ops n = true) (hn : n < ops.size) (hin : i < n) (hend : ∀ ls a, L ls a → ∀ j ∈ Region.ready md ops ls, n ≤ j) (f : Nat) :
    ∀ (ls : Array Bool) (a : Act), HeadInv md ops n ls →
      (∀ j oj, ops[j]? = some oj → j ≠ i → ls.getD j true = false → (∀ e ∈ oj.after, Region.binds md e = true → e.on ≠ i) → oi.apart ops oj = true) →
      i ∈ Region.ready md ops ls → YieldsIn P ops C oi v a →
      AllFirst P md ops C n L f (ls.setIfInBounds i true) (a.put oi.dst v) → AllFirst P md ops C n L (f + 1) ls a := by
  have early : ∀ (ls : Array Bool), HeadInv md ops n ls → i ∈ Region.ready md ops ls → ∀ j ∈ Region.ready md ops ls, j < n := fun ls inv hr j hj => by
    rcases Nat.lt_or_ge j n with h | h
    · exact h
    · exact absurd hj (tail_waits hs hc hn inv _ i rfl hin (mem_ready.1 hr).1 j h)
  induction f with
  | zero =>
    intro ls a inv _ hr hy H
    refine ⟨List.ne_nil_of_mem hr, fun j hj => ⟨early ls inv hr j hj, ?_⟩⟩
    by_cases hji : j = i
    · subst hji; exact hy.qOp hi H
    · have := hend _ _ H j (ready_mono hj hji)
      have := early ls inv hr j hj
      omega
  | succ f ih =>
    intro ls a inv hfree hr hy H
    have hun := (mem_ready.1 hr).1
    refine ⟨List.ne_nil_of_mem hr, fun j hj => ⟨early ls inv hr j hj, ?_⟩⟩
    by_cases hji : j = i
    · subst hji; exact hy.qOp hi H
    · obtain ⟨hjun, oj, hoj, hall⟩ := mem_ready.1 hj
      have hnot : ∀ e ∈ oj.after, Region.binds md e = true → e.on ≠ i := fun e he hb heq => by
        have h1 := hall e he hb
        rw [heq, getD_both hun] at h1
        cases h1
      have h2 := qOp_put hoj (hfree j oj hoj hji hjun hnot) (fun cs b => hsel i oi cs b hi) (fun cs b => hsel j oj cs b hoj) hy (H.2 j (ready_mono hj hji)).2
      refine qOp_mono (fun a' h3 => ih (ls.setIfInBounds j true) a' (inv.set hj (early ls inv hr j hj)) ?_ (ready_mono hr (Ne.symm hji)) h3.1 ?_) h2
      · intro k ok hk hki hu hno
        refine hfree k ok hk hki ?_ hno
        by_cases hjk : j = k
        · subst hjk; exact hjun
        · rwa [getD_set_ne true hjk] at hu
      · rw [Array.setIfInBounds_comm _ _ hji]
        exact h3.2
end
end Go.Proofs.YthcjjekkjbidlaaDoor.Sh
