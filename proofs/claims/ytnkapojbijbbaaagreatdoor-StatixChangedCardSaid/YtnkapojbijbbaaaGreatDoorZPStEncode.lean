import Derived.Test.YtnkapojbijbbaaaGreatDoorZPSrSort
import Derived.Test.YtnkapojbijbbaaaGreatDoorZPRowKit
import Derived.Lib.Builder
import Derived.Lib.AppendStr
import Derived.Lib.UnsafeStr
import Derived.Laws.Externs
import Derived.Laws.BytesString
import Derived.Test.YtnkapojbijbbaaaGreatDoorZPStStrs
import Derived.Stop.BytesEq
import Derived.Deep.CutRange
import Derived.Deep.DeepCutAuto
import Derived.Lib.FrozenHead
import Derived.Lib.ConvBytes
import Derived.StillTail
import Derived.BigQuiet
import Derived.Deep.QuietTactic
import Derived.Test.YtnkapojbijbbaaaGreatDoorZPShRounds
import Derived.Deep.RegionHeld3
import Derived.Great.BuildSlice
import Derived.Deep.LoopGhost
import Derived.Deep.OwnRows
set_option linter.unusedSimpArgs false
set_option linter.unusedVariables false
namespace Go.Proofs.YtnkapojbijbbaaaGreatDoor.St
open Go.RowKit Go.Maps Go.WideMaps Rf Rd
theorem row_ent {w : World} {B g n cap : Nat} {T : TypeId} {L : List SE} (h : w.ownsRow B T 38 (.slice (some ⟨g, 0, none⟩) n cap) L.length (cellsS L)) (hid : ∀ e ∈ L, e.id.length = 32) {i : Nat} {e : SE} (he : L[i]? = some e) : w.rangeAt g (i * 38) e.cells := fun j v hv => by
 have hil := (List.getElem?_eq_some_iff.1 he).1
 obtain ⟨g', cap', hv', _, _, _, hc⟩ := rowS_form h (by omega)
 injection hv' with e1 _ _
 injection e1 with e1
 injection e1 with e1
 subst e1
 exact hc _ _ (cellsS_at hid he hv)
end Go.Proofs.YtnkapojbijbbaaaGreatDoor.St
namespace Go.Proofs.YtnkapojbijbbaaaGreatDoor.St
open Go.RowKit Go.Maps Go.WideMaps Rf Rd
def RowM (w : World) (B : Nat) (v : Value) (l : List UInt8) : Prop :=
 ∃ (g cap : Nat) (cur : Array Value) (fz : Nat × Nat), v = .slice (some ⟨g, 0, none⟩) l.length cap ∧ B ≤ g ∧ w.heap[g]? = some (.cells cur 5 fz) ∧ (fz.2 ≤ l.length ∨ cap ≤ fz.1) ∧ l.length ≤ cap ∧ cap ≤ maxLen ∧ cur.size = cap ∧ cur.toList.take l.length = Lib.byteCells l
theorem RowM.lt {w : World} {B : Nat} {v : Value} {l : List UInt8} (h : RowM w B v l) : ∀ x ∈ ob v, B ≤ x ∧ x < w.heap.size := by
 obtain ⟨g, cap, cur, fz, rfl, hB, hg, _⟩ := h
 intro x hx
 have : x = g := by simpa [ob, Value.ownBlock] using hx
 subst this
 exact ⟨hB, lt_of_heap' hg⟩
where lt_of_heap' {w : World} {q : Nat} {o : Obj} (h : w.heap[q]? = some o) : q < w.heap.size := (Array.getElem?_eq_some_iff.1 h).1
theorem RowM.kept {w w' : World} {B : Nat} {v : Value} {l : List UInt8} (h : RowM w B v l) (hb : ∀ x ∈ ob v, x < w.heap.size → w'.heap[x]? = w.heap[x]?) : RowM w' B v l := by
 have hl := h.lt
 obtain ⟨g, cap, cur, fz, rfl, hB, hg, rest⟩ := h
 exact ⟨g, cap, cur, fz, rfl, hB, (hb g (by simp [ob, Value.ownBlock]) (hl g (by simp [ob, Value.ownBlock])).2).trans hg, rest⟩
theorem RowM.below {w w' : World} {B : Nat} {v : Value} {l : List UInt8} (h : RowM w B v l) (hb : Below w.heap.size w w') : RowM w' B v l := h.kept (fun x _ hl => hb.block x hl)
theorem RowM.range {w : World} {B : Nat} {l : List UInt8} {g n cap : Nat} (h : RowM w B (.slice (some ⟨g, 0, none⟩) n cap) l) : w.rangeAt g 0 (Lib.byteCells l) := by
 obtain ⟨g', cap', cur, fz, hv, _, hg, _, _, _, _, ht⟩ := h
 injection hv with e1 _ _
 injection e1 with e1
 injection e1 with e1
 subst e1
 intro j v hv
 rw [Nat.zero_add]
 have hj : j < l.length := by have := (List.getElem?_eq_some_iff.1 hv).1; rwa [Lib.byteCells_length] at this
 rw [← ht, List.getElem?_take_of_lt hj, Array.getElem?_toList] at hv
 rw [World.cell?, hg]; simpa using hv
section
variable {w : World} {B : Nat}
end
end Go.Proofs.YtnkapojbijbbaaaGreatDoor.St
namespace Go.Proofs.YtnkapojbijbbaaaGreatDoor.Sh
open Go.RowKit Go.Maps Go.WideMaps Rf Rd St
section
variable {w : World} {B : Nat}
end
theorem RowM.slice {w : World} {B : Nat} {v : Value} {l : List UInt8} (h : RowM w B v l) : ∃ g cap, v = .slice (some ⟨g, 0, none⟩) l.length cap := by
 obtain ⟨g, cap, _, _, hv, _⟩ := h
 exact ⟨g, cap, hv⟩
end Go.Proofs.YtnkapojbijbbaaaGreatDoor.Sh
namespace Go.Proofs.YtnkapojbijbbaaaGreatDoor.Sh
open Go
section
variable {P : Program} {ops : Array Oper} {md : Region.Mode} {C : World → Prop}
def AllFirst (P : Program) (md : Region.Mode) (ops : Array Oper) (C : World → Prop) (n : Nat) (L : Array Bool → Act → Prop) : Nat → Array Bool → Act → Prop
 | 0 => L
 | f + 1 => fun ls a => Region.ready md ops ls ≠ [] ∧ ∀ i ∈ Region.ready md ops ls, i < n ∧ qOp P ops C i (AllFirst P md ops C n L f (ls.setIfInBounds i true)) a
theorem AllFirst.any {n g : Nat} {L : Array Bool → Act → Prop} {Q : Exit → Act → World → Prop} (hL : ∀ ls a w, C w → L ls a → wpAny P md ops Q g ls a w) (f : Nat) :
 ∀ (ls : Array Bool) (a : Act) (w : World), C w → AllFirst P md ops C n L f ls a → wpAny P md ops Q (f + g) ls a w := by
 induction f with
 | zero => intro ls a w hw h; rw [Nat.zero_add]; exact hL _ _ _ hw h
 | succ f ih =>
   intro ls a w hw h
   rw [Nat.succ_add]
   exact ⟨fun e => absurd e h.1, fun i hi => wpOp_of_qOp hw (fun a' w' hw' h' => ih _ a' w' hw' h') (h.2 i hi).2⟩
theorem AllFirst.take {n i : Nat} {oi : Oper} {v : Value} {L : Array Bool → Act → Prop} (hi : ops[i]? = some oi) (hsel : ∀ (j : Nat) (o : Oper) cs b, ops[j]? = some o → o.op ≠ .select cs b)
 (hs : Region.sinkB md ops n = true) (hc : Region.chainB md ops n = true) (hn : n < ops.size) (hin : i < n) (hend : ∀ ls a, L ls a → ∀ j ∈ Region.ready md ops ls, n ≤ j) (f : Nat) :
 ∀ (ls : Array Bool) (a : Act), HeadInv md ops n ls →
   (∀ j oj, ops[j]? = some oj → j ≠ i → ls.getD j true = false → (∀ e ∈ oj.after, Region.binds md e = true → e.on ≠ i) → oi.apart ops oj = true) →
   i ∈ Region.ready md ops ls → YieldsIn P ops C oi v a →
   AllFirst P md ops C n L f (ls.setIfInBounds i true) (a.put oi.dst v) → AllFirst P md ops C n L (f + 1) ls a := by
 have early : ∀ (ls : Array Bool), HeadInv md ops n ls → i ∈ Region.ready md ops ls → ∀ j ∈ Region.ready md ops ls, j < n := fun ls inv hr j hj => by
  rcases Nat.lt_or_ge j n with h | h
  · exact h
  · exact absurd hj (tail_waits hs hc hn inv _ i rfl hin (mem_ready.1 hr).1 j h)
 induction f with
 | zero =>
   intro ls a inv _ hr hy H
   refine ⟨List.ne_nil_of_mem hr, fun j hj => ⟨early ls inv hr j hj, ?_⟩⟩
   by_cases hji : j = i
   · subst hji; exact hy.qOp hi H
   · have := hend _ _ H j (ready_mono hj hji)
     have := early ls inv hr j hj
     omega
 | succ f ih =>
   intro ls a inv hfree hr hy H
   have hun := (mem_ready.1 hr).1
   refine ⟨List.ne_nil_of_mem hr, fun j hj => ⟨early ls inv hr j hj, ?_⟩⟩
   by_cases hji : j = i
   · subst hji; exact hy.qOp hi H
   · obtain ⟨hjun, oj, hoj, hall⟩ := mem_ready.1 hj
     have hnot : ∀ e ∈ oj.after, Region.binds md e = true → e.on ≠ i := fun e he hb heq => by
      have h1 := hall e he hb
      rw [heq, getD_both hun] at h1
      cases h1
     have h2 := qOp_put hoj (hfree j oj hoj hji hjun hnot) (fun cs b => hsel i oi cs b hi) (fun cs b => hsel j oj cs b hoj) hy (H.2 j (ready_mono hj hji)).2
     refine qOp_mono (fun a' h3 => ih (ls.setIfInBounds j true) a' (inv.set hj (early ls inv hr j hj)) ?_ (ready_mono hr (Ne.symm hji)) h3.1 ?_) h2
     · intro k ok hk hki hu hno
       refine hfree k ok hk hki ?_ hno
       by_cases hjk : j = k
       · subst hjk; exact hjun
       · rwa [getD_set_ne true hjk] at hu
     · rw [Array.setIfInBounds_comm _ _ hji]
       exact h3.2
end
end Go.Proofs.YtnkapojbijbbaaaGreatDoor.Sh
namespace Go.Proofs.YtnkapojbijbbaaaGreatDoor.Sh
open Go.RowKit Go.Maps Rf Rd St
theorem V8.In.get {V : V8} (h : V.In) (i : Nat) : 0 ≤ V.list.getD i 0 := by
 match i with
 | 0 => exact h.a.1
 | 1 => exact h.b.1
 | 2 => exact h.c.1
 | 3 => exact h.d.1
 | 4 => exact h.e.1
 | 5 => exact h.f.1
 | 6 => exact h.g.1
 | 7 => exact h.h.1
 | n + 8 => exact Int.le_refl 0
end Go.Proofs.YtnkapojbijbbaaaGreatDoor.Sh
namespace Go.Proofs.YtnkapojbijbbaaaGreatDoor.St
open Go.RowKit Go.Maps Go.WideMaps Rf Rd
theorem list_mid {α : Type} (l : List α) (o : Nat) (v : α) (m : Nat) (h : o < l.length) : (l.take o ++ v :: l.drop (o + 1)).take (o + 1) = l.take o ++ [v] ∧ (l.take o ++ v :: l.drop (o + 1)).drop (o + 1 + m) = l.drop (o + 1 + m) := by
 have hA : (l.take o).length = o := by rw [List.length_take]; omega
 have hC : l.drop (o + 1 + m) = (l.drop (o + 1)).drop m := by rw [List.drop_drop]
 rw [hC]
 generalize l.take o = A at *
 generalize l.drop (o + 1) = C at *
 subst hA
 constructor
 · simp [List.take_append]
   exact List.take_of_length_le (by omega)
 · rw [Nat.add_assoc, ← List.drop_drop, List.drop_left, Nat.add_comm, List.drop_succ_cons]
theorem heap_setCells {b : Nat} {T : TypeId} : ∀ (vs : List Value) (o : Nat) (w : World) (cur : Array Value), w.heap[b]? = some (.cells cur T) → o + vs.length ≤ cur.size →
 ∃ cur' : Array Value, (w.setCells b o vs).heap[b]? = some (.cells cur' T) ∧ cur'.size = cur.size ∧ cur'.toList = cur.toList.take o ++ vs ++ cur.toList.drop (o + vs.length)
 | [], o, w, cur, h, _ => ⟨cur, h, rfl, by simp⟩
 | v :: r, o, w, cur, h, hl => by
   have h1 := setCell_heap w b o v cur T h
   have hsz : (cur.setIfInBounds o v).size = cur.size := Array.size_setIfInBounds ..
   obtain ⟨cur', a1, a2, a3⟩ := heap_setCells r (o + 1) _ _ h1 (by rw [hsz]; simp at hl; omega)
   refine ⟨cur', a1, a2.trans hsz, ?_⟩
   have ho : o < cur.toList.length := by simp at hl ⊢; omega
   rw [a3, Array.toList_setIfInBounds, List.set_eq_take_append_cons_drop, if_pos ho]
   obtain ⟨l1, l2⟩ := list_mid cur.toList o v r.length ho
   rw [l1, l2]
   simp [show o + (r.length + 1) = o + 1 + r.length by omega]
theorem cellsS_split {L : List SE} {i : Nat} {x : SE} (h : L[i]? = some x) (e : SE) : cellsS L = cellsS (L.take i) ++ (x.cells ++ cellsS (L.drop (i + 1))) ∧ cellsS (L.set i e) = cellsS (L.take i) ++ (e.cells ++ cellsS (L.drop (i + 1))) := by
 obtain ⟨hi, rfl⟩ := List.getElem?_eq_some_iff.1 h
 constructor
 · conv => lhs; rw [← List.take_append_drop i L, List.drop_eq_getElem_cons hi]
   rw [cellsS_append, cellsS_cons]
 · rw [List.set_eq_take_append_cons_drop, if_pos hi, cellsS_append, cellsS_cons]
theorem turn_setCells (w : World) (g o : Nat) (vs : List Value) : Turn [g] w (w.setCells g o vs) := by
 induction vs generalizing w o with
 | nil => exact Turn.refl _ _
 | cons v r ih => exact ((Turn.refl [g] w).setCell (p := ⟨g, o, none⟩) (.inl (by simp)) v).trans (ih _ _) (fun y hy => .inl hy)
theorem row_set {w : World} {B g n cap i : Nat} {T : TypeId} {L : List SE} (h : w.ownsRow B T 38 (.slice (some ⟨g, 0, none⟩) n cap) n (cellsS L)) (hn : n = L.length) (hid : ∀ e ∈ L, e.id.length = 32) (hi : i < L.length) {e : SE} (he : e.id.length = 32) :
 (w.setCells g (i * 38) e.cells).ownsRow B T 38 (.slice (some ⟨g, 0, none⟩) n cap) n (cellsS (L.set i e)) ∧ w.there g (i * 38) 38 := by
 obtain ⟨h1, ⟨e1, _⟩ | ⟨g', cap', cur, e1, a1, a2, a3, a4, a5, a6⟩⟩ := h
 · cases e1
 · injection e1 with e1 e2 e3
   injection e1 with e1
   injection e1 with e1
   subst e1 e3 hn
   obtain ⟨x, hx⟩ : ∃ x, L[i]? = some x := ⟨_, List.getElem?_eq_getElem hi⟩
   obtain ⟨s1, s2⟩ := cellsS_split hx e
   have hxl := cells_size (hid x (List.mem_of_getElem? hx))
   have hel := cells_size he
   have hl1 : (cellsS (L.take i)).length = i * 38 := by rw [cellsS_length (fun e he => hid e (List.mem_of_mem_take he)), List.length_take, Nat.min_eq_left (Nat.le_of_lt hi), Nat.mul_comm]
   have hfit : i * 38 + 38 ≤ cur.size := by
    rw [a5]
    have : (i + 1) * 38 ≤ cap * 38 := Nat.mul_le_mul_right _ (by omega)
    omega
   obtain ⟨cur', b1, b2, b3⟩ := heap_setCells e.cells (i * 38) w cur a2 (by rw [hel]; exact hfit)
   refine ⟨⟨?_, .inr ⟨g, cap, cur', rfl, a1, b1, a3, a4, b2.trans a5, ?_⟩⟩, fun j hj => ?_⟩
   · rw [cellsS_length (fun y hy => by rcases List.mem_or_eq_of_mem_set hy with h | h; exact hid y h; rw [h]; exact he), List.length_set, Nat.mul_comm]
   · rw [b3, hel, s2]
     have hlen : L.length * 38 = i * 38 + 38 + (cellsS (L.drop (i + 1))).length := by
      rw [cellsS_length (fun e he => hid e (List.mem_of_mem_drop he)), List.length_drop]; omega
     have t1 : cur.toList.take (i * 38) = cellsS (L.take i) := by
      have := congrArg (List.take (i * 38)) a6
      rw [List.take_take, Nat.min_eq_left (by omega), s1, ← hl1, List.take_left] at this
      rw [hl1] at this
      exact this
     have t2 : (cur.toList.drop (i * 38 + 38)).take ((cellsS (L.drop (i + 1))).length) = cellsS (L.drop (i + 1)) := by
      have := congrArg (List.drop (i * 38 + 38)) a6
      have hX : (cellsS (L.take i) ++ x.cells).length = i * 38 + 38 := by rw [List.length_append, hl1, hxl]
      rw [List.drop_take, s1, ← List.append_assoc, ← hX, List.drop_left, hX] at this
      rw [show L.length * 38 - (i * 38 + 38) = (cellsS (L.drop (i + 1))).length by omega] at this
      exact this
     rw [t1, List.take_append, List.take_of_length_le (by rw [List.length_append, hl1, hel]; omega), List.length_append, hl1, hel, show L.length * 38 - (i * 38 + 38) = (cellsS (L.drop (i + 1))).length by omega, t2, List.append_assoc]
   · refine ⟨?_, frozen_of_heap a2⟩
     rw [cell_of_heap a2, Array.getElem?_eq_getElem (by omega)]
     rfl
end Go.Proofs.YtnkapojbijbbaaaGreatDoor.St
namespace Go.Proofs.YtnkapojbijbbaaaGreatDoor.Sh
open Go.RowKit Go.Maps Rf Rd St
theorem wpList_build_is {P : Program} {ops : Array Oper} {rest : List Oper} {o : Oper} {a : Act} {w : World} {Q : Exit → Act → World → Prop} (hg : o.guard = none) (t : TypeId) (parts : Array (Nat × Operand)) (ho : o.op = .build t parts) (cs : Array Value)
 (hb : P.built t (parts.map fun (i, x) => (i, a.eval x)).toList = some cs) (h : wpList P ops Q rest (a.put o.dst (.agg cs)) w) : wpList P ops Q (o :: rest) a w :=
 wpList_build hg t parts ho (by rw [hb]; rfl) (by rw [hb]; exact h)
def stC (h : V8) (t : List UInt8) (n : Nat) : Array Value := #[wdV h.a, wdV h.b, wdV h.c, wdV h.d, wdV h.e, wdV h.f, wdV h.g, wdV h.h, .string ⟨t.toArray⟩, .int .u64 (n : Int)]
theorem oneSt (h : V8) (t : List UInt8) (n : Nat) : (stC h t n).all (·.oneCell') = true := by simp [stC, Value.oneCell']
end Go.Proofs.YtnkapojbijbbaaaGreatDoor.Sh
namespace Go.Proofs.YtnkapojbijbbaaaGreatDoor.St
open Go.RowKit Go.Maps Go.WideMaps Rf Rd
def RxPost (B : Nat) (w : World) (r : Nat) (v : Value) (c : Int) (L' : List SE) (e : Ending) (w' : World) : Prop :=
 ∃ v', e = .returned (.int .i64 c) ∧ RefAt B w' r v' L' ∧ Turn (r :: ob v) w w' ∧ ∀ x ∈ ob v', x ∈ ob v ∨ w.heap.size ≤ x
theorem rxPost_same {B : Nat} {w w' : World} {r : Nat} {v : Value} {c : Int} {L : List SE} {e : Ending} (h : RefAt B w r v L) (he : e = .returned (.int .i64 c)) (hb : Below w.heap.size w w') : RxPost B w r v c L e w' :=
 ⟨v, he, h.below hb, Turn.of_below hb, fun _ hx => .inl hx⟩
theorem rxPost_new {B : Nat} {w wc : World} {r n : Nat} {v v' : Value} {c : Int} {L L' : List SE} {e : Ending} (h : RefAt B w r v L) (hb : Below w.heap.size w wc) (he : e = .returned (.int .i64 c))
 (hn : w.heap.size ≤ n) (ho : wc.ownsRow n 55 38 v' L'.length (cellsS L')) (hs : Srt L') (hf : ∀ e ∈ L', e.Fits) (hl : L'.length ≤ 65536) : RxPost B w r v c L' e (wc.setCell ⟨r, 0, none⟩ v') := by
 have h1 := h.below hb
 have hge := rowS_ge ho
 have hrl := h.lt
 refine ⟨v', he, ⟨?_, ?_, fun x hx => ?_, h.base, hs, hf, hl⟩, ?_, fun x hx => .inr (Nat.le_trans hn (hge x hx))⟩
 · rw [setCell_heap _ _ _ _ _ _ h1.book]; rfl
 · refine rowS_kept (row_mono ho (Nat.le_trans h.base (Nat.le_trans (Nat.le_of_lt hrl) hn))) (fun x hx _ => Below.heap_setCell _ _ _ _ ?_)
   have := hge x hx
   show x ≠ r
   omega
 · have := hge x hx
   omega
 · exact ((Turn.of_below hb : Turn (r :: ob v) w wc)).setCell (.inl (by simp)) _
end Go.Proofs.YtnkapojbijbbaaaGreatDoor.St
