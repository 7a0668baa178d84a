import Derived.Test.YtkdkifciajfpnaaDoorProg
import Derived.WalkKit
import Derived.Test.YtkdkifciajfpnaaDoorZPSrHnPlain
import Derived.Test.YtkdkifciajfpnaaDoorZPSrClear
import Derived.Test.YtkdkifciajfpnaaDoorZPSrTwinT
import Derived.Test.YtkdkifciajfpnaaDoorZPSrHonPlain
import Derived.Test.YtkdkifciajfpnaaDoorZPSrSame2
import Derived.Test.YtkdkifciajfpnaaDoorZPSrRun18
set_option linter.unusedSimpArgs false
set_option linter.unusedVariables false
/-
  Regions and blocks, taken out of a code.
-/
namespace Go.Proofs.YtkdkifciajfpnaaDoor.Sr
def findR (n : Nat) : Code → Option Code
  | .region id ops d => if id = n then some (.region id ops d) else none
  | .seq a b => match findR n a with
    | some c => some c
    | none => findR n b
  | .block _ c => findR n c
  | .cond _ a b => match findR n a with
    | some c => some c
    | none => findR n b
  | .loop c => findR n c
  | _ => none
def findB (n : Nat) : Code → Option Code
  | .seq a b => match findB n a with
    | some c => some c
    | none => findB n b
  | .block k c => if k == n then some (.block k c) else findB n c
  | .cond _ a b => match findB n a with
    | some c => some c
    | none => findB n b
  | .loop c => findB n c
  | _ => none
end Go.Proofs.YtkdkifciajfpnaaDoor.Sr
/-
  SourceHonest's code in pieces; a row of what a tree tells, read.
-/
namespace Go.Proofs.YtkdkifciajfpnaaDoor.Sr
open Go.RowKit Go.Maps Go.WideMaps Go.Proofs.YtkdkifciajfpnaaDoor.Rf Go.Proofs.YtkdkifciajfpnaaDoor.Nm Go.Proofs.YtkdkifciajfpnaaDoor.St

/-- A variable that holds a node. -/
def NodeVar (w : World) (q : Nat) (e : TE) (xv : Value) : Prop := w.heap[q]? = some (.cells (vcells e xv).toArray VnT)
theorem NodeVar.below {w w' : World} {q : Nat} {e : TE} {xv : Value} (h : NodeVar w q e xv) (hb : Below w.heap.size w w') : NodeVar w' q e xv := (hb.block _ (lt_of_heap h)).trans h
theorem NodeVar.cells {w : World} {q : Nat} {e : TE} {xv : Value} (h : NodeVar w q e xv) : w.cell? ⟨q, 0, none⟩ = some (.string ⟨(pathN e.nm).toArray⟩) ∧ w.cell? ⟨q, 1, none⟩ = some (.int .u8 (e.at_.node : Int)) ∧ w.cell? ⟨q, 9, none⟩ = some (.int .u64 (e.ino : Int)) ∧ w.cell? ⟨q, 10, none⟩ = some (.int .i64 e.tick) :=
  ⟨cell_of_heap h, cell_of_heap h, cell_of_heap h, cell_of_heap h⟩
/-- A row's cells. -/
theorem told_row {C : Nat} {w : World} {a : Option Addr} {n c : Nat} {R : List (TE × Value)} (h : OutAt C w (.slice a n c) R) {i : Nat} {p : TE × Value} (hp : R[i]? = some p) : ∃ g, a = some ⟨g, 0, none⟩ ∧ g < w.heap.size ∧ ∀ w', Below w.heap.size w w' → w'.rangeAt g (i * 11) (vcells p.1 p.2) := by
  have hi := (List.getElem?_eq_some_iff.1 hp).1
  obtain ⟨g, cap, hrv, hg, _, _, hrc⟩ := rowS_form h.row (by omega)
  injection hrv with e1 _ _
  exact ⟨g, e1, hg, fun w' hb j u hj => (hb.cell (p := ⟨g, i * 11 + j, none⟩) hg).trans (hrc _ _ (vrows_at hp hj))⟩
theorem range_row {w : World} {g o : Nat} {e : TE} {xv : Value} (h : w.rangeAt g o (vcells e xv)) : w.cell? ⟨g, o, none⟩ = some (.string ⟨(pathN e.nm).toArray⟩) ∧ w.cell? ⟨g, o + 9, none⟩ = some (.int .u64 (e.ino : Int)) ∧ w.cell? ⟨g, o + 10, none⟩ = some (.int .i64 e.tick) :=
  ⟨h 0 _ rfl, h 9 _ rfl, h 10 _ rfl⟩
theorem told_xs {C : Nat} {w : World} {v : Value} {R : List (TE × Value)} (h : OutAt C w v R) {i : Nat} {p : TE × Value} (hp : R[i]? = some p) (hl : ∀ x ∈ p.1.at_.xs, x.1.length ≤ maxLen ∧ x.2.length ≤ maxLen) : XsAt w p.2 p.1.at_.xs := (xs_of_own (h.xrow p (List.mem_of_getElem? hp)) hl).1
/-- The place of a number in a list of nodes, so far. -/
def OldK (L : List TE) (i m : Nat) (o : Int) : Prop := (o = -1 ∧ ∀ (j : Nat) x, j < m → L[j]? = some x → x.ino ≠ i) ∨ ∃ (j : Nat) (x : TE), o = (j : Int) ∧ L[j]? = some x ∧ x.ino = i
theorem OldK.skip {L : List TE} {i m : Nat} {o : Int} (h : OldK L i m o) {x : TE} (hx : L[m]? = some x) (hn : x.ino ≠ i) : OldK L i (m + 1) o := by
  rcases h with ⟨h1, h2⟩ | h
  · refine .inl ⟨h1, fun j y hj hy => ?_⟩
    by_cases hjm : j = m
    · subst hjm; rw [hx] at hy; obtain rfl := Option.some.inj hy; exact hn
    · exact h2 j y (by omega) hy
  · exact .inr h
end Go.Proofs.YtkdkifciajfpnaaDoor.Sr
/-
  SourceWhole's code in pieces.
-/
namespace Go.Proofs.YtkdkifciajfpnaaDoor.Sr
open Go.RowKit Go.Maps Go.WideMaps Go.Proofs.YtkdkifciajfpnaaDoor.Rf Go.Proofs.YtkdkifciajfpnaaDoor.Nm Go.Proofs.YtkdkifciajfpnaaDoor.St

theorem xs_below {w w' : World} {v : Value} {xs : Xs} (h : XsAt w v xs) (hb : Below w.heap.size w w') : XsAt w' v xs := h.kept hb.size (fun b hx => hb.block b (h.lt b hx))
theorem attr_lens {A : XA} (h : chkA A = true) : ∀ x ∈ A.xs, x.1.length ≤ maxLen ∧ x.2.length ≤ maxLen := by
  simp only [chkA, Bool.and_eq_true] at h
  have h2 := h.2.2.2.2.2
  generalize A.xs = xs at h2
  generalize ([] : List UInt8) = l at h2
  induction xs generalizing l with
  | nil => intro x hx; cases hx
  | cons y r ih =>
    simp only [xsFine, Bool.and_eq_true, decide_eq_true_eq] at h2
    intro x hx
    rcases List.mem_cons.1 hx with rfl | hx
    · have := (chk_le h2.1).1
      unfold maxLen; omega
    · exact ih _ h2.2.2.2 x hx
end Go.Proofs.YtkdkifciajfpnaaDoor.Sr
/-
  What an argument that is a list of steps holds.
-/
namespace Go.Proofs.YtkdkifciajfpnaaDoor.Sr
open Go.RowKit Go.Maps Go.WideMaps Go.Proofs.YtkdkifciajfpnaaDoor.Rf Go.Proofs.YtkdkifciajfpnaaDoor.Nm Go.Proofs.YtkdkifciajfpnaaDoor.St

def Stp.At (w : World) (b o : Nat) (x : Stp) : Prop := ∀ (j : Nat) v, x.cells[j]? = some v → w.cell? ⟨b, o + j, none⟩ = some v
def StpsAt (w : World) (v : Value) (l : List Stp) : Prop :=
  ∃ a cap, v = .slice a l.length cap ∧ l.length ≤ maxLen ∧ (l ≠ [] → ∃ b o, a = some ⟨b, o, none⟩ ∧ b < w.heap.size ∧ ∀ (i : Nat) x, l[i]? = some x → x.At w b (o + i * 11)) ∧ ∀ x ∈ l, x.Fits w
theorem Stp.Fits.below {w w' : World} {x : Stp} (h : x.Fits w) (hb : Below w.heap.size w w') : x.Fits w' :=
  ⟨h.path, h.more, h.target, h.xs.kept hb.size (fun b hx => hb.block b (h.xs.lt b hx)), h.xl⟩
end Go.Proofs.YtkdkifciajfpnaaDoor.Sr
/-
  How SourceWhole keeps its things.
-/
namespace Go.Proofs.YtkdkifciajfpnaaDoor.Sr
open Go.RowKit Go.Maps Go.WideMaps Go.Proofs.YtkdkifciajfpnaaDoor.Rf Go.Proofs.YtkdkifciajfpnaaDoor.Nm Go.Proofs.YtkdkifciajfpnaaDoor.St

structure WhSt (B : Nat) (w : World) (r : Nat) (T : Tr) (k : Nat) : Prop where
  tree : TreeAt B w r T
  good : Good k T
  reads : T.reads ≤ k
  clk : T.clock ≤ k
section
variable {B C : Nat} {w w' : World} {r k : Nat} {T T' : Tr} {v0 : Value} {R0 : List (TE × Value)}
theorem WhSt.below (h : WhSt B w r T k) (hb : Below w.heap.size w w') : WhSt B w' r T k := ⟨h.tree.below hb, h.good, h.reads, h.clk⟩
theorem own_base {B' : Nat} (h : TreeAt B' w r T) : ∀ x ∈ r :: ownL T.L, B' ≤ x := fun x hx => h.base x (by
  rw [List.mem_cons] at hx ⊢
  exact hx.imp id (fun h => List.mem_append_left _ h))
/-- A tree and what it told a while ago. -/
structure MvSt (B C : Nat) (w : World) (r : Nat) (T : Tr) (v0 : Value) (R0 : List (TE × Value)) : Prop where
  tree : TreeAt B w r T
  out : OutAt C w v0 R0
  sep : ∀ x ∈ r :: (ownL T.L ++ xobL T.L), x ∉ ob v0 ++ R0.flatMap (fun p => ob p.2)
theorem MvSt.below (h : MvSt B C w r T v0 R0) (hb : Below w.heap.size w w') : MvSt B C w' r T v0 R0 := ⟨h.tree.below hb, h.out.below hb, h.sep⟩
theorem MvSt.told {B' : Nat} (hT : TreeAt B' w r T) (ho : OutAt w.heap.size w' v0 R0) (hb : Below w.heap.size w w') : MvSt B' w.heap.size w' r T v0 R0 := ⟨hT.below hb, ho, told_apart hT ho⟩
theorem MvSt.call (h : MvSt B C w r T v0 R0) (hc : CallT B w r T w' T') (hB : B ≤ w.heap.size) : MvSt B C w' r T' v0 R0 ∧ Below B w w' := by
  refine ⟨⟨hc.tree, h.out.kept (fun b hb hl => hc.turn.block b hl (fun hx => h.sep b ?_ hb)), fun x hx hb => ?_⟩, hc.turn.below (own_base h.tree) hB⟩
  · rw [List.mem_cons] at hx ⊢
    exact hx.imp id (fun h => List.mem_append_left _ h)
  · have hlt := (h.out.lt x hb).2
    rcases List.mem_cons.1 hx with rfl | hx
    · exact h.sep x (List.mem_cons_self ..) hb
    · rcases hc.own x hx with h1 | h1
      · exact h.sep x (List.mem_cons_of_mem _ h1) hb
      · omega
end
end Go.Proofs.YtkdkifciajfpnaaDoor.Sr
/-
  Two trees that lie apart, and told rows that lie apart from both.
-/
namespace Go.Proofs.YtkdkifciajfpnaaDoor.Sr
open Go.RowKit Go.Maps Go.WideMaps Go.Proofs.YtkdkifciajfpnaaDoor.Rf Go.Proofs.YtkdkifciajfpnaaDoor.Nm Go.Proofs.YtkdkifciajfpnaaDoor.St

abbrev blkT (r : Nat) (T : Tr) : List Nat := r :: (ownL T.L ++ xobL T.L)
/-- What a call did to a tree, in memory. -/
structure Eff (B : Nat) (w : World) (r : Nat) (T : Tr) (w' : World) (T' : Tr) : Prop where
  tree : TreeAt B w' r T'
  turn : Turn (r :: ownL T.L) w w'
  own : ∀ b ∈ ownL T'.L ++ xobL T'.L, b ∈ ownL T.L ++ xobL T.L ∨ w.heap.size ≤ b
section
variable {B C : Nat} {w w' : World} {r r2 k : Nat} {T T' U : Tr} {v : Value} {R : List (TE × Value)}
theorem CallT.eff (h : CallT B w r T w' T') : Eff B w r T w' T' := ⟨h.tree, h.turn, h.own⟩
theorem Eff.same (h : TreeAt B w r T) (hb : Below w.heap.size w w') : Eff B w r T w' T := (CallT.same h hb).eff
theorem Eff.blk (h : Eff B w r T w' T') : ∀ b ∈ blkT r T', b ∈ blkT r T ∨ w.heap.size ≤ b := by
  intro b hb
  rcases List.mem_cons.1 hb with rfl | hb
  · exact .inl (List.mem_cons_self ..)
  · exact (h.own b hb).imp (List.mem_cons_of_mem _) id
theorem Eff.off (h : Eff B w r T w' T') {b : Nat} (hb : b < w.heap.size) (hx : b ∉ blkT r T) : w'.heap[b]? = w.heap[b]? :=
  h.turn.block b hb (fun hc => hx (by
    rcases List.mem_cons.1 hc with rfl | hc
    · exact List.mem_cons_self ..
    · exact List.mem_cons_of_mem _ (List.mem_append_left _ hc)))
theorem Eff.below (h : Eff B w r T w' T') (hT : TreeAt B w r T) (hB : B ≤ w.heap.size) : Below B w w' := h.turn.below (own_base hT) hB
structure Two (B : Nat) (w : World) (r : Nat) (T : Tr) (r2 : Nat) (U : Tr) : Prop where
  t : TreeAt B w r T
  u : TreeAt B w r2 U
  ap : ∀ x ∈ blkT r T, x ∉ blkT r2 U
theorem Two.symm (h : Two B w r T r2 U) : Two B w r2 U r T := ⟨h.u, h.t, fun x hx hy => h.ap x hy hx⟩
theorem Two.below (h : Two B w r T r2 U) (hb : Below w.heap.size w w') : Two B w' r T r2 U := ⟨h.t.below hb, h.u.below hb, h.ap⟩
theorem Two.eff (h : Two B w r T r2 U) (e : Eff B w r T w' T') : Two B w' r T' r2 U := by
  refine ⟨e.tree, h.u.kept e.turn.size (fun b hb => e.off (h.u.lt b hb) (fun hc => h.ap b hc hb)), fun x hx hy => ?_⟩
  rcases e.blk x hx with h1 | h1
  · exact h.ap x h1 hy
  · have := h.u.lt x hy; omega
/-- Rows that were told, apart from a tree. -/
def Sep (r : Nat) (T : Tr) (v : Value) (R : List (TE × Value)) : Prop := ∀ x ∈ blkT r T, x ∉ ob v ++ R.flatMap (fun p => ob p.2)
theorem Sep.told (hT : TreeAt B w r T) (ho : OutAt w.heap.size w' v R) : Sep r T v R := told_apart hT ho
theorem Sep.eff (h : Sep r T v R) (ho : OutAt C w v R) (e : Eff B w r T w' T') : OutAt C w' v R ∧ Sep r T' v R := by
  refine ⟨ho.kept (fun b hb hl => e.off hl (fun hc => h b hc hb)), fun x hx hb => ?_⟩
  have hlt := (ho.lt x hb).2
  rcases e.blk x hx with h1 | h1
  · exact h x h1 hb
  · omega
/-- A tree that a law runs, with its bounds. -/
structure Bnd (T : Tr) (k : Nat) : Prop where
  good : Good k T
  reads : T.reads ≤ k
theorem run_eff {x : Stp} {e : Ending} (h : TreeAt B w r T) (g : Bnd T k) (hp : RunP B w r T x e w') : e = .returned (.int .i64 (runE x T)) ∧ ∃ T', Eff B w r T w' T' ∧ Bnd T' (k + 1) ∧ T'.bare = runN x T.bare := by
  obtain ⟨he, T', htr, htu, how, hch, hri⟩ := hp
  have hF := hri.facts h
  have hG := ChT.good h hch g.good
  refine ⟨he, T', ⟨htr, htu, how⟩, ⟨⟨hG.deep, hG.names, hG.att, hG.data, hG.ino, hG.inos, hG.tick, hG.clock, hG.most, hG.len⟩, ?_⟩, bare_run hri h htr⟩
  rw [hF.reads]; have := g.reads; split <;> omega
/-- A tree that is bare as another is bounded as it. -/
theorem Bnd.of_bare (g : Bnd T k) (h : U.bare = T.bare) : Bnd U k := by
  have hL : U.L.map bare = T.L.map bare := (show U.bare.L = T.bare.L by rw [h])
  have hc : U.clock = T.clock := (show U.bare.clock = T.bare.clock by rw [h])
  have hm : U.most = T.most := (show U.bare.most = T.bare.most by rw [h])
  have hr : U.reads = T.reads := (show U.bare.reads = T.bare.reads by rw [h])
  have hl : U.L.length = T.L.length := by have := congrArg List.length hL; rwa [List.length_map, List.length_map] at this
  have tob : ∀ e ∈ U.L, ∃ y ∈ T.L, bare y = bare e := fun e he => List.mem_map.1 (by rw [← hL]; exact List.mem_map.2 ⟨e, he, rfl⟩)
  have key : ∀ {P : TE → Prop}, (∀ a, P a ↔ P (bare a)) → (∀ e ∈ T.L, P e) → ∀ e ∈ U.L, P e := fun hP hT e he => by
    obtain ⟨y, hy, hb⟩ := tob e he
    rw [hP, ← hb, ← hP]; exact hT y hy
  have G := g.good
  refine ⟨⟨key (fun _ => Iff.rfl) G.deep, key (fun _ => Iff.rfl) G.names, key (fun _ => Iff.rfl) G.att, key (fun _ => Iff.rfl) G.data, ?_, ?_, ?_, by rw [hc]; exact G.clock, by rw [hm]; exact G.most, by rw [hl]; exact G.len⟩, by rw [hr]; exact g.reads⟩
  · rw [hm]; exact key (fun _ => Iff.rfl) G.ino
  · have h1 : (T.L.map bare).Pairwise fun a b => a.ino ≠ b.ino := by rw [List.pairwise_map]; exact G.inos
    rw [← hL, List.pairwise_map] at h1
    exact h1
  · rw [hc]; exact key (fun _ => Iff.rfl) G.tick
end
end Go.Proofs.YtkdkifciajfpnaaDoor.Sr
