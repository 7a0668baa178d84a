import Derived.Test.YthcjjekkjbidlaaDoorZPStReg
import Derived.Test.YthcjjekkjbidlaaDoorZPStPut
import Derived.Test.YthcjjekkjbidlaaDoorZPStSet
import Derived.Test.YthcjjekkjbidlaaDoorZPNmLike
import Derived.Test.YthcjjekkjbidlaaDoorZPNmSplitCore
set_option linter.unusedSimpArgs false
set_option linter.unusedVariables false
/-
  A row of texts that is only read.
-/
namespace Go.Proofs.YthcjjekkjbidlaaDoor.St
open Go.RowKit Go.Maps Go.WideMaps Go.Proofs.YthcjjekkjbidlaaDoor.Rf Go.Proofs.YthcjjekkjbidlaaDoor.Rd

/-- A slice that reads as texts. -/
def StrsAt (w : World) (v : Value) (ps : List (List UInt8)) : Prop :=
  ∃ a cap, v = .slice a ps.length cap ∧ ps.length ≤ maxLen ∧ (∀ p ∈ ps, p.length ≤ maxLen) ∧
    (ps ≠ [] → ∃ b o, a = some ⟨b, o, none⟩ ∧ b < w.heap.size ∧ ∀ (i : Nat) p, ps[i]? = some p → w.cell? ⟨b, o + i, none⟩ = some (.string ⟨p.toArray⟩))
theorem StrsAt.turn {X : List Nat} {w w' : World} {v : Value} {ps : List (List UInt8)} (h : StrsAt w v ps) (ht : Turn X w w') (hX : ∀ b ∈ X, ∀ o n cap, v ≠ .slice (some ⟨b, o, none⟩) n cap) : StrsAt w' v ps := by
  obtain ⟨a, cap, rfl, h1, h2, h3⟩ := h
  refine ⟨a, cap, rfl, h1, h2, fun hne => ?_⟩
  obtain ⟨b, o, rfl, hb, hc⟩ := h3 hne
  refine ⟨b, o, rfl, Nat.lt_of_lt_of_le hb ht.size, fun i p hp => ?_⟩
  rw [World.cell?_of_block (a := ⟨b, o + i, none⟩) (ht.block b hb (fun hm => hX b hm o _ cap rfl))]
  exact hc i p hp
theorem StrsAt.below {w w' : World} {v : Value} {ps : List (List UInt8)} (h : StrsAt w v ps) (hb : Below w.heap.size w w') : StrsAt w' v ps :=
  h.turn (X := []) (Turn.of_below hb) (fun b hb => by cases hb)
end Go.Proofs.YthcjjekkjbidlaaDoor.St
/-
  How a tree lies in memory; the contract of look.
-/
namespace Go.Proofs.YthcjjekkjbidlaaDoor.Sr
open Go.RowKit Go.Maps Go.WideMaps Go.Proofs.YthcjjekkjbidlaaDoor.Rf Go.Proofs.YthcjjekkjbidlaaDoor.Nm Go.Proofs.YthcjjekkjbidlaaDoor.St

abbrev NdT : TypeId := 96
abbrev TrT : TypeId := 98
def mapV (m : Option Nat) : Value := .map m
def ptrO (p : Option Nat) : Value := .pointer (p.map fun n => ⟨n, 0, none⟩)
theorem ptrO_some (n : Nat) : ptrO (some n) = ptr n := rfl
theorem ptrO_none : ptrO none = .pointer none := rfl
/-- Attributes' seven cells. -/
def XA.cells (a : XA) (xv : Value) : List Value := [.int .u8 (a.node : Int), .int .u32 (a.mode : Int), .int .u32 (a.uid : Int), .int .u32 (a.gid : Int), .int .i64 a.mtime, .string ⟨a.target.toArray⟩, xv]
/-- A node's eleven. -/
def TE.cells (e : TE) : List Value := .int .u64 (e.ino : Int) :: .int .i64 e.tick :: (e.at_.cells e.xv ++ [.string ⟨e.data.toArray⟩, mapV e.m])
def xcells (xs : List (List UInt8 × List UInt8)) : List Value := xs.flatMap fun x => [.string ⟨x.1.toArray⟩, .string ⟨x.2.toArray⟩]
/-- A row of extended attributes that is only read. -/
def XsAt (w : World) (v : Value) (xs : List (List UInt8 × List UInt8)) : Prop :=
  ∃ a cap, v = .slice a xs.length cap ∧ xs.length ≤ maxLen ∧ (∀ x ∈ xs, x.1.length ≤ maxLen ∧ x.2.length ≤ maxLen) ∧
    (xs ≠ [] → ∃ b o, a = some ⟨b, o, none⟩ ∧ b < w.heap.size ∧ ∀ (i : Nat) x, xs[i]? = some x → w.cell? ⟨b, o + i * 2, none⟩ = some (.string ⟨x.1.toArray⟩) ∧ w.cell? ⟨b, o + i * 2 + 1, none⟩ = some (.string ⟨x.2.toArray⟩))
/-- The block that such a row reads. -/
def xob (xs : List (List UInt8 × List UInt8)) (v : Value) : List Nat :=
  match xs, v with
  | _ :: _, .slice (some a) _ _ => [a.block]
  | _, _ => []
theorem XsAt.kept {w w' : World} {v : Value} {xs : List (List UInt8 × List UInt8)} (h : XsAt w v xs) (hs : w.heap.size ≤ w'.heap.size) (hb : ∀ b ∈ xob xs v, w'.heap[b]? = w.heap[b]?) : XsAt w' v xs := by
  obtain ⟨a, cap, rfl, h1, h2, h3⟩ := h
  refine ⟨a, cap, rfl, h1, h2, fun hne => ?_⟩
  obtain ⟨b, o, rfl, hlt, hc⟩ := h3 hne
  have hbb : w'.heap[b]? = w.heap[b]? := hb b (by
    cases xs with
    | nil => exact absurd rfl hne
    | cons x r => simp [xob])
  refine ⟨b, o, rfl, Nat.lt_of_lt_of_le hlt hs, fun i x hx => ?_⟩
  rw [World.cell?_of_block (a := ⟨b, o + i * 2, none⟩) hbb, World.cell?_of_block (a := ⟨b, o + i * 2 + 1, none⟩) hbb]
  exact hc i x hx
theorem XsAt.lt {w : World} {v : Value} {xs : List (List UInt8 × List UInt8)} (h : XsAt w v xs) : ∀ b ∈ xob xs v, b < w.heap.size := by
  obtain ⟨a, cap, rfl, h1, h2, h3⟩ := h
  intro b hb
  cases xs with
  | nil => simp [xob] at hb
  | cons x r =>
    obtain ⟨b', o, rfl, hlt, _⟩ := h3 (by simp)
    simp [xob] at hb
    subst hb; exact hlt

/-- A tree: its nodes, its clock, its greatest number, how many files were read. -/
structure Tr where
  L : List TE
  clock : Nat
  most : Nat
  reads : Nat
def ownE (e : TE) : List Nat := e.p :: e.m.toList
def ownL (L : List TE) : List Nat := L.flatMap ownE
def xobL (L : List TE) : List Nat := L.flatMap fun e => xob e.at_.xs e.xv
/-- What lies of one node. -/
structure NodeAt (w : World) (L : List TE) (e : TE) : Prop where
  cells : w.heap[e.p]? = some (.cells e.cells.toArray NdT)
  kids : ∀ b, e.m = some b → w.ownsMap Tryd.prog 9 Rv b 1000000 (toD ptr (kidsT L e.nm))
  xs : XsAt w e.xv e.at_.xs
structure TreeAt (B : Nat) (w : World) (r : Nat) (T : Tr) : Prop where
  root : ∃ e, getT [] T.L = some e ∧ w.heap[r]? = some (.cells #[ptr e.p, .int .i64 (T.clock : Int), .int .u64 (T.most : Int), .int .i64 (T.reads : Int)] TrT)
  node : ∀ e ∈ T.L, NodeAt w T.L e
  nod : (r :: ownL T.L).Nodup
  xoff : ∀ b ∈ xobL T.L, b ∉ r :: ownL T.L
  base : ∀ b ∈ r :: (ownL T.L ++ xobL T.L), B ≤ b
  srt : SrtT T.L
  par : ∀ e ∈ T.L, ∀ n s, e.nm = n ++ [s] → ∃ u ∈ T.L, u.nm = n ∧ u.m ≠ none
  kind : ∀ e ∈ T.L, (e.at_.node = 2 ↔ e.m ≠ none)
theorem ownL_mem {L : List TE} {e : TE} (he : e ∈ L) : e.p ∈ ownL L := List.mem_flatMap.2 ⟨e, he, by simp [ownE]⟩
theorem ownL_mem2 {L : List TE} {e : TE} {b : Nat} (he : e ∈ L) (hb : e.m = some b) : b ∈ ownL L := List.mem_flatMap.2 ⟨e, he, by simp [ownE, hb]⟩
theorem NodeAt.kept {w w' : World} {L : List TE} {e : TE} (h : NodeAt w L e) (hs : w.heap.size ≤ w'.heap.size) (hb : ∀ b ∈ ownE e ++ xob e.at_.xs e.xv, w'.heap[b]? = w.heap[b]?) : NodeAt w' L e :=
  ⟨(hb _ (by simp [ownE])).trans h.cells, fun b hm => ownsMap_block (h.kids b hm) (hb b (by simp [ownE, hm])), h.xs.kept hs (fun b hx => hb b (by simp [hx]))⟩
theorem NodeAt.lt {w : World} {L : List TE} {e : TE} (h : NodeAt w L e) : ∀ b ∈ ownE e ++ xob e.at_.xs e.xv, b < w.heap.size := by
  intro b hb
  rcases List.mem_append.1 hb with hb | hb
  · rw [ownE, List.mem_cons] at hb
    rcases hb with rfl | hb
    · exact lt_of_heap h.cells
    · exact (h.kids b (by simpa using hb)).lt
  · exact h.xs.lt b hb
theorem TreeAt.kept {B : Nat} {w w' : World} {r : Nat} {T : Tr} (h : TreeAt B w r T) (hs : w.heap.size ≤ w'.heap.size) (hb : ∀ b ∈ r :: (ownL T.L ++ xobL T.L), w'.heap[b]? = w.heap[b]?) : TreeAt B w' r T := by
  refine ⟨?_, fun e he => (h.node e he).kept hs (fun b hx => hb b ?_), h.nod, h.xoff, h.base, h.srt, h.par, h.kind⟩
  · obtain ⟨e, h1, h2⟩ := h.root
    exact ⟨e, h1, (hb r (by simp)).trans h2⟩
  · rw [List.mem_cons, List.mem_append]
    rcases List.mem_append.1 hx with hx | hx
    · exact .inr (.inl (List.mem_flatMap.2 ⟨e, he, hx⟩))
    · exact .inr (.inr (List.mem_flatMap.2 ⟨e, he, hx⟩))
theorem TreeAt.lt {B : Nat} {w : World} {r : Nat} {T : Tr} (h : TreeAt B w r T) : ∀ b ∈ r :: (ownL T.L ++ xobL T.L), b < w.heap.size := by
  intro b hb
  rw [List.mem_cons, List.mem_append] at hb
  rcases hb with rfl | hb | hb
  · obtain ⟨e, _, h2⟩ := h.root; exact lt_of_heap h2
  · obtain ⟨e, he, hx⟩ := List.mem_flatMap.1 hb
    exact (h.node e he).lt b (by simp [hx])
  · obtain ⟨e, he, hx⟩ := List.mem_flatMap.1 hb
    exact (h.node e he).lt b (by simp [hx])
theorem TreeAt.below {B : Nat} {w w' : World} {r : Nat} {T : Tr} (h : TreeAt B w r T) (hb : Below w.heap.size w w') : TreeAt B w' r T :=
  h.kept hb.size (fun b hx => hb.block b (h.lt b hx))
theorem TreeAt.mono {B B' : Nat} {w : World} {r : Nat} {T : Tr} (h : TreeAt B w r T) (hB : B' ≤ B) : TreeAt B' w r T :=
  ⟨h.root, h.node, h.nod, h.xoff, fun b hb => Nat.le_trans hB (h.base b hb), h.srt, h.par, h.kind⟩
theorem zeroPN (w : World) : (zeroValue 89).run Tryd.prog w = .ok (.pointer none) w := by kernel_rfl

set_option maxRecDepth 100000 in
theorem kid_look {B : Nat} {w : World} {r : Nat} {T : Tr} (h : TreeAt B w r T) {e : TE} (he : e ∈ T.L) (s : List UInt8) (hs : s.length ≤ maxLen) :
    (Instr.lookup 94 (mapV e.m) (.string ⟨s.toArray⟩) false).run Tryd.prog w = .ok (ptrO ((getT (e.nm ++ [s]) T.L).map TE.p)) w := by
  cases hm : e.m with
  | some b =>
    have := look_run1 Tryd.underlying94 zeroPN ((h.node e he).kids b hm) ⟨s.toArray⟩ hs
    rw [show (⟨s.toArray⟩ : ByteArray).data.toList = s from by simp, kidsT_get h.srt] at this
    rw [mapV, this]
    cases (getT (e.nm ++ [s]) T.L).map TE.p <;> rfl
  | none =>
    have hn : getT (e.nm ++ [s]) T.L = none := by
      rw [getT_none]
      intro x hx hxn
      obtain ⟨u, hu, h1, h2⟩ := h.par x hx _ _ hxn
      rw [srtT_inj h.srt hu he h1] at h2
      exact h2 hm
    rw [hn]
    have hu : Tryd.prog.underlying 94 = _ := Tryd.underlying94
    rw [mapV]
    go_simp
    rfl
end Go.Proofs.YthcjjekkjbidlaaDoor.Sr
/-
  The contracts of look, find, above and still.
-/
namespace Go.Proofs.YthcjjekkjbidlaaDoor.Sr
open Go.RowKit Go.Maps Go.WideMaps Go.Proofs.YthcjjekkjbidlaaDoor.Rf Go.Proofs.YthcjjekkjbidlaaDoor.Nm Go.Proofs.YthcjjekkjbidlaaDoor.St

theorem wpList_kid {B : Nat} {w : World} {r : Nat} {T : Tr} (h : TreeAt B w r T) {e : TE} (he : e ∈ T.L) (s : List UInt8) (hs : s.length ≤ maxLen)
    {ops : Array Oper} {o : Oper} {rest : List Oper} {a : Act} {Q : Exit → Act → World → Prop} (hgd : o.guard = none) (x y : Operand) (ho : o.op = .lookup 94 x y false) (hx : a.eval x = mapV e.m) (hy : a.eval y = .string ⟨s.toArray⟩)
    (hk : wpList Tryd.prog ops Q rest (a.put o.dst (ptrO ((getT (e.nm ++ [s]) T.L).map TE.p))) w) : wpList Tryd.prog ops Q (o :: rest) a w := by
  exact wpList_plain hgd fun _ hK => by
    unfold Oper.wp
    simp [execOp, ho, hx, hy, kid_look h he s hs, Result.andThen]
    exact hK _ _ hk

set_option linter.unusedSimpArgs false in
set_option maxHeartbeats 4000000 in
set_option maxRecDepth 100000 in
/-- From the root on. -/
theorem look_any (B : Nat) (w : World) (r : Nat) (T : Tr) (v : Value) (l : PN) (hv : StrsAt w v l) (h : TreeAt B w r T) :
    Calls Tryd.prog 62 #[ptr r, v] w fun e w' => e = .returned (ptrO ((getT l T.L).map TE.p)) ∧ w' = w := by
  obtain ⟨va, vc, rfl, hlm, hlx, hlc⟩ := hv
  obtain ⟨e0, he0, hq0⟩ := h.root
  obtain ⟨hm0, hn0⟩ := getT_nm he0
  have c0 : w.cell? ⟨r, 0, none⟩ = some (ptr e0.p) := cell_of_heap hq0
  have H := Lib.hid h; have HLX := Lib.hid hlx; have HLC := Lib.hid hlc
  unfold maxLen at hlm
  unfold ptr at *
  clear hq0 hlx hlc
  go_enter Tryd.func62, Tryd.ntmps62
  go_wp2
  go_loopw [5, 14] (fun v5 v14 wr => ∃ (i : Nat) (e : TE), i ≤ l.length ∧ v14 = .int .i64 (i : Int) ∧ v5 = ptr e.p ∧ e ∈ T.L ∧ e.nm = l.take i ∧ wr = w) (fun _ v14 _ => l.length - (RowKit.intOf v14).toNat)
  case atStart => exact ⟨0, e0, by omega, rfl, rfl, hm0, hn0, rfl⟩
  case round =>
    obtain ⟨i, e, hi, rfl, rfl, he, hn, rfl⟩ := hrel
    clear c0 hm0 hn0 he0
    by_cases hil : (i : Int) < (l.length : Int)
    · have hi2 : i < l.length := by omega
      obtain ⟨s, hs⟩ : ∃ s, l[i]? = some s := ⟨_, List.getElem?_eq_getElem hi2⟩
      obtain ⟨b, o, rfl, hb, hc⟩ := HLC.out (fun h => by rw [h] at hi2; cases hi2)
      have cs := hc i s hs
      have ce : wr.cell? ⟨e.p, 10, none⟩ = some (mapV e.m) := cell_of_heap (H.out.node e he).cells
      have hsl := HLX.out s (List.mem_of_getElem? hs)
      have htk : l.take (i + 1) = e.nm ++ [s] := by rw [List.take_add_one, hs, hn]; rfl
      have HE := Lib.hid he
      clear hc hs
      unfold ptr
      cases hg : getT (e.nm ++ [s]) T.L with
      | none =>
        have hno : Hid (getT l T.L = none) := Lib.hid (by
          rw [getT_none]
          intro x hx hxl
          -- each node's fore-names are a node's
          have : ∀ k, k ≤ l.length → ∃ u ∈ T.L, u.nm = l.take (l.length - k) := by
            intro k
            induction k with
            | zero => intro _; exact ⟨x, hx, by rw [hxl]; simp⟩
            | succ k ih =>
              intro hk
              obtain ⟨u, hu, hun⟩ := ih (by omega)
              obtain ⟨q, hq⟩ : ∃ q, l[l.length - (k + 1)]? = some q := ⟨_, List.getElem?_eq_getElem (by omega)⟩
              have e1 : l.length - k = l.length - (k + 1) + 1 := by omega
              rw [e1, List.take_add_one, hq] at hun
              obtain ⟨u', hu', h1, _⟩ := H.out.par u hu _ _ hun
              exact ⟨u', hu', h1⟩
          obtain ⟨u, hu, hun⟩ := this (l.length - (i + 1)) (by omega)
          rw [show l.length - (l.length - (i + 1)) = i + 1 by omega, htk] at hun
          exact getT_none.1 hg u hu hun)
        have HG := Lib.hid hg
        clear hg htk he
        go_wp2_with (first
          | (refine wpList_kid H.out HE.out s hsl rfl _ _ rfl rfl rfl ?_; rw [HG.out, Option.map_none, ptrO_none]))
        go_ret
        rw [hno.out]
        exact ⟨rfl, rfl⟩
      | some x =>
        have HG := Lib.hid hg
        obtain ⟨hx, hxn⟩ := getT_nm hg
        clear hg he
        go_wp2_with (first
          | (refine wpList_kid H.out HE.out s hsl rfl _ _ rfl rfl rfl ?_; rw [HG.out, Option.map_some, ptrO_some, ptr]))
        go_roundw
        case rel => exact ⟨i + 1, x, by omega, by go_num, rfl, hx, by rw [htk, hxn], trivial⟩
        case measure => simp [RowKit.intOf]; omega
    · obtain rfl : i = l.length := by omega
      rw [List.take_length] at hn
      have hg : Hid (getT l T.L = some e) := Lib.hid (by rw [← hn]; exact getT_of H.out.srt he)
      unfold ptr
      go_wp2
      go_ret
      rw [hg.out]
      exact ⟨rfl, rfl⟩
set_option linter.unusedSimpArgs false in
set_option maxHeartbeats 4000000 in
set_option maxRecDepth 100000 in
theorem still_any (B : Nat) (w : World) (r : Nat) (T : Tr) (h : TreeAt B w r T) :
    Calls Tryd.prog 40 #[ptr r] w fun e w' => e = .returned (.bool (decide (1099511627776 ≤ T.clock))) ∧ w' = w := by
  obtain ⟨e0, he0, hq0⟩ := h.root
  have c1 : w.cell? ⟨r, 1, none⟩ = some (.int .i64 (T.clock : Int)) := cell_of_heap hq0
  have hd : decide ((1099511627776 : Int) ≤ (T.clock : Int)) = decide (1099511627776 ≤ T.clock) := by rw [decide_eq_decide]; omega
  unfold ptr at *
  clear he0 hq0 h
  go_enter Tryd.func40, Tryd.ntmps40
  go_wp2
  go_ret
  first | exact ⟨rfl, rfl⟩ | (rw [hd]; exact ⟨rfl, rfl⟩)
end Go.Proofs.YthcjjekkjbidlaaDoor.Sr
