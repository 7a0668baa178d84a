import Derived.Test.YtkdkifciajfpnaaDoorZPSrFind
import Derived.Test.YtkdkifciajfpnaaDoorZPNmPaths
import Derived.Laws.Tables
import Derived.Laws.Rows
import Derived.Laws.CopyOwn
import Derived.Laws.ResultCell
import Derived.Deep.MidRow
set_option linter.unusedSimpArgs false
set_option linter.unusedVariables false
/-
  The contract of Write.
-/
namespace Go.Proofs.YtkdkifciajfpnaaDoor.Sr
open Go.RowKit Go.Maps Go.WideMaps Go.Proofs.YtkdkifciajfpnaaDoor.Rf Go.Proofs.YtkdkifciajfpnaaDoor.Nm Go.Proofs.YtkdkifciajfpnaaDoor.St

/-- What Write answers, and what it makes of the tree. -/
def writeE (p d : List UInt8) (T : Tr) : Int :=
  if splitE p ≠ 0 then 10 else if 1048576 < d.length then 1 else match getT (splitL p) T.L with
    | none => 6
    | some n => if n.at_.node ≠ 1 then 11 else if 1099511627776 ≤ T.clock then 3 else 0
def writeT (p d : List UInt8) (T : Tr) : Tr :=
  if writeE p d T = 0 then match getT (splitL p) T.L with
    | none => T
    | some n => { T with clock := T.clock + 1, L := tickT [n.p] ((T.clock + 1 : Nat) : Int) (updT { n with data := d } T.L) }
  else T
/-- A call that turns a tree. -/
def TreePost (B : Nat) (w : World) (r : Nat) (T T' : Tr) (c : Int) (e : Ending) (w' : World) : Prop :=
  e = .returned (.int .i64 c) ∧ TreeAt B w' r T' ∧ Turn (r :: ownL T.L) w w'
theorem treePost_same {B : Nat} {w w' : World} {r : Nat} {T : Tr} {c : Int} {e : Ending} (h : TreeAt B w r T) (he : e = .returned (.int .i64 c)) (hb : Below w.heap.size w w') : TreePost B w r T T c e w' :=
  ⟨he, h.below hb, Turn.of_below hb⟩
set_option linter.unusedSimpArgs false in
set_option maxHeartbeats 8000000 in
set_option maxRecDepth 100000 in
theorem write_any (B : Nat) (w : World) (r : Nat) (T : Tr) (p d : List UInt8) (hp : p.length ≤ 4611686018427387904) (hd : d.length ≤ 4611686018427387904) (h : TreeAt B w r T) :
    Calls Tryd.prog 19 #[ptr r, .string ⟨p.toArray⟩, .string ⟨d.toArray⟩] w (TreePost B w r T (writeT p d T) (writeE p d T)) := by
  have FI := Lib.hid (find_any B w r T p hp h)
  have H := Lib.hid h
  have hds : (⟨d.toArray⟩ : ByteArray).size = d.length := rfl
  have HW : Hid (writeT p d T = if writeE p d T = 0 then match getT (splitL p) T.L with
    | none => T
    | some n => { T with clock := T.clock + 1, L := tickT [n.p] ((T.clock + 1 : Nat) : Int) (updT { n with data := d } T.L) }
    else T) := Lib.hid rfl
  have HE : Hid (writeE p d T = if splitE p ≠ 0 then 10 else if 1048576 < d.length then 1 else match getT (splitL p) T.L with
    | none => 6
    | some n => if n.at_.node ≠ 1 then 11 else if 1099511627776 ≤ T.clock then 3 else 0) := Lib.hid rfl
  generalize writeT p d T = T' at *
  generalize writeE p d T = c at *
  clear h
  unfold ptr at *
  go_enter Tryd.func19, Tryd.ntmps19
  go_wp2_with fail
  refine FI.out.mono ?_
  rintro ex w1 ⟨v, rfl, hp1, hb1⟩
  have HP := Lib.hid hp1; have HB := Lib.hid hb1
  obtain ⟨va, vc, rfl⟩ := rowS_slice hp1.row
  clear FI hp1 hb1
  rw [findE, findN]
  rcases splitE_cases p with h0 | ⟨h0, _⟩
  case inr =>
    have hc : c = 10 := by rw [HE.out, if_pos (by rw [h0]; decide)]
    have HT : Hid (T' = T) := Lib.hid (by rw [HW.out, if_neg (by rw [hc]; decide)])
    subst hc
    rw [if_neg (by rw [h0]; decide), if_neg (by rw [h0]; decide)]
    unfold ptrO
    clear h0 HE HW
    go_wp2
    go_ret
    rw [HT.out]
    exact treePost_same H.out rfl HB.out
  rw [if_pos h0, if_pos h0]
  by_cases hbig : 1048576 < d.length
  · have hc : c = 1 := by rw [HE.out, if_neg (by rw [h0]; decide), if_pos hbig]
    have HT : Hid (T' = T) := Lib.hid (by rw [HW.out, if_neg (by rw [hc]; decide)])
    have hbi : (1048576 : Int) < (d.length : Int) := by omega
    subst hc
    clear h0 HE HW hbig
    cases hg : getT (splitL p) T.L with
    | none =>
      unfold ptrO
      clear hg
      go_wp2
      go_ret
      rw [HT.out]
      exact treePost_same H.out rfl HB.out
    | some n =>
      unfold ptrO
      clear hg
      go_wp2
      go_ret
      rw [HT.out]
      exact treePost_same H.out rfl HB.out
  have hbi : ¬ (1048576 : Int) < (d.length : Int) := by omega
  have HE1 : Hid (c = match getT (splitL p) T.L with
    | none => 6
    | some n => if n.at_.node ≠ 1 then 11 else if 1099511627776 ≤ T.clock then 3 else 0) := Lib.hid (by rw [HE.out, if_neg (by rw [h0]; decide), if_neg hbig])
  clear HE hbig h0
  cases hg : getT (splitL p) T.L with
  | none =>
    have hc : c = 6 := by rw [HE1.out, hg]
    have HT : Hid (T' = T) := Lib.hid (by rw [HW.out, if_neg (by rw [hc]; decide)])
    subst hc
    unfold ptrO
    clear hg HE1 HW
    go_wp2
    go_ret
    rw [HT.out]
    exact treePost_same H.out rfl HB.out
  | some n =>
    have HE2 : Hid (c = if n.at_.node ≠ 1 then 11 else if 1099511627776 ≤ T.clock then 3 else 0) := Lib.hid (by rw [HE1.out, hg])
    have HW2 : Hid (T' = if c = 0 then { T with clock := T.clock + 1, L := tickT [n.p] ((T.clock + 1 : Nat) : Int) (updT { n with data := d } T.L) } else T) := Lib.hid (by rw [HW.out, hg])
    obtain ⟨hn, _⟩ := getT_nm hg
    have HN := Lib.hid hn
    have H1 := Lib.hid (H.out.below HB.out)
    have c2 : w1.cell? ⟨n.p, 2, none⟩ = some (.int .u8 (n.at_.node : Int)) := cell_of_heap (H1.out.node n hn).cells
    clear hg HE1 HW hn
    unfold ptrO
    by_cases h1 : n.at_.node = 1
    case neg =>
      have hc : c = 11 := by rw [HE2.out, if_pos h1]
      have HT : Hid (T' = T) := Lib.hid (by rw [HW2.out, if_neg (by rw [hc]; decide)])
      subst hc
      have hb : (((n.at_.node : Nat) : Int) == 1) = false := by rw [beq_eq_false_iff_ne]; omega
      have hb2 : (((n.at_.node : Nat) : Int) != 1) = true := by rw [bne, hb]; rfl
      clear HE2 HW2 h1
      go_wp2
      go_ret
      rw [HT.out]
      exact treePost_same H.out rfl HB.out
    have HE3 : Hid (c = if 1099511627776 ≤ T.clock then 3 else 0) := Lib.hid (by rw [HE2.out, if_neg (by simpa using h1)])
    rw [h1] at c2
    have ST := still_any B w1 r T H1.out
    unfold ptr at ST
    clear HE2 h1
    by_cases hst : 1099511627776 ≤ T.clock
    · have hc : c = 3 := by rw [HE3.out, if_pos hst]
      have HT : Hid (T' = T) := Lib.hid (by rw [HW2.out, if_neg (by rw [hc]; decide)])
      subst hc
      rw [decide_eq_true hst] at ST
      have ST := Lib.hid ST
      clear HE3 HW2 hst
      go_wp2_with fail
      refine ST.out.mono ?_
      rintro ex w2 ⟨rfl, hw2⟩
      obtain rfl : w1 = w2 := hw2.symm
      go_wp2
      go_ret
      rw [HT.out]
      exact treePost_same H.out rfl HB.out
    · have hc : c = 0 := by rw [HE3.out, if_neg hst]
      have HT : Hid (T' = { T with clock := T.clock + 1, L := tickT [n.p] ((T.clock + 1 : Nat) : Int) (updT { n with data := d } T.L) }) := Lib.hid (by rw [HW2.out, if_pos hc])
      subst hc
      rw [decide_eq_false hst] at ST
      have ST := Lib.hid ST
      have HCL : Hid (T.clock < 4611686018427387904) := Lib.hid (by omega)
      have cd : w1.cell? ⟨n.p, 9, none⟩ = some (.string ⟨n.data.toArray⟩) := cell_of_heap (H1.out.node n HN.out).cells
      have fd : w1.frozen? ⟨n.p, 9, none⟩ = false := frozen_of_heap (H1.out.node n HN.out).cells
      have HNX : Hid (TreeAt B (w1.setCell ⟨n.p, 9, none⟩ (.string ⟨d.toArray⟩)) r { T with L := updT { n with data := d } T.L }) := Lib.hid (H1.out.setNode (e' := { n with data := d }) HN.out rfl rfl rfl rfl rfl rfl rfl)
      have HTX : Hid (Turn (r :: ownL T.L) w (w1.setCell ⟨n.p, 9, none⟩ (.string ⟨d.toArray⟩))) := Lib.hid ((Turn.of_below HB.out).setCell (.inl (by have := ownL_mem HN.out; simp [this])) _)
      have hown : Hid (ownL (updT { n with data := d } T.L) = ownL T.L) := Lib.hid (ownL_map (updT_facts (fun x hx hxp => H.out.p_inj hx HN.out hxp) rfl rfl rfl))
      have HPN : Hid (∃ e ∈ updT { n with data := d } T.L, e.p = n.p) := Lib.hid ⟨_, List.mem_map.2 ⟨n, HN.out, rfl⟩, by rw [if_pos rfl]⟩
      clear HE3 HW2 hst
      go_wp2_with fail
      refine ST.out.mono ?_
      rintro ex w2 ⟨rfl, hw2⟩
      obtain rfl : w1 = w2 := hw2.symm
      go_wp2_with fail
      obtain ⟨W, hW⟩ : ∃ W, W = w1.setCell ⟨n.p, 9, none⟩ (.string ⟨d.toArray⟩) := ⟨_, rfl⟩
      have hWs : W.heap.size = w1.heap.size := by rw [hW, World.size_setCell]
      rw [← hW] at HNX HTX ⊢
      rw [← hWs]
      refine (touch_any B _ r { T with L := updT { n with data := d } T.L } _ [n.p] ?_ ?_ ?_ HCL.out (HNX.out.below ((Below.refl _ _).alloc (Nat.le_refl _) _))).mono ?_
      · refine ⟨some ⟨W.heap.size, 0, none⟩, 1, rfl, by simp, fun _ => ⟨W.heap.size, 0, rfl, by rw [one_size]; omega, fun i q hq => ?_⟩⟩
        match i, hq with
        | 0, hq =>
          obtain rfl := Option.some.inj hq
          exact cell_of_heap (MapKept.heap_alloc W _).1
      · intro b o n' c' hv hb
        injection hv with e1 _ _
        injection e1 with e1
        injection e1 with e1 _ _
        subst e1
        have := HNX.out.lt W.heap.size (by
          rw [List.mem_cons] at hb ⊢
          rcases hb with hb | hb
          · exact .inl hb
          · exact .inr (List.mem_append_left _ hb))
        omega
      · intro q hq
        rw [List.mem_singleton] at hq
        subst hq
        exact HPN.out
      · rintro ex w3 ⟨rfl, ht3, hu3⟩
        have HT3 := Lib.hid ht3; have HU3 := Lib.hid hu3
        clear ht3 hu3
        go_wp2
        go_ret
        rw [HT.out]
        refine ⟨rfl, HT3.out, ?_⟩
        have h5 := HU3.out
        rw [show ownL ({ T with L := updT { n with data := d } T.L } : Tr).L = ownL T.L from hown.out] at h5
        have h6 := (HTX.out.alloc (Obj.cells #[ptr n.p] 52))
        exact h6.trans h5 (fun y hy => .inl hy)
end Go.Proofs.YtkdkifciajfpnaaDoor.Sr
/-
  Variables of several cells: written and read whole.
-/
namespace Go.Proofs.YtkdkifciajfpnaaDoor.Sh
open Go.RowKit Go.Maps Go.Proofs.YtkdkifciajfpnaaDoor.Rf

theorem store_new (w : World) (T : TypeId) (old cs : Array Value) : ((w.alloc (.cells old T)).setRow w.heap.size cs).heap[w.heap.size]? = some (.cells cs T) ∧ Below w.heap.size w ((w.alloc (.cells old T)).setRow w.heap.size cs) := by
  refine ⟨setRow_heap _ _ _ _ _ _ (MapKept.heap_alloc w _).1, ?_⟩
  refine ((Below.refl _ w).alloc (Nat.le_refl _) (.cells old T)).trans ⟨rfl, rfl, rfl, by simp [World.setRow], fun k hk => ?_⟩
  exact setRow_other _ _ _ _ (by omega)
theorem setRow_size (w : World) (g : Nat) (cs : Array Value) : (w.setRow g cs).heap.size = w.heap.size := by simp [World.setRow]
theorem one_size (w : World) (A : Obj) : (w.alloc A).heap.size = w.heap.size + 1 := by show (w.heap.push _).size = _; simp
theorem at_alloc {w : World} {x : Nat} {o : Obj} (h : w.heap[x]? = some o) (A : Obj) : (w.alloc A).heap[x]? = some o := (Below.heap_alloc _ _ _ (lt_of_heap h)).trans h
theorem below_drewN (w : World) (n : Nat) : Below w.heap.size w (w.drewN n) := (Below.refl _ _).trans ⟨rfl, rfl, rfl, Nat.le_of_eq (by rw [World.heap_drewN]), fun _ _ => by rw [World.heap_drewN]⟩
theorem Below.drewN {B : Nat} {w0 w : World} (h : Below B w0 w) (n : Nat) : Below B w0 (w.drewN n) := h.trans ⟨rfl, rfl, rfl, Nat.le_of_eq (by rw [World.heap_drewN]), fun _ _ => by rw [World.heap_drewN]⟩
theorem range_block {w : World} {g : Nat} {cs : Array Value} {T : TypeId} (h : w.heap[g]? = some (.cells cs T)) : w.rangeAt g 0 cs.toList := fun j v hv => by
  rw [Nat.zero_add, cell_of_heap h, ← Array.getElem?_toList]; exact hv

section
variable {P : Program} {ops : Array Oper} {rest : List Oper} {o : Oper} {a : Act} {w : World} {Q : Exit → Act → World → Prop}
/-- A new variable is written whole. -/
theorem wpList_store_new {old : Array Value} {T : TypeId} {p : Nat} (hp : p = w.heap.size) (hgd : o.guard = none) (ty : TypeId) (x y : Operand) (ho : o.op = .store ty x y)
    (cs : Array Value) (hx : a.eval x = .pointer (some ⟨p, 0, none⟩)) (hy : a.eval y = .agg cs) (hi : (P.info? ty).map (·.size) = some cs.size) (hold : old.size = cs.size) (h1 : cs.all (·.oneCell') = true)
    (h : ∀ w2 : World, w2.heap[p]? = some (.cells cs T) → Below p w w2 → w2.heap.size = p + 1 → wpList P ops Q rest (a.put o.dst undef) w2) :
    wpList P ops Q (o :: rest) a (w.alloc (.cells old T)) := by
  subst hp
  refine wpList_store_row hgd ty x y ho w.heap.size cs hx hy T old (MapKept.heap_alloc w _).1 hi hold h1 ?_
  obtain ⟨a1, a2⟩ := store_new w T old cs
  exact h _ a1 a2 (by rw [setRow_size, one_size])
/-- A variable is written whole. -/
theorem wpList_store_at {old : Array Value} {T : TypeId} {g : Nat} (hg : w.heap[g]? = some (.cells old T)) (hgd : o.guard = none) (ty : TypeId) (x y : Operand) (ho : o.op = .store ty x y)
    (cs : Array Value) (hx : a.eval x = .pointer (some ⟨g, 0, none⟩)) (hy : a.eval y = .agg cs) (hi : (P.info? ty).map (·.size) = some cs.size) (hold : old.size = cs.size) (h1 : cs.all (·.oneCell') = true)
    (h : ∀ w2 : World, w2.heap[g]? = some (.cells cs T) → Turn [g] w w2 → w2.heap.size = w.heap.size → wpList P ops Q rest (a.put o.dst undef) w2) :
    wpList P ops Q (o :: rest) a w := by
  refine wpList_store_row hgd ty x y ho g cs hx hy T old hg hi hold h1 ?_
  exact h _ (setRow_heap _ _ _ _ _ _ hg) ⟨rfl, rfl, rfl, by simp [World.setRow], fun k _ hk => setRow_other _ _ _ _ (by simpa using hk)⟩ (setRow_size _ _ _)
/-- A variable is read whole. -/
theorem wpList_load_at {cs : Array Value} {T : TypeId} {g : Nat} (hg : w.heap[g]? = some (.cells cs T)) (hgd : o.guard = none) (ty : TypeId) (x : Operand) (ho : o.op = .load ty x)
    (hx : a.eval x = .pointer (some ⟨g, 0, none⟩)) (d : TypeDesc) (hu : P.underlying ty = some d) (hd : (match d with | .struct _ | .array _ _ => true | _ => false) = true) (hi : (P.info? ty).map (·.size) = some cs.size)
    (h : wpList P ops Q rest (a.put o.dst (.agg cs)) w) : wpList P ops Q (o :: rest) a w :=
  wpList_load_row hgd ty x ho g hx T cs (0, 0) d hg hu hd hi h
end
end Go.Proofs.YtkdkifciajfpnaaDoor.Sh
