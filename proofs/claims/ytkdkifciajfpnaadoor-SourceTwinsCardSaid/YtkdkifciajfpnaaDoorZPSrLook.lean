import Derived.Test.YtkdkifciajfpnaaDoorZPNmCodec
import Derived.Test.YtkdkifciajfpnaaDoorZPNmSplitCore
import Derived.Test.YtkdkifciajfpnaaDoorZPStKit
set_option linter.unusedSimpArgs false
set_option linter.unusedVariables false
/-
  The contracts of look, find, above and still.
-/
namespace Go.Proofs.YtkdkifciajfpnaaDoor.Sr
open Go.RowKit Go.Maps Go.WideMaps Go.Proofs.YtkdkifciajfpnaaDoor.Rf Go.Proofs.YtkdkifciajfpnaaDoor.Nm Go.Proofs.YtkdkifciajfpnaaDoor.St

theorem wpList_kid {B : Nat} {w : World} {r : Nat} {T : Tr} (h : TreeAt B w r T) {e : TE} (he : e ∈ T.L) (s : List UInt8) (hs : s.length ≤ maxLen)
    {ops : Array Oper} {o : Oper} {rest : List Oper} {a : Act} {Q : Exit → Act → World → Prop} (hgd : o.guard = none) (x y : Operand) (ho : o.op = .lookup 55 x y false) (hx : a.eval x = mapV e.m) (hy : a.eval y = .string ⟨s.toArray⟩)
    (hk : wpList Tryd.prog ops Q rest (a.put o.dst (ptrO ((getT (e.nm ++ [s]) T.L).map TE.p))) w) : wpList Tryd.prog ops Q (o :: rest) a w := by
  exact wpList_plain hgd fun _ hK => by
    unfold Oper.wp
    simp [execOp, ho, hx, hy, kid_look h he s hs, Result.andThen]
    exact hK _ _ hk

set_option linter.unusedSimpArgs false in
set_option maxHeartbeats 4000000 in
set_option maxRecDepth 100000 in
/-- From the root on. -/
theorem look_any (B : Nat) (w : World) (r : Nat) (T : Tr) (v : Value) (l : PN) (hv : StrsAt w v l) (h : TreeAt B w r T) :
    Calls Tryd.prog 44 #[ptr r, v] w fun e w' => e = .returned (ptrO ((getT l T.L).map TE.p)) ∧ w' = w := by
  obtain ⟨va, vc, rfl, hlm, hlx, hlc⟩ := hv
  obtain ⟨e0, he0, hq0⟩ := h.root
  obtain ⟨hm0, hn0⟩ := getT_nm he0
  have c0 : w.cell? ⟨r, 0, none⟩ = some (ptr e0.p) := cell_of_heap hq0
  have H := Lib.hid h; have HLX := Lib.hid hlx; have HLC := Lib.hid hlc
  unfold maxLen at hlm
  unfold ptr at *
  clear hq0 hlx hlc
  go_enter Tryd.func44, Tryd.ntmps44
  go_wp2
  go_loopw [5, 14] (fun v5 v14 wr => ∃ (i : Nat) (e : TE), i ≤ l.length ∧ v14 = .int .i64 (i : Int) ∧ v5 = ptr e.p ∧ e ∈ T.L ∧ e.nm = l.take i ∧ wr = w) (fun _ v14 _ => l.length - (RowKit.intOf v14).toNat)
  case atStart => exact ⟨0, e0, by omega, rfl, rfl, hm0, hn0, rfl⟩
  case round =>
    obtain ⟨i, e, hi, rfl, rfl, he, hn, rfl⟩ := hrel
    clear c0 hm0 hn0 he0
    by_cases hil : (i : Int) < (l.length : Int)
    · have hi2 : i < l.length := by omega
      obtain ⟨s, hs⟩ : ∃ s, l[i]? = some s := ⟨_, List.getElem?_eq_getElem hi2⟩
      obtain ⟨b, o, rfl, hb, hc⟩ := HLC.out (fun h => by rw [h] at hi2; cases hi2)
      have cs := hc i s hs
      have ce : wr.cell? ⟨e.p, 10, none⟩ = some (mapV e.m) := cell_of_heap (H.out.node e he).cells
      have hsl := HLX.out s (List.mem_of_getElem? hs)
      have htk : l.take (i + 1) = e.nm ++ [s] := by rw [List.take_add_one, hs, hn]; rfl
      have HE := Lib.hid he
      clear hc hs
      unfold ptr
      cases hg : getT (e.nm ++ [s]) T.L with
      | none =>
        have hno : Hid (getT l T.L = none) := Lib.hid (by
          rw [getT_none]
          intro x hx hxl
          -- each node's fore-names are a node's
          have : ∀ k, k ≤ l.length → ∃ u ∈ T.L, u.nm = l.take (l.length - k) := by
            intro k
            induction k with
            | zero => intro _; exact ⟨x, hx, by rw [hxl]; simp⟩
            | succ k ih =>
              intro hk
              obtain ⟨u, hu, hun⟩ := ih (by omega)
              obtain ⟨q, hq⟩ : ∃ q, l[l.length - (k + 1)]? = some q := ⟨_, List.getElem?_eq_getElem (by omega)⟩
              have e1 : l.length - k = l.length - (k + 1) + 1 := by omega
              rw [e1, List.take_add_one, hq] at hun
              obtain ⟨u', hu', h1, _⟩ := H.out.par u hu _ _ hun
              exact ⟨u', hu', h1⟩
          obtain ⟨u, hu, hun⟩ := this (l.length - (i + 1)) (by omega)
          rw [show l.length - (l.length - (i + 1)) = i + 1 by omega, htk] at hun
          exact getT_none.1 hg u hu hun)
        have HG := Lib.hid hg
        clear hg htk he
        go_wp2_with (first
          | (refine wpList_kid H.out HE.out s hsl rfl _ _ rfl rfl rfl ?_; rw [HG.out, Option.map_none, ptrO_none]))
        go_ret
        rw [hno.out]
        exact ⟨rfl, rfl⟩
      | some x =>
        have HG := Lib.hid hg
        obtain ⟨hx, hxn⟩ := getT_nm hg
        clear hg he
        go_wp2_with (first
          | (refine wpList_kid H.out HE.out s hsl rfl _ _ rfl rfl rfl ?_; rw [HG.out, Option.map_some, ptrO_some, ptr]))
        go_roundw
        case rel => exact ⟨i + 1, x, by omega, by go_num, rfl, hx, by rw [htk, hxn], trivial⟩
        case measure => simp [RowKit.intOf]; omega
    · obtain rfl : i = l.length := by omega
      rw [List.take_length] at hn
      have hg : Hid (getT l T.L = some e) := Lib.hid (by rw [← hn]; exact getT_of H.out.srt he)
      unfold ptr
      go_wp2
      go_ret
      rw [hg.out]
      exact ⟨rfl, rfl⟩
set_option linter.unusedSimpArgs false in
set_option maxHeartbeats 4000000 in
set_option maxRecDepth 100000 in
theorem still_any (B : Nat) (w : World) (r : Nat) (T : Tr) (h : TreeAt B w r T) :
    Calls Tryd.prog 29 #[ptr r] w fun e w' => e = .returned (.bool (decide (1099511627776 ≤ T.clock))) ∧ w' = w := by
  obtain ⟨e0, he0, hq0⟩ := h.root
  have c1 : w.cell? ⟨r, 1, none⟩ = some (.int .i64 (T.clock : Int)) := cell_of_heap hq0
  have hd : decide ((1099511627776 : Int) ≤ (T.clock : Int)) = decide (1099511627776 ≤ T.clock) := by rw [decide_eq_decide]; omega
  unfold ptr at *
  clear he0 hq0 h
  go_enter Tryd.func29, Tryd.ntmps29
  go_wp2
  go_ret
  first | exact ⟨rfl, rfl⟩ | (rw [hd]; exact ⟨rfl, rfl⟩)
end Go.Proofs.YtkdkifciajfpnaaDoor.Sr
/-
  What Decode makes of bytes, in plain words; and that it finds an index in its own bytes again.
-/
namespace Go.Proofs.YtkdkifciajfpnaaDoor.St
open Go.RowKit Go.Proofs.YtkdkifciajfpnaaDoor.Rf Go.Proofs.YtkdkifciajfpnaaDoor.Rd Go.Proofs.YtkdkifciajfpnaaDoor.Nm

def r1 (R : List UInt8) : List UInt8 := txR 65536 R
def r2 (R : List UInt8) : List UInt8 := tkR 1 (r1 R)
def r3 (R : List UInt8) : List UInt8 := shR (r2 R)
def r4 (R : List UInt8) : List UInt8 := shR (r3 R)
def r5 (R : List UInt8) : List UInt8 := shR (r4 R)
/-! ### rests grow no longer -/
/-! ### an entry's own bytes -/
/-! ### an index's own bytes -/
end Go.Proofs.YtkdkifciajfpnaaDoor.St
