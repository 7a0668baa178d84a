import Derived.Test.YthcjjekkjbidlaaDoorZPShRounds
import Derived.Test.YthcjjekkjbidlaaDoorZPSrWrite
import Derived.Test.YthcjjekkjbidlaaDoorZPStRefAt
set_option linter.unusedSimpArgs false
set_option linter.unusedVariables false
/-
  The contract of the reference's sum with the constants at hand.
-/
namespace Go.Proofs.YthcjjekkjbidlaaDoor.Sh
open Go.RowKit Go.Maps Go.Proofs.YthcjjekkjbidlaaDoor.Rf Go.Proofs.YthcjjekkjbidlaaDoor.Rd Go.Proofs.YthcjjekkjbidlaaDoor.St

abbrev IdT : TypeId := 63
def zeroId : Array Value := #[.int .u8 0, .int .u8 0, .int .u8 0, .int .u8 0, .int .u8 0, .int .u8 0, .int .u8 0, .int .u8 0, .int .u8 0, .int .u8 0, .int .u8 0, .int .u8 0, .int .u8 0, .int .u8 0, .int .u8 0, .int .u8 0, .int .u8 0, .int .u8 0, .int .u8 0, .int .u8 0, .int .u8 0, .int .u8 0, .int .u8 0, .int .u8 0, .int .u8 0, .int .u8 0, .int .u8 0, .int .u8 0, .int .u8 0, .int .u8 0, .int .u8 0, .int .u8 0]
/-- The blocks that stand while the sum is reckoned. -/
structure SSt (w : World) (a b c : Nat) (A : Array Value) (v : Value) (m : List UInt8) (wr : World) : Prop where
  ha : wr.heap[a]? = some (.cells A T8)
  hb : wr.heap[b]? = some (.cells (wc K64) T64)
  hc : wr.heap[c]? = some (.cells zeroId IdT)
  hm : RowM wr (c + 1) v m
  be : Below w.heap.size w wr
theorem SSt.lt {w : World} {a b c : Nat} {A : Array Value} {v : Value} {m : List UInt8} {wr : World} (H : SSt w a b c A v m wr) : c < wr.heap.size := lt_of_heap H.hc
theorem SSt.below {w : World} {a b c : Nat} {A : Array Value} {v : Value} {m : List UInt8} {wr w' : World} (H : SSt w a b c A v m wr) (hb : Below wr.heap.size wr w') : SSt w a b c A v m w' :=
  ⟨(hb.block _ (lt_of_heap H.ha)).trans H.ha, (hb.block _ (lt_of_heap H.hb)).trans H.hb, (hb.block _ (lt_of_heap H.hc)).trans H.hc, H.hm.below hb, H.be.trans (hb.mono H.be.size)⟩
theorem SSt.grown {w : World} {a b c : Nat} {A : Array Value} {v v' : Value} {m m' : List UInt8} {wr w' : World} (H : SSt w a b c A v m wr) (hac : a < c) (hbc : b < c) (hc : w.heap.size ≤ c) (hm : RowM w' (c + 1) v' m') (hg : wr.grownBy w' v.ownBlock) : SSt w a b c A v' m' w' := by
  have hob := H.hm.lt
  have hk : ∀ k, k ≤ c → w'.heap[k]? = wr.heap[k]? := fun k hk => hg.block k (Nat.lt_of_le_of_lt hk H.lt) (fun e => by
    have := hob k (by rw [ob, ← e]; simp); omega)
  refine ⟨(hk a (by omega)).trans H.ha, (hk b (by omega)).trans H.hb, (hk c (Nat.le_refl _)).trans H.hc, hm, ?_⟩
  refine H.be.trans ⟨hg.os, hg.tape, hg.output, hg.size, fun k hk' => hk k (by omega)⟩

theorem SSt.drewN {w : World} {a b c : Nat} {A : Array Value} {v : Value} {m : List UInt8} {wr : World} (H : SSt w a b c A v m wr) (n : Nat) : SSt w a b c A v m (wr.drewN n) := H.below (below_drewN wr n)
/-- Another block is written. -/
theorem SSt.other {w : World} {a b c d : Nat} {A : Array Value} {v : Value} {m : List UInt8} {wr : World} (H : SSt w a b c A v m wr) (hd : c < d) (hac : a < c) (hbc : b < c) (hwc : w.heap.size ≤ c) (hv : ∀ x ∈ ob v, x ≠ d) (j : Nat) (x : Value) : SSt w a b c A v m (wr.setCell ⟨d, j, none⟩ x) :=
  ⟨(Below.heap_setCell _ _ _ _ (show a ≠ d by omega)).trans H.ha, (Below.heap_setCell _ _ _ _ (show b ≠ d by omega)).trans H.hb, (Below.heap_setCell _ _ _ _ (show c ≠ d by omega)).trans H.hc, H.hm.kept (fun y hy _ => Below.heap_setCell _ _ _ _ (hv y hy)), H.be.setCell (by show w.heap.size ≤ d; omega) _⟩
/-- .. the words of a block under way. -/
structure WSt (w : World) (a b c d : Nat) (A : Array Value) (v : Value) (m : List UInt8) (W : List Int) (wr : World) : Prop where
  st : SSt w a b c A v m wr
  hw : wr.heap[d]? = some (.cells (wc W) T64)
theorem WSt.drew {w : World} {a b c d : Nat} {A : Array Value} {v : Value} {m : List UInt8} {W : List Int} {wr : World} (H : WSt w a b c d A v m W wr) : WSt w a b c d A v m W wr.drew := ⟨H.st.below ((Below.refl _ _).drew), H.hw⟩
theorem WSt.drewN {w : World} {a b c d : Nat} {A : Array Value} {v : Value} {m : List UInt8} {W : List Int} {wr : World} (H : WSt w a b c d A v m W wr) (n : Nat) : WSt w a b c d A v m W (wr.drewN n) := ⟨H.st.drewN n, by rw [World.heap_drewN]; exact H.hw⟩
theorem WSt.set {w : World} {a b c d : Nat} {A : Array Value} {v : Value} {m : List UInt8} {W : List Int} {wr : World} (H : WSt w a b c d A v m W wr) (hd : c < d) (hac : a < c) (hbc : b < c) (hwc : w.heap.size ≤ c) (hv : ∀ x ∈ ob v, x ≠ d) (j : Nat) (x : Int) :
    WSt w a b c d A v m (W.set j x) (wr.setCell ⟨d, j, none⟩ (wdV x)) :=
  ⟨H.st.other hd hac hbc hwc hv j _, by rw [setCell_heap _ _ _ _ _ _ H.hw, wc_set]⟩

/-- .. and the eight words under way. -/
structure XSt (w : World) (a b c d e : Nat) (A : Array Value) (v : Value) (m : List UInt8) (W : List Int) (u : V8) (wr : World) : Prop where
  ws : WSt w a b c d A v m W wr
  hv : wr.heap[e]? = some (.cells u.cells T8)
theorem XSt.drewN {w : World} {a b c d e : Nat} {A : Array Value} {v : Value} {m : List UInt8} {W : List Int} {u : V8} {wr : World} (H : XSt w a b c d e A v m W u wr) (n : Nat) : XSt w a b c d e A v m W u (wr.drewN n) := ⟨H.ws.drewN n, by rw [World.heap_drewN]; exact H.hv⟩
end Go.Proofs.YthcjjekkjbidlaaDoor.Sh
