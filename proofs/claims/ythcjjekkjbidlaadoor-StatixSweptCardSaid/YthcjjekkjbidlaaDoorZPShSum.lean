import Derived.Test.YthcjjekkjbidlaaDoorZPShRef
import Derived.Test.YthcjjekkjbidlaaDoorZPShFixed
import Derived.Test.YthcjjekkjbidlaaDoorZPShRow
import Derived.Test.YthcjjekkjbidlaaDoorZPStStep
import Derived.Deep.RegionHeld3
import Derived.Great.BuildSlice
import Derived.Deep.LoopGhost
import Derived.Deep.OwnRows
import Derived.Test.YthcjjekkjbidlaaDoorZPStRead
import Derived.Test.YthcjjekkjbidlaaDoorZPSrLook
import Derived.Test.YthcjjekkjbidlaaDoorZPStRefAt
import Derived.Test.YthcjjekkjbidlaaDoorZPStMay
import Derived.Test.YthcjjekkjbidlaaDoorZPStHeld
import Derived.Deep.QuietTactic
import Derived.BigQuiet
set_option linter.unusedSimpArgs false
set_option linter.unusedVariables false
/-
  The contracts of the sum's parts: the constants, a new sum, bytes that are written, the sum.
-/
namespace Go.Proofs.YthcjjekkjbidlaaDoor.Sh
open Go.RowKit Go.Maps Go.Proofs.YthcjjekkjbidlaaDoor.Rf Go.Proofs.YthcjjekkjbidlaaDoor.Rd Go.Proofs.YthcjjekkjbidlaaDoor.St

theorem K64_length : K64.length = 64 := by simp [K64]
theorem one64 (L : List Int) : (wc L).all (·.oneCell') = true := by
  refine Array.all_eq_true_iff_forall_mem.2 (fun v hv => ?_)
  simp [wc] at hv
  obtain ⟨x, _, rfl⟩ := hv
  rfl
theorem wpList_build_is {P : Program} {ops : Array Oper} {rest : List Oper} {o : Oper} {a : Act} {w : World} {Q : Exit → Act → World → Prop} (hg : o.guard = none) (t : TypeId) (parts : Array (Nat × Operand)) (ho : o.op = .build t parts) (cs : Array Value)
    (hb : P.built t (parts.map fun (i, x) => (i, a.eval x)).toList = some cs) (h : wpList P ops Q rest (a.put o.dst (.agg cs)) w) : wpList P ops Q (o :: rest) a w :=
  wpList_build hg t parts ho (by rw [hb]; rfl) (by rw [hb]; exact h)
set_option maxHeartbeats 2000000 in
set_option maxRecDepth 100000 in
theorem ref_constants (w : World) :
    Calls Tryd.prog 67 #[] w fun e w' => e = .returned (.agg (wc K64)) ∧ Below w.heap.size w w' := by
  have I64 := Lib.hid (info64 K64_length)
  have S64 : Hid (64 = (wc K64).size) := Lib.hid (by rw [wc_size, K64_length])
  go_enter Tryd.func67, Tryd.ntmps67
  go_wp2_with (first
    | (refine wpList_build_is rfl T64 _ rfl (wc K64) (by kernel_rfl) ?_)
    | (refine wpList_store_new rfl rfl T64 (.tmp 0) (.tmp 1) rfl (wc K64) rfl rfl I64.out S64.out (one64 K64) ?_
       intro w3 hq3 hb3 hs3
       have HQ3 := Lib.hid hq3; have HB3 := Lib.hid hb3
       clear hq3 hb3 hs3))
  refine bodyPost_ret (v := .agg (wc K64)) (results_cell_row rfl _ _ w.heap.size T64 _ (0, 0) _ rfl HQ3.out Tryd.underlying127 rfl I64.out) rfl ⟨rfl, HB3.out⟩

/-- A sum under way. -/
def stC (h : V8) (t : List UInt8) (n : Nat) : Array Value := #[wdV h.a, wdV h.b, wdV h.c, wdV h.d, wdV h.e, wdV h.f, wdV h.g, wdV h.h, .string ⟨t.toArray⟩, .int .u64 (n : Int)]
theorem oneSt (h : V8) (t : List UInt8) (n : Nat) : (stC h t n).all (·.oneCell') = true := by simp [stC, Value.oneCell']
abbrev IdT' : TypeId := 63
def zeroI : Array Value := #[.int .u8 0, .int .u8 0, .int .u8 0, .int .u8 0, .int .u8 0, .int .u8 0, .int .u8 0, .int .u8 0, .int .u8 0, .int .u8 0, .int .u8 0, .int .u8 0, .int .u8 0, .int .u8 0, .int .u8 0, .int .u8 0, .int .u8 0, .int .u8 0, .int .u8 0, .int .u8 0, .int .u8 0, .int .u8 0, .int .u8 0, .int .u8 0, .int .u8 0, .int .u8 0, .int .u8 0, .int .u8 0, .int .u8 0, .int .u8 0, .int .u8 0, .int .u8 0]
end Go.Proofs.YthcjjekkjbidlaaDoor.Sh
/-
  The contract of the reference's Decode, at any bytes. 
-/
namespace Go.Proofs.YthcjjekkjbidlaaDoor.St
open Go.RowKit Go.Maps Go.WideMaps Go.Proofs.YthcjjekkjbidlaaDoor.Rf Go.Proofs.YthcjjekkjbidlaaDoor.Rd Go.Proofs.YthcjjekkjbidlaaDoor.Nm

theorem turn_grown {X : List Nat} {w w' w'' : World} {row : Option Nat} (h : Turn X w w') (hg : w'.grownBy w'' row) (hX : ∀ k, row = some k → k ∈ X) : Turn X w w'' :=
  ⟨hg.os.trans h.os, hg.tape.trans h.tape, hg.output.trans h.output, Nat.le_trans h.size hg.size, fun k hk hn => (hg.block k (Nat.lt_of_lt_of_le hk h.size) (fun e => hn (hX k e.symm))).trans (h.block k hk hn)⟩
end Go.Proofs.YthcjjekkjbidlaaDoor.St
