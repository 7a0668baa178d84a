/-
  The statement GcNames, with its card: the refusals of a collection are as written. Conditions: the row's own; what is listed reads as its text lays it.
-/
import Derived.Test.YthfnhhfobaocoaaGreatDoorGcSaid
import Derived.Test.YthfnhhfobaocoaaGreatDoorCards
import Derived.Test.YthfnhhfobaocoaaGreatDoorTie
import Derived.Test.YthfnhhfobaocoaaGreatDoorGcNames
import Derived.Test.YthfnhhfobaocoaaGreatDoorRowKit
import Derived.Deep.DeepWitnessRowRef
import Derived.SliceStrings
import Derived.Lib.LaidU8
import Derived.ProofKit
import Derived.OpenShut
import Derived.Deep.DeepHandedRow
import Derived.Lib.LaidTab
import Derived.Lib.DecodeN
import Derived.SizedLaws
namespace Go.Proofs.YthfnhhfobaocoaaGreatDoor.GcCard
open Go.ChangeShapes Go.WideShapes Go.ChangeAt Go.RowKit

theorem plain (f : FuncId) (fn : Func) (hf : Tryz.pinned.checked.prog.funcNamed "muniment/munimentlaw24.GcNames" = some f) (hfn : Tryz.pinned.checked.prog.funcs[f]? = some fn) :
    true = Tryz.pinned.checked.prog.looks [] ∧ ∀ (j : Nat) t, fn.params[j]? = some t → Tryz.pinned.checked.prog.wantsStandIn t = false := by
  obtain rfl : f = 3 := Option.some.inj ((show Tryz.prog.funcNamed "muniment/munimentlaw24.GcNames" = some 3 by as_aux_lemma => kernel_rfl).symm.trans hf) |>.symm
  obtain rfl : fn = Tryz.f3 := (Option.some.inj (Tryz.func3.symm.trans hfn)).symm
  refine ⟨by as_aux_lemma => kernel_rfl, fun j t ht => ?_⟩
  rw [Tryz.params3] at ht
  simp at ht

theorem card : Rows.GcNamesCardSaid :=
  Claim7.holds_tied_plain_at .later [] _ _ _ _ said (fun _ h => by cases h) (by as_aux_lemma => kernel_rfl) (fun _ h => by cases h) gcNames_row_tie rfl ⟨rfl, rfl⟩ (by as_aux_lemma => kernel_rfl) rfl plain (by as_aux_lemma => kernel_rfl)
end Go.Proofs.YthfnhhfobaocoaaGreatDoor.GcCard
