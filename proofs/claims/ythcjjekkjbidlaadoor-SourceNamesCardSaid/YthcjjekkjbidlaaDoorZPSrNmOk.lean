import Derived.Test.YthcjjekkjbidlaaDoorZPSrNmRun
set_option linter.unusedSimpArgs false
set_option linter.unusedVariables false
/-
  The closed run of SourceNames answers as it should: reckoned, in parts.
-/
namespace Go.Proofs.YthcjjekkjbidlaaDoor.Sr
/-- The view behind n files. -/
def VA (n : Nat) : VS := ⟨([], 2, 1, (n : Int)) :: (List.range n).map (fun i => ([nmI i], 1, i + 2, ((i + 1 : Nat) : Int))), n, n + 1⟩
theorem vchk_app (b : List (VOp × Int)) : ∀ (a : List (VOp × Int)) (V : VS), vchk V (a ++ b) = (vchk V a && vchk (vrun a V) b)
  | [], V => rfl
  | x :: r, V => by
    rw [List.cons_append, vchk, vchk, vchk_app b r, Bool.and_assoc]; rfl
theorem VS.ext2 {V W : VS} (h1 : V.L = W.L) (h2 : V.clock = W.clock) (h3 : V.most = W.most) : V = W := by
  cases V; cases W; cases h1; cases h2; cases h3; rfl
theorem ok_a : vchk V0 (ops.take 96) = true := by decide +kernel
theorem run_a : (vrun (ops.take 96) V0).L = (VA 96).L ∧ (vrun (ops.take 96) V0).clock = 96 ∧ (vrun (ops.take 96) V0).most = 97 := by decide +kernel
theorem ok_b : vchk (VA 96) ((ops.drop 96).take 64) = true := by decide +kernel
theorem run_b : (vrun ((ops.drop 96).take 64) (VA 96)).L = (VA 160).L ∧ (vrun ((ops.drop 96).take 64) (VA 96)).clock = 160 ∧ (vrun ((ops.drop 96).take 64) (VA 96)).most = 161 := by decide +kernel
theorem ok_c : vchk (VA 160) ((ops.drop 160).take 48) = true := by decide +kernel
theorem run_c : (vrun ((ops.drop 160).take 48) (VA 160)).L = (VA 208).L ∧ (vrun ((ops.drop 160).take 48) (VA 160)).clock = 208 ∧ (vrun ((ops.drop 160).take 48) (VA 160)).most = 209 := by decide +kernel
theorem ok_d : vchk (VA 208) ((ops.drop 208).take 48) = true := by decide +kernel
theorem run_d : (vrun ((ops.drop 208).take 48) (VA 208)).L = (VA 256).L ∧ (vrun ((ops.drop 208).take 48) (VA 208)).clock = 256 ∧ (vrun ((ops.drop 208).take 48) (VA 208)).most = 257 := by decide +kernel
theorem ok_e : vchk (VA 256) (ops.drop 256) = true := by decide +kernel
theorem ops_ok : vchk V0 ops = true := by
  have e0 : ops = ops.take 96 ++ ((ops.drop 96).take 64 ++ ((ops.drop 160).take 48 ++ ((ops.drop 208).take 48 ++ ops.drop 256))) := by
    have h3 : (ops.drop 208).take 48 ++ ops.drop 256 = ops.drop 208 := by
      have := List.take_append_drop 48 (ops.drop 208); rwa [List.drop_drop] at this
    have h2 : (ops.drop 160).take 48 ++ ops.drop 208 = ops.drop 160 := by
      have := List.take_append_drop 48 (ops.drop 160); rwa [List.drop_drop] at this
    have h1 : (ops.drop 96).take 64 ++ ops.drop 160 = ops.drop 96 := by
      have := List.take_append_drop 64 (ops.drop 96); rwa [List.drop_drop] at this
    rw [h3, h2, h1, List.take_append_drop]
  rw [e0, vchk_app, vchk_app, vchk_app, vchk_app, ok_a, VS.ext2 (W := VA 96) run_a.1 run_a.2.1 run_a.2.2, ok_b, VS.ext2 (W := VA 160) run_b.1 run_b.2.1 run_b.2.2, ok_c, VS.ext2 (W := VA 208) run_c.1 run_c.2.1 run_c.2.2, ok_d, VS.ext2 (W := VA 256) run_d.1 run_d.2.1 run_d.2.2, ok_e]
  rfl
end Go.Proofs.YthcjjekkjbidlaaDoor.Sr
