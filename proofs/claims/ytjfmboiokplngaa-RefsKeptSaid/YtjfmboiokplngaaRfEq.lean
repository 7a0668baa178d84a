/-
  Snapshots compared with themselves; snapshots put together.
-/
import Derived.Test.YtjfmboiokplngaaRfAwake
import Derived.Stop.BytesEq
namespace Go.Proofs.Ytjfmboiokplngaa.Rf
open Go.RowKit Go.Maps Go.WideMaps

theorem fieldsEn : Try.prog.underlying 34 = some (.struct (Try.prog.fieldsOf 34)) := by kernel_rfl
theorem size8 (w : World) : (sizeOf 5).run Try.prog w = .ok 1 w := by kernel_rfl
theorem isAggId (w : World) : (isAgg 32).run Try.prog w = .ok true w := by kernel_rfl
theorem sizeId (w : World) : (sizeOf 32).run Try.prog w = .ok 32 w := by kernel_rfl
theorem isAgg64 (w : World) : (isAgg 2).run Try.prog w = .ok false w := by kernel_rfl

theorem partC (w : World) (e : En) (he : e.c.length = 32) : (part 32 e.cells.toArray 0).run Try.prog w = .ok (.agg (Lib.byteCells e.c).toArray) w := by
  have hx : e.cells.toArray.extract 0 32 = (Lib.byteCells e.c).toArray := by
    apply Array.toList_inj.1
    simp [En.cells]
    rw [List.take_append_of_le_length (by simp [Lib.byteCells_length, he]), List.take_of_length_le (by simp [Lib.byteCells_length, he])]
  simp only [part, Sem.run_bind, isAggId, Result.andThen_ok, if_true, sizeId, Nat.zero_add, hx, Sem.run_pure]
theorem partT (w : World) (e : En) (he : e.c.length = 32) : (part 2 e.cells.toArray 32).run Try.prog w = .ok (.int .i64 e.t) w := by
  have hx : e.cells.toArray[32]? = some (.int .i64 e.t) := by
    rw [List.getElem?_toArray, En.cells, List.getElem?_append_right (by simp [Lib.byteCells_length, he])]; simp [Lib.byteCells_length, he]
  simp only [part, Sem.run_bind, isAgg64, Result.andThen_ok, hx, Bool.false_eq_true, if_false, Sem.run_pure]
theorem neqEn (w : World) (e : En) (he : e.c.length = 32) : (binOp .neq 34 (enV e) (enV e)).run Try.prog w = .ok (.bool false) w := by
  have hb := run_equalIn_bytes (P := Try.prog) w 9997 32 5 32 Try.underlying32 Try.underlying5 size8 e.c e.c he he
  have hp1 := partC w e he
  have hp2 := partT w e he
  rw [run_neq_struct, run_equalIn_struct w 9999 _ _ _ fieldsEn (by kernel_rfl)]
  simp only [Program.fieldsOf, Try.underlying34, Op.eqFields]
  have hb2 : (Op.equalIn 9999 32 (.agg (Lib.byteCells e.c).toArray) (.agg (Lib.byteCells e.c).toArray)).run Try.prog w = .ok true w := by
    rw [beq_self_eq_true, show List.map Extern.Stop.cell e.c = Lib.byteCells e.c from rfl, show (9997 + 2 : Nat) = 9999 from rfl] at hb
    exact hb
  have ht := run_equalIn_int (P := Try.prog) w 9998 2 .i64 .i64 e.t e.t Try.underlying2
  rw [beq_self_eq_true, show (9998 + 1 : Nat) = 9999 from rfl] at ht
  generalize Op.equalIn 9999 = E at hb2 ht ⊢
  generalize part 32 e.cells.toArray 0 = p1 at hp1 ⊢
  generalize part 2 e.cells.toArray 32 = p2 at hp2 ⊢
  clear hb
  have hC : ("Commit" ≠ "_") = True := by simp
  have hT : ("Tick" ≠ "_") = True := by simp
  simp only [hC, hT, if_true, Sem.run_bind]
  rw [hp1, Result.andThen_ok]
  rw [hp1, Result.andThen_ok]
  rw [hb2, Result.andThen_ok]
  rw [if_neg (by decide)]
  simp only [Sem.run_bind]
  rw [hp2, Result.andThen_ok]
  rw [hp2, Result.andThen_ok]
  rw [ht, Result.andThen_ok]
  rw [if_neg (by decide)]
  rfl

/-- The snapshots that the law puts together. -/
def idB (b : UInt8) : List UInt8 := b :: List.replicate 31 0
def enB (b : UInt8) (t : Int) : En := ⟨idB b, t⟩
def enM : En := ⟨List.replicate 32 0, 1099511627776⟩
theorem builtB (b : UInt8) : Try.prog.built 32 [(0, .int .u8 (b.toNat : Int))] = some (Lib.byteCells (idB b)).toArray := by kernel_rfl
theorem builtE (b : UInt8) (t : Int) : Try.prog.built 34 [(0, .agg (Lib.byteCells (idB b)).toArray), (1, .int .i64 t)] = some (enB b t).cells.toArray := by kernel_rfl
theorem builtM : Try.prog.built 34 [(1, .int .i64 1099511627776)] = some enM.cells.toArray := by kernel_rfl
theorem wpB {o : Oper} {a : Act} {w : World} {K : Act → World → Prop} {Q : Exit → Act → World → Prop} (x : Operand) (b : UInt8) (ho : o.op = .build 32 #[(0, x)])
    (hx : a.eval x = .int .u8 (b.toNat : Int)) (h : K (a.put o.dst (.agg (Lib.byteCells (idB b)).toArray)) w) : o.wp Try.prog a w K Q := by
  have hc := run_build (P := Try.prog) w 32 #[(0, .int .u8 (b.toNat : Int))] _ (builtB b)
  unfold Oper.wp execOp
  simp only [ho, List.map_toArray, List.map_cons, List.map_nil, hx, Sem.run_bind, hc, Result.andThen_ok]
  exact h
theorem wpE {o : Oper} {a : Act} {w : World} {K : Act → World → Prop} {Q : Exit → Act → World → Prop} (x y : Operand) (b : UInt8) (t : Int) (ho : o.op = .build 34 #[(0, x), (1, y)])
    (hx : a.eval x = .agg (Lib.byteCells (idB b)).toArray) (hy : a.eval y = .int .i64 t) (h : K (a.put o.dst (enV (enB b t))) w) : o.wp Try.prog a w K Q := by
  have hc := run_build (P := Try.prog) w 34 #[(0, .agg (Lib.byteCells (idB b)).toArray), (1, .int .i64 t)] _ (builtE b t)
  unfold Oper.wp execOp
  simp only [ho, List.map_toArray, List.map_cons, List.map_nil, hx, hy, Sem.run_bind, hc, Result.andThen_ok]
  exact h
theorem wpM {o : Oper} {a : Act} {w : World} {K : Act → World → Prop} {Q : Exit → Act → World → Prop} (x : Operand) (ho : o.op = .build 34 #[(1, x)])
    (hx : a.eval x = .int .i64 1099511627776) (h : K (a.put o.dst (enV enM)) w) : o.wp Try.prog a w K Q := by
  have hc := run_build (P := Try.prog) w 34 #[(1, .int .i64 1099511627776)] _ builtM
  unfold Oper.wp execOp
  simp only [ho, List.map_toArray, List.map_cons, List.map_nil, hx, Sem.run_bind, hc, Result.andThen_ok]
  exact h
theorem guardEn (w : World) (x y : Operand) (e : En) : (eqGuard .neq 34 x y (enV e) (enV e)).run Try.prog w = .ok () w := run_eqGuard_agg (P := Try.prog) w .neq 34 x y _ _ (by kernel_rfl)
theorem wpNeq {o : Oper} {a : Act} {w : World} {K : Act → World → Prop} {Q : Exit → Act → World → Prop} (x y : Operand) (e : En) (he : e.c.length = 32) (ho : o.op = .binOp .neq 34 x y 34)
    (hx : a.eval x = enV e) (hy : a.eval y = enV e) (h : K (a.put o.dst (.bool false)) w) : o.wp Try.prog a w K Q := by
  have hr := neqEn w e he
  have hg := guardEn w x y e
  generalize enV e = v at *
  unfold Oper.wp execOp
  simp only [ho, hx, hy, Sem.run_bind, hg, hr, Result.andThen_ok]
  exact h
end Go.Proofs.Ytjfmboiokplngaa.Rf
