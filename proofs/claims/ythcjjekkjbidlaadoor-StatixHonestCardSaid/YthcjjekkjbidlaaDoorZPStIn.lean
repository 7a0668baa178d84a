import Derived.Test.YthcjjekkjbidlaaDoorZPStReg
import Derived.Test.YthcjjekkjbidlaaDoorZPStPut
import Derived.Test.YthcjjekkjbidlaaDoorZPStRefAt
set_option linter.unusedSimpArgs false
set_option linter.unusedVariables false
/-
  The law's in and want: an entry in plain words, as the program's and as the reference's.
-/
namespace Go.Proofs.YthcjjekkjbidlaaDoor.St
open Go.RowKit Go.Maps Go.WideMaps Go.Proofs.YthcjjekkjbidlaaDoor.Rf Go.Proofs.YthcjjekkjbidlaaDoor.Rd

/-- An entry in plain words. -/
structure It where
  path : List UInt8
  node : UInt8
  size : Int
  ino : Nat
  tick : Int
  kind : UInt8
  idt : List UInt8
instance : Inhabited It := ⟨⟨[], 0, 0, 0, 0, 0, []⟩⟩
structure It.Fits (x : It) : Prop where
  path : x.path.length ≤ 140737488355328
  size : -9223372036854775808 ≤ x.size ∧ x.size < 9223372036854775808
  ino : x.ino < 18446744073709551616
  tick : -9223372036854775808 ≤ x.tick ∧ x.tick < 9223372036854775808
  idt : x.idt.length ≤ 140737488355328
/-- Its seven cells. -/
def It.cells (x : It) : List Value := [.string ⟨x.path.toArray⟩, .int .u8 (x.node.toNat : Int), .int .i64 x.size, .int .u64 (x.ino : Int), .int .i64 x.tick, .int .u8 (x.kind.toNat : Int), .string ⟨x.idt.toArray⟩]
theorem built_en32 (p : ByteArray) (n s i t k : Int) (b0 b1 b2 b3 b4 b5 b6 b7 b8 b9 b10 b11 b12 b13 b14 b15 b16 b17 b18 b19 b20 b21 b22 b23 b24 b25 b26 b27 b28 b29 b30 b31 : UInt8) :
    Tryd.prog.built 65 [(0, .string p), (1, .agg #[.int .u8 n, .int .i64 s, .int .u64 i, .int .i64 t]), (2, .int .u8 k), (3, .agg (Lib.byteCells [b0, b1, b2, b3, b4, b5, b6, b7, b8, b9, b10, b11, b12, b13, b14, b15, b16, b17, b18, b19, b20, b21, b22, b23, b24, b25, b26, b27, b28, b29, b30, b31]).toArray)] = some (.string p :: .int .u8 n :: .int .i64 s :: .int .u64 i :: .int .i64 t :: .int .u8 k :: Lib.byteCells [b0, b1, b2, b3, b4, b5, b6, b7, b8, b9, b10, b11, b12, b13, b14, b15, b16, b17, b18, b19, b20, b21, b22, b23, b24, b25, b26, b27, b28, b29, b30, b31]).toArray := by kernel_rfl
theorem built_en (p : ByteArray) (n s i t k : Int) (l : List UInt8) (hl : l.length = 32) :
    Tryd.prog.built 65 [(0, .string p), (1, .agg #[.int .u8 n, .int .i64 s, .int .u64 i, .int .i64 t]), (2, .int .u8 k), (3, .agg (Lib.byteCells l).toArray)] = some (.string p :: .int .u8 n :: .int .i64 s :: .int .u64 i :: .int .i64 t :: .int .u8 k :: Lib.byteCells l).toArray :=
  match l, hl with
  | [b0, b1, b2, b3, b4, b5, b6, b7, b8, b9, b10, b11, b12, b13, b14, b15, b16, b17, b18, b19, b20, b21, b22, b23, b24, b25, b26, b27, b28, b29, b30, b31], _ => built_en32 p n s i t k b0 b1 b2 b3 b4 b5 b6 b7 b8 b9 b10 b11 b12 b13 b14 b15 b16 b17 b18 b19 b20 b21 b22 b23 b24 b25 b26 b27 b28 b29 b30 b31
theorem exec_ben {o : Oper} {a : Act} {w : World} {x0 x1 x2 x3 : Operand} (p : ByteArray) (n s i t k : Int) (l : List UInt8) (hl : l.length = 32) (ho : o.op = .build 65 #[(0, x0), (1, x1), (2, x2), (3, x3)])
    (h0 : a.eval x0 = .string p) (h1 : a.eval x1 = .agg #[.int .u8 n, .int .i64 s, .int .u64 i, .int .i64 t]) (h2 : a.eval x2 = .int .u8 k) (h3 : a.eval x3 = .agg (Lib.byteCells l).toArray) :
    (execOp a.eval o).run Tryd.prog w = .ok (.value (.agg (.string p :: .int .u8 n :: .int .i64 s :: .int .u64 i :: .int .i64 t :: .int .u8 k :: Lib.byteCells l).toArray)) w := by
  have hb := run_build (P := Tryd.prog) w 65 #[(0, .string p), (1, .agg #[.int .u8 n, .int .i64 s, .int .u64 i, .int .i64 t]), (2, .int .u8 k), (3, .agg (Lib.byteCells l).toArray)] _ (built_en p n s i t k l hl)
  unfold execOp
  simp only [ho, List.map_toArray, List.map_cons, List.map_nil, h0, h1, h2, h3, Sem.run_bind, hb, Result.andThen_ok]
  rfl
end Go.Proofs.YthcjjekkjbidlaaDoor.St
