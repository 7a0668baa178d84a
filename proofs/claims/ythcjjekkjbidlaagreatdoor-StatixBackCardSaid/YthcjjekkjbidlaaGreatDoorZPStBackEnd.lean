import Derived.Test.YthcjjekkjbidlaaGreatDoorZPSrNew
import Derived.Test.YthcjjekkjbidlaaGreatDoorZPShCheck
import Derived.Test.YthcjjekkjbidlaaGreatDoorZPShQuick
import Derived.Test.YthcjjekkjbidlaaGreatDoorZPStLawNames
set_option linter.unusedSimpArgs false
set_option linter.unusedVariables false
/-
  StatixBack's end: a byte of the copy is changed.
-/
namespace Go.Proofs.YthcjjekkjbidlaaGreatDoor.Sh
open Go.RowKit Go.Proofs.YthcjjekkjbidlaaGreatDoor.Rf Go.Proofs.YthcjjekkjbidlaaGreatDoor.Rd Go.Proofs.YthcjjekkjbidlaaGreatDoor.St
theorem hx_inj : ∀ a, a < 16 → ∀ b, b < 16 → hx a = hx b → a = b := by decide
theorem hexs_inj : ∀ a b : List UInt8, hexs a = hexs b → a = b
  | [], [], _ => rfl
  | [], c :: l, h => by have := congrArg List.length h; rw [hexs_length, hexs_length] at this; simp at this
  | c :: l, [], h => by have := congrArg List.length h; rw [hexs_length, hexs_length] at this; simp at this
  | c :: l, d :: m, h => by
    rw [hexs, hexs, List.flatMap_cons, List.flatMap_cons, ← hexs, ← hexs] at h
    injection h with h1 h
    injection h with h2 h
    have hc := UInt8.toNat_lt c; have hd := UInt8.toNat_lt d
    have e1 := hx_inj _ (by omega) _ (by omega) h1
    have e2 := hx_inj _ (by omega) _ (by omega) h2
    have : c = d := UInt8.toNat_inj.1 (by omega)
    rw [this, hexs_inj l m h]
theorem nameL_eq {a b : List UInt8} (h : nameL a = nameL b) : Sh.sum a = Sh.sum b := by
  rw [nameL, nameL] at h
  exact hexs_inj _ _ (List.append_cancel_left (List.append_cancel_right h))
end Go.Proofs.YthcjjekkjbidlaaGreatDoor.Sh
namespace Go.Proofs.YthcjjekkjbidlaaGreatDoor.St
open Go.RowKit Go.Maps Go.WideMaps Go.Proofs.YthcjjekkjbidlaaGreatDoor.Rf Go.Proofs.YthcjjekkjbidlaaGreatDoor.Rd

theorem at_ok (a n : Int) (h0 : 0 < n) (h1 : n ≤ 400000000) : ∃ p : Nat, (p : Int) < n ∧ (wrap64 (a.tmod n + n)).tmod n = (p : Int) := by
  have e1 := Int.tmod_lt_of_pos a h0
  have e2 := Int.lt_tmod_of_pos a h0
  have hw : wrap64 (a.tmod n + n) = a.tmod n + n := by unfold wrap64; omega
  rw [hw, Int.tmod_eq_emod_of_nonneg (by omega)]
  have e3 := Int.emod_nonneg (a.tmod n + n) (show n ≠ 0 by omega)
  have e4 := Int.emod_lt_of_pos (a.tmod n + n) h0
  exact ⟨((a.tmod n + n) % n).toNat, by omega, by omega⟩
theorem set_range {w : World} {g : Nat} {l : List UInt8} (p : Nat) (m : UInt8) (h : w.rangeAt g 0 (Lib.byteCells l)) : (w.setCell ⟨g, p, none⟩ (.int .u8 (m.toNat : Int))).rangeAt g 0 (Lib.byteCells (l.set p m)) := by
  intro j v hv
  rw [Nat.zero_add]
  have h1 : Lib.byteCells (l.set p m) = (Lib.byteCells l).set p (.int .u8 (m.toNat : Int)) := by simp [Lib.byteCells, List.map_set]
  rw [h1] at hv
  have hj : j < (Lib.byteCells l).length := by have := (List.getElem?_eq_some_iff.1 hv).1; simpa using this
  have h0 := h j _ (List.getElem?_eq_getElem hj)
  rw [Nat.zero_add] at h0
  by_cases hp : p = j
  · subst hp
    rw [List.getElem?_set_self hj] at hv
    rw [← hv]; exact World.cell?_setCell_same w _ _ h0
  · rw [List.getElem?_set_ne hp] at hv
    rw [World.cell?_setCell_other w _ _ _ (fun e => hp (by injection e)), h0, ← hv, List.getElem?_eq_getElem hj]
theorem conv_frozen (w : World) (l : List UInt8) (p : Nat) (hp : p < l.length) : (Lib.bytesWorld w 5 ⟨l.toArray⟩).frozen? ⟨w.heap.size, p, none⟩ = false := by
  have h := Lib.bytesWorld_at_new w 5 ⟨l.toArray⟩
  have hs : l.length ≤ (Lib.bytesCells w 5 ⟨l.toArray⟩).size := by
    simp only [Lib.bytesCells, Array.size_append, Array.size_map]
    show l.length ≤ l.length + _
    omega
  unfold World.frozen?
  rw [h]
  simp
  omega
theorem eq_bytes (w : World) (l : List UInt8) (hl : l.length = 32) : (binOp .eql 42 (.agg (Lib.byteCells l).toArray) (.agg (Lib.byteCells l).toArray)).run Tryz.prog w = .ok (.bool true) w := by
  have hid : (Op.equalIn 10000 42 (.agg (Lib.byteCells l).toArray) (.agg (Lib.byteCells l).toArray)).run Tryz.prog w = .ok true w := by
    have := run_equalIn_bytes (P := Tryz.prog) w 9998 42 5 32 Tryz.underlying42 Tryz.underlying5 size8 l l hl hl
    rw [beq_self_eq_true] at this
    exact this
  generalize (Lib.byteCells l).toArray = A at *
  show (do let r ← Op.equalIn 10000 42 (.agg A) (.agg A); pure (Value.bool r) : Sem Value).run Tryz.prog w = _
  rw [Sem.run_bind, hid]; rfl
theorem wp_eqB {o : Oper} {a : Act} {w : World} {K : Act → World → Prop} {Q : Exit → Act → World → Prop} (x y : Operand) (l : List UInt8) (hl : l.length = 32) (ho : o.op = .binOp .eql 42 x y 42)
    (hx : a.eval x = .agg (Lib.byteCells l).toArray) (hy : a.eval y = .agg (Lib.byteCells l).toArray) (h : K (a.put o.dst (.bool true)) w) : o.wp Tryz.prog a w K Q := by
  have hr := eq_bytes w l hl
  have hg := run_eqGuard_agg (P := Tryz.prog) w .eql 42 x y (Lib.byteCells l).toArray (Lib.byteCells l).toArray (by kernel_rfl)
  generalize (Lib.byteCells l).toArray = A at *
  unfold Oper.wp execOp
  simp only [ho, hx, hy, Sem.run_bind, hg, hr, Result.andThen_ok]
  exact h
end Go.Proofs.YthcjjekkjbidlaaGreatDoor.St
