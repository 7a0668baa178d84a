import Derived.Test.YtkeegnhjemhblaaGreatDoorZPRbRowSet
import Derived.Test.YtkeegnhjemhblaaGreatDoorZPRbShelf
import Derived.Lib.Bytealg
import Derived.Laws.Externs
import Derived.Deep.RegionLaw
set_option linter.unusedSimpArgs false
set_option linter.unusedVariables false
/-
  The contract of slices.SortFunc at names, by the closure that bytes.Compare makes.
-/
set_option linter.unusedSimpArgs false
namespace Go.Proofs.YtkeegnhjemhblaaGreatDoor.Rb
open Go.RowKit Go.Maps Go.WideMaps Go.Proofs.YtkeegnhjemhblaaGreatDoor.Rf Go.Sort

/-- A name of 32 bytes. -/
def N32 : Type := { l : List UInt8 // l.length = 32 }
instance : Inhabited N32 := ⟨⟨List.replicate 32 0, by simp⟩⟩
def encN (x : N32) : List Value := Lib.byteCells x.1
def cmpN (x y : N32) : Int := Lib.compareBytes x.1 y.1
theorem cmp_lt : ∀ a b : List UInt8, decide (Lib.compareBytes a b < 0) = lt a b
  | [], [] => rfl
  | [], _ :: _ => rfl
  | _ :: _, [] => rfl
  | a :: r, b :: s => by
    have h2 : lt (a :: r) (b :: s) = (decide (a < b) || (a == b && lt r s)) := rfl
    rw [h2, ← cmp_lt r s, Lib.compareBytes]
    by_cases h : a < b
    · rw [if_pos h]; simp [h]
    · rw [if_neg h]
      by_cases k : b < a
      · rw [if_pos k]
        have : (a == b) = false := by simp; rintro rfl; exact h k
        simp [h, this]
      · have e : a = b := UInt8.le_antisymm (UInt8.not_lt.1 k) (UInt8.not_lt.1 h)
        rw [if_neg k]; subst e; simp [h]
theorem ltOf_cmp (x y : N32) : ltOf cmpN x y = lt x.1 y.1 := cmp_lt x.1 y.1
theorem swoN : SWO (ltOf cmpN) where
  irrefl x := by rw [ltOf_cmp]; exact lt_irr _
  trans x y z h k := by rw [ltOf_cmp] at *; exact lt_tr h k
  ntrans x y z h k := by rw [ltOf_cmp] at *; exact lt_le_tr k h
theorem load_bytes {P : Program} {w : World} {g : Nat} : ∀ (l : List UInt8) (o : Nat) (acc : ByteArray), w.rangeAt g o (Lib.byteCells l) →
    (Extern.Bytes.loadBytes ⟨g, o, none⟩ l.length acc).run P w = .ok ⟨acc.data ++ l.toArray⟩ w
  | [], o, acc, _ => by simp [Extern.Bytes.loadBytes]
  | b :: r, o, acc, h => by
    have h0 : w.cell? ⟨g, o, none⟩ = some (.int .u8 (b.toNat : Int)) := h 0 _ rfl
    have hr : w.rangeAt g (o + 1) (Lib.byteCells r) := fun j v hj => by
      have := h (j + 1) v hj
      rwa [show o + (j + 1) = o + 1 + j by omega] at this
    have ih := load_bytes (P := P) (w := w) (g := g) r (o + 1) (acc.push b) hr
    rw [List.length_cons, Extern.Bytes.loadBytes, Sem.run_bind, run_load, h0]
    simp only [Result.andThen, Addr.add_lit]
    rw [show ((b.toNat : Int)).toNat.toUInt8 = b by simp, ih]
    congr 2
    simp
theorem run_compare_rows {P : Program} (w : World) (g k ca cb : Nat) (a b : List UInt8) (ha : w.rangeAt g 0 (Lib.byteCells a)) (hb : w.rangeAt k 0 (Lib.byteCells b)) :
    (Extern.BytealgCompare.compare #[.slice (some ⟨g, 0, none⟩) a.length ca, .slice (some ⟨k, 0, none⟩) b.length cb]).run P w = .ok (.int .i64 (Lib.compareBytes a b)) w := by
  change Sem.run P (do pure (goInt (Extern.BytealgCompare.cmp (← Extern.Bytes.bytesOf (.slice (some ⟨g, 0, none⟩) a.length ca)) (← Extern.Bytes.bytesOf (.slice (some ⟨k, 0, none⟩) b.length cb))))) w = _
  simp only [Extern.Bytes.bytesOf, Sem.run_bind, Sem.run_pure]
  rw [load_bytes a 0 _ ha]
  simp only [Result.andThen]
  rw [load_bytes b 0 _ hb]
  simp only [Result.andThen]
  rw [Lib.cmp_eq]
  simp [goInt]
set_option maxHeartbeats 4000000 in
set_option maxRecDepth 100000 in
theorem compare_any (w : World) (g k : Nat) (a b : List UInt8) (ea : a.length = 32) (eb : b.length = 32) (ha : w.rangeAt g 0 (Lib.byteCells a)) (hb : w.rangeAt k 0 (Lib.byteCells b)) :
    Calls Tryz.prog 113 #[.slice (some ⟨g, 0, none⟩) 32 32, .slice (some ⟨k, 0, none⟩) 32 32] w fun e w' => e = .returned (.int .i64 (Lib.compareBytes a b)) ∧ w' = w := by
  have hr := run_compare_rows (P := Tryz.prog) w g k 32 32 a b ha hb
  rw [ea, eb] at hr
  clear ha hb
  go_enter Tryz.func113, Tryz.ntmps113
  go_wp2
  rw [run_callFunc_extern Tryz.func153 (by kernel_rfl) (by kernel_rfl) (by kernel_rfl) (e := Extern.BytealgCompare.compare) (by kernel_rfl), hr]
  simp only [Result.andThen]
  rw [Oper.upon_value]
  go_wp2
  go_ret
  exact ⟨rfl, rfl⟩
end Go.Proofs.YtkeegnhjemhblaaGreatDoor.Rb
