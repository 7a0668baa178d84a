/-
  The contracts of the reader where it finds what is asked for, the short numbers of one byte.
-/
import Derived.Test.YtjfmboiokplngaaRfTwin
import Derived.Laws.Bits64b
namespace Go.Proofs.Ytjfmboiokplngaa.Rf
open Go.RowKit Go.Maps Go.WideMaps

set_option maxHeartbeats 2000000 in
set_option maxRecDepth 100000 in
theorem short_small (w : World) (b : UInt8) (r : List UInt8) (hb : b.toNat < 128) (hl : r.length ≤ 1099511627776) :
    Calls Try.prog 45 #[.string ⟨(b :: r).toArray⟩] w fun e w' => e = .returned (.tuple #[.int .u64 (b.toNat : Int), .int .i64 1]) ∧ w' = w := by
  have hs : (⟨(b :: r).toArray⟩ : ByteArray).size = r.length + 1 := rfl
  have h127 : bits .and .u8 (b.toNat : Int) 127 = (b.toNat : Int) := by
    have h1 := u8_and_nat b.toNat 127 (by omega) (by decide)
    rw [show (127 : Nat) = 2 ^ 7 - 1 from rfl, Nat.and_two_pow_sub_one_eq_mod, Nat.mod_eq_of_lt (by omega)] at h1
    exact h1
  have hor : bits .or .u64 0 (b.toNat : Int) = (b.toNat : Int) := by
    have h1 := bits_or_u64_nat 0 b.toNat (by decide) (by omega)
    simpa using h1
  have hidx : (⟨(b :: r).toArray⟩ : ByteArray)[0]'(by rw [hs]; omega) = b := rfl
  have hbi : (b.toNat : Int) < 128 := by omega
  have hwr : IntKind.u64.wrap (b.toNat : Int) = (b.toNat : Int) := by rw [IntKind.wrap_u64]; omega
  go_enter Try.func45, Try.ntmps45
  go_wp2
  go_loopw [2, 9] (fun v2 v9 wr => v2 = .int .u64 0 ∧ v9 = .int .i64 0 ∧ wr = w) (fun _ _ _ => 0)
  case atStart => exact ⟨rfl, rfl, rfl⟩
  case round =>
    obtain ⟨rfl, rfl, rfl⟩ := hrel
    go_wp2
    go_ret2
    exact ⟨rfl, rfl⟩

theorem ba_ext {A B : ByteArray} (h : A.data.toList = B.data.toList) : A = B := by
  cases A; cases B
  congr 1
  exact Array.toList_inj.1 h
/-- A piece of a text. -/
theorem extract_list (L : List UInt8) (i j : Nat) : (⟨L.toArray⟩ : ByteArray).extract i j = ⟨((L.drop i).take (j - i)).toArray⟩ := by
  apply ba_ext
  rw [Lib.extract_data]
theorem extract_rest (L : List UInt8) (i j : Nat) (h : L.length ≤ j) : (⟨L.toArray⟩ : ByteArray).extract i j = ⟨(L.drop i).toArray⟩ := by
  rw [extract_list, List.take_of_length_le (by rw [List.length_drop]; omega)]

abbrev RdT : TypeId := 88
/-- A reader: what is left. -/
def ReaderAt (w : World) (q : Nat) (L : List UInt8) : Prop := w.heap[q]? = some (.cells #[.string ⟨L.toArray⟩] RdT)

set_option maxHeartbeats 2000000 in
set_option maxRecDepth 100000 in
/-- A short number of one byte. -/
theorem uint_small (w : World) (q : Nat) (b : UInt8) (r : List UInt8) (hb : b.toNat < 128) (hl : r.length ≤ 1099511627776) (h : ReaderAt w q (b :: r)) :
    Calls Try.prog 32 #[ptr q] w fun e w' => e = .returned (.tuple #[.int .u64 (b.toNat : Int), .int .i64 0]) ∧ ReaderAt w' q r ∧ Turn [q] w w' := by
  have c0 : w.cell? ⟨q, 0, none⟩ = some (.string ⟨(b :: r).toArray⟩) := cell_of_heap h
  have f0 : w.frozen? ⟨q, 0, none⟩ = false := frozen_of_heap h
  have hq : q < w.heap.size := lt_of_heap h
  have SS := Lib.hid (fun w => short_small w b r hb hl)
  have hs : (⟨(b :: r).toArray⟩ : ByteArray).size = r.length + 1 := rfl
  unfold ptr
  go_enter Try.func32, Try.ntmps32
  go_wp2_with (first
    | (go_at_call 45; refine (SS.out _).mono ?_; rintro e w1 ⟨rfl, rfl⟩)
    | go_in)
  go_ret2
  rw [extract_rest _ _ _ (by simp)]
  refine ⟨rfl, ?_, ((Turn.refl [q] w).setCell (.inl (by simp)) _).alloc _⟩
  refine (Below.heap_alloc _ _ _ (by simpa [World.setCell] using hq)).trans ?_
  rw [setCell_heap _ _ _ _ _ _ h]; rfl
end Go.Proofs.Ytjfmboiokplngaa.Rf
