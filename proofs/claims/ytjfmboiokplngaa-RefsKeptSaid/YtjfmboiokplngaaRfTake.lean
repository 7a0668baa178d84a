/-
  The contracts of the reader's Take, Text, End, where they find what is asked for.
-/
import Derived.Test.YtjfmboiokplngaaRfRead
namespace Go.Proofs.Ytjfmboiokplngaa.Rf
open Go.RowKit Go.Maps Go.WideMaps

/-- A reader went on, and two new variables were made. -/
theorem reader_on {w : World} {q : Nat} {L R : List UInt8} (h : ReaderAt w q L) (A C : Obj) : ReaderAt (((w.setCell ⟨q, 0, none⟩ (.string ⟨R.toArray⟩)).alloc A).alloc C) q R ∧ Turn [q] w (((w.setCell ⟨q, 0, none⟩ (.string ⟨R.toArray⟩)).alloc A).alloc C) := by
  have hq : q < w.heap.size := lt_of_heap h
  have hs : (w.setCell ⟨q, 0, none⟩ (.string ⟨R.toArray⟩)).heap.size = w.heap.size := by simp [World.setCell]
  refine ⟨?_, (((Turn.refl [q] w).setCell (.inl (by simp)) _).alloc _).alloc _⟩
  refine (Below.heap_alloc _ _ _ (by rw [one_size, hs]; omega)).trans ((Below.heap_alloc _ _ _ (by rw [hs]; exact hq)).trans ?_)
  rw [setCell_heap _ _ _ _ _ _ h]; rfl

set_option maxHeartbeats 4000000 in
set_option maxRecDepth 100000 in
theorem take_ok (w : World) (q : Nat) (L : List UInt8) (n : Nat) (hn : n ≤ L.length) (h : ReaderAt w q L) :
    Calls Try.prog 35 #[ptr q, .int .i64 n] w fun e w' => e = .returned (.tuple #[.string ⟨(L.take n).toArray⟩, .int .i64 0]) ∧ ReaderAt w' q (L.drop n) ∧ Turn [q] w w' := by
  have c0 : w.cell? ⟨q, 0, none⟩ = some (.string ⟨L.toArray⟩) := cell_of_heap h
  have f0 : w.frozen? ⟨q, 0, none⟩ = false := frozen_of_heap h
  have hq : q < w.heap.size := lt_of_heap h
  have hs : (⟨L.toArray⟩ : ByteArray).size = L.length := rfl
  have hmin : min (n : Int) (L.length : Int) = (n : Int) := by omega
  have hn' : (n : Int) ≤ (L.length : Int) := by omega
  have hn0 : ¬ (n : Int) < 0 := by omega
  have hn2 : ¬ (L.length : Int) < (n : Int) := by omega
  unfold ptr
  go_enter Try.func35, Try.ntmps35
  go_wp2
  go_ret2
  rw [extract_rest _ _ _ (Nat.le_refl _), extract_list]
  exact ⟨by simp, reader_on h _ _⟩

set_option maxHeartbeats 4000000 in
set_option maxRecDepth 100000 in
/-- A text whose length stands in one byte. -/
theorem text_small (w : World) (q : Nat) (b : UInt8) (r : List UInt8) (hb : b.toNat < 128) (hr : b.toNat ≤ r.length) (hl : r.length ≤ 1099511627776) (h : ReaderAt w q (b :: r)) :
    Calls Try.prog 33 #[ptr q, .int .i64 255] w fun e w' => e = .returned (.tuple #[.string ⟨(r.take b.toNat).toArray⟩, .int .i64 0]) ∧ ReaderAt w' q (r.drop b.toNat) ∧ Turn [q] w w' := by
  have c0 : w.cell? ⟨q, 0, none⟩ = some (.string ⟨(b :: r).toArray⟩) := cell_of_heap h
  have f0 : w.frozen? ⟨q, 0, none⟩ = false := frozen_of_heap h
  have hq : q < w.heap.size := lt_of_heap h
  have SS := Lib.hid (fun w => short_small w b r hb hl)
  have hs : (⟨(b :: r).toArray⟩ : ByteArray).size = r.length + 1 := rfl
  have hb1 : ¬ (255 : Int) < (b.toNat : Int) := by omega
  have hb2 : ¬ (r.length : Int) < (b.toNat : Int) := by omega
  have hb3 : (b.toNat : Int) ≤ (r.length : Int) := by omega
  have EX : Hid ((⟨(b :: r).toArray⟩ : ByteArray).extract 1 (1 + b.toNat) = ⟨(r.take b.toNat).toArray⟩) := Lib.hid (by rw [extract_list]; simp)
  have ER : Hid ((⟨(b :: r).toArray⟩ : ByteArray).extract (1 + b.toNat) (r.length + 1) = ⟨(r.drop b.toNat).toArray⟩) := Lib.hid (by rw [extract_rest _ _ _ (by simp), Nat.add_comm]; rfl)
  unfold ptr
  go_enter Try.func33, Try.ntmps33
  go_wp2_with (first
    | (go_at_call 45; refine (SS.out _).mono ?_; rintro e w1 ⟨rfl, rfl⟩)
    | go_in)
  go_ret2
  rw [EX.out, ER.out]
  exact ⟨rfl, reader_on h _ _⟩

set_option maxRecDepth 100000 in
theorem end_ok (w : World) (q : Nat) (h : ReaderAt w q []) :
    Calls Try.prog 36 #[ptr q] w fun e w' => e = .returned (.int .i64 0) ∧ w' = w := by
  have c0 : w.cell? ⟨q, 0, none⟩ = some (.string ⟨#[]⟩) := cell_of_heap h
  unfold ptr
  go_enter Try.func36, Try.ntmps36
  go_wp2
  go_ret
  exact ⟨rfl, rfl⟩

set_option maxRecDepth 100000 in
theorem reader_new (w : World) (L : List UInt8) :
    Calls Try.prog 30 #[.string ⟨L.toArray⟩] w fun e w' => e = .returned (ptr w.heap.size) ∧ w' = w.alloc (.cells #[.string ⟨L.toArray⟩] RdT) := by
  go_enter Try.func30, Try.ntmps30
  go_wp2
  go_ret
  exact ⟨rfl, rfl⟩
end Go.Proofs.Ytjfmboiokplngaa.Rf
