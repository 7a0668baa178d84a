import Derived.Test.YtkeegnhjemhblaaGreatDoorZPRdRead1
set_option linter.unusedSimpArgs false
set_option linter.unusedVariables false
/-
  The contracts of the reader at any bytes: Uint, Take, Text, End.
-/
namespace Go.Proofs.YtkeegnhjemhblaaGreatDoor.Rd
open Go.RowKit Go.Maps Go.WideMaps Go.Proofs.YtkeegnhjemhblaaGreatDoor.Rf

abbrev RdT : TypeId := 171
/-- A reader: what is left. -/
def ReaderAt (w : World) (q : Nat) (L : List UInt8) : Prop := w.heap[q]? = some (.cells #[.string ⟨L.toArray⟩] RdT)
/-- What is left behind a short number. -/
def shR (L : List UInt8) : List UInt8 := match rd0 L with | some p => L.drop p.2 | none => L
def shE (L : List UInt8) : Int := if (rd0 L).isSome then 0 else 4

/-- A reader went on, and new variables were made. -/
theorem reader_one {w : World} {q : Nat} {L R : List UInt8} (h : ReaderAt w q L) (A : Obj) : ReaderAt ((w.setCell ⟨q, 0, none⟩ (.string ⟨R.toArray⟩)).alloc A) q R ∧ Turn [q] w ((w.setCell ⟨q, 0, none⟩ (.string ⟨R.toArray⟩)).alloc A) := by
  have hq : q < w.heap.size := lt_of_heap h
  refine ⟨?_, ((Turn.refl [q] w).setCell (.inl (by simp)) _).alloc _⟩
  refine (Below.heap_alloc _ _ _ (by simpa [World.setCell] using hq)).trans ?_
  rw [setCell_heap _ _ _ _ _ _ h]; rfl
theorem reader_two {w : World} {q : Nat} {L R : List UInt8} (h : ReaderAt w q L) (A C : Obj) : ReaderAt (((w.setCell ⟨q, 0, none⟩ (.string ⟨R.toArray⟩)).alloc A).alloc C) q R ∧ Turn [q] w (((w.setCell ⟨q, 0, none⟩ (.string ⟨R.toArray⟩)).alloc A).alloc C) := by
  obtain ⟨a, b⟩ := reader_one (R := R) h A
  exact ⟨(Below.heap_alloc _ _ _ (lt_of_heap a)).trans a, b.alloc _⟩
theorem reader_stay1 {w : World} {q : Nat} {L : List UInt8} (h : ReaderAt w q L) (A : Obj) : ReaderAt (w.alloc A) q L ∧ Turn [q] w (w.alloc A) :=
  ⟨(Below.heap_alloc _ _ _ (lt_of_heap h)).trans h, (Turn.refl [q] w).alloc _⟩
theorem reader_stay2 {w : World} {q : Nat} {L : List UInt8} (h : ReaderAt w q L) (A C : Obj) : ReaderAt ((w.alloc A).alloc C) q L ∧ Turn [q] w ((w.alloc A).alloc C) :=
  ⟨(Below.heap_alloc _ _ _ (lt_of_heap (reader_stay1 h A).1)).trans (reader_stay1 h A).1, ((Turn.refl [q] w).alloc _).alloc _⟩

set_option maxHeartbeats 2000000 in
set_option maxRecDepth 100000 in
/-- A short number. -/
theorem uint_any (w : World) (q : Nat) (L : List UInt8) (hl : L.length ≤ 140737488355328) (h : ReaderAt w q L) :
    Calls Tryz.prog 34 #[ptr q] w fun e w' => e = .returned (.tuple #[.int .u64 (shN L : Int), .int .i64 (shE L)]) ∧ ReaderAt w' q (shR L) ∧ Turn [q] w w' := by
  have c0 : w.cell? ⟨q, 0, none⟩ = some (.string ⟨L.toArray⟩) := cell_of_heap h
  have f0 : w.frozen? ⟨q, 0, none⟩ = false := frozen_of_heap h
  have hq : q < w.heap.size := lt_of_heap h
  have SS := Lib.hid (fun w => short_any w L hl)
  have hs : (⟨L.toArray⟩ : ByteArray).size = L.length := rfl
  have hle := shK_le L
  have hN := Lib.hid (shN_lt L)
  unfold ptr
  cases h0 : rd0 L with
  | none =>
    have x1 : shE L = 4 := by rw [shE, h0]; rfl
    have x2 : shR L = L := by rw [shR, h0]
    rw [x1, x2]
    have e1 : shK L = -1 := by rw [shK, h0]
    have e2 : shN L = 0 := by rw [shN, h0]
    rw [e1, e2] at SS
    rw [e2]
    clear hle
    go_enter Tryz.func34, Tryz.ntmps34
    go_wp2_with (first
      | (go_at_call 96; refine (SS.out _).mono ?_; rintro e w1 ⟨rfl, rfl⟩)
      | go_in)
    go_ret2
    exact ⟨rfl, reader_stay1 h _⟩
  | some p =>
    obtain ⟨n, k⟩ := p
    have x1 : shE L = 0 := by rw [shE, h0]; rfl
    have x2 : shR L = L.drop k := by rw [shR, h0]
    rw [x1, x2]
    have e1 : shK L = (k : Int) := by rw [shK, h0]
    have e2 : shN L = n := by rw [shN, h0]
    rw [e1, e2] at SS
    rw [e2] at hN ⊢
    rw [e1] at hle
    have hk0 : ¬ (k : Int) < 0 := by omega
    have hk1 : ¬ (L.length : Int) < (k : Int) := by omega
    have hk2 : (k : Int) ≤ (L.length : Int) := by omega
    clear hle
    go_enter Tryz.func34, Tryz.ntmps34
    go_wp2_with (first
      | (go_at_call 96; refine (SS.out _).mono ?_; rintro e w1 ⟨rfl, rfl⟩)
      | go_in)
    go_ret2
    rw [extract_rest _ _ _ (Nat.le_refl _)]
    exact ⟨rfl, reader_one h _⟩

/-- Bytes taken; none if there are not so many. -/
def tkT (n : Nat) (L : List UInt8) : List UInt8 := if n ≤ L.length then L.take n else []
def tkR (n : Nat) (L : List UInt8) : List UInt8 := if n ≤ L.length then L.drop n else L
def tkE (n : Nat) (L : List UInt8) : Int := if n ≤ L.length then 0 else 4

set_option maxHeartbeats 4000000 in
set_option maxRecDepth 100000 in
theorem take_any (w : World) (q : Nat) (L : List UInt8) (n : Nat) (hn : n ≤ 140737488355328) (h : ReaderAt w q L) :
    Calls Tryz.prog 37 #[ptr q, .int .i64 n] w fun e w' => e = .returned (.tuple #[.string ⟨(tkT n L).toArray⟩, .int .i64 (tkE n L)]) ∧ ReaderAt w' q (tkR n L) ∧ Turn [q] w w' := by
  have c0 : w.cell? ⟨q, 0, none⟩ = some (.string ⟨L.toArray⟩) := cell_of_heap h
  have f0 : w.frozen? ⟨q, 0, none⟩ = false := frozen_of_heap h
  have hq : q < w.heap.size := lt_of_heap h
  have hs : (⟨L.toArray⟩ : ByteArray).size = L.length := rfl
  unfold ptr tkT tkE tkR
  by_cases hn' : n ≤ L.length
  · rw [if_pos hn', if_pos hn', if_pos hn']
    have hmin : min (n : Int) (L.length : Int) = (n : Int) := by omega
    have hn1 : (n : Int) ≤ (L.length : Int) := by omega
    have hn0 : ¬ (n : Int) < 0 := by omega
    have hn2 : ¬ (L.length : Int) < (n : Int) := by omega
    go_enter Tryz.func37, Tryz.ntmps37
    go_wp2
    go_ret2
    rw [extract_rest _ _ _ (Nat.le_refl _), extract_list]
    exact ⟨by simp, reader_two h _ _⟩
  · rw [if_neg hn', if_neg hn', if_neg hn']
    have hmin : min (n : Int) (L.length : Int) = (L.length : Int) := by omega
    have hn0 : ¬ (n : Int) < 0 := by omega
    have hn2 : (L.length : Int) < (n : Int) := by omega
    go_enter Tryz.func37, Tryz.ntmps37
    go_wp2
    go_ret2
    exact ⟨rfl, reader_stay2 h _ _⟩

/-- A text with its length ahead: the text and what is left. -/
def txt (most : Nat) (L : List UInt8) : Option (List UInt8 × List UInt8) :=
  match rd0 L with
  | none => none
  | some p => if p.1 ≤ most ∧ p.1 ≤ L.length - p.2 then some ((L.drop p.2).take p.1, (L.drop p.2).drop p.1) else none
def txT (most : Nat) (L : List UInt8) : List UInt8 := match txt most L with | some p => p.1 | none => []
def txR (most : Nat) (L : List UInt8) : List UInt8 := match txt most L with | some p => p.2 | none => L
def txE (most : Nat) (L : List UInt8) : Int := if (txt most L).isSome then 0 else 4

set_option maxHeartbeats 4000000 in
set_option maxRecDepth 400000 in
theorem text_any (w : World) (q : Nat) (L : List UInt8) (most : Nat) (hm : most ≤ 140737488355328) (hl : L.length ≤ 140737488355328) (h : ReaderAt w q L) :
    Calls Tryz.prog 35 #[ptr q, .int .i64 most] w fun e w' => e = .returned (.tuple #[.string ⟨(txT most L).toArray⟩, .int .i64 (txE most L)]) ∧ ReaderAt w' q (txR most L) ∧ Turn [q] w w' := by
  have c0 : w.cell? ⟨q, 0, none⟩ = some (.string ⟨L.toArray⟩) := cell_of_heap h
  have f0 : w.frozen? ⟨q, 0, none⟩ = false := frozen_of_heap h
  have hq : q < w.heap.size := lt_of_heap h
  have SS := Lib.hid (fun w => short_any w L hl)
  have hs : (⟨L.toArray⟩ : ByteArray).size = L.length := rfl
  have hle := shK_le L
  have hN := Lib.hid (shN_lt L)
  have hm0 : ¬ (most : Int) < 0 := by omega
  have hw : (most : Int) % 18446744073709551616 = (most : Int) := by omega
  unfold ptr
  cases h0 : rd0 L with
  | none =>
    have x0 : txt most L = none := by rw [txt, h0]
    have x1 : txT most L = [] := by rw [txT, x0]
    have x2 : txR most L = L := by rw [txR, x0]
    have x3 : txE most L = 4 := by rw [txE, x0]; rfl
    rw [x1, x2, x3]
    have e1 : shK L = -1 := by rw [shK, h0]
    have e2 : shN L = 0 := by rw [shN, h0]
    rw [e1, e2] at SS
    clear hle
    go_enter Tryz.func35, Tryz.ntmps35
    go_wp2_with (first
      | (go_at_call 96; refine (SS.out _).mono ?_; rintro e w1 ⟨rfl, rfl⟩)
      | go_in)
    go_ret2
    exact ⟨rfl, reader_stay2 h _ _⟩
  | some p =>
    obtain ⟨n, k⟩ := p
    have e1 : shK L = (k : Int) := by rw [shK, h0]
    have e2 : shN L = n := by rw [shN, h0]
    rw [e1, e2] at SS
    rw [e2] at hN
    rw [e1] at hle
    have hk0 : ¬ (k : Int) < 0 := by omega
    have hwk : ((L.length : Int) - (k : Int)) % 18446744073709551616 = (L.length : Int) - (k : Int) := by omega
    have hn64 := hN.out
    by_cases hA : n ≤ most
    · by_cases hB : n ≤ L.length - k
      · have x0 : txt most L = some ((L.drop k).take n, (L.drop k).drop n) := by rw [txt, h0]; exact if_pos ⟨hA, hB⟩
        have x1 : txT most L = (L.drop k).take n := by rw [txT, x0]
        have x2 : txR most L = (L.drop k).drop n := by rw [txR, x0]
        have x3 : txE most L = 0 := by rw [txE, x0]; rfl
        rw [x1, x2, x3]
        have a1 : ¬ (most : Int) < (n : Int) := by omega
        have a2 : ¬ ((L.length : Int) - (k : Int)) < (n : Int) := by omega
        have a3 : (k : Int) + (n : Int) ≤ (L.length : Int) := by omega
        have a4 : (n : Int) ≤ 140737488355328 := by omega
        have a5 : (k : Int) ≤ (L.length : Int) := by omega
        have hsl : ∀ w' : World, (Instr.slice 9 (.string ⟨L.toArray⟩) (some (.int .i64 (k : Int))) (some (.int .i64 ((k : Int) + (n : Int)))) none).run Tryz.prog w' = .ok (.string ⟨((L.drop k).take n).toArray⟩) w' := fun w' => by
          rw [run_slice_string _ 9 _ .i64 .i64 _ _ Tryz.underlying9 (by omega) (by omega) (by rw [hs]; omega), extract_list]
          rw [show (k : Int).toNat = k by omega, show ((k : Int) + (n : Int)).toNat = k + n by omega, show k + n - k = n by omega]
        have hsl2 : ∀ w' : World, (Instr.slice 9 (.string ⟨L.toArray⟩) (some (.int .i64 ((k : Int) + (n : Int)))) none none).run Tryz.prog w' = .ok (.string ⟨((L.drop k).drop n).toArray⟩) w' := fun w' => by
          rw [run_slice_string_l _ 9 _ Tryz.underlying9 .i64 _ (by omega) (by rw [hs]; omega), extract_rest _ _ _ (Nat.le_of_eq hs.symm), List.drop_drop]
          rw [show ((k : Int) + (n : Int)).toNat = k + n by omega]
        clear hle hn64 hA hB hwk hN
        have hwk : ((L.length : Int) - (k : Int)) % 18446744073709551616 = (L.length : Int) - (k : Int) := by omega
        go_enter Tryz.func35, Tryz.ntmps35
        go_wp2_with (first
          | (go_at_call 96; refine (SS.out _).mono ?_; rintro e w1 ⟨rfl, rfl⟩)
          | go_in)
        go_ret2
        rw [List.drop_drop]
        exact ⟨rfl, reader_two h _ _⟩
      · have x0 : txt most L = none := by rw [txt, h0]; exact if_neg (fun h => hB h.2)
        have x1 : txT most L = [] := by rw [txT, x0]
        have x2 : txR most L = L := by rw [txR, x0]
        have x3 : txE most L = 4 := by rw [txE, x0]; rfl
        rw [x1, x2, x3]
        have a1 : ¬ (most : Int) < (n : Int) := by omega
        have a2 : ((L.length : Int) - (k : Int)) < (n : Int) := by omega
        clear hle
        go_enter Tryz.func35, Tryz.ntmps35
        go_wp2_with (first
          | (go_at_call 96; refine (SS.out _).mono ?_; rintro e w1 ⟨rfl, rfl⟩)
          | go_in)
        go_ret2
        exact ⟨rfl, reader_stay2 h _ _⟩
    · have x0 : txt most L = none := by rw [txt, h0]; exact if_neg (fun h => hA h.1)
      have x1 : txT most L = [] := by rw [txT, x0]
      have x2 : txR most L = L := by rw [txR, x0]
      have x3 : txE most L = 4 := by rw [txE, x0]; rfl
      rw [x1, x2, x3]
      have a1 : (most : Int) < (n : Int) := by omega
      clear hle
      go_enter Tryz.func35, Tryz.ntmps35
      go_wp2_with (first
        | (go_at_call 96; refine (SS.out _).mono ?_; rintro e w1 ⟨rfl, rfl⟩)
        | go_in)
      go_ret2
      exact ⟨rfl, reader_stay2 h _ _⟩

set_option maxRecDepth 100000 in
theorem end_any (w : World) (q : Nat) (L : List UInt8) (h : ReaderAt w q L) :
    Calls Tryz.prog 39 #[ptr q] w fun e w' => e = .returned (.int .i64 (if L = [] then 0 else 4)) ∧ w' = w := by
  have c0 : w.cell? ⟨q, 0, none⟩ = some (.string ⟨L.toArray⟩) := cell_of_heap h
  unfold ptr
  cases L with
  | nil =>
    go_enter Tryz.func39, Tryz.ntmps39
    go_wp2
    go_ret
    exact ⟨rfl, rfl⟩
  | cons b r =>
    go_enter Tryz.func39, Tryz.ntmps39
    go_wp2
    go_ret
    exact ⟨rfl, rfl⟩

set_option maxRecDepth 100000 in
theorem reader_new (w : World) (L : List UInt8) :
    Calls Tryz.prog 32 #[.string ⟨L.toArray⟩] w fun e w' => e = .returned (ptr w.heap.size) ∧ w' = w.alloc (.cells #[.string ⟨L.toArray⟩] RdT) := by
  go_enter Tryz.func32, Tryz.ntmps32
  go_wp2
  go_ret
  exact ⟨rfl, rfl⟩
end Go.Proofs.YtkeegnhjemhblaaGreatDoor.Rd
