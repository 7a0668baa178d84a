import Derived.Test.YtkeegnhjemhblaaGreatDoorZPRfBack
set_option linter.unusedSimpArgs false
set_option linter.unusedVariables false
/-
  The contracts of the reader's Take, Text, End, where they find what is asked for.
-/
namespace Go.Proofs.YtkeegnhjemhblaaGreatDoor.Rf
open Go.RowKit Go.Maps Go.WideMaps

/-- A reader went on, and two new variables were made. -/
theorem reader_on {w : World} {q : Nat} {L R : List UInt8} (h : ReaderAt w q L) (A C : Obj) : ReaderAt (((w.setCell ⟨q, 0, none⟩ (.string ⟨R.toArray⟩)).alloc A).alloc C) q R ∧ Turn [q] w (((w.setCell ⟨q, 0, none⟩ (.string ⟨R.toArray⟩)).alloc A).alloc C) := by
  have hq : q < w.heap.size := lt_of_heap h
  have hs : (w.setCell ⟨q, 0, none⟩ (.string ⟨R.toArray⟩)).heap.size = w.heap.size := by simp [World.setCell]
  refine ⟨?_, (((Turn.refl [q] w).setCell (.inl (by simp)) _).alloc _).alloc _⟩
  refine (Below.heap_alloc _ _ _ (by rw [one_size, hs]; omega)).trans ((Below.heap_alloc _ _ _ (by rw [hs]; exact hq)).trans ?_)
  rw [setCell_heap _ _ _ _ _ _ h]; rfl

set_option maxHeartbeats 4000000 in
set_option maxRecDepth 100000 in
theorem take_ok (w : World) (q : Nat) (L : List UInt8) (n : Nat) (hn : n ≤ L.length) (h : ReaderAt w q L) :
    Calls Tryz.prog 37 #[ptr q, .int .i64 n] w fun e w' => e = .returned (.tuple #[.string ⟨(L.take n).toArray⟩, .int .i64 0]) ∧ ReaderAt w' q (L.drop n) ∧ Turn [q] w w' := by
  have c0 : w.cell? ⟨q, 0, none⟩ = some (.string ⟨L.toArray⟩) := cell_of_heap h
  have f0 : w.frozen? ⟨q, 0, none⟩ = false := frozen_of_heap h
  have hq : q < w.heap.size := lt_of_heap h
  have hs : (⟨L.toArray⟩ : ByteArray).size = L.length := rfl
  have hmin : min (n : Int) (L.length : Int) = (n : Int) := by omega
  have hn' : (n : Int) ≤ (L.length : Int) := by omega
  have hn0 : ¬ (n : Int) < 0 := by omega
  have hn2 : ¬ (L.length : Int) < (n : Int) := by omega
  unfold ptr
  go_enter Tryz.func37, Tryz.ntmps37
  go_wp2
  go_ret2
  rw [extract_rest _ _ _ (Nat.le_refl _), extract_list]
  exact ⟨by simp, reader_on h _ _⟩

set_option maxHeartbeats 4000000 in
set_option maxRecDepth 100000 in
/-- A text whose length stands in one byte. -/
theorem text_small (w : World) (q : Nat) (b : UInt8) (r : List UInt8) (hb : b.toNat < 128) (hr : b.toNat ≤ r.length) (hl : r.length ≤ 1099511627776) (h : ReaderAt w q (b :: r)) :
    Calls Tryz.prog 35 #[ptr q, .int .i64 255] w fun e w' => e = .returned (.tuple #[.string ⟨(r.take b.toNat).toArray⟩, .int .i64 0]) ∧ ReaderAt w' q (r.drop b.toNat) ∧ Turn [q] w w' := by
  have c0 : w.cell? ⟨q, 0, none⟩ = some (.string ⟨(b :: r).toArray⟩) := cell_of_heap h
  have f0 : w.frozen? ⟨q, 0, none⟩ = false := frozen_of_heap h
  have hq : q < w.heap.size := lt_of_heap h
  have SS := Lib.hid (fun w => short_small w b r hb hl)
  have hs : (⟨(b :: r).toArray⟩ : ByteArray).size = r.length + 1 := rfl
  have hb1 : ¬ (255 : Int) < (b.toNat : Int) := by omega
  have hb2 : ¬ (r.length : Int) < (b.toNat : Int) := by omega
  have hb3 : (b.toNat : Int) ≤ (r.length : Int) := by omega
  have EX : Hid ((⟨(b :: r).toArray⟩ : ByteArray).extract 1 (1 + b.toNat) = ⟨(r.take b.toNat).toArray⟩) := Lib.hid (by rw [extract_list]; simp)
  have ER : Hid ((⟨(b :: r).toArray⟩ : ByteArray).extract (1 + b.toNat) (r.length + 1) = ⟨(r.drop b.toNat).toArray⟩) := Lib.hid (by rw [extract_rest _ _ _ (by simp), Nat.add_comm]; rfl)
  unfold ptr
  go_enter Tryz.func35, Tryz.ntmps35
  go_wp2_with (first
    | (go_at_call 96; refine (SS.out _).mono ?_; rintro e w1 ⟨rfl, rfl⟩)
    | go_in)
  go_ret2
  rw [EX.out, ER.out]
  exact ⟨rfl, reader_on h _ _⟩

set_option maxRecDepth 100000 in
theorem end_ok (w : World) (q : Nat) (h : ReaderAt w q []) :
    Calls Tryz.prog 39 #[ptr q] w fun e w' => e = .returned (.int .i64 0) ∧ w' = w := by
  have c0 : w.cell? ⟨q, 0, none⟩ = some (.string ⟨#[]⟩) := cell_of_heap h
  unfold ptr
  go_enter Tryz.func39, Tryz.ntmps39
  go_wp2
  go_ret
  exact ⟨rfl, rfl⟩

set_option maxRecDepth 100000 in
theorem reader_new (w : World) (L : List UInt8) :
    Calls Tryz.prog 32 #[.string ⟨L.toArray⟩] w fun e w' => e = .returned (ptr w.heap.size) ∧ w' = w.alloc (.cells #[.string ⟨L.toArray⟩] RdT) := by
  go_enter Tryz.func32, Tryz.ntmps32
  go_wp2
  go_ret
  exact ⟨rfl, rfl⟩
end Go.Proofs.YtkeegnhjemhblaaGreatDoor.Rf
/-
  The contracts of the reader's Fixed at four bytes, and of Unframe at a whole frame.
-/
namespace Go.Proofs.YtkeegnhjemhblaaGreatDoor.Rf
open Go.RowKit Go.Maps Go.WideMaps

theorem orByte (acc : Nat) (b : UInt8) (h : acc < 16777216) : bits .or .u64 ((acc * 256 : Nat) : Int) (b.toNat : Int) = ((acc * 256 + b.toNat : Nat) : Int) := by
  have hb := b.toNat_lt
  rw [bits_or_u64_nat _ _ (by omega) (by omega)]
  have := Nat.two_pow_add_eq_or_of_lt (i := 8) (b := b.toNat) (by omega) acc
  rw [Nat.mul_comm acc 256, show (256 : Nat) = 2 ^ 8 from rfl, this]

/-- The number that the first bytes say. -/
def unI (L : List UInt8) (i : Nat) : Nat := un4 (L.take i)
theorem unI_step {L : List UInt8} {i : Nat} (h : i < L.length) : unI L (i + 1) = unI L i * 256 + (L[i]).toNat := by
  rw [unI, unI, un4, un4, List.take_add_one, List.foldl_append, List.getElem?_eq_getElem h]; rfl
theorem unI_lt (L : List UInt8) : ∀ i, unI L i < 256 ^ i
  | 0 => by simp [unI, un4]
  | i + 1 => by
    have ih := unI_lt L i
    by_cases h : i < L.length
    · rw [unI_step h, Nat.pow_succ]
      have := (L[i]).toNat_lt
      omega
    · have e : unI L (i + 1) = unI L i := by rw [unI, unI, List.take_of_length_le (by omega), List.take_of_length_le (by omega)]
      rw [e, Nat.pow_succ]; omega

set_option maxHeartbeats 4000000 in
set_option maxRecDepth 100000 in
theorem fixed1 (w : World) (a q : Nat) (L : List UInt8) (hL : 4 ≤ L.length) (ha : w.heap[a]? = some (.cells #[.int .i64 4] 3)) (hq : w.heap[q]? = some (.cells #[.int .u64 0] 73)) (hne : a ≠ q) :
    Calls Tryz.prog 142 #[.string ⟨L.toArray⟩, ptr a, ptr q] w fun e w' => e = .returned (.int .i64 4) ∧ w'.heap[q]? = some (.cells #[.int .u64 ((unI L 4 : Nat) : Int)] 73) ∧ Turn [q] w w' := by
  have c0 : w.cell? ⟨a, 0, none⟩ = some (.int .i64 4) := cell_of_heap ha
  have hs : (⟨L.toArray⟩ : ByteArray).size = L.length := rfl
  have hL' : (4 : Int) ≤ (L.length : Int) := by omega
  have hal : a < w.heap.size := lt_of_heap ha
  unfold ptr
  go_enter Tryz.func142, Tryz.ntmps142
  go_wp2
  go_loopw [11] (fun vi wr => ∃ i : Nat, i ≤ 4 ∧ vi = .int .i64 i ∧ wr.heap[q]? = some (.cells #[.int .u64 ((unI L i : Nat) : Int)] 73) ∧ Turn [q] w wr) (fun vi _ => 4 - (RowKit.intOf vi).toNat)
  case atStart => exact ⟨0, by omega, rfl, hq, Turn.refl _ _⟩
  case round =>
    obtain ⟨i, hi, rfl, hh, ht⟩ := hrel
    have c1 : wr.cell? ⟨q, 0, none⟩ = some (.int .u64 ((unI L i : Nat) : Int)) := cell_of_heap hh
    have f1 : wr.frozen? ⟨q, 0, none⟩ = false := frozen_of_heap hh
    have c2 : wr.cell? ⟨a, 0, none⟩ = some (.int .i64 4) := (World.cell?_of_block (a := ⟨a, 0, none⟩) (ht.block a hal (by simpa using hne))).trans c0
    by_cases hlt : (i : Int) < 4
    · have hil : i < L.length := by omega
      obtain ⟨b, hb⟩ : ∃ b, b = L[i] := ⟨_, rfl⟩
      have hidx : (⟨L.toArray⟩ : ByteArray)[i]'(by rw [hs]; exact hil) = b := hb.symm
      have hil' : (i : Int) < (L.length : Int) := by omega
      obtain ⟨acc, hacc⟩ : ∃ acc, acc = unI L i := ⟨_, rfl⟩
      have hal24 : acc < 16777216 := by
        rw [hacc]
        have h1 := unI_lt L i
        have h2 : 256 ^ i ≤ 256 ^ 3 := Nat.pow_le_pow_right (by decide) (by omega)
        omega
      have HST : Hid (unI L (i + 1) = acc * 256 + b.toNat) := Lib.hid (by rw [unI_step hil, hacc, hb])
      rw [← hacc] at c1
      have OR := Lib.hid (orByte acc b hal24)
      have HH := Lib.hid hh; have HT := Lib.hid ht
      clear hh ht hacc hb
      go_wp2
      go_region
      go_wp2
      rw [show IntKind.u64.wrap (b.toNat : Int) = (b.toNat : Int) by rw [IntKind.wrap_u64]; have := b.toNat_lt; omega, show (acc : Int) * 256 = ((acc * 256 : Nat) : Int) by omega, OR.out, ← HST.out]
      go_roundw
      case rel =>
        refine ⟨i + 1, by omega, by simp, ?_, ((HT.out.setCell (p := ⟨q, 0, none⟩) (.inl (by simp)) _).drew)⟩
        show (wr.setCell ⟨q, 0, none⟩ _).heap[q]? = _
        rw [setCell_heap _ _ _ _ _ _ HH.out]; rfl
      case measure => simp [RowKit.intOf]; omega
    · obtain rfl : i = 4 := by omega
      have HH := Lib.hid hh; have HT := Lib.hid ht
      clear hh ht
      go_wp2
      go_ret
      exact ⟨rfl, HH.out, HT.out⟩

set_option maxHeartbeats 4000000 in
set_option maxRecDepth 100000 in
theorem fixed4 (w : World) (q : Nat) (L : List UInt8) (hL : 4 ≤ L.length) (h : ReaderAt w q L) :
    Calls Tryz.prog 91 #[ptr q, .int .i64 4] w fun e w' => e = .returned (.tuple #[.int .u64 ((unI L 4 : Nat) : Int), .int .i64 0]) ∧ ReaderAt w' q (L.drop 4) ∧ Turn [q] w w' := by
  have c0 : w.cell? ⟨q, 0, none⟩ = some (.string ⟨L.toArray⟩) := cell_of_heap h
  have hq : q < w.heap.size := lt_of_heap h
  have hs : (⟨L.toArray⟩ : ByteArray).size = L.length := rfl
  have hL' : (4 : Int) ≤ (L.length : Int) := by omega
  obtain ⟨W, hW⟩ : ∃ W, W = (w.alloc (.cells #[.int .i64 4] 3)).alloc (.cells #[.int .u64 0] 73) := ⟨_, rfl⟩
  have hWs : W.heap.size = w.heap.size + 2 := by rw [hW, one_size, one_size]
  have hb0 : Below w.heap.size w W := by rw [hW]; exact ((Below.refl _ _).alloc (Nat.le_refl _) _).alloc (by rw [one_size]; omega) _
  have ha : W.heap[w.heap.size]? = some (.cells #[.int .i64 4] 3) := by
    rw [hW]; exact (Below.heap_alloc _ _ _ (by rw [one_size]; omega)).trans (MapKept.heap_alloc w _).1
  have hq6 : W.heap[w.heap.size + 1]? = some (.cells #[.int .u64 0] 73) := by
    rw [hW, ← one_size w (.cells #[.int .i64 4] 3)]; exact (MapKept.heap_alloc _ _).1
  have F1 := Lib.hid (fixed1 W w.heap.size (w.heap.size + 1) L hL ha hq6 (by omega))
  have hr : ReaderAt W q L := (hb0.block q hq).trans h
  have HR := Lib.hid hr; have HB0 := Lib.hid hb0; have HWW := Lib.hid hW
  clear hr hb0 ha hq6 hW
  unfold ptr at *
  go_enter Tryz.func91, Tryz.ntmps91
  go_wp2_with (first
    | (go_at_call 142
       rw [← HWW.out]
       refine F1.out.mono ?_
       rintro e w1 ⟨rfl, hn1, t1⟩
       have hr1 : ReaderAt w1 q L := (t1.block q (by omega) (by simp; omega)).trans HR.out
       have cr1 : w1.cell? ⟨q, 0, none⟩ = some (.string ⟨L.toArray⟩) := cell_of_heap hr1
       have fr1 : w1.frozen? ⟨q, 0, none⟩ = false := frozen_of_heap hr1
       have cn1 : w1.cell? ⟨w.heap.size + 1, 0, none⟩ = some (.int .u64 ((unI L 4 : Nat) : Int)) := cell_of_heap hn1
       have hne1 : ¬ q = w.heap.size + 1 := by omega
       have HR1 := Lib.hid hr1; have T1 := Lib.hid t1
       clear hr1 t1 hn1)
    | go_in)
  go_ret2
  rw [extract_rest _ _ _ (Nat.le_refl _)]
  have t0 : Turn [q] w w1 := ⟨T1.out.os.trans HB0.out.os, T1.out.tape.trans HB0.out.tape, T1.out.output.trans HB0.out.output, Nat.le_trans HB0.out.size T1.out.size, fun k hk _ => by
    rw [T1.out.block k (by omega) (by simp; omega), HB0.out.block k hk]⟩
  refine ⟨rfl, ?_, t0.setCell (.inl (by simp)) _⟩
  have hh := HR1.out
  unfold ReaderAt at hh ⊢
  rw [setCell_heap _ _ _ _ _ _ hh]; rfl

theorem frame_take4 (p : List UInt8) : (frameN p).take 4 = be4 p.length := by simp [frameN, be4]
theorem frame_drop4 (p : List UInt8) : (frameN p).drop 4 = be4 (crcN p) ++ p := by simp [frameN, be4]
theorem frame_length (p : List UInt8) : (frameN p).length = p.length + 8 := by simp [frameN, be4]

set_option maxHeartbeats 4000000 in
set_option maxRecDepth 100000 in
/-- A whole frame. -/
theorem unframe_ok (w : World) (p : List UInt8) (hp : p.length ≤ 67108864) :
    Calls Tryz.prog 31 #[.string ⟨(frameN p).toArray⟩] w fun e w' => e = .returned (.tuple #[.string ⟨p.toArray⟩, .string ⟨#[]⟩, .int .i64 0]) ∧ Below w.heap.size w w' := by
  obtain ⟨S, hS⟩ : ∃ S, S = frameN p := ⟨_, rfl⟩
  rw [← hS]
  have hSl : S.length = p.length + 8 := by rw [hS, frame_length]
  have hs : (⟨S.toArray⟩ : ByteArray).size = p.length + 8 := hSl
  have RN := Lib.hid (reader_new w S)
  obtain ⟨W, hW⟩ : ∃ W, W = w.alloc (.cells #[.string ⟨S.toArray⟩] RdT) := ⟨_, rfl⟩
  have hr0 : ReaderAt W w.heap.size S := by rw [hW]; exact (MapKept.heap_alloc w _).1
  have hb0 : Below w.heap.size w W := by rw [hW]; exact (Below.refl _ _).alloc (Nat.le_refl _) _
  rw [← hW] at RN
  have hn : unI S 4 = p.length := by rw [unI, hS, frame_take4, un4_be4 (by omega)]
  have hd4 : S.drop 4 = be4 (crcN p) ++ p := by rw [hS, frame_drop4]
  have F1 := Lib.hid (fixed4 W w.heap.size S (by omega) hr0)
  rw [hn, hd4] at F1
  have hn2 : unI (be4 (crcN p) ++ p) 4 = crcN p := by rw [unI, show (be4 (crcN p) ++ p).take 4 = be4 (crcN p) by simp [be4], un4_be4 (crcN_lt p)]
  have F2 : Hid (∀ w1, ReaderAt w1 w.heap.size (be4 (crcN p) ++ p) → Calls Tryz.prog 91 #[ptr w.heap.size, .int .i64 4] w1 fun e w' => e = .returned (.tuple #[.int .u64 ((crcN p : Nat) : Int), .int .i64 0]) ∧ ReaderAt w' w.heap.size p ∧ Turn [w.heap.size] w1 w') := Lib.hid (fun w1 h1 => by
    have := fixed4 w1 w.heap.size (be4 (crcN p) ++ p) (by simp [be4]) h1
    rw [hn2] at this
    have e : (be4 (crcN p) ++ p).drop 4 = p := by simp [be4]
    rwa [e] at this)
  have TK : Hid (∀ w2, ReaderAt w2 w.heap.size p → Calls Tryz.prog 37 #[ptr w.heap.size, .int .i64 (p.length : Int)] w2 fun e w' => e = .returned (.tuple #[.string ⟨p.toArray⟩, .int .i64 0]) ∧ ReaderAt w' w.heap.size [] ∧ Turn [w.heap.size] w2 w') := Lib.hid (fun w2 h2 => by
    have := take_ok w2 w.heap.size p p.length (Nat.le_refl _) h2
    rw [List.take_length, List.drop_length] at this
    exact this)
  have CR : Hid (∀ w3, Calls Tryz.prog 93 #[.string ((⟨S.toArray⟩ : ByteArray).extract 0 4)] w3 fun e w' => e = .returned (.int .u32 (onN 0 (be4 p.length))) ∧ Below w3.heap.size w3 w') := Lib.hid (fun w3 => by
    have := crc_any w3 ⟨(be4 p.length).toArray⟩ (by show (be4 p.length).length ≤ _; simp [be4]; unfold maxLen; omega)
    rw [ba_data] at this
    have e : (⟨S.toArray⟩ : ByteArray).extract 0 4 = ⟨(be4 p.length).toArray⟩ := by rw [extract_list, hS, List.drop_zero, frame_take4]
    rwa [e])
  have ON : Hid (∀ w4, Calls Tryz.prog 92 #[.int .u32 (onN 0 (be4 p.length)), .string ⟨p.toArray⟩] w4 fun e w' => e = .returned (.int .u32 ((crcN p : Nat) : Int)) ∧ Below w4.heap.size w4 w') := Lib.hid (fun w4 => by
    have := on_any w4 (onN 0 (be4 p.length)) ⟨p.toArray⟩ (by show p.length ≤ _; unfold maxLen; omega)
    rw [ba_data, ← crcN_eq] at this
    exact this)
  have hcl := crcN_lt p
  have hps : (⟨p.toArray⟩ : ByteArray).size = p.length := rfl
  have EX : Hid ((⟨S.toArray⟩ : ByteArray).extract (8 + p.length) (p.length + 8) = ⟨#[]⟩) := Lib.hid (by rw [extract_rest _ _ _ (by omega), List.drop_of_length_le (by omega)])
  generalize crcN p = c at *
  generalize onN 0 (be4 p.length) = c0 at *
  have HB0 := Lib.hid hb0
  have hwp : (p.length : Int) ≤ 67108864 := by omega
  have hw8 : (8 : Int) ≤ (p.length : Int) + 8 := by omega
  clear hS hSl hW hr0 hb0 hn hd4 hn2
  unfold ptr at *
  go_enter Tryz.func31, Tryz.ntmps31
  go_wp2_with (first
    | (go_at_call 32; refine RN.out.mono ?_; rintro e w0 ⟨rfl, rfl⟩)
    | (go_at_call 91; refine F1.out.mono ?_; rintro e w1 ⟨rfl, h1, t1⟩; have FF := Lib.hid (F2.out w1 h1); have T1 := Lib.hid t1; clear h1 t1 F1 F2)
    | (go_at_call 91; refine FF.out.mono ?_; rintro e w2 ⟨rfl, h2, t2⟩; have TT := Lib.hid (TK.out w2 h2); have T2 := Lib.hid t2; clear h2 t2 FF TK)
    | (go_at_call 37; refine TT.out.mono ?_; rintro e w3 ⟨rfl, h3, t3⟩; have T3 := Lib.hid t3; clear h3 t3 TT)
    | (go_at_call 93; refine (CR.out _).mono ?_; rintro e w4 ⟨rfl, b4⟩; have B4 := Lib.hid b4; clear b4 CR)
    | (go_at_call 92; refine (ON.out _).mono ?_; rintro e w5 ⟨rfl, b5⟩; have B5 := Lib.hid b5; clear b5 ON))
  go_region
  go_wp2
  go_ret3
  rw [EX.out]
  refine ⟨rfl, ?_⟩
  have b0 := T1.out
  have t3 : Turn [w.heap.size] w0 w3 := (T1.out.trans T2.out (by simp)).trans T3.out (by simp)
  have b3 : Below w.heap.size w0 w3 := t3.below (by simp) HB0.out.size
  have b03 := HB0.out.trans b3
  have b4 := b03.trans (B4.out.mono b03.size)
  exact (b4.trans (B5.out.mono b4.size)).drew
end Go.Proofs.YtkeegnhjemhblaaGreatDoor.Rf
/-
  The contract of Decode at the bytes of a book with one branch and one snapshot.
-/
namespace Go.Proofs.YtkeegnhjemhblaaGreatDoor.Rf
open Go.RowKit Go.Maps Go.WideMaps

def id1 : List UInt8 := 1 :: List.replicate 31 0
def en1 : En := ⟨id1, 5⟩
def main : List UInt8 := [109, 97, 105, 110]
def K1 : BK := [(main, [en1])]
/-- What stands behind the number of branches. -/
def rest3 : List UInt8 := id1 ++ [5]
def rest2 : List UInt8 := 1 :: rest3
def rest1 : List UInt8 := 4 :: (main ++ rest2)
theorem payload1 : payload K1 = 1 :: rest1 := by decide +kernel

/-- Where Decode stands: the reader, its two variables, the book so far. -/
structure DecSt (w : World) (q gt bt : Nat) (W : World) (L : List UInt8) (Z : BM) : Prop where
  rd : ReaderAt W q L
  rv : W.heap[q + 1]? = some (.cells #[ptr q] 71)
  ov : W.heap[q + 2]? = some (.cells #[.bool true] 4)
  bk : BookAt noSp (q + 3) W gt bt Z
  be : Below w.heap.size w W
  le : w.heap.size ≤ q
theorem DecSt.read {w W W' : World} {q gt bt : Nat} {L L' : List UInt8} {Z : BM} (h : DecSt w q gt bt W L Z) (hr : ReaderAt W' q L') (ht : Turn [q] W W') : DecSt w q gt bt W' L' Z := by
  have l1 := lt_of_heap h.rv; have l2 := lt_of_heap h.ov
  refine ⟨hr, (ht.block _ l1 (by simp)).trans h.rv, (ht.block _ l2 (by simp)).trans h.ov, ?_, h.be.trans (ht.below (by simpa using h.le) h.be.size), h.le⟩
  have hg := h.bk.baseg; have hb := h.bk.baseb
  refine ⟨(ht.block _ h.bk.lt_g (by simp; omega)).trans h.bk.book, ownsMap_block h.bk.map (ht.block _ h.bk.lt_b (by simp; omega)), fun p hp => rowS_kept (h.bk.each p hp) (fun y hy hl => ht.block y hl ?_), h.bk.gb, h.bk.off, h.bk.apart, hg, hb, fun _ hp => False.elim hp⟩
  have := rowS_ge (h.bk.each p hp) y hy
  simp; omega
theorem DecSt.okCell {w W : World} {q gt bt : Nat} {L : List UInt8} {Z : BM} (h : DecSt w q gt bt W L Z) : DecSt w q gt bt (W.setCell ⟨q + 2, 0, none⟩ (.bool true)) L Z := by
  have hk : ∀ x, x ≠ q + 2 → (W.setCell ⟨q + 2, 0, none⟩ (.bool true)).heap[x]? = W.heap[x]? := fun x hx => Below.heap_setCell _ _ _ _ hx
  have hg := h.bk.baseg; have hb := h.bk.baseb
  refine ⟨(hk _ (by omega)).trans h.rd, (hk _ (by omega)).trans h.rv, by rw [setCell_heap _ _ _ _ _ _ h.ov]; rfl, ?_, h.be.setCell (by have := h.le; show w.heap.size ≤ q + 2; omega) _, h.le⟩
  refine ⟨(hk _ (by omega)).trans h.bk.book, ownsMap_block h.bk.map (hk _ (by omega)), fun p hp => rowS_kept (h.bk.each p hp) (fun y hy hl => hk y ?_), h.bk.gb, h.bk.off, h.bk.apart, hg, hb, fun _ hp => False.elim hp⟩
  have := rowS_ge (h.bk.each p hp) y hy
  omega
theorem DecSt.below {w W W' : World} {q gt bt : Nat} {L : List UInt8} {Z : BM} (h : DecSt w q gt bt W L Z) (hb : Below W.heap.size W W') : DecSt w q gt bt W' L Z :=
  ⟨(hb.block _ (lt_of_heap h.rd)).trans h.rd, (hb.block _ (lt_of_heap h.rv)).trans h.rv, (hb.block _ (lt_of_heap h.ov)).trans h.ov, h.bk.below hb, h.be.trans (hb.mono h.be.size), h.le⟩
theorem DecSt.add {w W W' : World} {q gt bt : Nat} {L : List UInt8} {Z Z' : BM} (h : DecSt w q gt bt W L Z) (hk : BookAt noSp (q + 3) W' gt bt Z') (hb : Below (q + 3) W W') : DecSt w q gt bt W' L Z' :=
  ⟨(hb.block _ (by omega)).trans h.rd, (hb.block _ (by omega)).trans h.rv, (hb.block _ (by omega)).trans h.ov, hk, h.be.trans (hb.mono (by have := h.le; omega)), h.le⟩

set_option maxHeartbeats 4000000 in
set_option maxRecDepth 100000 in
theorem number_small (w W : World) (q gt bt : Nat) (b : UInt8) (r : List UInt8) (Z : BM) (most : Nat) (hb : b.toNat < 128) (hm : b.toNat ≤ most) (hl : r.length ≤ 1099511627776) (h : DecSt w q gt bt W (b :: r) Z) :
    Calls Tryz.prog 33 #[.int .u64 (most : Int), ptr (q + 1), ptr (q + 2)] W fun e w' => e = .returned (.int .u64 (b.toNat : Int)) ∧ DecSt w q gt bt w' r Z := by
  have c1 : W.cell? ⟨q + 1, 0, none⟩ = some (ptr q) := cell_of_heap h.rv
  have U := Lib.hid (uint_small W q b r hb hl h.rd)
  have hmi : (b.toNat : Int) ≤ (most : Int) := by omega
  unfold ptr at *
  go_enter Tryz.func33, Tryz.ntmps33
  go_wp2_with fail
  refine U.out.mono ?_
  rintro e w1 ⟨rfl, hr1, t1⟩
  have h1 := h.read hr1 t1
  have c2 : w1.cell? ⟨q + 2, 0, none⟩ = some (.bool true) := cell_of_heap h1.ov
  have f2 : w1.frozen? ⟨q + 2, 0, none⟩ = false := frozen_of_heap h1.ov
  have H2 := Lib.hid h1.okCell
  clear U h1 hr1 t1
  go_wp2
  go_ret
  exact ⟨rfl, H2.out⟩
end Go.Proofs.YtkeegnhjemhblaaGreatDoor.Rf
