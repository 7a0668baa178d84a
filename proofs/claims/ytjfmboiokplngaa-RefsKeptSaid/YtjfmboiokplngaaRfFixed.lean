/-
  The contracts of the reader's Fixed at four bytes, and of Unframe at a whole frame.
-/
import Derived.Test.YtjfmboiokplngaaRfTake
namespace Go.Proofs.Ytjfmboiokplngaa.Rf
open Go.RowKit Go.Maps Go.WideMaps

theorem orByte (acc : Nat) (b : UInt8) (h : acc < 16777216) : bits .or .u64 ((acc * 256 : Nat) : Int) (b.toNat : Int) = ((acc * 256 + b.toNat : Nat) : Int) := by
  have hb := b.toNat_lt
  rw [bits_or_u64_nat _ _ (by omega) (by omega)]
  have := Nat.two_pow_add_eq_or_of_lt (i := 8) (b := b.toNat) (by omega) acc
  rw [Nat.mul_comm acc 256, show (256 : Nat) = 2 ^ 8 from rfl, this]

/-- The number that the first bytes say. -/
def unI (L : List UInt8) (i : Nat) : Nat := un4 (L.take i)
theorem unI_step {L : List UInt8} {i : Nat} (h : i < L.length) : unI L (i + 1) = unI L i * 256 + (L[i]).toNat := by
  rw [unI, unI, un4, un4, List.take_add_one, List.foldl_append, List.getElem?_eq_getElem h]; rfl
theorem unI_lt (L : List UInt8) : ∀ i, unI L i < 256 ^ i
  | 0 => by simp [unI, un4]
  | i + 1 => by
    have ih := unI_lt L i
    by_cases h : i < L.length
    · rw [unI_step h, Nat.pow_succ]
      have := (L[i]).toNat_lt
      omega
    · have e : unI L (i + 1) = unI L i := by rw [unI, unI, List.take_of_length_le (by omega), List.take_of_length_le (by omega)]
      rw [e, Nat.pow_succ]; omega

set_option maxHeartbeats 4000000 in
set_option maxRecDepth 100000 in
theorem fixed1 (w : World) (a q : Nat) (L : List UInt8) (hL : 4 ≤ L.length) (ha : w.heap[a]? = some (.cells #[.int .i64 4] 3)) (hq : w.heap[q]? = some (.cells #[.int .u64 0] 45)) (hne : a ≠ q) :
    Calls Try.prog 52 #[.string ⟨L.toArray⟩, ptr a, ptr q] w fun e w' => e = .returned (.int .i64 4) ∧ w'.heap[q]? = some (.cells #[.int .u64 ((unI L 4 : Nat) : Int)] 45) ∧ Turn [q] w w' := by
  have c0 : w.cell? ⟨a, 0, none⟩ = some (.int .i64 4) := cell_of_heap ha
  have hs : (⟨L.toArray⟩ : ByteArray).size = L.length := rfl
  have hL' : (4 : Int) ≤ (L.length : Int) := by omega
  have hal : a < w.heap.size := lt_of_heap ha
  unfold ptr
  go_enter Try.func52, Try.ntmps52
  go_wp2
  go_loopw [11] (fun vi wr => ∃ i : Nat, i ≤ 4 ∧ vi = .int .i64 i ∧ wr.heap[q]? = some (.cells #[.int .u64 ((unI L i : Nat) : Int)] 45) ∧ Turn [q] w wr) (fun vi _ => 4 - (RowKit.intOf vi).toNat)
  case atStart => exact ⟨0, by omega, rfl, hq, Turn.refl _ _⟩
  case round =>
    obtain ⟨i, hi, rfl, hh, ht⟩ := hrel
    have c1 : wr.cell? ⟨q, 0, none⟩ = some (.int .u64 ((unI L i : Nat) : Int)) := cell_of_heap hh
    have f1 : wr.frozen? ⟨q, 0, none⟩ = false := frozen_of_heap hh
    have c2 : wr.cell? ⟨a, 0, none⟩ = some (.int .i64 4) := (World.cell?_of_block (a := ⟨a, 0, none⟩) (ht.block a hal (by simpa using hne))).trans c0
    by_cases hlt : (i : Int) < 4
    · have hil : i < L.length := by omega
      obtain ⟨b, hb⟩ : ∃ b, b = L[i] := ⟨_, rfl⟩
      have hidx : (⟨L.toArray⟩ : ByteArray)[i]'(by rw [hs]; exact hil) = b := hb.symm
      have hil' : (i : Int) < (L.length : Int) := by omega
      obtain ⟨acc, hacc⟩ : ∃ acc, acc = unI L i := ⟨_, rfl⟩
      have hal24 : acc < 16777216 := by
        rw [hacc]
        have h1 := unI_lt L i
        have h2 : 256 ^ i ≤ 256 ^ 3 := Nat.pow_le_pow_right (by decide) (by omega)
        omega
      have HST : Hid (unI L (i + 1) = acc * 256 + b.toNat) := Lib.hid (by rw [unI_step hil, hacc, hb])
      rw [← hacc] at c1
      have OR := Lib.hid (orByte acc b hal24)
      have HH := Lib.hid hh; have HT := Lib.hid ht
      clear hh ht hacc hb
      go_wp2
      go_region
      go_wp2
      rw [show IntKind.u64.wrap (b.toNat : Int) = (b.toNat : Int) by rw [IntKind.wrap_u64]; have := b.toNat_lt; omega, show (acc : Int) * 256 = ((acc * 256 : Nat) : Int) by omega, OR.out, ← HST.out]
      go_roundw
      case rel =>
        refine ⟨i + 1, by omega, by simp, ?_, ((HT.out.setCell (p := ⟨q, 0, none⟩) (.inl (by simp)) _).drew)⟩
        show (wr.setCell ⟨q, 0, none⟩ _).heap[q]? = _
        rw [setCell_heap _ _ _ _ _ _ HH.out]; rfl
      case measure => simp [RowKit.intOf]; omega
    · obtain rfl : i = 4 := by omega
      have HH := Lib.hid hh; have HT := Lib.hid ht
      clear hh ht
      go_wp2
      go_ret
      exact ⟨rfl, HH.out, HT.out⟩

set_option maxHeartbeats 4000000 in
set_option maxRecDepth 100000 in
theorem fixed4 (w : World) (q : Nat) (L : List UInt8) (hL : 4 ≤ L.length) (h : ReaderAt w q L) :
    Calls Try.prog 42 #[ptr q, .int .i64 4] w fun e w' => e = .returned (.tuple #[.int .u64 ((unI L 4 : Nat) : Int), .int .i64 0]) ∧ ReaderAt w' q (L.drop 4) ∧ Turn [q] w w' := by
  have c0 : w.cell? ⟨q, 0, none⟩ = some (.string ⟨L.toArray⟩) := cell_of_heap h
  have hq : q < w.heap.size := lt_of_heap h
  have hs : (⟨L.toArray⟩ : ByteArray).size = L.length := rfl
  have hL' : (4 : Int) ≤ (L.length : Int) := by omega
  obtain ⟨W, hW⟩ : ∃ W, W = (w.alloc (.cells #[.int .i64 4] 3)).alloc (.cells #[.int .u64 0] 45) := ⟨_, rfl⟩
  have hWs : W.heap.size = w.heap.size + 2 := by rw [hW, one_size, one_size]
  have hb0 : Below w.heap.size w W := by rw [hW]; exact ((Below.refl _ _).alloc (Nat.le_refl _) _).alloc (by rw [one_size]; omega) _
  have ha : W.heap[w.heap.size]? = some (.cells #[.int .i64 4] 3) := by
    rw [hW]; exact (Below.heap_alloc _ _ _ (by rw [one_size]; omega)).trans (MapKept.heap_alloc w _).1
  have hq6 : W.heap[w.heap.size + 1]? = some (.cells #[.int .u64 0] 45) := by
    rw [hW, ← one_size w (.cells #[.int .i64 4] 3)]; exact (MapKept.heap_alloc _ _).1
  have F1 := Lib.hid (fixed1 W w.heap.size (w.heap.size + 1) L hL ha hq6 (by omega))
  have hr : ReaderAt W q L := (hb0.block q hq).trans h
  have HR := Lib.hid hr; have HB0 := Lib.hid hb0; have HWW := Lib.hid hW
  clear hr hb0 ha hq6 hW
  unfold ptr at *
  go_enter Try.func42, Try.ntmps42
  go_wp2_with (first
    | (go_at_call 52
       rw [← HWW.out]
       refine F1.out.mono ?_
       rintro e w1 ⟨rfl, hn1, t1⟩
       have hr1 : ReaderAt w1 q L := (t1.block q (by omega) (by simp; omega)).trans HR.out
       have cr1 : w1.cell? ⟨q, 0, none⟩ = some (.string ⟨L.toArray⟩) := cell_of_heap hr1
       have fr1 : w1.frozen? ⟨q, 0, none⟩ = false := frozen_of_heap hr1
       have cn1 : w1.cell? ⟨w.heap.size + 1, 0, none⟩ = some (.int .u64 ((unI L 4 : Nat) : Int)) := cell_of_heap hn1
       have hne1 : ¬ q = w.heap.size + 1 := by omega
       have HR1 := Lib.hid hr1; have T1 := Lib.hid t1
       clear hr1 t1 hn1)
    | go_in)
  go_ret2
  rw [extract_rest _ _ _ (Nat.le_refl _)]
  have t0 : Turn [q] w w1 := ⟨T1.out.os.trans HB0.out.os, T1.out.tape.trans HB0.out.tape, T1.out.output.trans HB0.out.output, Nat.le_trans HB0.out.size T1.out.size, fun k hk _ => by
    rw [T1.out.block k (by omega) (by simp; omega), HB0.out.block k hk]⟩
  refine ⟨rfl, ?_, t0.setCell (.inl (by simp)) _⟩
  have hh := HR1.out
  unfold ReaderAt at hh ⊢
  rw [setCell_heap _ _ _ _ _ _ hh]; rfl

theorem frame_take4 (p : List UInt8) : (frameN p).take 4 = be4 p.length := by simp [frameN, be4]
theorem frame_drop4 (p : List UInt8) : (frameN p).drop 4 = be4 (crcN p) ++ p := by simp [frameN, be4]
theorem frame_length (p : List UInt8) : (frameN p).length = p.length + 8 := by simp [frameN, be4]

set_option maxHeartbeats 4000000 in
set_option maxRecDepth 100000 in
/-- A whole frame. -/
theorem unframe_ok (w : World) (p : List UInt8) (hp : p.length ≤ 67108864) :
    Calls Try.prog 29 #[.string ⟨(frameN p).toArray⟩] w fun e w' => e = .returned (.tuple #[.string ⟨p.toArray⟩, .string ⟨#[]⟩, .int .i64 0]) ∧ Below w.heap.size w w' := by
  obtain ⟨S, hS⟩ : ∃ S, S = frameN p := ⟨_, rfl⟩
  rw [← hS]
  have hSl : S.length = p.length + 8 := by rw [hS, frame_length]
  have hs : (⟨S.toArray⟩ : ByteArray).size = p.length + 8 := hSl
  have RN := Lib.hid (reader_new w S)
  obtain ⟨W, hW⟩ : ∃ W, W = w.alloc (.cells #[.string ⟨S.toArray⟩] RdT) := ⟨_, rfl⟩
  have hr0 : ReaderAt W w.heap.size S := by rw [hW]; exact (MapKept.heap_alloc w _).1
  have hb0 : Below w.heap.size w W := by rw [hW]; exact (Below.refl _ _).alloc (Nat.le_refl _) _
  rw [← hW] at RN
  have hn : unI S 4 = p.length := by rw [unI, hS, frame_take4, un4_be4 (by omega)]
  have hd4 : S.drop 4 = be4 (crcN p) ++ p := by rw [hS, frame_drop4]
  have F1 := Lib.hid (fixed4 W w.heap.size S (by omega) hr0)
  rw [hn, hd4] at F1
  have hn2 : unI (be4 (crcN p) ++ p) 4 = crcN p := by rw [unI, show (be4 (crcN p) ++ p).take 4 = be4 (crcN p) by simp [be4], un4_be4 (crcN_lt p)]
  have F2 : Hid (∀ w1, ReaderAt w1 w.heap.size (be4 (crcN p) ++ p) → Calls Try.prog 42 #[ptr w.heap.size, .int .i64 4] w1 fun e w' => e = .returned (.tuple #[.int .u64 ((crcN p : Nat) : Int), .int .i64 0]) ∧ ReaderAt w' w.heap.size p ∧ Turn [w.heap.size] w1 w') := Lib.hid (fun w1 h1 => by
    have := fixed4 w1 w.heap.size (be4 (crcN p) ++ p) (by simp [be4]) h1
    rw [hn2] at this
    have e : (be4 (crcN p) ++ p).drop 4 = p := by simp [be4]
    rwa [e] at this)
  have TK : Hid (∀ w2, ReaderAt w2 w.heap.size p → Calls Try.prog 35 #[ptr w.heap.size, .int .i64 (p.length : Int)] w2 fun e w' => e = .returned (.tuple #[.string ⟨p.toArray⟩, .int .i64 0]) ∧ ReaderAt w' w.heap.size [] ∧ Turn [w.heap.size] w2 w') := Lib.hid (fun w2 h2 => by
    have := take_ok w2 w.heap.size p p.length (Nat.le_refl _) h2
    rw [List.take_length, List.drop_length] at this
    exact this)
  have CR : Hid (∀ w3, Calls Try.prog 27 #[.string ((⟨S.toArray⟩ : ByteArray).extract 0 4)] w3 fun e w' => e = .returned (.int .u32 (onN 0 (be4 p.length))) ∧ Below w3.heap.size w3 w') := Lib.hid (fun w3 => by
    have := crc_any w3 ⟨(be4 p.length).toArray⟩ (by show (be4 p.length).length ≤ _; simp [be4]; unfold maxLen; omega)
    rw [ba_data] at this
    have e : (⟨S.toArray⟩ : ByteArray).extract 0 4 = ⟨(be4 p.length).toArray⟩ := by rw [extract_list, hS, List.drop_zero, frame_take4]
    rwa [e])
  have ON : Hid (∀ w4, Calls Try.prog 26 #[.int .u32 (onN 0 (be4 p.length)), .string ⟨p.toArray⟩] w4 fun e w' => e = .returned (.int .u32 ((crcN p : Nat) : Int)) ∧ Below w4.heap.size w4 w') := Lib.hid (fun w4 => by
    have := on_any w4 (onN 0 (be4 p.length)) ⟨p.toArray⟩ (by show p.length ≤ _; unfold maxLen; omega)
    rw [ba_data, ← crcN_eq] at this
    exact this)
  have hcl := crcN_lt p
  have hps : (⟨p.toArray⟩ : ByteArray).size = p.length := rfl
  have EX : Hid ((⟨S.toArray⟩ : ByteArray).extract (8 + p.length) (p.length + 8) = ⟨#[]⟩) := Lib.hid (by rw [extract_rest _ _ _ (by omega), List.drop_of_length_le (by omega)])
  generalize crcN p = c at *
  generalize onN 0 (be4 p.length) = c0 at *
  have HB0 := Lib.hid hb0
  have hwp : (p.length : Int) ≤ 67108864 := by omega
  have hw8 : (8 : Int) ≤ (p.length : Int) + 8 := by omega
  clear hS hSl hW hr0 hb0 hn hd4 hn2
  unfold ptr at *
  go_enter Try.func29, Try.ntmps29
  go_wp2_with (first
    | (go_at_call 30; refine RN.out.mono ?_; rintro e w0 ⟨rfl, rfl⟩)
    | (go_at_call 42; refine F1.out.mono ?_; rintro e w1 ⟨rfl, h1, t1⟩; have FF := Lib.hid (F2.out w1 h1); have T1 := Lib.hid t1; clear h1 t1 F1 F2)
    | (go_at_call 42; refine FF.out.mono ?_; rintro e w2 ⟨rfl, h2, t2⟩; have TT := Lib.hid (TK.out w2 h2); have T2 := Lib.hid t2; clear h2 t2 FF TK)
    | (go_at_call 35; refine TT.out.mono ?_; rintro e w3 ⟨rfl, h3, t3⟩; have T3 := Lib.hid t3; clear h3 t3 TT)
    | (go_at_call 27; refine (CR.out _).mono ?_; rintro e w4 ⟨rfl, b4⟩; have B4 := Lib.hid b4; clear b4 CR)
    | (go_at_call 26; refine (ON.out _).mono ?_; rintro e w5 ⟨rfl, b5⟩; have B5 := Lib.hid b5; clear b5 ON))
  go_region
  go_wp2
  go_ret3
  rw [EX.out]
  refine ⟨rfl, ?_⟩
  have b0 := T1.out
  have t3 : Turn [w.heap.size] w0 w3 := (T1.out.trans T2.out (by simp)).trans T3.out (by simp)
  have b3 : Below w.heap.size w0 w3 := t3.below (by simp) HB0.out.size
  have b03 := HB0.out.trans b3
  have b4 := b03.trans (B4.out.mono b03.size)
  exact (b4.trans (B5.out.mono b4.size)).drew
end Go.Proofs.Ytjfmboiokplngaa.Rf
