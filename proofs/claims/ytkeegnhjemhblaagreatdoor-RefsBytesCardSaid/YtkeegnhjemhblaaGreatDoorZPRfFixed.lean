import Derived.Test.YtkeegnhjemhblaaGreatDoorZPRfBack
import Derived.Test.YtkeegnhjemhblaaGreatDoorZPRdRRead
import Derived.Test.YtkeegnhjemhblaaGreatDoorZPRfCrc
import Derived.Test.YtkeegnhjemhblaaGreatDoorZPRfKit
import Derived.ProofKit
import Derived.Maps.AppendAt
import Derived.Laws.OwnMore
import Derived.Deep.CutBlock
set_option linter.unusedSimpArgs false
set_option linter.unusedVariables false
/-
  The contracts of the reader's Fixed at four bytes, and of Unframe at a whole frame.
-/
namespace Go.Proofs.YtkeegnhjemhblaaGreatDoor.Rf
open Go.RowKit Go.Maps Go.WideMaps

theorem orByte (acc : Nat) (b : UInt8) (h : acc < 16777216) : bits .or .u64 ((acc * 256 : Nat) : Int) (b.toNat : Int) = ((acc * 256 + b.toNat : Nat) : Int) := by
  have hb := b.toNat_lt
  rw [bits_or_u64_nat _ _ (by omega) (by omega)]
  have := Nat.two_pow_add_eq_or_of_lt (i := 8) (b := b.toNat) (by omega) acc
  rw [Nat.mul_comm acc 256, show (256 : Nat) = 2 ^ 8 from rfl, this]

/-- The number that the first bytes say. -/
def unI (L : List UInt8) (i : Nat) : Nat := un4 (L.take i)
theorem unI_step {L : List UInt8} {i : Nat} (h : i < L.length) : unI L (i + 1) = unI L i * 256 + (L[i]).toNat := by
  rw [unI, unI, un4, un4, List.take_add_one, List.foldl_append, List.getElem?_eq_getElem h]; rfl
theorem unI_lt (L : List UInt8) : ∀ i, unI L i < 256 ^ i
  | 0 => by simp [unI, un4]
  | i + 1 => by
    have ih := unI_lt L i
    by_cases h : i < L.length
    · rw [unI_step h, Nat.pow_succ]
      have := (L[i]).toNat_lt
      omega
    · have e : unI L (i + 1) = unI L i := by rw [unI, unI, List.take_of_length_le (by omega), List.take_of_length_le (by omega)]
      rw [e, Nat.pow_succ]; omega

set_option maxHeartbeats 4000000 in
set_option maxRecDepth 100000 in
theorem fixed1 (w : World) (a q : Nat) (L : List UInt8) (hL : 4 ≤ L.length) (ha : w.heap[a]? = some (.cells #[.int .i64 4] 3)) (hq : w.heap[q]? = some (.cells #[.int .u64 0] 73)) (hne : a ≠ q) :
    Calls Tryz.prog 142 #[.string ⟨L.toArray⟩, ptr a, ptr q] w fun e w' => e = .returned (.int .i64 4) ∧ w'.heap[q]? = some (.cells #[.int .u64 ((unI L 4 : Nat) : Int)] 73) ∧ Turn [q] w w' := by
  have c0 : w.cell? ⟨a, 0, none⟩ = some (.int .i64 4) := cell_of_heap ha
  have hs : (⟨L.toArray⟩ : ByteArray).size = L.length := rfl
  have hL' : (4 : Int) ≤ (L.length : Int) := by omega
  have hal : a < w.heap.size := lt_of_heap ha
  unfold ptr
  go_enter Tryz.func142, Tryz.ntmps142
  go_wp2
  go_loopw [11] (fun vi wr => ∃ i : Nat, i ≤ 4 ∧ vi = .int .i64 i ∧ wr.heap[q]? = some (.cells #[.int .u64 ((unI L i : Nat) : Int)] 73) ∧ Turn [q] w wr) (fun vi _ => 4 - (RowKit.intOf vi).toNat)
  case atStart => exact ⟨0, by omega, rfl, hq, Turn.refl _ _⟩
  case round =>
    obtain ⟨i, hi, rfl, hh, ht⟩ := hrel
    have c1 : wr.cell? ⟨q, 0, none⟩ = some (.int .u64 ((unI L i : Nat) : Int)) := cell_of_heap hh
    have f1 : wr.frozen? ⟨q, 0, none⟩ = false := frozen_of_heap hh
    have c2 : wr.cell? ⟨a, 0, none⟩ = some (.int .i64 4) := (World.cell?_of_block (a := ⟨a, 0, none⟩) (ht.block a hal (by simpa using hne))).trans c0
    by_cases hlt : (i : Int) < 4
    · have hil : i < L.length := by omega
      obtain ⟨b, hb⟩ : ∃ b, b = L[i] := ⟨_, rfl⟩
      have hidx : (⟨L.toArray⟩ : ByteArray)[i]'(by rw [hs]; exact hil) = b := hb.symm
      have hil' : (i : Int) < (L.length : Int) := by omega
      obtain ⟨acc, hacc⟩ : ∃ acc, acc = unI L i := ⟨_, rfl⟩
      have hal24 : acc < 16777216 := by
        rw [hacc]
        have h1 := unI_lt L i
        have h2 : 256 ^ i ≤ 256 ^ 3 := Nat.pow_le_pow_right (by decide) (by omega)
        omega
      have HST : Hid (unI L (i + 1) = acc * 256 + b.toNat) := Lib.hid (by rw [unI_step hil, hacc, hb])
      rw [← hacc] at c1
      have OR := Lib.hid (orByte acc b hal24)
      have HH := Lib.hid hh; have HT := Lib.hid ht
      clear hh ht hacc hb
      go_wp2
      go_region
      go_wp2
      rw [show IntKind.u64.wrap (b.toNat : Int) = (b.toNat : Int) by rw [IntKind.wrap_u64]; have := b.toNat_lt; omega, show (acc : Int) * 256 = ((acc * 256 : Nat) : Int) by omega, OR.out, ← HST.out]
      go_roundw
      case rel =>
        refine ⟨i + 1, by omega, by simp, ?_, ((HT.out.setCell (p := ⟨q, 0, none⟩) (.inl (by simp)) _).drew)⟩
        show (wr.setCell ⟨q, 0, none⟩ _).heap[q]? = _
        rw [setCell_heap _ _ _ _ _ _ HH.out]; rfl
      case measure => simp [RowKit.intOf]; omega
    · obtain rfl : i = 4 := by omega
      have HH := Lib.hid hh; have HT := Lib.hid ht
      clear hh ht
      go_wp2
      go_ret
      exact ⟨rfl, HH.out, HT.out⟩

set_option maxHeartbeats 4000000 in
set_option maxRecDepth 100000 in
theorem fixed4 (w : World) (q : Nat) (L : List UInt8) (hL : 4 ≤ L.length) (h : ReaderAt w q L) :
    Calls Tryz.prog 91 #[ptr q, .int .i64 4] w fun e w' => e = .returned (.tuple #[.int .u64 ((unI L 4 : Nat) : Int), .int .i64 0]) ∧ ReaderAt w' q (L.drop 4) ∧ Turn [q] w w' := by
  have c0 : w.cell? ⟨q, 0, none⟩ = some (.string ⟨L.toArray⟩) := cell_of_heap h
  have hq : q < w.heap.size := lt_of_heap h
  have hs : (⟨L.toArray⟩ : ByteArray).size = L.length := rfl
  have hL' : (4 : Int) ≤ (L.length : Int) := by omega
  obtain ⟨W, hW⟩ : ∃ W, W = (w.alloc (.cells #[.int .i64 4] 3)).alloc (.cells #[.int .u64 0] 73) := ⟨_, rfl⟩
  have hWs : W.heap.size = w.heap.size + 2 := by rw [hW, one_size, one_size]
  have hb0 : Below w.heap.size w W := by rw [hW]; exact ((Below.refl _ _).alloc (Nat.le_refl _) _).alloc (by rw [one_size]; omega) _
  have ha : W.heap[w.heap.size]? = some (.cells #[.int .i64 4] 3) := by
    rw [hW]; exact (Below.heap_alloc _ _ _ (by rw [one_size]; omega)).trans (MapKept.heap_alloc w _).1
  have hq6 : W.heap[w.heap.size + 1]? = some (.cells #[.int .u64 0] 73) := by
    rw [hW, ← one_size w (.cells #[.int .i64 4] 3)]; exact (MapKept.heap_alloc _ _).1
  have F1 := Lib.hid (fixed1 W w.heap.size (w.heap.size + 1) L hL ha hq6 (by omega))
  have hr : ReaderAt W q L := (hb0.block q hq).trans h
  have HR := Lib.hid hr; have HB0 := Lib.hid hb0; have HWW := Lib.hid hW
  clear hr hb0 ha hq6 hW
  unfold ptr at *
  go_enter Tryz.func91, Tryz.ntmps91
  go_wp2_with (first
    | (go_at_call 142
       rw [← HWW.out]
       refine F1.out.mono ?_
       rintro e w1 ⟨rfl, hn1, t1⟩
       have hr1 : ReaderAt w1 q L := (t1.block q (by omega) (by simp; omega)).trans HR.out
       have cr1 : w1.cell? ⟨q, 0, none⟩ = some (.string ⟨L.toArray⟩) := cell_of_heap hr1
       have fr1 : w1.frozen? ⟨q, 0, none⟩ = false := frozen_of_heap hr1
       have cn1 : w1.cell? ⟨w.heap.size + 1, 0, none⟩ = some (.int .u64 ((unI L 4 : Nat) : Int)) := cell_of_heap hn1
       have hne1 : ¬ q = w.heap.size + 1 := by omega
       have HR1 := Lib.hid hr1; have T1 := Lib.hid t1
       clear hr1 t1 hn1)
    | go_in)
  go_ret2
  rw [extract_rest _ _ _ (Nat.le_refl _)]
  have t0 : Turn [q] w w1 := ⟨T1.out.os.trans HB0.out.os, T1.out.tape.trans HB0.out.tape, T1.out.output.trans HB0.out.output, Nat.le_trans HB0.out.size T1.out.size, fun k hk _ => by
    rw [T1.out.block k (by omega) (by simp; omega), HB0.out.block k hk]⟩
  refine ⟨rfl, ?_, t0.setCell (.inl (by simp)) _⟩
  have hh := HR1.out
  unfold ReaderAt at hh ⊢
  rw [setCell_heap _ _ _ _ _ _ hh]; rfl

theorem frame_take4 (p : List UInt8) : (frameN p).take 4 = be4 p.length := by simp [frameN, be4]
theorem frame_drop4 (p : List UInt8) : (frameN p).drop 4 = be4 (crcN p) ++ p := by simp [frameN, be4]
theorem frame_length (p : List UInt8) : (frameN p).length = p.length + 8 := by simp [frameN, be4]

set_option maxHeartbeats 4000000 in
set_option maxRecDepth 100000 in
/-- A whole frame. -/
theorem unframe_ok (w : World) (p : List UInt8) (hp : p.length ≤ 67108864) :
    Calls Tryz.prog 31 #[.string ⟨(frameN p).toArray⟩] w fun e w' => e = .returned (.tuple #[.string ⟨p.toArray⟩, .string ⟨#[]⟩, .int .i64 0]) ∧ Below w.heap.size w w' := by
  obtain ⟨S, hS⟩ : ∃ S, S = frameN p := ⟨_, rfl⟩
  rw [← hS]
  have hSl : S.length = p.length + 8 := by rw [hS, frame_length]
  have hs : (⟨S.toArray⟩ : ByteArray).size = p.length + 8 := hSl
  have RN := Lib.hid (reader_new w S)
  obtain ⟨W, hW⟩ : ∃ W, W = w.alloc (.cells #[.string ⟨S.toArray⟩] RdT) := ⟨_, rfl⟩
  have hr0 : ReaderAt W w.heap.size S := by rw [hW]; exact (MapKept.heap_alloc w _).1
  have hb0 : Below w.heap.size w W := by rw [hW]; exact (Below.refl _ _).alloc (Nat.le_refl _) _
  rw [← hW] at RN
  have hn : unI S 4 = p.length := by rw [unI, hS, frame_take4, un4_be4 (by omega)]
  have hd4 : S.drop 4 = be4 (crcN p) ++ p := by rw [hS, frame_drop4]
  have F1 := Lib.hid (fixed4 W w.heap.size S (by omega) hr0)
  rw [hn, hd4] at F1
  have hn2 : unI (be4 (crcN p) ++ p) 4 = crcN p := by rw [unI, show (be4 (crcN p) ++ p).take 4 = be4 (crcN p) by simp [be4], un4_be4 (crcN_lt p)]
  have F2 : Hid (∀ w1, ReaderAt w1 w.heap.size (be4 (crcN p) ++ p) → Calls Tryz.prog 91 #[ptr w.heap.size, .int .i64 4] w1 fun e w' => e = .returned (.tuple #[.int .u64 ((crcN p : Nat) : Int), .int .i64 0]) ∧ ReaderAt w' w.heap.size p ∧ Turn [w.heap.size] w1 w') := Lib.hid (fun w1 h1 => by
    have := fixed4 w1 w.heap.size (be4 (crcN p) ++ p) (by simp [be4]) h1
    rw [hn2] at this
    have e : (be4 (crcN p) ++ p).drop 4 = p := by simp [be4]
    rwa [e] at this)
  have TK : Hid (∀ w2, ReaderAt w2 w.heap.size p → Calls Tryz.prog 37 #[ptr w.heap.size, .int .i64 (p.length : Int)] w2 fun e w' => e = .returned (.tuple #[.string ⟨p.toArray⟩, .int .i64 0]) ∧ ReaderAt w' w.heap.size [] ∧ Turn [w.heap.size] w2 w') := Lib.hid (fun w2 h2 => by
    have := take_ok w2 w.heap.size p p.length (Nat.le_refl _) h2
    rw [List.take_length, List.drop_length] at this
    exact this)
  have CR : Hid (∀ w3, Calls Tryz.prog 93 #[.string ((⟨S.toArray⟩ : ByteArray).extract 0 4)] w3 fun e w' => e = .returned (.int .u32 (onN 0 (be4 p.length))) ∧ Below w3.heap.size w3 w') := Lib.hid (fun w3 => by
    have := crc_any w3 ⟨(be4 p.length).toArray⟩ (by show (be4 p.length).length ≤ _; simp [be4]; unfold maxLen; omega)
    rw [ba_data] at this
    have e : (⟨S.toArray⟩ : ByteArray).extract 0 4 = ⟨(be4 p.length).toArray⟩ := by rw [extract_list, hS, List.drop_zero, frame_take4]
    rwa [e])
  have ON : Hid (∀ w4, Calls Tryz.prog 92 #[.int .u32 (onN 0 (be4 p.length)), .string ⟨p.toArray⟩] w4 fun e w' => e = .returned (.int .u32 ((crcN p : Nat) : Int)) ∧ Below w4.heap.size w4 w') := Lib.hid (fun w4 => by
    have := on_any w4 (onN 0 (be4 p.length)) ⟨p.toArray⟩ (by show p.length ≤ _; unfold maxLen; omega)
    rw [ba_data, ← crcN_eq] at this
    exact this)
  have hcl := crcN_lt p
  have hps : (⟨p.toArray⟩ : ByteArray).size = p.length := rfl
  have EX : Hid ((⟨S.toArray⟩ : ByteArray).extract (8 + p.length) (p.length + 8) = ⟨#[]⟩) := Lib.hid (by rw [extract_rest _ _ _ (by omega), List.drop_of_length_le (by omega)])
  generalize crcN p = c at *
  generalize onN 0 (be4 p.length) = c0 at *
  have HB0 := Lib.hid hb0
  have hwp : (p.length : Int) ≤ 67108864 := by omega
  have hw8 : (8 : Int) ≤ (p.length : Int) + 8 := by omega
  clear hS hSl hW hr0 hb0 hn hd4 hn2
  unfold ptr at *
  go_enter Tryz.func31, Tryz.ntmps31
  go_wp2_with (first
    | (go_at_call 32; refine RN.out.mono ?_; rintro e w0 ⟨rfl, rfl⟩)
    | (go_at_call 91; refine F1.out.mono ?_; rintro e w1 ⟨rfl, h1, t1⟩; have FF := Lib.hid (F2.out w1 h1); have T1 := Lib.hid t1; clear h1 t1 F1 F2)
    | (go_at_call 91; refine FF.out.mono ?_; rintro e w2 ⟨rfl, h2, t2⟩; have TT := Lib.hid (TK.out w2 h2); have T2 := Lib.hid t2; clear h2 t2 FF TK)
    | (go_at_call 37; refine TT.out.mono ?_; rintro e w3 ⟨rfl, h3, t3⟩; have T3 := Lib.hid t3; clear h3 t3 TT)
    | (go_at_call 93; refine (CR.out _).mono ?_; rintro e w4 ⟨rfl, b4⟩; have B4 := Lib.hid b4; clear b4 CR)
    | (go_at_call 92; refine (ON.out _).mono ?_; rintro e w5 ⟨rfl, b5⟩; have B5 := Lib.hid b5; clear b5 ON))
  go_region
  go_wp2
  go_ret3
  rw [EX.out]
  refine ⟨rfl, ?_⟩
  have b0 := T1.out
  have t3 : Turn [w.heap.size] w0 w3 := (T1.out.trans T2.out (by simp)).trans T3.out (by simp)
  have b3 : Below w.heap.size w0 w3 := t3.below (by simp) HB0.out.size
  have b03 := HB0.out.trans b3
  have b4 := b03.trans (B4.out.mono b03.size)
  exact (b4.trans (B5.out.mono b4.size)).drew
end Go.Proofs.YtkeegnhjemhblaaGreatDoor.Rf
/-
  The contract of the reference's reader's Fixed at four bytes, at any bytes.
-/
namespace Go.Proofs.YtkeegnhjemhblaaGreatDoor.Rd
open Go.RowKit Go.Maps Go.WideMaps Go.Proofs.YtkeegnhjemhblaaGreatDoor.Rf

set_option linter.unusedSimpArgs false in
set_option maxHeartbeats 4000000 in
set_option maxRecDepth 100000 in
theorem rfixed4_no (w : World) (q : Nat) (L : List UInt8) (hL : L.length < 4) (h : RReaderAt w q L) :
    Calls Tryz.prog 101 #[ptr q, .int .i64 4] w fun e w' => e = .returned (.tuple #[.int .u64 0, .int .i64 4]) ∧ w' = w := by
  have c0 : w.cell? ⟨q, 0, none⟩ = some (.string ⟨L.toArray⟩) := cell_of_heap h
  have hs : (⟨L.toArray⟩ : ByteArray).size = L.length := rfl
  have hL' : (L.length : Int) < 4 := by omega
  unfold ptr
  go_enter Tryz.func101, Tryz.ntmps101
  go_wp2
  go_ret2
  exact ⟨rfl, rfl⟩
set_option linter.unusedSimpArgs false in
set_option maxHeartbeats 4000000 in
set_option maxRecDepth 100000 in
theorem rfixed4_yes (w : World) (q : Nat) (L : List UInt8) (hL : 4 ≤ L.length) (h : RReaderAt w q L) :
    Calls Tryz.prog 101 #[ptr q, .int .i64 4] w fun e w' => e = .returned (.tuple #[.int .u64 ((unI L 4 : Nat) : Int), .int .i64 0]) ∧ RReaderAt w' q (L.drop 4) ∧ Turn [q] w w' := by
  have c0 : w.cell? ⟨q, 0, none⟩ = some (.string ⟨L.toArray⟩) := cell_of_heap h
  have f0 : w.frozen? ⟨q, 0, none⟩ = false := frozen_of_heap h
  have hs : (⟨L.toArray⟩ : ByteArray).size = L.length := rfl
  have hL' : (4 : Int) ≤ (L.length : Int) := by omega
  have hL2 : ¬ (L.length : Int) < 4 := by omega
  have H := Lib.hid h
  clear h
  unfold ptr
  go_enter Tryz.func101, Tryz.ntmps101
  go_wp2
  go_loopw [6, 7] (fun v6 v7 wr => ∃ i : Nat, i ≤ 4 ∧ v7 = .int .i64 (i : Int) ∧ v6 = .int .u64 ((unI L i : Nat) : Int) ∧ wr = w) (fun _ v7 _ => 4 - (RowKit.intOf v7).toNat)
  case atStart => exact ⟨0, by omega, rfl, rfl, rfl⟩
  case round =>
    obtain ⟨i, hi, rfl, rfl, rfl⟩ := hrel
    by_cases hlt : (i : Int) < 4
    · have hil : i < L.length := by omega
      have h0 : (0 : Int) ≤ (i : Int) := by omega
      obtain ⟨b, hb⟩ : ∃ b, b = L[i] := ⟨_, rfl⟩
      have hidx : (⟨L.toArray⟩ : ByteArray)[i]'(by rw [hs]; exact hil) = b := hb.symm
      have hil' : (i : Int) < (L.length : Int) := by omega
      obtain ⟨acc, hacc⟩ : ∃ acc, acc = unI L i := ⟨_, rfl⟩
      have hal24 : acc < 16777216 := by
        rw [hacc]
        have h1 := unI_lt L i
        have h2 : 256 ^ i ≤ 256 ^ 3 := Nat.pow_le_pow_right (by decide) (by omega)
        omega
      have HST : Hid (unI L (i + 1) = acc * 256 + b.toNat) := Lib.hid (by rw [unI_step hil, hacc, hb])
      have hbl := b.toNat_lt
      rw [← hacc]
      clear hacc hb
      go_wp2
      go_roundw
      case rel =>
        refine ⟨i + 1, by omega, by go_num, ?_, by first | trivial | rfl⟩
        rw [HST.out]
        first
          | done
          | (congr 1; done)
          | (congr 1; simp only [IntKind.wrap_u64]; omega)
          | (simp only [IntKind.wrap_u64]; congr 1; omega)
          | (go_simp; omega)
      case measure => simp [RowKit.intOf]; omega
    · obtain rfl : i = 4 := by omega
      have hex : (⟨L.toArray⟩ : ByteArray).extract 4 L.length = ⟨(L.drop 4).toArray⟩ := extract_rest _ _ _ (Nat.le_refl _)
      go_wp2
      go_ret2
      exact ⟨rfl, rreader_one H.out⟩
end Go.Proofs.YtkeegnhjemhblaaGreatDoor.Rd
/-
  The contracts of the program's Fixed at four bytes and Unframe, at any bytes.
-/
set_option linter.unusedSimpArgs false
namespace Go.Proofs.YtkeegnhjemhblaaGreatDoor.Rd
open Go.RowKit Go.Maps Go.WideMaps Go.Proofs.YtkeegnhjemhblaaGreatDoor.Rf

set_option maxHeartbeats 4000000 in
set_option maxRecDepth 100000 in
theorem fixed1_no (w : World) (a q : Nat) (L : List UInt8) (hL : L.length < 4) (ha : w.heap[a]? = some (.cells #[.int .i64 4] 3)) :
    Calls Tryz.prog 142 #[.string ⟨L.toArray⟩, ptr a, ptr q] w fun e w' => e = .returned (.int .i64 4) ∧ w' = w := by
  have c0 : w.cell? ⟨a, 0, none⟩ = some (.int .i64 4) := cell_of_heap ha
  have hs : (⟨L.toArray⟩ : ByteArray).size = L.length := rfl
  have hL' : ¬ (4 : Int) ≤ (L.length : Int) := by omega
  unfold ptr
  go_enter Tryz.func142, Tryz.ntmps142
  go_wp2
  go_ret
  exact ⟨rfl, rfl⟩
def fxN (L : List UInt8) : Nat := if 4 ≤ L.length then unI L 4 else 0
def fxE (L : List UInt8) : Int := if 4 ≤ L.length then 0 else 4
def fxR (L : List UInt8) : List UInt8 := if 4 ≤ L.length then L.drop 4 else L
set_option maxHeartbeats 4000000 in
set_option maxRecDepth 100000 in
theorem fixed4_any (w : World) (q : Nat) (L : List UInt8) (h : ReaderAt w q L) :
    Calls Tryz.prog 91 #[ptr q, .int .i64 4] w fun e w' => e = .returned (.tuple #[.int .u64 (fxN L : Int), .int .i64 (fxE L)]) ∧ ReaderAt w' q (fxR L) ∧ Turn [q] w w' := by
  by_cases hL : 4 ≤ L.length
  · rw [fxN, fxE, fxR, if_pos hL, if_pos hL, if_pos hL]
    exact fixed4 w q L hL h
  · rw [fxN, fxE, fxR, if_neg hL, if_neg hL, if_neg hL]
    have c0 : w.cell? ⟨q, 0, none⟩ = some (.string ⟨L.toArray⟩) := cell_of_heap h
    have hq : q < w.heap.size := lt_of_heap h
    have hs : (⟨L.toArray⟩ : ByteArray).size = L.length := rfl
    have hL' : (L.length : Int) < 4 := by omega
    obtain ⟨W, hW⟩ : ∃ W, W = (w.alloc (.cells #[.int .i64 4] 3)).alloc (.cells #[.int .u64 0] 73) := ⟨_, rfl⟩
    have hWs : W.heap.size = w.heap.size + 2 := by rw [hW, one_size, one_size]
    have hb0 : Below w.heap.size w W := by rw [hW]; exact ((Below.refl _ _).alloc (Nat.le_refl _) _).alloc (by rw [one_size]; omega) _
    have ha : W.heap[w.heap.size]? = some (.cells #[.int .i64 4] 3) := by
      rw [hW]; exact (Below.heap_alloc _ _ _ (by rw [one_size]; omega)).trans (MapKept.heap_alloc w _).1
    have hq6 : W.heap[w.heap.size + 1]? = some (.cells #[.int .u64 0] 73) := by
      rw [hW, ← one_size w (.cells #[.int .i64 4] 3)]; exact (MapKept.heap_alloc _ _).1
    have F1 := Lib.hid (fixed1_no W w.heap.size (w.heap.size + 1) L (by omega) ha)
    have hr : ReaderAt W q L := (hb0.block q hq).trans h
    have cr1 : W.cell? ⟨q, 0, none⟩ = some (.string ⟨L.toArray⟩) := cell_of_heap hr
    have cn1 : W.cell? ⟨w.heap.size + 1, 0, none⟩ = some (.int .u64 0) := cell_of_heap hq6
    have HR := Lib.hid hr; have HB0 := Lib.hid hb0; have HWW := Lib.hid hW
    clear hr hb0 ha hq6 hW hL
    unfold ptr at *
    go_enter Tryz.func91, Tryz.ntmps91
    go_wp2_with (first
      | (go_at_call 142
         rw [← HWW.out]
         refine F1.out.mono ?_
         rintro e w1 ⟨rfl, rfl⟩)
      | go_in)
    go_ret2
    exact ⟨rfl, HR.out, Turn.of_below HB0.out⟩
/-- The frame at the front: its payload, what is left. -/
def crcU (a p : List UInt8) : Nat := (onN (onN 0 a) p).toNat
theorem crcU_eq (a p : List UInt8) : ((crcU a p : Nat) : Int) = onN (onN 0 a) p := by
  have := onN_range (onN 0 a) p
  rw [crcU]; omega
theorem crcU_lt (a p : List UInt8) : crcU a p < 4294967296 := by
  have := onN_range (onN 0 a) p
  rw [crcU]; omega
def unfr (s : List UInt8) : Option (List UInt8 × List UInt8) :=
  if s.length < 8 then none else if 67108864 < unI s 4 then none else if s.length - 8 < unI s 4 then none
  else if crcU (s.take 4) ((s.drop 8).take (unI s 4)) = unI (s.drop 4) 4 then some ((s.drop 8).take (unI s 4), s.drop (8 + unI s 4)) else none
def unP (s : List UInt8) : List UInt8 := match unfr s with | some p => p.1 | none => []
def unR (s : List UInt8) : List UInt8 := match unfr s with | some p => p.2 | none => []
def unC (s : List UInt8) : Int := if (unfr s).isSome then 0 else 4
theorem un_none {s : List UInt8} (h : unfr s = none) : unP s = [] ∧ unR s = [] ∧ unC s = 4 := by
  rw [unP, unR, unC, h]; exact ⟨rfl, rfl, rfl⟩
theorem un_some {s p r : List UInt8} (h : unfr s = some (p, r)) : unP s = p ∧ unR s = r ∧ unC s = 0 := by
  rw [unP, unR, unC, h]; exact ⟨rfl, rfl, rfl⟩
set_option maxHeartbeats 8000000 in
set_option maxRecDepth 100000 in
theorem unframe_any (w : World) (S : List UInt8) (hS : S.length ≤ 140737488355328) :
    Calls Tryz.prog 31 #[.string ⟨S.toArray⟩] w fun e w' => e = .returned (.tuple #[.string ⟨(unP S).toArray⟩, .string ⟨(unR S).toArray⟩, .int .i64 (unC S)]) ∧ Below w.heap.size w w' := by
  have RN := Lib.hid (reader_new w S)
  obtain ⟨W, hW⟩ : ∃ W, W = w.alloc (.cells #[.string ⟨S.toArray⟩] RdT) := ⟨_, rfl⟩
  have hr0 : ReaderAt W w.heap.size S := by rw [hW]; exact (MapKept.heap_alloc w _).1
  have hb0 : Below w.heap.size w W := by rw [hW]; exact (Below.refl _ _).alloc (Nat.le_refl _) _
  rw [← hW] at RN
  have F1 := Lib.hid (fixed4_any W w.heap.size S hr0)
  have F2 : Hid (∀ w1, ReaderAt w1 w.heap.size (fxR S) → Calls Tryz.prog 91 #[ptr w.heap.size, .int .i64 4] w1 fun e w' => e = .returned (.tuple #[.int .u64 (fxN (fxR S) : Int), .int .i64 (fxE (fxR S))]) ∧ ReaderAt w' w.heap.size (fxR (fxR S)) ∧ Turn [w.heap.size] w1 w') := Lib.hid (fun w1 h1 => fixed4_any w1 w.heap.size (fxR S) h1)
  have hs : (⟨S.toArray⟩ : ByteArray).size = S.length := rfl
  have HB0 := Lib.hid hb0
  clear hW hr0 hb0
  by_cases hl : S.length < 8
  · have HU := Lib.hid (un_none (s := S) (by rw [unfr, if_pos hl]))
    have hl8 : (S.length : Int) < 8 := by omega
    clear hl
    generalize fxN S = n1 at *
    generalize fxE S = e1 at *
    generalize fxN (fxR S) = n2 at *
    generalize fxE (fxR S) = e2 at *
    unfold ptr at *
    go_enter Tryz.func31, Tryz.ntmps31
    go_wp2_with (first
      | (go_at_call 32; refine RN.out.mono ?_; rintro e w0 ⟨rfl, rfl⟩)
      | (go_at_call 91; refine F1.out.mono ?_; rintro e w1 ⟨rfl, h1, t1⟩; have FF := Lib.hid (F2.out w1 h1); have T1 := Lib.hid t1; clear h1 t1 F1 F2)
      | (go_at_call 91; refine FF.out.mono ?_; rintro e w2 ⟨rfl, h2, t2⟩; have T2 := Lib.hid t2; clear h2 t2 FF))
    go_ret3
    rw [HU.out.1, HU.out.2.1, HU.out.2.2]
    exact ⟨rfl, HB0.out.trans ((T1.out.trans T2.out (by simp)).below (by simp) HB0.out.size)⟩
  · have e1 : fxR S = S.drop 4 := by rw [fxR, if_pos (by omega)]
    have e2 : fxN S = unI S 4 := by rw [fxN, if_pos (by omega)]
    have e3 : fxN (S.drop 4) = unI (S.drop 4) 4 := by rw [fxN, if_pos (by rw [List.length_drop]; omega)]
    have e4 : fxR (S.drop 4) = S.drop 8 := by rw [fxR, if_pos (by rw [List.length_drop]; omega), List.drop_drop]
    rw [e2] at F1
    rw [e1] at F1 F2
    rw [e3, e4] at F2
    obtain ⟨n, hn⟩ : ∃ n, n = unI S 4 := ⟨_, rfl⟩
    obtain ⟨c, hc⟩ : ∃ c, c = unI (S.drop 4) 4 := ⟨_, rfl⟩
    have hnl : n < 4294967296 := by rw [hn]; exact unI_lt S 4
    have hcl : c < 4294967296 := by rw [hc]; exact unI_lt _ 4
    rw [← hn] at F1
    rw [← hc] at F2
    have hl8 : ¬ (S.length : Int) < 8 := by omega
    have HL8 : Hid (¬ S.length < 8) := Lib.hid hl
    have HN := Lib.hid hn; have HC := Lib.hid hc
    clear e1 e2 e3 e4 hl hn hc
    generalize fxE S = e1 at *
    generalize fxE (S.drop 4) = e2 at *
    by_cases hbig : 67108864 < n
    · have HU := Lib.hid (un_none (s := S) (by rw [unfr, if_neg HL8.out, if_pos (by rw [← HN.out]; exact hbig)]))
      have hb2 : (67108864 : Int) < (n : Int) := by omega
      clear hbig
      unfold ptr at *
      go_enter Tryz.func31, Tryz.ntmps31
      go_wp2_with (first
        | (go_at_call 32; refine RN.out.mono ?_; rintro e w0 ⟨rfl, rfl⟩)
        | (go_at_call 91; refine F1.out.mono ?_; rintro e w1 ⟨rfl, h1, t1⟩; have FF := Lib.hid (F2.out w1 h1); have T1 := Lib.hid t1; clear h1 t1 F1 F2)
        | (go_at_call 91; refine FF.out.mono ?_; rintro e w2 ⟨rfl, h2, t2⟩; have T2 := Lib.hid t2; clear h2 t2 FF))
      go_ret3
      rw [HU.out.1, HU.out.2.1, HU.out.2.2]
      exact ⟨rfl, HB0.out.trans ((T1.out.trans T2.out (by simp)).below (by simp) HB0.out.size)⟩
    · have hb2 : ¬ (67108864 : Int) < (n : Int) := by omega
      have TK : Hid (∀ w2, ReaderAt w2 w.heap.size (S.drop 8) → Calls Tryz.prog 37 #[ptr w.heap.size, .int .i64 (n : Int)] w2 fun e w' => e = .returned (.tuple #[.string ⟨(tkT n (S.drop 8)).toArray⟩, .int .i64 (tkE n (S.drop 8))]) ∧ ReaderAt w' w.heap.size (tkR n (S.drop 8)) ∧ Turn [w.heap.size] w2 w') := Lib.hid (fun w2 h2 => take_any w2 w.heap.size (S.drop 8) n (by omega) h2)
      have hwn : wrap64 (n : Int) = (n : Int) := by unfold wrap64; omega
      by_cases hlong : S.length - 8 < n
      · have HU := Lib.hid (un_none (s := S) (by rw [unfr, if_neg HL8.out, if_neg (by rw [← HN.out]; exact hbig), if_pos (by rw [← HN.out]; exact hlong)]))
        have et : tkE n (S.drop 8) = 4 := by rw [tkE, if_neg (by rw [List.length_drop]; omega)]
        rw [et] at TK
        clear hbig hlong et
        generalize tkT n (S.drop 8) = T at *
        unfold ptr at *
        go_enter Tryz.func31, Tryz.ntmps31
        go_wp2_with (first
          | (go_at_call 32; refine RN.out.mono ?_; rintro e w0 ⟨rfl, rfl⟩)
          | (go_at_call 91; refine F1.out.mono ?_; rintro e w1 ⟨rfl, h1, t1⟩; have FF := Lib.hid (F2.out w1 h1); have T1 := Lib.hid t1; clear h1 t1 F1 F2)
          | (go_at_call 91; refine FF.out.mono ?_; rintro e w2 ⟨rfl, h2, t2⟩; have TT := Lib.hid (TK.out w2 h2); have T2 := Lib.hid t2; clear h2 t2 FF TK)
          | (go_at_call 37; refine TT.out.mono ?_; rintro e w3 ⟨rfl, h3, t3⟩; have T3 := Lib.hid t3; clear h3 t3 TT))
        go_ret3
        rw [HU.out.1, HU.out.2.1, HU.out.2.2]
        exact ⟨rfl, HB0.out.trans (((T1.out.trans T2.out (by simp)).trans T3.out (by simp)).below (by simp) HB0.out.size)⟩
      · have et : tkE n (S.drop 8) = 0 := by rw [tkE, if_pos (by rw [List.length_drop]; omega)]
        have et2 : tkT n (S.drop 8) = (S.drop 8).take n := by rw [tkT, if_pos (by rw [List.length_drop]; omega)]
        rw [et, et2] at TK
        have HU0 : Hid (unfr S = if crcU (S.take 4) ((S.drop 8).take n) = c then some ((S.drop 8).take n, S.drop (8 + n)) else none) := Lib.hid (by
          rw [unfr, if_neg HL8.out, if_neg (by rw [← HN.out]; exact hbig), if_neg (by rw [← HN.out]; exact hlong), ← HN.out, ← HC.out])
        obtain ⟨p, hp⟩ : ∃ p, p = (S.drop 8).take n := ⟨_, rfl⟩
        have hpl : p.length = n := by rw [hp, List.length_take, List.length_drop]; omega
        rw [← hp] at TK HU0
        have CR : Hid (∀ w3, Calls Tryz.prog 93 #[.string ((⟨S.toArray⟩ : ByteArray).extract 0 4)] w3 fun e w' => e = .returned (.int .u32 (onN 0 (S.take 4))) ∧ Below w3.heap.size w3 w') := Lib.hid (fun w3 => by
          have := crc_any w3 ⟨(S.take 4).toArray⟩ (by show (S.take 4).length ≤ _; rw [List.length_take]; unfold maxLen; omega)
          rw [ba_data] at this
          have e : (⟨S.toArray⟩ : ByteArray).extract 0 4 = ⟨(S.take 4).toArray⟩ := by rw [extract_list, List.drop_zero]
          rwa [e])
        have ON : Hid (∀ w4, Calls Tryz.prog 92 #[.int .u32 (onN 0 (S.take 4)), .string ⟨p.toArray⟩] w4 fun e w' => e = .returned (.int .u32 ((crcU (S.take 4) p : Nat) : Int)) ∧ Below w4.heap.size w4 w') := Lib.hid (fun w4 => by
          have := on_any w4 (onN 0 (S.take 4)) ⟨p.toArray⟩ (by show p.length ≤ _; unfold maxLen; omega)
          rw [ba_data, ← crcU_eq] at this
          exact this)
        have hul := crcU_lt (S.take 4) p
        have hps : (⟨p.toArray⟩ : ByteArray).size = n := hpl
        have hll : n + 8 ≤ S.length := by have := HL8.out; omega
        have EX : Hid ((⟨S.toArray⟩ : ByteArray).extract (8 + n) S.length = ⟨(S.drop (8 + n)).toArray⟩) := Lib.hid (extract_rest _ _ _ (Nat.le_refl _))
        generalize crcU (S.take 4) p = u at *
        generalize onN 0 (S.take 4) = c0 at *
        have h4l : (4 : Int) ≤ (S.length : Int) := by omega
        have hw8 : (8 : Int) + (n : Int) ≤ (S.length : Int) := by omega
        have h80 : (0 : Int) ≤ 8 + (n : Int) := by omega
        clear hbig hlong et et2 hp hpl
        by_cases huc : u = c
        · have HU := Lib.hid (un_some (s := S) (by rw [HU0.out, if_pos huc]))
          subst huc
          unfold ptr at *
          go_enter Tryz.func31, Tryz.ntmps31
          go_wp2_with (first
            | (go_at_call 32; refine RN.out.mono ?_; rintro e w0 ⟨rfl, rfl⟩)
            | (go_at_call 91; refine F1.out.mono ?_; rintro e w1 ⟨rfl, h1, t1⟩; have FF := Lib.hid (F2.out w1 h1); have T1 := Lib.hid t1; clear h1 t1 F1 F2)
            | (go_at_call 91; refine FF.out.mono ?_; rintro e w2 ⟨rfl, h2, t2⟩; have TT := Lib.hid (TK.out w2 h2); have T2 := Lib.hid t2; clear h2 t2 FF TK)
            | (go_at_call 37; refine TT.out.mono ?_; rintro e w3 ⟨rfl, h3, t3⟩; have T3 := Lib.hid t3; clear h3 t3 TT)
            | (go_at_call 93; refine (CR.out _).mono ?_; rintro e w4 ⟨rfl, b4⟩; have B4 := Lib.hid b4; clear b4 CR)
            | (go_at_call 92; refine (ON.out _).mono ?_; rintro e w5 ⟨rfl, b5⟩; have B5 := Lib.hid b5; clear b5 ON))
          go_region
          go_wp2
          go_ret3
          rw [EX.out, HU.out.1, HU.out.2.1, HU.out.2.2]
          refine ⟨rfl, ?_⟩
          have b03 := HB0.out.trans (((T1.out.trans T2.out (by simp)).trans T3.out (by simp)).below (by simp) HB0.out.size)
          have b4 := b03.trans (B4.out.mono b03.size)
          exact (b4.trans (B5.out.mono b4.size)).drew
        · have HU := Lib.hid (un_none (s := S) (by rw [HU0.out, if_neg huc]))
          have hne : ¬ (u : Int) = (c : Int) := by omega
          have hnb : ((u : Int) == (c : Int)) = false := by simp; omega
          clear huc
          unfold ptr at *
          go_enter Tryz.func31, Tryz.ntmps31
          go_wp2_with (first
            | (go_at_call 32; refine RN.out.mono ?_; rintro e w0 ⟨rfl, rfl⟩)
            | (go_at_call 91; refine F1.out.mono ?_; rintro e w1 ⟨rfl, h1, t1⟩; have FF := Lib.hid (F2.out w1 h1); have T1 := Lib.hid t1; clear h1 t1 F1 F2)
            | (go_at_call 91; refine FF.out.mono ?_; rintro e w2 ⟨rfl, h2, t2⟩; have TT := Lib.hid (TK.out w2 h2); have T2 := Lib.hid t2; clear h2 t2 FF TK)
            | (go_at_call 37; refine TT.out.mono ?_; rintro e w3 ⟨rfl, h3, t3⟩; have T3 := Lib.hid t3; clear h3 t3 TT)
            | (go_at_call 93; refine (CR.out _).mono ?_; rintro e w4 ⟨rfl, b4⟩; have B4 := Lib.hid b4; clear b4 CR)
            | (go_at_call 92; refine (ON.out _).mono ?_; rintro e w5 ⟨rfl, b5⟩; have B5 := Lib.hid b5; clear b5 ON))
          go_ret3
          rw [HU.out.1, HU.out.2.1, HU.out.2.2]
          refine ⟨rfl, ?_⟩
          have b03 := HB0.out.trans (((T1.out.trans T2.out (by simp)).trans T3.out (by simp)).below (by simp) HB0.out.size)
          have b4 := b03.trans (B4.out.mono b03.size)
          exact b4.trans (B5.out.mono b4.size)
end Go.Proofs.YtkeegnhjemhblaaGreatDoor.Rd
/-
  Rows of n cells an element, in general: append, rows of none and of one, fronts and backs.
-/
set_option linter.unusedSimpArgs false
set_option linter.unusedVariables false
namespace Go.Proofs.YtkeegnhjemhblaaGreatDoor.Rb
open Go.RowKit Go.Maps Go.WideMaps Go.Proofs.YtkeegnhjemhblaaGreatDoor.Rf

theorem one_size (w : World) (A : Obj) : (w.alloc A).heap.size = w.heap.size + 1 := by show (w.heap.push _).size = _; simp
theorem addr_block (a : Addr) (n : Nat) : (a.add n).block = a.block := by unfold Addr.add; split <;> rfl
theorem fold_set (cs : List Value) : ∀ (k : Nat) (acc : Array Value), acc.size = k + cs.length → (cs.zipIdx k).foldl (fun a p => a.setIfInBounds p.2 p.1) acc = (acc.toList.take k ++ cs).toArray := by
  induction cs with
  | nil => intro k acc h; simp at h; simp; rw [List.take_of_length_le (by simp; omega)]
  | cons c r ih =>
    intro k acc h
    rw [List.zipIdx_cons, List.foldl_cons, ih (k + 1) _ (by simp at h ⊢; omega)]
    congr 1
    have hk : k < acc.toList.length := by simp at h ⊢; omega
    simp only [Array.toList_setIfInBounds]
    rw [List.take_add_one, List.take_set_of_le (Nat.le_refl _)]
    simp at hk
    simp [hk]
section
variable {P : Program}
theorem run_buildOneN (size : Nat) (hp0 : 0 < size) (hp1 : ¬ 16777216 < size) (w : World) (t e : TypeId) (i : TypeInfo) (z : Value) (cs : List Value) (ht : P.underlying t = some (.slice e)) (hi : P.info? e = some i) (hz : i.zero = some z) (hs : i.size = size) (hl : cs.length = size) :
    (Instr.buildSlice t 1 #[(0, .agg cs.toArray)]).run P w = .ok (.slice (some ⟨w.heap.size, 0, none⟩) 1 1) (w.alloc (.cells cs.toArray e)) := by
  simp [Instr.buildSlice, run_underlying ht, sizeOf, typeInfo, hi, hs, zeroValue, hz, Instr.fill, Value.cells, hl]
  rw [if_neg hp1, if_neg (by omega), fold_set cs 0 _ (by simp [hl])]
  simp [newRow, Result.andThen]
theorem wp_oneN (size : Nat) (hp0 : 0 < size) (hp1 : ¬ 16777216 < size) {o : Oper} {a : Act} {w : World} {K : Act → World → Prop} {Q : Exit → Act → World → Prop} (t e : TypeId) (x : Operand) (cs : List Value) (i : TypeInfo) (z : Value) (ho : o.op = .buildSlice t 1 #[(0, x)]) (hx : a.eval x = .agg cs.toArray)
    (ht : P.underlying t = some (.slice e)) (hi : P.info? e = some i) (hz : i.zero = some z) (hs : i.size = size) (hl : cs.length = size)
    (h : K (a.put o.dst (.slice (some ⟨w.heap.size, 0, none⟩) 1 1)) (w.alloc (.cells cs.toArray e))) : o.wp P a w K Q := by
  have hrun := run_buildOneN size hp0 hp1 w t e i z cs ht hi hz hs hl
  unfold Oper.wp
  have hp : (#[(0, x)] : Array (Nat × Operand)).map (fun p => (p.1, a.eval p.2)) = #[(0, .agg cs.toArray)] := by simp [hx]
  simp [execOp, ho, hx, hrun, Result.andThen]
  exact h
end

/-- A slice value that holds cells. -/
def HoldN (w : World) (x : Value) (m : Nat) (cs : List Value) : Prop :=
  (∃ a c, x = .slice (some a) m c ∧ ∀ (j : Nat) u, cs[j]? = some u → w.cell? (a.add j) = some u) ∨ (∃ c, x = .slice none 0 c ∧ m = 0 ∧ cs = [])
theorem HoldN.kept {w w' : World} {x : Value} {m : Nat} {cs : List Value} (h : HoldN w x m cs) (hb : ∀ a c, x = .slice (some a) m c → cs ≠ [] → w'.heap[a.block]? = w.heap[a.block]?) : HoldN w' x m cs := by
  rcases h with ⟨a, c, rfl, hc⟩ | h
  · refine .inl ⟨a, c, rfl, fun j u hj => (World.cell?_of_block (by rw [addr_block]; exact hb a c rfl (by rintro rfl; cases hj))).trans (hc j u hj)⟩
  · exact .inr h
section
variable {P : Program}
theorem run_append_holdN (size : Nat) (hpos : 0 < size) {w : World} (base : Nat) (t ty e : TypeId) (i : TypeInfo) (z : Value) (bytes : Nat) (ht : P.underlying t = some (.slice e)) (hi : P.info? e = some i) (hz : i.zero = some z)
    (hsize : i.size = size) (hby : i.bytes = bytes) (hzs : z.cells.size = size) (v : Value) (n : Nat) (xs : List Value) (hown : w.ownsRow base e size v n xs)
    (x : Value) (m : Nat) (cs : List Value) (hx : HoldN w x m cs) (hl : cs.length = m * size) (h1 : ∀ u ∈ cs, u.oneCell' = true) (h63 : n + m ≤ maxLen) (hbytes : (n + m) * bytes ≤ 140737488355328) (hbase : base ≤ w.heap.size) :
    ∃ v' w', (Builtin.append_ #[t, t] ty #[v, x]).run P w = .ok v' w' ∧ w'.ownsRow base e size v' (n + m) (xs ++ cs) ∧ w.grownBy w' v.ownBlock ∧ (v'.ownBlock = v.ownBlock ∨ v'.ownBlock = some w.heap.size) := by
  rcases hx with ⟨a, c, rfl, hc⟩ | ⟨c, rfl, rfl, rfl⟩
  · obtain ⟨v', w', h1, h2, h3, _, h5⟩ := run_append_own_at (P := P) w base t ty e i z size bytes ht hi hz hsize hby hzs hpos v n xs hown a m c cs hl hc h1 h63 hbytes hbase
    exact ⟨v', w', h1, h2, h3, h5⟩
  · refine ⟨v, w, ?_, by simpa using hown, ⟨rfl, rfl, rfl, Nat.le_refl _, fun _ _ _ => rfl⟩, .inl rfl⟩
    rcases hown.2 with ⟨rfl, rfl⟩ | ⟨g, cap, cur, rfl, _, _, hnc, _⟩
    · simp [Builtin.append_, run_underlying ht, sizeOf, typeInfo, hi, Builtin.lenOf, Builtin.firstCells]
    · simp [Builtin.append_, run_underlying ht, sizeOf, typeInfo, hi, Builtin.lenOf, Builtin.firstCells, hnc, storeCells]
theorem wp_append_holdN (size : Nat) (hpos : 0 < size) {o : Oper} {a : Act} {w : World} {K : Act → World → Prop} {Q : Exit → Act → World → Prop} (s x : Operand) (t : TypeId) (ho : o.op = .call { callee := .builtin .append, args := #[s, x], argTypes := #[t, t] })
    (base : Nat) (e : TypeId) (i : TypeInfo) (z : Value) (bytes : Nat) (ht : P.underlying t = some (.slice e)) (hi : P.info? e = some i) (hz : i.zero = some z)
    (hsize : i.size = size) (hby : i.bytes = bytes) (hzs : z.cells.size = size) (v : Value) (n : Nat) (xs : List Value) (hs : a.eval s = v) (hown : w.ownsRow base e size v n xs)
    (xv : Value) (m : Nat) (cs : List Value) (hxv : a.eval x = xv) (hx : HoldN w xv m cs) (hl : cs.length = m * size) (h1 : ∀ u ∈ cs, u.oneCell' = true) (h63 : n + m ≤ maxLen) (hbytes : (n + m) * bytes ≤ 140737488355328) (hbase : base ≤ w.heap.size)
    (h : ∀ v' w', w'.ownsRow base e size v' (n + m) (xs ++ cs) → w.grownBy w' v.ownBlock → (v'.ownBlock = v.ownBlock ∨ v'.ownBlock = some w.heap.size) → K (a.put o.dst v') w') : o.wp P a w K Q := by
  obtain ⟨v', w', hr, h2, h3, h4⟩ := run_append_holdN (P := P) size hpos base t o.type e i z bytes ht hi hz hsize hby hzs v n xs hown xv m cs hx hl h1 h63 hbytes hbase
  unfold Oper.wp execOp
  simp only [ho, resolve, invoke, builtin, Sem.run_bind, Sem.run_pure, Result.andThen_ok, List.map_toArray, List.map_cons, List.map_nil, hs, hxv, hr]
  exact h v' w' h2 h3 h4
theorem run_buildNoneN (size : Nat) (w : World) (t e : TypeId) (i : TypeInfo) (z : Value) (ht : P.underlying t = some (.slice e)) (hi : P.info? e = some i) (hz : i.zero = some z) (hs : i.size = size) :
    (Instr.buildSlice t 0 #[]).run P w = .ok (.slice (some ⟨w.heap.size, 0, none⟩) 0 0) (w.alloc (.cells #[] e)) := by
  simp [Instr.buildSlice, run_underlying ht, sizeOf, typeInfo, hi, hs, zeroValue, hz, Instr.fill, newRow, Result.andThen]
  have hr0 : Array.range 0 = #[] := by simp [Array.range]
  rw [hr0]; simp
theorem own_noneN (size : Nat) (w : World) (e : TypeId) : (w.alloc (.cells #[] e)).ownsRow w.heap.size e size (.slice (some ⟨w.heap.size, 0, none⟩) 0 0) 0 [] :=
  World.ownsRow_lit w #[] 0 (Nat.le_refl _) (Nat.zero_le _) (by simp)
theorem wp_noneN (size : Nat) {o : Oper} {a : Act} {w : World} {K : Act → World → Prop} {Q : Exit → Act → World → Prop} (t e : TypeId) (i : TypeInfo) (z : Value) (ho : o.op = .buildSlice t 0 #[]) (ht : P.underlying t = some (.slice e)) (hi : P.info? e = some i) (hz : i.zero = some z) (hs : i.size = size)
    (h : ∀ x w2, w2.ownsRow w.heap.size e size x 0 [] → w.grownBy w2 none → (∀ b, x.ownBlock = some b → b = w.heap.size) → K (a.put o.dst x) w2) : o.wp P a w K Q := by
  have hrun := run_buildNoneN size w t e i z ht hi hz hs
  have h2 := h _ _ (own_noneN size w e) (World.grownBy_alloc w _ _) (fun b hb => by simpa [Value.ownBlock] using hb.symm)
  unfold Oper.wp
  simp [execOp, ho, hrun, Result.andThen]
  exact h2
theorem wp_oneH (size : Nat) (hp0 : 0 < size) (hp1 : ¬ 16777216 < size) {o : Oper} {a : Act} {w : World} {K : Act → World → Prop} {Q : Exit → Act → World → Prop} (t e : TypeId) (x : Operand) (cs : List Value) (i : TypeInfo) (z : Value) (ho : o.op = .buildSlice t 1 #[(0, x)]) (hx : a.eval x = .agg cs.toArray)
    (ht : P.underlying t = some (.slice e)) (hi : P.info? e = some i) (hz : i.zero = some z) (hs : i.size = size) (hl : cs.length = size)
    (h : ∀ y w2, HoldN w2 y 1 cs → w.grownBy w2 none → (∀ ad c, y = .slice (some ad) 1 c → ad.block = w.heap.size) → w.heap.size < w2.heap.size → K (a.put o.dst y) w2) : o.wp P a w K Q := by
  refine wp_oneN size hp0 hp1 t e x cs i z ho hx ht hi hz hs hl (h _ _ (.inl ⟨⟨w.heap.size, 0, none⟩, 1, rfl, fun j u hj => ?_⟩) (World.grownBy_alloc w _ _) (fun ad c e => by injection e with e1; injection e1 with e1; rw [← e1]) (by rw [one_size]; omega))
  rw [Addr.add_lit, Nat.zero_add, cell_of_heap (MapKept.heap_alloc w _).1, List.getElem?_toArray]; exact hj
end
section
variable {P : Program} {ops : Array Oper} {Q : Exit → Act → World → Prop} {o : Oper} {rest : List Oper} {a : Act} {w : World}
theorem wpList_appendN (size : Nat) (hpos : 0 < size) (hgd : o.guard = none) (s x : Operand) (t : TypeId) (ho : o.op = .call { callee := .builtin .append, args := #[s, x], argTypes := #[t, t] })
    (base : Nat) (e : TypeId) (i : TypeInfo) (z : Value) (bytes : Nat) (ht : P.underlying t = some (.slice e)) (hi : P.info? e = some i) (hz : i.zero = some z)
    (hsize : i.size = size) (hby : i.bytes = bytes) (hzs : z.cells.size = size) (v : Value) (n : Nat) (xs : List Value) (hs : a.eval s = v) (hown : w.ownsRow base e size v n xs)
    (xv : Value) (m : Nat) (cs : List Value) (hxv : a.eval x = xv) (hx : HoldN w xv m cs) (hl : cs.length = m * size) (h1 : ∀ u ∈ cs, u.oneCell' = true) (h63 : n + m ≤ maxLen) (hbytes : (n + m) * bytes ≤ 140737488355328) (hbase : base ≤ w.heap.size)
    (h : ∀ v' w', w'.ownsRow base e size v' (n + m) (xs ++ cs) → w.grownBy w' v.ownBlock → (v'.ownBlock = v.ownBlock ∨ v'.ownBlock = some w.heap.size) → wpList P ops Q rest (a.put o.dst v') w') : wpList P ops Q (o :: rest) a w :=
  wpList_plain hgd fun _ hK => wp_append_holdN size hpos s x t ho base e i z bytes ht hi hz hsize hby hzs v n xs hs hown xv m cs hxv hx hl h1 h63 hbytes hbase (fun v' w' a b c => hK _ _ (h v' w' a b c))
theorem wpList_oneH (size : Nat) (hp0 : 0 < size) (hp1 : ¬ 16777216 < size) (hgd : o.guard = none) (t e : TypeId) (x : Operand) (cs : List Value) (i : TypeInfo) (z : Value) (ho : o.op = .buildSlice t 1 #[(0, x)]) (hx : a.eval x = .agg cs.toArray)
    (ht : P.underlying t = some (.slice e)) (hi : P.info? e = some i) (hz : i.zero = some z) (hs : i.size = size) (hl : cs.length = size)
    (h : ∀ y w2, HoldN w2 y 1 cs → w.grownBy w2 none → (∀ ad c, y = .slice (some ad) 1 c → ad.block = w.heap.size) → w.heap.size < w2.heap.size → wpList P ops Q rest (a.put o.dst y) w2) : wpList P ops Q (o :: rest) a w :=
  wpList_plain hgd fun _ hK => wp_oneH size hp0 hp1 t e x cs i z ho hx ht hi hz hs hl (fun y w2 h1 h2 h3 h4 => hK _ _ (h y w2 h1 h2 h3 h4))
end

section
variable {P : Program}
/-- The front of a row, as a slice value. -/
theorem slice_frontN (size : Nat) {w : World} {B n : Nat} {t e : TypeId} {v : Value} {xs : List Value} (hu : P.underlying t = some (.slice (P.elem t))) (hz : ∀ w, (sizeOf (P.elem t)).run P w = .ok size w) (h : w.ownsRow B e size v n xs) (h63 : n ≤ maxLen) {i : Nat} (hi : i ≤ n) :
    ∃ x, (∀ w', (Instr.slice t v none (some (.int .i64 (i : Int))) none).run P w' = .ok x w') ∧ HoldN w x i (xs.take (i * size)) ∧ (∀ a c, x = .slice (some a) i c → a.block ∈ ob v) := by
  obtain ⟨h1, ⟨rfl, h2⟩ | ⟨g, cap, cur, rfl, a1, a2, a3, a4, a5, a6⟩⟩ := h
  · subst h2
    obtain rfl : i = 0 := by omega
    have h0 : xs = [] := List.eq_nil_of_length_eq_zero (by simpa using h1)
    subst h0
    refine ⟨.slice none 0 0, fun w' => ?_, .inr ⟨0, rfl, rfl, by simp⟩, fun a c e => (by cases e)⟩
    rw [run_slice_h w' _ _ _ _ hu .i64 _ (by omega) (by simp), hz]
    rfl
  · refine ⟨.slice (some ⟨g, 0, none⟩) i cap, fun w' => ?_, .inl ⟨⟨g, 0, none⟩, cap, rfl, fun j u hj => ?_⟩, fun a c e => ?_⟩
    · rw [run_slice_h w' _ _ _ _ hu .i64 _ (by omega) (by omega), hz]
      simp only [Result.andThen, sliced, Int.toNat_natCast, Nat.zero_mul, Nat.sub_zero, Option.map_some, Addr.add_lit, Nat.add_zero]
      split <;> rfl
    · rw [Addr.add_lit, Nat.zero_add, cell_of_heap a2]
      have hlt := (List.getElem?_eq_some_iff.1 hj).1
      rw [List.length_take] at hlt
      rw [List.getElem?_take_of_lt (by omega), ← a6, List.getElem?_take_of_lt (by omega), Array.getElem?_toList] at hj
      exact hj
    · injection e with e1 e2 e3
      injection e1 with e1
      subst e1
      simp [ob, Value.ownBlock]
/-- What lies behind a place of a row, as a slice value. -/
theorem slice_backN (size : Nat) {w : World} {B n : Nat} {t e : TypeId} {v : Value} {xs : List Value} (hu : P.underlying t = some (.slice (P.elem t))) (hz : ∀ w, (sizeOf (P.elem t)).run P w = .ok size w) (h : w.ownsRow B e size v n xs) (h63 : n ≤ maxLen) {i : Nat} (hi : i ≤ n) :
    ∃ x, (∀ w', (Instr.slice t v (some (.int .i64 (i : Int))) none none).run P w' = .ok x w') ∧ HoldN w x (n - i) (xs.drop (i * size)) ∧ (∀ a c, x = .slice (some a) (n - i) c → a.block ∈ ob v) := by
  obtain ⟨h1, ⟨rfl, h2⟩ | ⟨g, cap, cur, rfl, a1, a2, a3, a4, a5, a6⟩⟩ := h
  · subst h2
    obtain rfl : i = 0 := by omega
    have h0 : xs = [] := List.eq_nil_of_length_eq_zero (by simpa using h1)
    subst h0
    refine ⟨.slice none 0 0, fun w' => ?_, .inr ⟨0, rfl, rfl, by simp⟩, fun a c e => (by cases e)⟩
    rw [run_slice_l w' _ _ _ _ hu .i64 _ (by omega) (by simp), hz]
    rfl
  · refine ⟨sliced (some ⟨g, 0, none⟩) i n cap size, fun w' => ?_, ?_, fun a c e => ?_⟩
    · rw [run_slice_l w' _ _ _ _ hu .i64 _ (by omega) (by omega), hz]
      rfl
    · unfold sliced
      by_cases hci : cap = i
      · rw [if_pos hci]
        have : xs.drop (i * size) = [] := List.drop_eq_nil_of_le (by rw [h1]; exact Nat.mul_le_mul_right _ (by omega))
        rw [this]
        exact .inl ⟨_, _, rfl, fun j u hj => by simp at hj⟩
      · rw [if_neg hci]
        refine .inl ⟨⟨g, i * size, none⟩, _, by rw [Option.map_some, Addr.add_lit, Nat.zero_add], fun j u hj => ?_⟩
        rw [Addr.add_lit, cell_of_heap a2]
        rw [List.getElem?_drop] at hj
        have hlt := (List.getElem?_eq_some_iff.1 hj).1
        rw [← a6, List.getElem?_take_of_lt (by rw [h1] at hlt; omega), Array.getElem?_toList] at hj
        exact hj
    · unfold sliced at e
      injection e with e1 e2 e3
      split at e1
      · injection e1 with e1
        subst e1
        simp [ob, Value.ownBlock]
      · rw [Option.map_some] at e1
        injection e1 with e1
        subst e1
        simp [ob, Value.ownBlock, addr_block]
theorem exec_sliceN {o : Oper} {a : Act} {w : World} (t : TypeId) (x : Operand) (lo hi : Option Operand) (v xv : Value) (lv hv : Option Value) (hu : P.underlying t = some (.slice (P.elem t))) (ho : o.op = .slice t x lo hi none) (hx : a.eval x = v) (hl : lo.map a.eval = lv) (hh : hi.map a.eval = hv)
    (hr : (Instr.slice t v lv hv none).run P w = .ok xv w) : (execOp a.eval o).run P w = .ok (.value xv) w := by
  unfold execOp
  simp only [ho, hx, hl, hh, Option.map_none, Sem.run_bind, run_sliceAt_slice w _ _ _ _ _ hu, hr, Result.andThen_ok]
  rfl
end
end Go.Proofs.YtkeegnhjemhblaaGreatDoor.Rb
