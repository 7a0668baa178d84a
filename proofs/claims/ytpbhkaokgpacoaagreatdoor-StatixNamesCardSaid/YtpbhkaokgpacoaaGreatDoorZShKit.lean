import Derived.Test.YtpbhkaokgpacoaaGreatDoorZRowKit
import Derived.Laws.Tables
import Derived.Laws.Rows
import Derived.Laws.CopyOwn
import Derived.Laws.ResultCell
import Derived.Deep.MidRow
import Derived.Laws.Shifts
import Derived.Laws.Closers25b
import Derived.Lib.ConvBytes
import Derived.Laws.Bits64
import Derived.Laws.Bits64b
import Derived.Lib.UnsafeStr
import Derived.Laws.BitsAllLaws
set_option linter.unusedSimpArgs false
set_option linter.unusedVariables false
/-
  Variables of several cells: written and read whole.
-/
namespace Go.Proofs.YtpbhkaokgpacoaaGreatDoor.Sh
open Go.RowKit Go.Maps Go.Proofs.YtpbhkaokgpacoaaGreatDoor.Rf

theorem store_new (w : World) (T : TypeId) (old cs : Array Value) : ((w.alloc (.cells old T)).setRow w.heap.size cs).heap[w.heap.size]? = some (.cells cs T) ∧ Below w.heap.size w ((w.alloc (.cells old T)).setRow w.heap.size cs) := by
  refine ⟨setRow_heap _ _ _ _ _ _ (MapKept.heap_alloc w _).1, ?_⟩
  refine ((Below.refl _ w).alloc (Nat.le_refl _) (.cells old T)).trans ⟨rfl, rfl, rfl, by simp [World.setRow], fun k hk => ?_⟩
  exact setRow_other _ _ _ _ (by omega)
theorem setRow_size (w : World) (g : Nat) (cs : Array Value) : (w.setRow g cs).heap.size = w.heap.size := by simp [World.setRow]
theorem one_size (w : World) (A : Obj) : (w.alloc A).heap.size = w.heap.size + 1 := by show (w.heap.push _).size = _; simp
theorem at_alloc {w : World} {x : Nat} {o : Obj} (h : w.heap[x]? = some o) (A : Obj) : (w.alloc A).heap[x]? = some o := (Below.heap_alloc _ _ _ (lt_of_heap h)).trans h
theorem at_new (w : World) (A : Obj) : (w.alloc A).heap[w.heap.size]? = some A := (MapKept.heap_alloc w A).1
theorem below_drewN (w : World) (n : Nat) : Below w.heap.size w (w.drewN n) := (Below.refl _ _).trans ⟨rfl, rfl, rfl, Nat.le_of_eq (by rw [World.heap_drewN]), fun _ _ => by rw [World.heap_drewN]⟩
theorem Below.drewN {B : Nat} {w0 w : World} (h : Below B w0 w) (n : Nat) : Below B w0 (w.drewN n) := h.trans ⟨rfl, rfl, rfl, Nat.le_of_eq (by rw [World.heap_drewN]), fun _ _ => by rw [World.heap_drewN]⟩
theorem range_block {w : World} {g : Nat} {cs : Array Value} {T : TypeId} (h : w.heap[g]? = some (.cells cs T)) : w.rangeAt g 0 cs.toList := fun j v hv => by
  rw [Nat.zero_add, cell_of_heap h, ← Array.getElem?_toList]; exact hv

section
variable {P : Program} {ops : Array Oper} {rest : List Oper} {o : Oper} {a : Act} {w : World} {Q : Exit → Act → World → Prop}
/-- A new variable is written whole. -/
theorem wpList_store_new {old : Array Value} {T : TypeId} {p : Nat} (hp : p = w.heap.size) (hgd : o.guard = none) (ty : TypeId) (x y : Operand) (ho : o.op = .store ty x y)
    (cs : Array Value) (hx : a.eval x = .pointer (some ⟨p, 0, none⟩)) (hy : a.eval y = .agg cs) (hi : (P.info? ty).map (·.size) = some cs.size) (hold : old.size = cs.size) (h1 : cs.all (·.oneCell') = true)
    (h : ∀ w2 : World, w2.heap[p]? = some (.cells cs T) → Below p w w2 → w2.heap.size = p + 1 → wpList P ops Q rest (a.put o.dst undef) w2) :
    wpList P ops Q (o :: rest) a (w.alloc (.cells old T)) := by
  subst hp
  refine wpList_store_row hgd ty x y ho w.heap.size cs hx hy T old (MapKept.heap_alloc w _).1 hi hold h1 ?_
  obtain ⟨a1, a2⟩ := store_new w T old cs
  exact h _ a1 a2 (by rw [setRow_size, one_size])
/-- A variable is written whole. -/
theorem wpList_store_at {old : Array Value} {T : TypeId} {g : Nat} (hg : w.heap[g]? = some (.cells old T)) (hgd : o.guard = none) (ty : TypeId) (x y : Operand) (ho : o.op = .store ty x y)
    (cs : Array Value) (hx : a.eval x = .pointer (some ⟨g, 0, none⟩)) (hy : a.eval y = .agg cs) (hi : (P.info? ty).map (·.size) = some cs.size) (hold : old.size = cs.size) (h1 : cs.all (·.oneCell') = true)
    (h : ∀ w2 : World, w2.heap[g]? = some (.cells cs T) → Turn [g] w w2 → w2.heap.size = w.heap.size → wpList P ops Q rest (a.put o.dst undef) w2) :
    wpList P ops Q (o :: rest) a w := by
  refine wpList_store_row hgd ty x y ho g cs hx hy T old hg hi hold h1 ?_
  exact h _ (setRow_heap _ _ _ _ _ _ hg) ⟨rfl, rfl, rfl, by simp [World.setRow], fun k _ hk => setRow_other _ _ _ _ (by simpa using hk)⟩ (setRow_size _ _ _)
/-- A variable is read whole. -/
theorem wpList_load_at {cs : Array Value} {T : TypeId} {g : Nat} (hg : w.heap[g]? = some (.cells cs T)) (hgd : o.guard = none) (ty : TypeId) (x : Operand) (ho : o.op = .load ty x)
    (hx : a.eval x = .pointer (some ⟨g, 0, none⟩)) (d : TypeDesc) (hu : P.underlying ty = some d) (hd : (match d with | .struct _ | .array _ _ => true | _ => false) = true) (hi : (P.info? ty).map (·.size) = some cs.size)
    (h : wpList P ops Q rest (a.put o.dst (.agg cs)) w) : wpList P ops Q (o :: rest) a w :=
  wpList_load_row hgd ty x ho g hx T cs (0, 0) d hg hu hd hi h
end
end Go.Proofs.YtpbhkaokgpacoaaGreatDoor.Sh
/-
  The wire's numbers and texts, as plain lists of bytes. No program stands in this text.
-/
namespace Go.Proofs.YtpbhkaokgpacoaaGreatDoor.Rf

/-- A short number's bytes. -/
def shF : Nat → Nat → List UInt8
  | 0, n => [UInt8.ofNat n]
  | f + 1, n => if n < 128 then [UInt8.ofNat n] else UInt8.ofNat (n % 128 + 128) :: shF f (n / 128)
def sh (n : Nat) : List UInt8 := shF 9 n
theorem shF_small {f n : Nat} (h : n < 128) : shF f n = [UInt8.ofNat n] := by cases f <;> simp [shF, h]
theorem shF_step {f n : Nat} (h : ¬ n < 128) : shF (f + 1) n = UInt8.ofNat (n % 128 + 128) :: shF f (n / 128) := by simp [shF, h]
theorem shF_length : ∀ (f n : Nat), (shF f n).length ≤ f + 1
  | 0, _ => by simp [shF]
  | f + 1, n => by
    rw [shF]; split
    · simp
    · have := shF_length f (n / 128); simp; omega
theorem sh_length (n : Nat) : (sh n).length ≤ 10 := shF_length 9 n
theorem shF_ne (f n : Nat) : shF f n ≠ [] := by cases f <;> simp [shF]; split <;> simp

/-- The short number at the front, and how many bytes it has. -/
def rd : Nat → Nat → List UInt8 → Option (Nat × Nat)
  | _, _, [] => none
  | i, n, b :: r => if 10 ≤ i then none else if (i = 9 ∧ 1 < b.toNat) ∨ (0 < i ∧ b.toNat = 0) then none
    else if b.toNat < 128 then some (n + b.toNat * 128 ^ i, i + 1) else rd (i + 1) (n + (b.toNat - 128) * 128 ^ i) r
def rd0 (s : List UInt8) : Option (Nat × Nat) := rd 0 0 s

theorem rd_shF : ∀ (f i n m : Nat) (r : List UInt8), f + i = 9 → m < 2 ^ (64 - 7 * i) → (0 < i → 0 < m) → rd i n (shF f m ++ r) = some (n + m * 128 ^ i, i + (shF f m).length)
  | 0, i, n, m, r, hi, hm, h0 => by
    obtain rfl : i = 9 := by omega
    have hm2 : m < 2 := by simpa using hm
    have : m = 1 := by have := h0 (by omega); omega
    subst this
    simp [shF, rd]
  | f + 1, i, n, m, r, hi, hm, h0 => by
    by_cases hs : m < 128
    · rw [shF_small hs]
      have hb : (UInt8.ofNat m).toNat = m := by simp; omega
      simp only [List.cons_append, List.nil_append, rd, hb, List.length_cons, List.length_nil]
      rw [if_neg (by omega), if_neg (by omega), if_pos hs]
    · rw [shF_step hs]
      have hb : (UInt8.ofNat (m % 128 + 128)).toNat = m % 128 + 128 := by simp; omega
      simp only [List.cons_append, rd, hb, List.length_cons]
      rw [if_neg (by omega), if_neg (by omega), if_neg (by omega)]
      have hm' : m / 128 < 2 ^ (64 - 7 * (i + 1)) := by
        rw [Nat.div_lt_iff_lt_mul (by decide)]
        have e : 2 ^ (64 - 7 * i) = 2 ^ (64 - 7 * (i + 1)) * 128 := by
          have : 64 - 7 * i = (64 - 7 * (i + 1)) + 7 := by omega
          rw [this, Nat.pow_add]
        omega
      rw [rd_shF f (i + 1) _ _ r (by omega) hm' (fun _ => by omega)]
      refine congrArg some (Prod.ext ?_ ?_)
      · have e1 : m % 128 + 128 - 128 = m % 128 := by omega
        show n + (m % 128 + 128 - 128) * 128 ^ i + m / 128 * 128 ^ (i + 1) = n + m * 128 ^ i
        rw [e1, Nat.pow_succ]
        have e2 := Nat.mod_add_div m 128
        generalize 128 ^ i = P
        generalize m % 128 = x at *
        generalize m / 128 = y at *
        rw [← e2, Nat.add_mul, Nat.add_assoc]
        have e3 : y * (P * 128) = 128 * y * P := by rw [Nat.mul_comm P 128, ← Nat.mul_assoc, Nat.mul_comm y 128]
        rw [e3]
      · show i + 1 + (shF f (m / 128)).length = i + ((shF f (m / 128)).length + 1)
        omega
theorem rd_sh {n : Nat} (h : n < 2 ^ 64) (r : List UInt8) : rd0 (sh n ++ r) = some (n, (sh n).length) := by
  have := rd_shF 9 0 0 n r (by omega) (by simpa using h) (by omega)
  rw [rd0, sh, this]; simp
theorem rd_size : ∀ (s : List UInt8) (i n m k : Nat), rd i n s = some (m, k) → i < k ∧ k ≤ i + s.length ∧ k ≤ 10
  | [], _, _, _, _, h => by simp [rd] at h
  | b :: r, i, n, m, k, h => by
    simp only [rd] at h
    split at h
    · cases h
    split at h
    · cases h
    split at h
    · obtain ⟨rfl, rfl⟩ := Prod.mk.inj (Option.some.inj h)
      simp; omega
    · have := rd_size r _ _ _ _ h
      simp; omega

/-- Four bytes. -/
def be4 (n : Nat) : List UInt8 := [UInt8.ofNat (n / 16777216), UInt8.ofNat (n / 65536), UInt8.ofNat (n / 256), UInt8.ofNat n]
def un4 (s : List UInt8) : Nat := s.foldl (fun n b => n * 256 + b.toNat) 0
theorem un4_be4 {n : Nat} (h : n < 4294967296) : un4 (be4 n) = n := by
  simp [un4, be4]; omega

/-- A text behind its length. -/
def putText (t : List UInt8) : List UInt8 := sh t.length ++ t
end Go.Proofs.YtpbhkaokgpacoaaGreatDoor.Rf
/-
  The contracts of Put and PutText.
-/
namespace Go.Proofs.YtpbhkaokgpacoaaGreatDoor.Rf
open Go.RowKit Go.Maps

/-- An array of N bytes whose first ones are written. -/
def buf (pre : List UInt8) (N : Nat) : Array Value := (Lib.byteCells pre ++ List.replicate (N - pre.length) (Value.int .u8 0)).toArray
theorem buf_size (pre : List UInt8) (N : Nat) (h : pre.length ≤ N) : (buf pre N).size = N := by
  simp [buf, Lib.byteCells_length]; omega
theorem buf_get (pre : List UInt8) (N : Nat) (h : pre.length < N) : (buf pre N)[pre.length]? = some (.int .u8 0) := by
  rw [buf, List.getElem?_toArray, List.getElem?_append_right (by simp [Lib.byteCells_length]), Lib.byteCells_length, Nat.sub_self, List.getElem?_replicate, if_pos (by omega)]
theorem buf_set (pre : List UInt8) (N : Nat) (b : UInt8) (h : pre.length < N) : (buf pre N).setIfInBounds pre.length (.int .u8 b.toNat) = buf (pre ++ [b]) N := by
  unfold buf
  obtain ⟨d, hd⟩ : ∃ d, N - pre.length = d + 1 := ⟨N - pre.length - 1, by omega⟩
  have e : N - (pre ++ [b]).length = d := by simp; omega
  rw [e, hd, List.setIfInBounds_toArray, List.set_append_right _ _ (by simp [Lib.byteCells_length]), Lib.byteCells_length, Nat.sub_self, List.replicate_succ, List.set_cons_zero]
  simp [Lib.byteCells]
theorem buf_cell (pre : List UInt8) (N j : Nat) (h : j < pre.length) : (buf pre N)[j]? = some (.int .u8 (pre[j].toNat : Int)) := by
  rw [buf, List.getElem?_toArray, List.getElem?_append_left (by simpa [Lib.byteCells_length] using h), Lib.byteCells, List.getElem?_map, List.getElem?_eq_getElem h]; rfl

theorem conv_pre (w : World) (g c : Nat) (T : TypeId) (pre : List UInt8) (N : Nat) (h : w.heap[g]? = some (.cells (buf pre N) T)) :
    (convert 87 9 (.slice (some ⟨g, 0, none⟩) pre.length c)).run Tryz.prog w = .ok (.string ⟨pre.toArray⟩) w :=
  run_convert_bytes_back w _ _ 5 ⟨g, 0, none⟩ c pre Tryz.underlying87 Tryz.underlying5 Tryz.underlying9 (fun j hj => by
    rw [Addr.add_lit, Nat.zero_add, cell_of_heap h, buf_cell _ _ _ hj])

theorem arr10 : Tryz.prog.arrayLen 153 = 10 := by kernel_rfl
theorem und10 : Tryz.prog.underlying 153 = some (.array (Tryz.prog.arrayLen 153) (Tryz.prog.elem 153)) := by kernel_rfl
theorem elem10 : (Tryz.prog.info? (Tryz.prog.elem 153)).map (fun i => i.size) = some 1 := by kernel_rfl
theorem slice10 (w : World) (b j : Nat) (hj : j ≤ 10) :
    (Instr.sliceAt 153 (.pointer (some ⟨b, 0, none⟩)) none (some (.int .i64 (j : Int))) none).run Tryz.prog w = .ok (.slice (some ⟨b, 0, none⟩) j 10) w := by
  rw [run_sliceAt_array_h (P := Tryz.prog) w 153 ⟨b, 0, none⟩ und10 .i64 (j : Int) (by omega) (by rw [arr10]; omega)]
  obtain ⟨i, hi, hs⟩ := Option.map_eq_some_iff.1 elem10
  have hz : (sizeOf (Tryz.prog.elem 153)).run Tryz.prog w = .ok 1 w := by simp [sizeOf, typeInfo, hi, hs]
  rw [hz]
  simp only [Result.andThen, Int.toNat_natCast, arr10, slicedAt]
  rw [if_neg (by omega), Addr.add_lit]; simp

theorem cat_list (S : ByteArray) (l : List UInt8) : S ++ ⟨l.toArray⟩ = (⟨(S.data.toList ++ l).toArray⟩ : ByteArray) := by
  congr 1
theorem cat (S T : ByteArray) : S ++ T = (⟨(S.data.toList ++ T.data.toList).toArray⟩ : ByteArray) := by
  conv => lhs; rw [show T = ⟨T.data.toList.toArray⟩ by simp]
  exact cat_list S _
theorem or128 (m : Nat) : bits .or .u8 ((m : Int) % 256) 128 = ((UInt8.ofNat (m % 128 + 128)).toNat : Int) := by
  have h1 := u8_or_nat (m % 256) 128 (by omega) (by decide)
  have e : ((m % 256 : Nat) : Int) = (m : Int) % 256 := by omega
  rw [e] at h1
  rw [show (128 : Int) = ((128 : Nat) : Int) from rfl, h1]
  have h2 : ∀ x : Fin 256, x.val ||| 128 = x.val % 128 + 128 := by decide +kernel
  rw [h2 ⟨m % 256, by omega⟩]
  simp; omega

set_option maxHeartbeats 2000000 in
set_option maxRecDepth 100000 in
theorem put_any (w : World) (S : ByteArray) (n : Nat) (hn : n < 18446744073709551616) (hS : S.size ≤ 1099511627776) :
    Calls Tryz.prog 43 #[.string S, .int .u64 (n : Int)] w fun e w' => e = .returned (.string ⟨(S.data.toList ++ sh n).toArray⟩) ∧ Below w.heap.size w w' := by
  go_enter Tryz.func43, Tryz.ntmps43
  go_wp2
  go_loopw [1, 6] (fun vn vk w' => ∃ (k m : Nat) (pre : List UInt8), k ≤ 9 ∧ vn = .int .u64 (m : Int) ∧ vk = .int .i64 k ∧ w'.heap[w.heap.size]? = some (.cells (buf pre 10) 153) ∧ Below w.heap.size w w' ∧ Hid (pre.length = k ∧ sh n = pre ++ shF (9 - k) m ∧ m < 2 ^ (64 - 7 * k) ∧ (0 < k → 0 < m))) (fun _ k _ => 9 - (RowKit.intOf k).toNat)
  case atStart => exact ⟨0, n, [], by omega, rfl, rfl, (MapKept.heap_alloc w _).1, (Below.refl _ _).alloc (Nat.le_refl _) _, Lib.hid ⟨rfl, rfl, by simpa using hn, by omega⟩⟩
  case round =>
    obtain ⟨k, m, pre, hk, rfl, rfl, hh, hb, hid⟩ := hrel
    have HH := Lib.hid hh; have HB := Lib.hid hb
    have hlt : w.heap.size < wr.heap.size := lt_of_heap hh
    have hfz : ∀ j, wr.frozen? ⟨w.heap.size, j, none⟩ = false := fun j => frozen_of_heap hh
    have hck : wr.cell? ⟨w.heap.size, k, none⟩ = some (.int .u8 0) := by
      rw [cell_of_heap hh, ← hid.out.1]; exact buf_get _ _ (by have := hid.out.1; omega)
    by_cases h128 : (128 : Int) ≤ (m : Int)
    · have hk9 : k < 9 := by
        have := hid.out.2.2.1
        by_cases e : k = 9
        · subst e; simp at this; omega
        · omega
      have hm64 : m < 18446744073709551616 := Nat.lt_of_lt_of_le hid.out.2.2.1 (show 2 ^ (64 - 7 * k) ≤ 2 ^ 64 from Nat.pow_le_pow_right (by decide) (by omega))
      have HO := Lib.hid (or128 m)
      have HS : Hid ((wr.setCell ⟨w.heap.size, k, none⟩ (.int .u8 ((UInt8.ofNat (m % 128 + 128)).toNat : Int))).heap[w.heap.size]? = some (.cells (buf (pre ++ [UInt8.ofNat (m % 128 + 128)]) 10) 153)) :=
        Lib.hid (by rw [setCell_heap _ _ _ _ _ _ hh, ← hid.out.1, buf_set _ _ _ (by have := hid.out.1; omega)])
      have HB2 := Lib.hid (hb.setCell (Nat.le_refl _) (p := ⟨w.heap.size, k, none⟩) (.int .u8 ((UInt8.ofNat (m % 128 + 128)).toNat : Int)))
      clear hh hb
      go_wp2
      rw [HO.out]
      go_roundw
      case rel =>
        refine ⟨k + 1, m / 128, _, by omega, by simp, by simp, HS.out, HB2.out, Lib.hid ?_⟩
        obtain ⟨a1, a2, a3, a4⟩ := hid.out
        refine ⟨by simp [a1], ?_, ?_, fun _ => by omega⟩
        · rw [a2, List.append_assoc]
          have e : 9 - k = (9 - (k + 1)) + 1 := by omega
          rw [e, shF_step (by omega)]; rfl
        · rw [Nat.div_lt_iff_lt_mul (by decide)]
          have e : 64 - 7 * k = (64 - 7 * (k + 1)) + 7 := by omega
          rw [e, Nat.pow_add] at a3
          exact a3
      case measure => simp [RowKit.intOf]; omega
    · have HS : Hid ((wr.setCell ⟨w.heap.size, k, none⟩ (.int .u8 (m : Int))).heap[w.heap.size]? = some (.cells (buf (pre ++ [UInt8.ofNat m]) 10) 153)) :=
        Lib.hid (by
          rw [setCell_heap _ _ _ _ _ _ hh]
          have e : (m : Int) = ((UInt8.ofNat m).toNat : Int) := by simp; omega
          rw [e, ← hid.out.1, buf_set _ _ _ (by have := hid.out.1; omega)])
      have HB2 := Lib.hid (hb.setCell (Nat.le_refl _) (p := ⟨w.heap.size, k, none⟩) (.int .u8 (m : Int)))
      have hsl := slice10 (wr.setCell ⟨w.heap.size, k, none⟩ (.int .u8 (m : Int))) w.heap.size (k + 1) (by omega)
      have hcv := conv_pre _ _ 10 _ _ _ HS.out
      have hpl : (pre ++ [UInt8.ofNat m]).length = k + 1 := by simp [hid.out.1]
      rw [hpl] at hcv
      have e1 : ((k + 1 : Nat) : Int) = (k : Int) + 1 := by omega
      rw [e1] at hsl
      have HE : Hid (sh n = pre ++ [UInt8.ofNat m]) := Lib.hid (by rw [hid.out.2.1, shF_small (by omega)])
      have hpre : pre.length ≤ 9 := by rw [hid.out.1]; exact hk
      clear hh hb hpl
      go_wp2
      go_ret
      refine ⟨?_, HB2.out⟩
      rw [HE.out, cat_list]
      rfl

set_option maxRecDepth 100000 in
theorem putText_any (w : World) (S T : ByteArray) (hS : S.size ≤ 1099511627776) (hT : T.size ≤ 1099511627776) :
    Calls Tryz.prog 44 #[.string S, .string T] w fun e w' => e = .returned (.string ⟨(S.data.toList ++ putText T.data.toList).toArray⟩) ∧ Below w.heap.size w w' := by
  have hsz := Lib.size_eq T
  have K := Lib.hid (put_any w S T.size (by omega) hS)
  have hw : (T.size : Int) % 18446744073709551616 = (T.size : Int) := by omega
  have HW := Lib.hid hw
  have hln : ((⟨(S.data.toList ++ sh T.size).toArray⟩ : ByteArray)).size ≤ S.size + 10 := by
    rw [Lib.size_eq, Lib.size_eq]; simp; have := sh_length T.size; omega
  obtain ⟨U, hU⟩ : ∃ U, U = (⟨(S.data.toList ++ sh T.size).toArray⟩ : ByteArray) := ⟨_, rfl⟩
  rw [← hU] at hln K
  have HU : Hid (U.data.toList = S.data.toList ++ sh T.data.toList.length) := Lib.hid (by rw [hU, hsz])
  clear hw hU hsz
  go_enter Tryz.func44, Tryz.ntmps44
  go_wp2_with fail
  refine K.out.mono ?_
  rintro e w3 ⟨rfl, hb⟩
  have HB := Lib.hid hb
  clear hb
  go_wp2
  go_ret
  refine ⟨?_, HB.out⟩
  rw [cat, HU.out, putText, List.append_assoc]
  rfl
end Go.Proofs.YtpbhkaokgpacoaaGreatDoor.Rf
/-
  The contracts of the reader at any bytes: short, Uint, Take, Text, End.
-/
namespace Go.Proofs.YtpbhkaokgpacoaaGreatDoor.Rd
open Go.RowKit Go.Maps Go.WideMaps Go.Proofs.YtpbhkaokgpacoaaGreatDoor.Rf

theorem ba_ext {A B : ByteArray} (h : A.data.toList = B.data.toList) : A = B := by
  cases A; cases B
  congr 1
  exact Array.toList_inj.1 h
theorem ba_data (l : List UInt8) : (⟨l.toArray⟩ : ByteArray).data.toList = l := by simp
theorem ba_mk (s : ByteArray) : (⟨s.data.toList.toArray⟩ : ByteArray) = s := ba_ext (by simp)
/-- A piece of a text. -/
theorem extract_list (L : List UInt8) (i j : Nat) : (⟨L.toArray⟩ : ByteArray).extract i j = ⟨((L.drop i).take (j - i)).toArray⟩ := by
  apply ba_ext
  rw [Lib.extract_data]
theorem extract_rest (L : List UInt8) (i j : Nat) (h : L.length ≤ j) : (⟨L.toArray⟩ : ByteArray).extract i j = ⟨(L.drop i).toArray⟩ := by
  rw [extract_list, List.take_of_length_le (by rw [List.length_drop]; omega)]
theorem one_size (w : World) (A : Obj) : (w.alloc A).heap.size = w.heap.size + 1 := by show (w.heap.push _).size = _; simp

/-- What the front of bytes says as a short number. -/
def shN (L : List UInt8) : Nat := match rd0 L with | some p => p.1 | none => 0
def shK (L : List UInt8) : Int := match rd0 L with | some p => (p.2 : Int) | none => -1

theorem rd_lt : ∀ (s : List UInt8) (i n m k : Nat), i ≤ 9 → n < 128 ^ i → Rf.rd i n s = some (m, k) → m < 18446744073709551616
  | [], _, _, _, _, _, _, h => by simp [Rf.rd] at h
  | b :: r, i, n, m, k, hi, hn, h => by
    have hb := UInt8.toNat_lt b
    have p64 : 128 ^ 9 * 2 = 18446744073709551616 := by decide
    simp only [Rf.rd] at h
    split at h
    · cases h
    split at h
    · cases h
    · next h2 =>
      have hbig : n + b.toNat * 128 ^ i < 18446744073709551616 ∨ ¬ b.toNat < 128 := by
        by_cases h9 : i = 9
        · left
          subst h9
          have : b.toNat ≤ 1 := by omega
          have : b.toNat * 128 ^ 9 ≤ 1 * 128 ^ 9 := Nat.mul_le_mul_right _ this
          omega
        · by_cases h128 : b.toNat < 128
          · left
            have e1 : b.toNat * 128 ^ i ≤ 127 * 128 ^ i := Nat.mul_le_mul_right _ (by omega)
            have e2 : 128 ^ (i + 1) ≤ 128 ^ 9 := Nat.pow_le_pow_right (by decide) (by omega)
            rw [Nat.pow_succ] at e2
            omega
          · exact .inr h128
      split at h
      · next h3 =>
        obtain ⟨rfl, rfl⟩ := Prod.mk.inj (Option.some.inj h)
        exact hbig.resolve_right (by omega)
      · next h3 =>
        by_cases h9 : i = 9
        · subst h9
          omega
        · refine rd_lt r (i + 1) _ m k (by omega) ?_ h
          have e1 : (b.toNat - 128) * 128 ^ i ≤ 127 * 128 ^ i := Nat.mul_le_mul_right _ (by omega)
          rw [Nat.pow_succ]; omega
theorem shN_lt (L : List UInt8) : shN L < 18446744073709551616 := by
  unfold shN
  cases h : rd0 L with
  | none => decide
  | some p => exact rd_lt L 0 0 p.1 p.2 (by omega) (by decide) h
theorem shK_le (L : List UInt8) : -1 ≤ shK L ∧ shK L ≤ L.length ∧ shK L ≤ 10 := by
  unfold shK
  cases h : rd0 L with
  | none => simp
  | some p =>
    have := rd_size L 0 0 p.1 p.2 h
    dsimp only
    omega

theorem or_add (n b i : Nat) (hn : n < 128 ^ i) : n ||| (b * 128 ^ i) = n + b * 128 ^ i := by
  have e : (128 : Nat) ^ i = 2 ^ (7 * i) := by rw [show (128 : Nat) = 2 ^ 7 from rfl, ← Nat.pow_mul]
  rw [e] at hn ⊢
  have := Nat.two_pow_add_eq_or_of_lt hn b
  rw [Nat.or_comm, Nat.mul_comm b, ← this, Nat.add_comm]
theorem and127 (b : UInt8) : bits .and .u8 (b.toNat : Int) 127 = ((b.toNat % 128 : Nat) : Int) := by
  have h1 := u8_and_nat b.toNat 127 (UInt8.toNat_lt b) (by decide)
  rw [show (127 : Nat) = 2 ^ 7 - 1 from rfl, Nat.and_two_pow_sub_one_eq_mod] at h1
  exact h1
end Go.Proofs.YtpbhkaokgpacoaaGreatDoor.Rd
