import Derived.Test.YthcjjekkjbidlaaGreatDoorZPStStep
import Derived.Test.YthcjjekkjbidlaaGreatDoorZPRowKit
import Derived.Laws.Shifts
import Derived.Laws.Closers25b
import Derived.Lib.ConvBytes
import Derived.Laws.Bits64
import Derived.Laws.Bits64b
import Derived.Lib.UnsafeStr
import Derived.Laws.BitsAllLaws
set_option linter.unusedSimpArgs false
set_option linter.unusedVariables false
/-
  Steps of a region that draws its order, over variables of many cells.
-/
namespace Go.Proofs.YthcjjekkjbidlaaGreatDoor.St
open Go.RowKit Go.Maps Go.WideMaps Go.Proofs.YthcjjekkjbidlaaGreatDoor.Rf

theorem run_look {o : Oper} {a : Act} {w : World} {m x : Operand} {c : Bool} {T : TypeId} {mv k v : Value} (ho : o.op = .lookup T m x c) (hm : a.eval m = mv) (hx : a.eval x = k) (h : (Instr.lookup T mv k c).run Tryz.prog w = .ok v w) : (execOp a.eval o).run Tryz.prog w = .ok (.value v) w := by
  simp [execOp, ho, hm, hx, h, Result.andThen]

section
variable {P : Program} {ops : Array Oper} {o : Oper} {a : Act} {w : World} {K : Act → World → Prop} {Q : Exit → Act → World → Prop} {E : Prop}
theorem step_wp (hgd : o.guard = none) (h : Oper.wp P o a w K Q) : if Region.wanted o (yielded ops a.tmps) = true then Oper.wp P o a w K Q else E := by
  have hw : Region.wanted o (yielded ops a.tmps) = true := by simp [Region.wanted, hgd]
  rw [if_pos hw]
  exact h
theorem wp_store_new {old : Array Value} {T : TypeId} {p : Nat} (hp : p = w.heap.size) (ty : TypeId) (x y : Operand) (ho : o.op = .store ty x y)
    (cs : Array Value) (hx : a.eval x = .pointer (some ⟨p, 0, none⟩)) (hy : a.eval y = .agg cs) (hi : (P.info? ty).map (·.size) = some cs.size) (hold : old.size = cs.size) (h1 : cs.all (·.oneCell') = true)
    (h : ∀ w2 : World, w2.heap[p]? = some (.cells cs T) → Below p w w2 → w2.heap.size = p + 1 → K (a.put o.dst undef) w2) :
    o.wp P a (w.alloc (.cells old T)) K Q := by
  subst hp
  refine wp_store_row ty x y ho w.heap.size cs hx hy T old (MapKept.heap_alloc w _).1 hi hold h1 ?_
  obtain ⟨a1, a2⟩ := store_new w T old cs
  exact h _ a1 a2 (by rw [setRow_size, one_size])
/-- A load of many cells, under a guard that holds. -/
theorem wpList_want_load {rest : List Oper} {Q : Exit → Act → World → Prop} (hw : Region.wanted o (yielded ops a.tmps) = true) (ty : TypeId) (x : Operand) (ho : o.op = .load ty x)
    (b off : Nat) (hx : a.eval x = .pointer (some ⟨b, off, none⟩)) (cs : List Value) (d : TypeDesc) (hc : w.rangeAt b off cs)
    (hu : P.underlying ty = some d) (hd : d.isRow = true) (hi : (P.info? ty).map (·.size) = some cs.length)
    (h : wpList P ops Q rest (a.put o.dst (.agg cs.toArray)) w) : wpList P ops Q (o :: rest) a w := by
  unfold wpList
  rw [if_pos hw]
  exact .inl (wp_load_mid ty x ho b off hx cs d hc hu hd hi h)
/-- An op whose value is known, under a guard that holds. -/
theorem wpList_want_run {rest : List Oper} {Q : Exit → Act → World → Prop} (hw : Region.wanted o (yielded ops a.tmps) = true) (v : Value) (hrun : (execOp a.eval o).run P w = .ok (.value v) w)
    (h : wpList P ops Q rest (a.put o.dst v) w) : wpList P ops Q (o :: rest) a w := by
  unfold wpList
  rw [if_pos hw]
  refine .inl ?_
  unfold Oper.wp
  rw [hrun]
  exact h
theorem wp_store_at {old : Array Value} {T : TypeId} {g : Nat} (hg : w.heap[g]? = some (.cells old T)) (ty : TypeId) (x y : Operand) (ho : o.op = .store ty x y)
    (cs : Array Value) (hx : a.eval x = .pointer (some ⟨g, 0, none⟩)) (hy : a.eval y = .agg cs) (hi : (P.info? ty).map (·.size) = some cs.size) (hold : old.size = cs.size) (h1 : cs.all (·.oneCell') = true)
    (h : ∀ w2 : World, w2.heap[g]? = some (.cells cs T) → Turn [g] w w2 → w2.heap.size = w.heap.size → K (a.put o.dst undef) w2) :
    o.wp P a w K Q := by
  refine wp_store_row ty x y ho g cs hx hy T old hg hi hold h1 ?_
  exact h _ (setRow_heap _ _ _ _ _ _ hg) ⟨rfl, rfl, rfl, by simp [World.setRow], fun k _ hk => setRow_other _ _ _ _ (by simpa using hk)⟩ (setRow_size _ _ _)
end

theorem cell_turn {X : List Nat} {w w' : World} (h : Turn X w w') {x j : Nat} {v : Value} (hx : x < w.heap.size) (hn : x ∉ X) (hc : w.cell? ⟨x, j, none⟩ = some v) : w'.cell? ⟨x, j, none⟩ = some v :=
  (World.cell?_of_block (a := ⟨x, j, none⟩) (h.block x hx hn)).trans hc
theorem range_turn {X : List Nat} {w w' : World} (h : Turn X w w') {x o : Nat} {cs : List Value} (hx : x < w.heap.size) (hn : x ∉ X) (hc : w.rangeAt x o cs) : w'.rangeAt x o cs :=
  fun j v hv => cell_turn h hx hn (hc j v hv)
/-- An entry laid into an index's map. -/
theorem IndexAt.store {B : Nat} {w : World} {g b : Nat} {L : List SE} (h : IndexAt B w g b L) {e : SE} (he : e.Fits) (hl : (insL e L).length ≤ 65536) :
    ∃ w', (Instr.mapUpdate 116 (.map (some b)) (.string ⟨e.path.toArray⟩) (enV e)).run Tryz.prog w = .ok () w' ∧ IndexAt B w' g b (insL e L) ∧ Turn [b] w w' := by
  obtain ⟨w', hrun, hown, ht⟩ := h.map.store law Tryz.underlying116 (by decide) (val := enV e) (keyK ⟨e.path.toArray⟩ (by show e.path.length ≤ _; have := he.path; unfold maxLen; omega)) rfl
  have t := ht.grown
  have hT : Turn [b] w w' := ⟨t.os, t.tape, t.output, t.size, fun k hk hx => t.block k hk (by simpa using hx)⟩
  refine ⟨w', hrun, ⟨(hT.block _ h.lt_g (by simpa using h.gb)).trans h.book, ?_, h.gb, h.baseg, h.baseb, insL_srt e h.srt, fun x hx => ?_, hl⟩, hT⟩
  · have e1 : (⟨e.path.toArray⟩ : ByteArray).data.toList = e.path := by simp
    rw [e1, toD_put enV (toZ L) e.path e, toZ_put h.srt] at hown
    exact map_tight hown (by rw [toZ_length]; omega)
  · rcases mem_insL hx with rfl | hx
    · exact he
    · exact h.fits x hx
theorem insL_same {e : SE} : ∀ {L : List SE}, (getL e.path L).isSome = true → (insL e L).length = L.length
  | [], h => by simp [getL] at h
  | y :: r, h => by
    rw [getL] at h; rw [insL]
    split
    · next hy => rw [if_pos hy] at h; simp [insL_same h]
    · next hy =>
      rw [if_neg hy] at h
      split
      · rfl
      · next hp => rw [if_neg hp] at h; cases h
end Go.Proofs.YthcjjekkjbidlaaGreatDoor.St
/-
  The contracts of Put and PutText.
-/
namespace Go.Proofs.YthcjjekkjbidlaaGreatDoor.Rf
open Go.RowKit Go.Maps

/-- An array of N bytes whose first ones are written. -/
def buf (pre : List UInt8) (N : Nat) : Array Value := (Lib.byteCells pre ++ List.replicate (N - pre.length) (Value.int .u8 0)).toArray
theorem buf_size (pre : List UInt8) (N : Nat) (h : pre.length ≤ N) : (buf pre N).size = N := by
  simp [buf, Lib.byteCells_length]; omega
theorem buf_get (pre : List UInt8) (N : Nat) (h : pre.length < N) : (buf pre N)[pre.length]? = some (.int .u8 0) := by
  rw [buf, List.getElem?_toArray, List.getElem?_append_right (by simp [Lib.byteCells_length]), Lib.byteCells_length, Nat.sub_self, List.getElem?_replicate, if_pos (by omega)]
theorem buf_set (pre : List UInt8) (N : Nat) (b : UInt8) (h : pre.length < N) : (buf pre N).setIfInBounds pre.length (.int .u8 b.toNat) = buf (pre ++ [b]) N := by
  unfold buf
  obtain ⟨d, hd⟩ : ∃ d, N - pre.length = d + 1 := ⟨N - pre.length - 1, by omega⟩
  have e : N - (pre ++ [b]).length = d := by simp; omega
  rw [e, hd, List.setIfInBounds_toArray, List.set_append_right _ _ (by simp [Lib.byteCells_length]), Lib.byteCells_length, Nat.sub_self, List.replicate_succ, List.set_cons_zero]
  simp [Lib.byteCells]
theorem buf_cell (pre : List UInt8) (N j : Nat) (h : j < pre.length) : (buf pre N)[j]? = some (.int .u8 (pre[j].toNat : Int)) := by
  rw [buf, List.getElem?_toArray, List.getElem?_append_left (by simpa [Lib.byteCells_length] using h), Lib.byteCells, List.getElem?_map, List.getElem?_eq_getElem h]; rfl

theorem conv_pre (w : World) (g c : Nat) (T : TypeId) (pre : List UInt8) (N : Nat) (h : w.heap[g]? = some (.cells (buf pre N) T)) :
    (convert 114 9 (.slice (some ⟨g, 0, none⟩) pre.length c)).run Tryz.prog w = .ok (.string ⟨pre.toArray⟩) w :=
  run_convert_bytes_back w _ _ 5 ⟨g, 0, none⟩ c pre Tryz.underlying114 Tryz.underlying5 Tryz.underlying9 (fun j hj => by
    rw [Addr.add_lit, Nat.zero_add, cell_of_heap h, buf_cell _ _ _ hj])

theorem arr10 : Tryz.prog.arrayLen 200 = 10 := by kernel_rfl
theorem und10 : Tryz.prog.underlying 200 = some (.array (Tryz.prog.arrayLen 200) (Tryz.prog.elem 200)) := by kernel_rfl
theorem elem10 : (Tryz.prog.info? (Tryz.prog.elem 200)).map (fun i => i.size) = some 1 := by kernel_rfl
theorem slice10 (w : World) (b j : Nat) (hj : j ≤ 10) :
    (Instr.sliceAt 200 (.pointer (some ⟨b, 0, none⟩)) none (some (.int .i64 (j : Int))) none).run Tryz.prog w = .ok (.slice (some ⟨b, 0, none⟩) j 10) w := by
  rw [run_sliceAt_array_h (P := Tryz.prog) w 200 ⟨b, 0, none⟩ und10 .i64 (j : Int) (by omega) (by rw [arr10]; omega)]
  obtain ⟨i, hi, hs⟩ := Option.map_eq_some_iff.1 elem10
  have hz : (sizeOf (Tryz.prog.elem 200)).run Tryz.prog w = .ok 1 w := by simp [sizeOf, typeInfo, hi, hs]
  rw [hz]
  simp only [Result.andThen, Int.toNat_natCast, arr10, slicedAt]
  rw [if_neg (by omega), Addr.add_lit]; simp

theorem cat_list (S : ByteArray) (l : List UInt8) : S ++ ⟨l.toArray⟩ = (⟨(S.data.toList ++ l).toArray⟩ : ByteArray) := by
  congr 1
theorem cat (S T : ByteArray) : S ++ T = (⟨(S.data.toList ++ T.data.toList).toArray⟩ : ByteArray) := by
  conv => lhs; rw [show T = ⟨T.data.toList.toArray⟩ by simp]
  exact cat_list S _
theorem or128 (m : Nat) : bits .or .u8 ((m : Int) % 256) 128 = ((UInt8.ofNat (m % 128 + 128)).toNat : Int) := by
  have h1 := u8_or_nat (m % 256) 128 (by omega) (by decide)
  have e : ((m % 256 : Nat) : Int) = (m : Int) % 256 := by omega
  rw [e] at h1
  rw [show (128 : Int) = ((128 : Nat) : Int) from rfl, h1]
  have h2 : ∀ x : Fin 256, x.val ||| 128 = x.val % 128 + 128 := by decide +kernel
  rw [h2 ⟨m % 256, by omega⟩]
  simp; omega

set_option maxHeartbeats 2000000 in
set_option maxRecDepth 100000 in
theorem put_any (w : World) (S : ByteArray) (n : Nat) (hn : n < 18446744073709551616) (hS : S.size ≤ 1099511627776) :
    Calls Tryz.prog 57 #[.string S, .int .u64 (n : Int)] w fun e w' => e = .returned (.string ⟨(S.data.toList ++ sh n).toArray⟩) ∧ Below w.heap.size w w' := by
  go_enter Tryz.func57, Tryz.ntmps57
  go_wp2
  go_loopw [1, 6] (fun vn vk w' => ∃ (k m : Nat) (pre : List UInt8), k ≤ 9 ∧ vn = .int .u64 (m : Int) ∧ vk = .int .i64 k ∧ w'.heap[w.heap.size]? = some (.cells (buf pre 10) 200) ∧ Below w.heap.size w w' ∧ Hid (pre.length = k ∧ sh n = pre ++ shF (9 - k) m ∧ m < 2 ^ (64 - 7 * k) ∧ (0 < k → 0 < m))) (fun _ k _ => 9 - (RowKit.intOf k).toNat)
  case atStart => exact ⟨0, n, [], by omega, rfl, rfl, (MapKept.heap_alloc w _).1, (Below.refl _ _).alloc (Nat.le_refl _) _, Lib.hid ⟨rfl, rfl, by simpa using hn, by omega⟩⟩
  case round =>
    obtain ⟨k, m, pre, hk, rfl, rfl, hh, hb, hid⟩ := hrel
    have HH := Lib.hid hh; have HB := Lib.hid hb
    have hlt : w.heap.size < wr.heap.size := lt_of_heap hh
    have hfz : ∀ j, wr.frozen? ⟨w.heap.size, j, none⟩ = false := fun j => frozen_of_heap hh
    have hck : wr.cell? ⟨w.heap.size, k, none⟩ = some (.int .u8 0) := by
      rw [cell_of_heap hh, ← hid.out.1]; exact buf_get _ _ (by have := hid.out.1; omega)
    by_cases h128 : (128 : Int) ≤ (m : Int)
    · have hk9 : k < 9 := by
        have := hid.out.2.2.1
        by_cases e : k = 9
        · subst e; simp at this; omega
        · omega
      have hm64 : m < 18446744073709551616 := Nat.lt_of_lt_of_le hid.out.2.2.1 (show 2 ^ (64 - 7 * k) ≤ 2 ^ 64 from Nat.pow_le_pow_right (by decide) (by omega))
      have HO := Lib.hid (or128 m)
      have HS : Hid ((wr.setCell ⟨w.heap.size, k, none⟩ (.int .u8 ((UInt8.ofNat (m % 128 + 128)).toNat : Int))).heap[w.heap.size]? = some (.cells (buf (pre ++ [UInt8.ofNat (m % 128 + 128)]) 10) 200)) :=
        Lib.hid (by rw [setCell_heap _ _ _ _ _ _ hh, ← hid.out.1, buf_set _ _ _ (by have := hid.out.1; omega)])
      have HB2 := Lib.hid (hb.setCell (Nat.le_refl _) (p := ⟨w.heap.size, k, none⟩) (.int .u8 ((UInt8.ofNat (m % 128 + 128)).toNat : Int)))
      clear hh hb
      go_wp2
      rw [HO.out]
      go_roundw
      case rel =>
        refine ⟨k + 1, m / 128, _, by omega, by simp, by simp, HS.out, HB2.out, Lib.hid ?_⟩
        obtain ⟨a1, a2, a3, a4⟩ := hid.out
        refine ⟨by simp [a1], ?_, ?_, fun _ => by omega⟩
        · rw [a2, List.append_assoc]
          have e : 9 - k = (9 - (k + 1)) + 1 := by omega
          rw [e, shF_step (by omega)]; rfl
        · rw [Nat.div_lt_iff_lt_mul (by decide)]
          have e : 64 - 7 * k = (64 - 7 * (k + 1)) + 7 := by omega
          rw [e, Nat.pow_add] at a3
          exact a3
      case measure => simp [RowKit.intOf]; omega
    · have HS : Hid ((wr.setCell ⟨w.heap.size, k, none⟩ (.int .u8 (m : Int))).heap[w.heap.size]? = some (.cells (buf (pre ++ [UInt8.ofNat m]) 10) 200)) :=
        Lib.hid (by
          rw [setCell_heap _ _ _ _ _ _ hh]
          have e : (m : Int) = ((UInt8.ofNat m).toNat : Int) := by simp; omega
          rw [e, ← hid.out.1, buf_set _ _ _ (by have := hid.out.1; omega)])
      have HB2 := Lib.hid (hb.setCell (Nat.le_refl _) (p := ⟨w.heap.size, k, none⟩) (.int .u8 (m : Int)))
      have hsl := slice10 (wr.setCell ⟨w.heap.size, k, none⟩ (.int .u8 (m : Int))) w.heap.size (k + 1) (by omega)
      have hcv := conv_pre _ _ 10 _ _ _ HS.out
      have hpl : (pre ++ [UInt8.ofNat m]).length = k + 1 := by simp [hid.out.1]
      rw [hpl] at hcv
      have e1 : ((k + 1 : Nat) : Int) = (k : Int) + 1 := by omega
      rw [e1] at hsl
      have HE : Hid (sh n = pre ++ [UInt8.ofNat m]) := Lib.hid (by rw [hid.out.2.1, shF_small (by omega)])
      have hpre : pre.length ≤ 9 := by rw [hid.out.1]; exact hk
      clear hh hb hpl
      go_wp2
      go_ret
      refine ⟨?_, HB2.out⟩
      rw [HE.out, cat_list]
      rfl

set_option maxRecDepth 100000 in
theorem putText_any (w : World) (S T : ByteArray) (hS : S.size ≤ 1099511627776) (hT : T.size ≤ 1099511627776) :
    Calls Tryz.prog 58 #[.string S, .string T] w fun e w' => e = .returned (.string ⟨(S.data.toList ++ putText T.data.toList).toArray⟩) ∧ Below w.heap.size w w' := by
  have hsz := Lib.size_eq T
  have K := Lib.hid (put_any w S T.size (by omega) hS)
  have hw : (T.size : Int) % 18446744073709551616 = (T.size : Int) := by omega
  have HW := Lib.hid hw
  have hln : ((⟨(S.data.toList ++ sh T.size).toArray⟩ : ByteArray)).size ≤ S.size + 10 := by
    rw [Lib.size_eq, Lib.size_eq]; simp; have := sh_length T.size; omega
  obtain ⟨U, hU⟩ : ∃ U, U = (⟨(S.data.toList ++ sh T.size).toArray⟩ : ByteArray) := ⟨_, rfl⟩
  rw [← hU] at hln K
  have HU : Hid (U.data.toList = S.data.toList ++ sh T.data.toList.length) := Lib.hid (by rw [hU, hsz])
  clear hw hU hsz
  go_enter Tryz.func58, Tryz.ntmps58
  go_wp2_with fail
  refine K.out.mono ?_
  rintro e w3 ⟨rfl, hb⟩
  have HB := Lib.hid hb
  clear hb
  go_wp2
  go_ret
  refine ⟨?_, HB.out⟩
  rw [cat, HU.out, putText, List.append_assoc]
  rfl
end Go.Proofs.YthcjjekkjbidlaaGreatDoor.Rf
/-
  The contracts of the reader at any bytes: short, Uint, Take, Text, End.
-/
namespace Go.Proofs.YthcjjekkjbidlaaGreatDoor.Rd
open Go.RowKit Go.Maps Go.WideMaps Go.Proofs.YthcjjekkjbidlaaGreatDoor.Rf

theorem ba_ext {A B : ByteArray} (h : A.data.toList = B.data.toList) : A = B := by
  cases A; cases B
  congr 1
  exact Array.toList_inj.1 h
theorem ba_data (l : List UInt8) : (⟨l.toArray⟩ : ByteArray).data.toList = l := by simp
theorem ba_mk (s : ByteArray) : (⟨s.data.toList.toArray⟩ : ByteArray) = s := ba_ext (by simp)
/-- A piece of a text. -/
theorem extract_list (L : List UInt8) (i j : Nat) : (⟨L.toArray⟩ : ByteArray).extract i j = ⟨((L.drop i).take (j - i)).toArray⟩ := by
  apply ba_ext
  rw [Lib.extract_data]
theorem extract_rest (L : List UInt8) (i j : Nat) (h : L.length ≤ j) : (⟨L.toArray⟩ : ByteArray).extract i j = ⟨(L.drop i).toArray⟩ := by
  rw [extract_list, List.take_of_length_le (by rw [List.length_drop]; omega)]
theorem one_size (w : World) (A : Obj) : (w.alloc A).heap.size = w.heap.size + 1 := by show (w.heap.push _).size = _; simp

/-- What the front of bytes says as a short number. -/
def shN (L : List UInt8) : Nat := match rd0 L with | some p => p.1 | none => 0
def shK (L : List UInt8) : Int := match rd0 L with | some p => (p.2 : Int) | none => -1

theorem rd_lt : ∀ (s : List UInt8) (i n m k : Nat), i ≤ 9 → n < 128 ^ i → Rf.rd i n s = some (m, k) → m < 18446744073709551616
  | [], _, _, _, _, _, _, h => by simp [Rf.rd] at h
  | b :: r, i, n, m, k, hi, hn, h => by
    have hb := UInt8.toNat_lt b
    have p64 : 128 ^ 9 * 2 = 18446744073709551616 := by decide
    simp only [Rf.rd] at h
    split at h
    · cases h
    split at h
    · cases h
    · next h2 =>
      have hbig : n + b.toNat * 128 ^ i < 18446744073709551616 ∨ ¬ b.toNat < 128 := by
        by_cases h9 : i = 9
        · left
          subst h9
          have : b.toNat ≤ 1 := by omega
          have : b.toNat * 128 ^ 9 ≤ 1 * 128 ^ 9 := Nat.mul_le_mul_right _ this
          omega
        · by_cases h128 : b.toNat < 128
          · left
            have e1 : b.toNat * 128 ^ i ≤ 127 * 128 ^ i := Nat.mul_le_mul_right _ (by omega)
            have e2 : 128 ^ (i + 1) ≤ 128 ^ 9 := Nat.pow_le_pow_right (by decide) (by omega)
            rw [Nat.pow_succ] at e2
            omega
          · exact .inr h128
      split at h
      · next h3 =>
        obtain ⟨rfl, rfl⟩ := Prod.mk.inj (Option.some.inj h)
        exact hbig.resolve_right (by omega)
      · next h3 =>
        by_cases h9 : i = 9
        · subst h9
          omega
        · refine rd_lt r (i + 1) _ m k (by omega) ?_ h
          have e1 : (b.toNat - 128) * 128 ^ i ≤ 127 * 128 ^ i := Nat.mul_le_mul_right _ (by omega)
          rw [Nat.pow_succ]; omega
theorem shN_lt (L : List UInt8) : shN L < 18446744073709551616 := by
  unfold shN
  cases h : rd0 L with
  | none => decide
  | some p => exact rd_lt L 0 0 p.1 p.2 (by omega) (by decide) h
theorem shK_le (L : List UInt8) : -1 ≤ shK L ∧ shK L ≤ L.length ∧ shK L ≤ 10 := by
  unfold shK
  cases h : rd0 L with
  | none => simp
  | some p =>
    have := rd_size L 0 0 p.1 p.2 h
    dsimp only
    omega

theorem or_add (n b i : Nat) (hn : n < 128 ^ i) : n ||| (b * 128 ^ i) = n + b * 128 ^ i := by
  have e : (128 : Nat) ^ i = 2 ^ (7 * i) := by rw [show (128 : Nat) = 2 ^ 7 from rfl, ← Nat.pow_mul]
  rw [e] at hn ⊢
  have := Nat.two_pow_add_eq_or_of_lt hn b
  rw [Nat.or_comm, Nat.mul_comm b, ← this, Nat.add_comm]
theorem and127 (b : UInt8) : bits .and .u8 (b.toNat : Int) 127 = ((b.toNat % 128 : Nat) : Int) := by
  have h1 := u8_and_nat b.toNat 127 (UInt8.toNat_lt b) (by decide)
  rw [show (127 : Nat) = 2 ^ 7 - 1 from rfl, Nat.and_two_pow_sub_one_eq_mod] at h1
  exact h1
end Go.Proofs.YthcjjekkjbidlaaGreatDoor.Rd
/-
  The law's id: a text's first 32 bytes, filled with noughts.
-/
namespace Go.Proofs.YthcjjekkjbidlaaGreatDoor.St
open Go.RowKit Go.Maps Go.WideMaps Go.Proofs.YthcjjekkjbidlaaGreatDoor.Rf Go.Proofs.YthcjjekkjbidlaaGreatDoor.Rd

def idOf (l : List UInt8) : List UInt8 := l.take 32 ++ List.replicate (32 - (l.take 32).length) 0
theorem idOf_length (l : List UInt8) : (idOf l).length = 32 := by simp [idOf]; omega
theorem buf_id (l : List UInt8) : buf (l.take 32) 32 = (Lib.byteCells (idOf l)).toArray := by
  rw [buf, idOf, Lib.byteCells, Lib.byteCells, List.map_append]
  congr 2
  rw [List.map_replicate]; rfl

set_option maxHeartbeats 4000000 in
set_option maxRecDepth 100000 in
theorem id_any (w : World) (l : List UInt8) (hl : l.length ≤ maxLen) :
    Calls Tryz.prog 34 #[.string ⟨l.toArray⟩] w fun e w' => e = .returned (.agg (Lib.byteCells (idOf l)).toArray) ∧ Below w.heap.size w w' := by
  have hs : (⟨l.toArray⟩ : ByteArray).size = l.length := rfl
  have HLN := Lib.hid hl
  obtain ⟨W, hW⟩ : ∃ W, W = (w.alloc (.cells (buf [] 32) 42)).alloc (.cells (buf [] 32) 42) := ⟨_, rfl⟩
  have hb0 : Below w.heap.size w W := by rw [hW]; exact ((Below.refl _ _).alloc (Nat.le_refl _) _).alloc (by rw [one_size]; omega) _
  have hq0 : W.heap[w.heap.size]? = some (.cells (buf [] 32) 42) := by rw [hW]; exact at_alloc (MapKept.heap_alloc w _).1 _
  have hq1 : W.heap[w.heap.size + 1]? = some (.cells (buf [] 32) 42) := by
    have := (MapKept.heap_alloc (w.alloc (.cells (buf [] 32) 42)) (.cells (buf [] 32) 42)).1
    rw [one_size] at this
    rw [hW]; exact this
  have HB0 := Lib.hid hb0; have HQ0 := Lib.hid hq0; have HQ1 := Lib.hid hq1; have HW := Lib.hid hW
  clear hb0 hq0 hq1 hW hl
  have hI32 : Hid ((Tryz.prog.info? 42).map (·.size) = some (Lib.byteCells (idOf l)).length) := Lib.hid (by rw [Lib.byteCells_length, idOf_length]; kernel_rfl)
  have hJ32 : Hid ((Tryz.prog.info? 42).map (·.size) = some (Lib.byteCells (idOf l)).toArray.size) := Lib.hid (by rw [List.size_toArray]; exact hI32.out)
  have hK32 : Hid ((buf [] 32).size = (Lib.byteCells (idOf l)).toArray.size) := Lib.hid (by rw [buf_size [] 32 (by decide), List.size_toArray, Lib.byteCells_length, idOf_length])
  have hone : Hid ((Lib.byteCells (idOf l)).toArray.all (·.oneCell') = true) := Lib.hid (Array.all_eq_true_iff_forall_mem.2 (fun u hu => by
    simp only [List.mem_toArray, Lib.byteCells, List.mem_map] at hu
    obtain ⟨b, _, rfl⟩ := hu; rfl))
  go_enter Tryz.func34, Tryz.ntmps34
  go_wp2
  go_loopw [4] (fun vi wr => ∃ i : Nat, i ≤ l.length ∧ i ≤ 32 ∧ vi = .int .i64 (i : Int) ∧ Hid (Below w.heap.size w wr ∧ wr.heap[w.heap.size]? = some (.cells (buf [] 32) 42) ∧ wr.heap[w.heap.size + 1]? = some (.cells (buf (l.take i) 32) 42))) (fun vi _ => 32 - (RowKit.intOf vi).toNat)
  case atStart =>
    refine ⟨0, Nat.zero_le _, by omega, rfl, Lib.hid ?_⟩
    change Below w.heap.size w ((w.alloc (.cells (buf [] 32) 42)).alloc (.cells (buf [] 32) 42)) ∧ ((w.alloc (.cells (buf [] 32) 42)).alloc (.cells (buf [] 32) 42)).heap[w.heap.size]? = _ ∧ ((w.alloc (.cells (buf [] 32) 42)).alloc (.cells (buf [] 32) 42)).heap[w.heap.size + 1]? = _
    rw [← HW.out]
    exact ⟨HB0.out, HQ0.out, HQ1.out⟩
  case round =>
    obtain ⟨i, hil, hi32, rfl, HR⟩ := hrel
    by_cases h1 : (i : Int) < (l.length : Int)
    · by_cases h2 : (i : Int) < 32
      · have hil' : i < l.length := by omega
        obtain ⟨b, hb⟩ : ∃ b, b = l[i] := ⟨_, rfl⟩
        have hidx : (⟨l.toArray⟩ : ByteArray)[i]'(by rw [hs]; omega) = b := by rw [hb]; rfl
        have hlt : w.heap.size + 1 < wr.heap.size := lt_of_heap HR.out.2.2
        have hck : wr.cell? ⟨w.heap.size + 1, i, none⟩ = some (.int .u8 0) := by
          rw [cell_of_heap HR.out.2.2]
          have := buf_get (l.take i) 32 (by rw [List.length_take]; omega)
          rwa [List.length_take, Nat.min_eq_left hil] at this
        have hfz : wr.frozen? ⟨w.heap.size + 1, i, none⟩ = false := frozen_of_heap HR.out.2.2
        have HN : Hid (Below w.heap.size w (wr.setCell ⟨w.heap.size + 1, i, none⟩ (.int .u8 (b.toNat : Int))) ∧ (wr.setCell ⟨w.heap.size + 1, i, none⟩ (.int .u8 (b.toNat : Int))).heap[w.heap.size]? = some (.cells (buf [] 32) 42) ∧ (wr.setCell ⟨w.heap.size + 1, i, none⟩ (.int .u8 (b.toNat : Int))).heap[w.heap.size + 1]? = some (.cells (buf (l.take (i + 1)) 32) 42)) := Lib.hid (by
          refine ⟨HR.out.1.setCell (p := ⟨w.heap.size + 1, i, none⟩) (Nat.le_succ _) _, (Below.heap_setCell _ _ _ _ (by simp)).trans HR.out.2.1, ?_⟩
          rw [setCell_heap _ _ _ _ _ _ HR.out.2.2]
          have := buf_set (l.take i) 32 b (by rw [List.length_take]; omega)
          rw [List.length_take, Nat.min_eq_left hil] at this
          rw [this, List.take_add_one, List.getElem?_eq_getElem hil', hb]; rfl)
        clear hb
        go_wp2
        go_roundw
        case rel => exact ⟨i + 1, by omega, by omega, by simp, HN⟩
        case measure => simp [RowKit.intOf]; omega
      · obtain rfl : i = 32 := by omega
        have hti : Hid (l.take 32 = l.take 32) := Lib.hid rfl
        have hr := HR.out
        have hrg : wr.rangeAt (w.heap.size + 1) 0 (Lib.byteCells (idOf l)) := by
          have := range_block hr.2.2
          rw [hti.out, buf_id] at this
          exact this
        have HRG := Lib.hid hrg
        have HQ := Lib.hid hr.2.1
        have HB := Lib.hid hr.1
        clear hr hrg HR
        go_wp2_with (first
          | (refine wpList_load_mid rfl _ _ rfl (w.heap.size + 1) 0 rfl (Lib.byteCells (idOf l)) _ HRG.out Tryz.underlying42 rfl hI32.out ?_)
          | (refine wpList_store_at HQ.out rfl _ _ _ rfl (Lib.byteCells (idOf l)).toArray rfl rfl hJ32.out hK32.out hone.out ?_
             intro w3 hq3 ht3 hs3
             have HQ3 := Lib.hid hq3; have HT3 := Lib.hid ht3
             clear hq3 ht3 hs3))
        refine bodyPost_ret (v := .agg (Lib.byteCells (idOf l)).toArray) (results_cell_row (fn := Tryz.f34) rfl _ _ w.heap.size _ _ _ _ rfl HQ3.out Tryz.underlying42 rfl hJ32.out) rfl ?_
        exact ⟨rfl, HB.out.trans (HT3.out.below (by simp) HB.out.size)⟩
    · have hti : Hid (l.take i = l.take 32) := Lib.hid (by rw [List.take_of_length_le (by omega), List.take_of_length_le (by omega)])
      have hr := HR.out
      have hrg : wr.rangeAt (w.heap.size + 1) 0 (Lib.byteCells (idOf l)) := by
        have := range_block hr.2.2
        rw [hti.out, buf_id] at this
        exact this
      have HRG := Lib.hid hrg
      have HQ := Lib.hid hr.2.1
      have HB := Lib.hid hr.1
      clear hr hrg HR
      go_wp2_with (first
        | (refine wpList_load_mid rfl _ _ rfl (w.heap.size + 1) 0 rfl (Lib.byteCells (idOf l)) _ HRG.out Tryz.underlying42 rfl hI32.out ?_)
        | (refine wpList_store_at HQ.out rfl _ _ _ rfl (Lib.byteCells (idOf l)).toArray rfl rfl hJ32.out hK32.out hone.out ?_
           intro w3 hq3 ht3 hs3
           have HQ3 := Lib.hid hq3; have HT3 := Lib.hid ht3
           clear hq3 ht3 hs3))
      refine bodyPost_ret (v := .agg (Lib.byteCells (idOf l)).toArray) (results_cell_row (fn := Tryz.f34) rfl _ _ w.heap.size _ _ _ _ rfl HQ3.out Tryz.underlying42 rfl hJ32.out) rfl ?_
      exact ⟨rfl, HB.out.trans (HT3.out.below (by simp) HB.out.size)⟩
end Go.Proofs.YthcjjekkjbidlaaGreatDoor.St
/-
  How an index of the reference's lies in memory; the contract of its At.
-/
namespace Go.Proofs.YthcjjekkjbidlaaGreatDoor.St
open Go.RowKit Go.Maps Go.WideMaps Go.Proofs.YthcjjekkjbidlaaGreatDoor.Rf Go.Proofs.YthcjjekkjbidlaaGreatDoor.Rd

structure RefAt (B : Nat) (w : World) (r : Nat) (v : Value) (L : List SE) : Prop where
  book : w.heap[r]? = some (.cells #[v] 29)
  row : w.ownsRow B 49 38 v L.length (cellsS L)
  off : ∀ x ∈ ob v, x ≠ r
  base : B ≤ r
  srt : Srt L
  fits : ∀ e ∈ L, e.Fits
  len : L.length ≤ 65536
theorem RefAt.lt {B : Nat} {w : World} {r : Nat} {v : Value} {L : List SE} (h : RefAt B w r v L) : r < w.heap.size := lt_of_heap h.book
theorem RefAt.kept {B : Nat} {w w' : World} {r : Nat} {v : Value} {L : List SE} (h : RefAt B w r v L) (hr : w'.heap[r]? = w.heap[r]?) (hv : ∀ x ∈ ob v, w'.heap[x]? = w.heap[x]?) : RefAt B w' r v L :=
  ⟨hr.trans h.book, rowS_kept h.row (fun x hx _ => hv x hx), h.off, h.base, h.srt, h.fits, h.len⟩
theorem RefAt.below {B : Nat} {w w' : World} {r : Nat} {v : Value} {L : List SE} (h : RefAt B w r v L) (hb : Below w.heap.size w w') : RefAt B w' r v L :=
  h.kept (hb.block _ h.lt) (fun x hx => hb.block _ (rowS_lt h.row x hx))
theorem RefAt.mono {B B' : Nat} {w : World} {r : Nat} {v : Value} {L : List SE} (h : RefAt B w r v L) (hB : B' ≤ B) : RefAt B' w r v L :=
  ⟨h.book, row_mono h.row hB, h.off, Nat.le_trans hB h.base, h.srt, h.fits, h.len⟩
theorem fitsId {L : List SE} (h : ∀ e ∈ L, e.Fits) : ∀ e ∈ L, e.id.length = 32 := fun e he => (h e he).id
/-- An entry's cells within the row. -/
theorem RefAt.ent {B : Nat} {w : World} {r g n cap : Nat} {L : List SE} (h : RefAt B w r (.slice (some ⟨g, 0, none⟩) n cap) L) {i : Nat} {e : SE} (he : L[i]? = some e) : w.rangeAt g (i * 38) e.cells := by
  obtain ⟨h1, ⟨hc, _⟩ | ⟨g', cap', cur, hv, a1, a2, a3, a4, a5, a6⟩⟩ := h.row
  · cases hc
  · injection hv with e1 e2 e3
    injection e1 with e1
    injection e1 with e1
    subst e1
    intro t u hu
    rw [cell_of_heap a2]
    have hk := cellsS_at (fitsId h.fits) he hu
    rw [← a6] at hk
    have hlt : i * 38 + t < L.length * 38 := by
      have := (List.getElem?_eq_some_iff.1 hk).1
      rw [List.length_take] at this
      omega
    rw [List.getElem?_take_of_lt hlt, Array.getElem?_toList] at hk
    exact hk
theorem RefAt.path {B : Nat} {w : World} {r g n cap : Nat} {L : List SE} (h : RefAt B w r (.slice (some ⟨g, 0, none⟩) n cap) L) {i : Nat} {e : SE} (he : L[i]? = some e) : w.cell? ⟨g, i * 38, none⟩ = some (.string ⟨e.path.toArray⟩) :=
  h.ent he 0 _ rfl

theorem below_drewN (w : World) (n : Nat) : Below w.heap.size w (w.drewN n) := (Below.refl _ _).trans ⟨rfl, rfl, rfl, Nat.le_of_eq (by rw [World.heap_drewN]), fun _ _ => by rw [World.heap_drewN]⟩

end Go.Proofs.YthcjjekkjbidlaaGreatDoor.St
