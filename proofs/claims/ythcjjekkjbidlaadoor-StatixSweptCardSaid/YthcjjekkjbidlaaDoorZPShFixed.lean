import Derived.Test.YthcjjekkjbidlaaDoorZPShKit
import Derived.Test.YthcjjekkjbidlaaDoorZPShPlain
import Derived.Test.YthcjjekkjbidlaaDoorZPStEncode
import Derived.Lib.FrozenHead
import Derived.Lib.ConvBytes
set_option linter.unusedSimpArgs false
set_option linter.unusedVariables false
/-
  The contracts of a number in eight bytes: the reference's.
-/
namespace Go.Proofs.YthcjjekkjbidlaaDoor.Sh
open Go.RowKit Go.Maps Go.Proofs.YthcjjekkjbidlaaDoor.Rf Go.Proofs.YthcjjekkjbidlaaDoor.Rd Go.Proofs.YthcjjekkjbidlaaDoor.St

def beB (n i : Nat) : UInt8 := UInt8.ofNat (n / 256 ^ (7 - i))
theorem be8_take (n j : Nat) (h : j < 8) : (be8 n).take (j + 1) = (be8 n).take j ++ [beB n j] := by
  have hl : j < (be8 n).length := by simp [be8]; exact h
  rw [List.take_succ_eq_append_getElem hl]
  simp [be8, beB]
theorem be8_length (n : Nat) : (be8 n).length = 8 := by simp [be8]
theorem shr_byte (n i : Nat) : (((n : Int) / 2 ^ (8 * i)) % 256) = ((UInt8.ofNat (n / 256 ^ i)).toNat : Int) := by
  have e : (2 : Int) ^ (8 * i) = ((256 ^ i : Nat) : Int) := by rw [show (256 : Nat) = 2 ^ 8 from rfl, ← Nat.pow_mul]; simp
  rw [e, UInt8.toNat_ofNat', ← Int.natCast_ediv]
  generalize n / 256 ^ i = m
  simp

set_option maxRecDepth 100000 in
theorem fits8 (w : World) (n : Nat) :
    Calls Tryd.prog 110 #[.int .u64 (n : Int), .int .i64 8] w fun e w' => e = .returned (.bool true) ∧ w' = w := by
  go_enter Tryd.func110, Tryd.ntmps110
  go_wp2
  go_ret
  exact ⟨rfl, rfl⟩
set_option maxHeartbeats 4000000 in
set_option maxRecDepth 100000 in
theorem ref_fixed8 (w : World) (l : List UInt8) (n : Nat) (hl : l.length ≤ 140737488355328) :
    Calls Tryd.prog 95 #[.string ⟨l.toArray⟩, .int .u64 (n : Int), .int .i64 8] w fun e w' => e = .returned (.tuple #[.string ⟨(l ++ be8 n).toArray⟩, .int .i64 0]) ∧ Below w.heap.size w w' := by
  have FI := Lib.hid (fits8 w n)
  go_enter Tryd.func95, Tryd.ntmps95
  go_wp2_with fail
  refine FI.out.mono ?_
  rintro e wx ⟨rfl, hwx⟩
  obtain rfl : w = wx := hwx.symm
  go_wp2
  go_loopw [0, 8] (fun vs vi w' => ∃ j : Nat, j ≤ 8 ∧ vs = .string ⟨(l ++ (be8 n).take j).toArray⟩ ∧ vi = .int .i64 (7 - (j : Int)) ∧ Hid (Below w.heap.size w w')) (fun _ vi _ => (RowKit.intOf vi + 1).toNat)
  case atStart => exact ⟨0, by omega, by simp, rfl, Lib.hid (Below.refl _ _)⟩
  case round =>
    obtain ⟨j, hj, rfl, rfl, HB⟩ := hrel
    obtain ⟨i, hi⟩ : ∃ i : Int, i = 7 - (j : Int) := ⟨_, rfl⟩
    rw [← hi]
    by_cases hlt : (0 : Int) ≤ i
    · have hj8 : j < 8 := by omega
      obtain ⟨k, hk⟩ : ∃ k : Nat, i = (k : Int) := ⟨7 - j, by omega⟩
      subst hk
      have hk7 : k ≤ 7 := by omega
      have hjk : 7 - j = k := by omega
      obtain ⟨d, hd⟩ : ∃ d, d = UInt8.ofNat (n / 256 ^ k) := ⟨_, rfl⟩
      have hv : (n : Int) / 2 ^ (8 * k) % 256 = (d.toNat : Int) := by rw [hd]; exact shr_byte n k
      have hcv := conv_val hv (MapKept.heap_alloc wr (.cells #[.int .u8 ((n : Int) / 2 ^ (8 * k) % 256)] 5)).1
      have HC : Hid ((⟨(l ++ (be8 n).take j).toArray⟩ : ByteArray) ++ ⟨[d].toArray⟩ = ⟨(l ++ (be8 n).take (j + 1)).toArray⟩) := Lib.hid (by rw [cat_list, ba_data, List.append_assoc, be8_take n j hj8, beB, hjk, hd])
      have HB2 := Lib.hid (HB.out.alloc HB.out.size (.cells #[.int .u8 ((n : Int) / 2 ^ (8 * k) % 256)] 5))
      have HK := Lib.hid hi
      have hpl : l.length + ((be8 n).take j).length + 1 ≤ 9223372036854775807 := by rw [List.length_take]; omega
      clear hv hd hi hjk HB
      go_wp2
      go_roundw
      case rel => exact ⟨j + 1, by omega, congrArg Value.string HC.out, congrArg (Value.int .i64) (by have := HK.out; omega), HB2⟩
      case measure => simp [RowKit.intOf]
    · obtain rfl : j = 8 := by omega
      have HE : Hid ((be8 n).take 8 = be8 n) := Lib.hid (List.take_of_length_le (by rw [be8_length]; omega))
      clear hi
      go_wp2
      go_ret2
      rw [HE.out]
      exact ⟨rfl, HB.out⟩

set_option maxRecDepth 100000 in
/-- A number in eight bytes. -/
theorem ref_Fixed8 (w : World) (n : Nat) :
    Calls Tryd.prog 82 #[.int .u64 (n : Int), .int .i64 8] w fun e w' => e = .returned (.string ⟨(be8 n).toArray⟩) ∧ Below w.heap.size w w' := by
  have FI := Lib.hid (ref_fixed8 w [] n (by decide))
  go_enter Tryd.func82, Tryd.ntmps82
  go_wp2_with fail
  refine FI.out.mono ?_
  rintro e w1 ⟨rfl, hb⟩
  have HB := Lib.hid hb
  clear hb
  go_wp2
  go_ret
  exact ⟨rfl, HB.out⟩

/-! ### the program's -/
theorem bc_set (L : List UInt8) (j : Nat) (b : UInt8) : (Lib.byteCells L).toArray.setIfInBounds j (.int .u8 (b.toNat : Int)) = (Lib.byteCells (L.set j b)).toArray := by
  simp [Lib.byteCells]
theorem bc_get {L : List UInt8} {j : Nat} {b : UInt8} (h : L[j]? = some b) : (Lib.byteCells L).toArray[j]? = some (.int .u8 (b.toNat : Int)) := by
  simp [Lib.byteCells, h]
end Go.Proofs.YthcjjekkjbidlaaDoor.Sh
/-
  A row of bytes that a text was turned into, and texts appended to it.
-/
namespace Go.Proofs.YthcjjekkjbidlaaDoor.St
open Go.RowKit Go.Maps Go.WideMaps Go.Proofs.YthcjjekkjbidlaaDoor.Rf Go.Proofs.YthcjjekkjbidlaaDoor.Rd

theorem run_storeCells_atM (P : Program) (g o : Nat) (t : TypeId) (fz : Nat × Nat) : ∀ (vs : List Value) (i : Nat) (cur : Array Value) (w : World), w.heap[g]? = some (.cells cur t fz) → (fz.2 ≤ o + i ∨ o + i + vs.length ≤ fz.1) → o + i + vs.length ≤ cur.size → (∀ v ∈ vs, v.oneCell' = true) →
    (storeCells ⟨g, o, none⟩ vs i).run P w = .ok () (w.setRow g (cur.toList.take (o + i) ++ vs ++ cur.toList.drop (o + i + vs.length)).toArray)
  | [], i, cur, w, hg, _, _, _ => by
    simp only [storeCells, List.append_nil, List.length_nil, Nat.add_zero, List.take_append_drop, Array.toArray_toList]
    rw [setRow_self w g cur t fz hg]
    rfl
  | v :: rest, i, cur, w, hg, hfz, hl, h1 => by
    have hi : o + i < cur.size := by simp at hl; omega
    have hadd : (⟨g, o, none⟩ : Addr).add i = ⟨g, o + i, none⟩ := by unfold Addr.add; split <;> simp_all
    have hcell : w.cell? ⟨g, o + i, none⟩ = some cur[o + i] := by simp [World.cell?, hg, hi]
    have hfro : w.frozen? ⟨g, o + i, none⟩ = false := by
      obtain ⟨lo, hi'⟩ := fz
      simp only [World.frozen?, hg, Bool.and_eq_false_iff, decide_eq_false_iff_not]
      simp only [List.length_cons] at hfz
      omega
    have hst : (store ((⟨g, o, none⟩ : Addr).add i) v).run P w = .ok () (w.setRow g (cur.setIfInBounds (o + i) v)) := by
      rw [hadd, run_store P w _ v _ (h1 v (by simp)), hcell]
      simp [hfro, setCell_eq_setRow w g (o + i) cur t fz v hg]
    have ih := run_storeCells_atM P g o t fz rest (i + 1) (cur.setIfInBounds (o + i) v) (w.setRow g (cur.setIfInBounds (o + i) v)) (setRow_heap w g cur _ t _ hg) (by simp only [List.length_cons] at hfz; omega) (by simp at hl ⊢; omega) (fun x hx => h1 x (by simp [hx]))
    simp only [storeCells, Sem.run_bind, hst, Result.andThen_ok, ih, setRow_setRow]
    congr 3
    have e := list_seg_step cur.toList (o + i) v rest (by simp at hl ⊢; omega)
    simpa [Array.toList_setIfInBounds, Nat.add_assoc] using e

/-- A row of the call's own that holds these bytes; a mark may stand behind its last place. -/
def RowM (w : World) (B : Nat) (v : Value) (l : List UInt8) : Prop :=
  ∃ (g cap : Nat) (cur : Array Value) (fz : Nat × Nat), v = .slice (some ⟨g, 0, none⟩) l.length cap ∧ B ≤ g ∧ w.heap[g]? = some (.cells cur 5 fz) ∧ (fz.2 ≤ l.length ∨ cap ≤ fz.1) ∧ l.length ≤ cap ∧ cap ≤ maxLen ∧ cur.size = cap ∧ cur.toList.take l.length = Lib.byteCells l
theorem RowM.lt {w : World} {B : Nat} {v : Value} {l : List UInt8} (h : RowM w B v l) : ∀ x ∈ ob v, B ≤ x ∧ x < w.heap.size := by
  obtain ⟨g, cap, cur, fz, rfl, hB, hg, _⟩ := h
  intro x hx
  have : x = g := by simpa [ob, Value.ownBlock] using hx
  subst this
  exact ⟨hB, lt_of_heap' hg⟩
where lt_of_heap' {w : World} {q : Nat} {o : Obj} (h : w.heap[q]? = some o) : q < w.heap.size := (Array.getElem?_eq_some_iff.1 h).1
theorem RowM.kept {w w' : World} {B : Nat} {v : Value} {l : List UInt8} (h : RowM w B v l) (hb : ∀ x ∈ ob v, x < w.heap.size → w'.heap[x]? = w.heap[x]?) : RowM w' B v l := by
  have hl := h.lt
  obtain ⟨g, cap, cur, fz, rfl, hB, hg, rest⟩ := h
  exact ⟨g, cap, cur, fz, rfl, hB, (hb g (by simp [ob, Value.ownBlock]) (hl g (by simp [ob, Value.ownBlock])).2).trans hg, rest⟩
theorem RowM.below {w w' : World} {B : Nat} {v : Value} {l : List UInt8} (h : RowM w B v l) (hb : Below w.heap.size w w') : RowM w' B v l := h.kept (fun x _ hl => hb.block x hl)
theorem rowM_conv (w : World) (B : Nat) (hB : B ≤ w.heap.size) (l : List UInt8) (hl : l.length ≤ maxLen) : RowM (Lib.bytesWorld w 5 ⟨l.toArray⟩) B (.slice (some ⟨w.heap.size, 0, none⟩) l.length (grownCap w l.length 0 5)) l := by
  have hge := grownCap_ge w l.length 0 5
  have hsz : (Lib.bytesCells w 5 ⟨l.toArray⟩).size = grownCap w l.length 0 5 := by
    simp only [Lib.bytesCells, Array.size_append, Array.size_map, Array.size_replicate]
    show l.length + (grownCap w l.length 0 5 - l.length) = _
    omega
  refine ⟨w.heap.size, _, _, _, rfl, hB, Lib.bytesWorld_at_new w 5 ⟨l.toArray⟩, .inr (by show _ ≤ (Lib.bytesCells w 5 ⟨l.toArray⟩).size; omega), hge, grownCap_le_maxLen w _ 0 _ hl, hsz, ?_⟩
  rw [Lib.bytesCells, Array.toList_append, List.take_append_of_le_length (by simp)]
  rw [List.take_of_length_le (by simp)]
  simp [Lib.byteCells]
theorem RowM.range {w : World} {B : Nat} {l : List UInt8} {g n cap : Nat} (h : RowM w B (.slice (some ⟨g, 0, none⟩) n cap) l) : w.rangeAt g 0 (Lib.byteCells l) := by
  obtain ⟨g', cap', cur, fz, hv, _, hg, _, _, _, _, ht⟩ := h
  injection hv with e1 _ _
  injection e1 with e1
  injection e1 with e1
  subst e1
  intro j v hv
  rw [Nat.zero_add]
  have hj : j < l.length := by have := (List.getElem?_eq_some_iff.1 hv).1; rwa [Lib.byteCells_length] at this
  rw [← ht, List.getElem?_take_of_lt hj, Array.getElem?_toList] at hv
  rw [World.cell?, hg]; simpa using hv
theorem RowM.conv {w : World} {B : Nat} {l : List UInt8} {v : Value} (h : RowM w B v l) : (convert 38 9 v).run Tryd.prog w = .ok (.string ⟨l.toArray⟩) w := by
  have h0 := h
  obtain ⟨g, cap, cur, fz, rfl, _⟩ := h
  exact conv_row l h0.range

section
variable {w : World} {B : Nat}
theorem run_append_M (t u ty : TypeId) (i : TypeInfo) (ht : Tryd.prog.underlying t = some (.slice 5)) (hu : Tryd.prog.underlying u = some .string) (hi : Tryd.prog.info? 5 = some i) (hz : i.zero = some (.int .u8 0))
    (hsize : i.size = 1) (hby : i.bytes = 1) (v : Value) (l s : List UInt8) (hown : RowM w B v l) (hbytes : l.length + s.length ≤ 140737488355328) (hbase : B ≤ w.heap.size) :
    ∃ v' w', (Builtin.append_ #[t, u] ty #[v, .string ⟨s.toArray⟩]).run Tryd.prog w = .ok v' w' ∧ RowM w' B v' (l ++ s) ∧ w.grownBy w' v.ownBlock ∧ ∀ x ∈ ob v', x ∈ ob v ∨ w.heap.size ≤ x := by
  obtain ⟨g, cap, cur, fz, rfl, hB, hg, hfz, hnc, hcm, hcs, htk⟩ := hown
  have hss : (⟨s.toArray⟩ : ByteArray).size = s.length := rfl
  have hbl : (Lib.byteCells l).length = l.length := Lib.byteCells_length l
  have hsl : (Lib.strCells ⟨s.toArray⟩).length = s.length := Lib.strCells_length _
  have hcat : Lib.byteCells (l ++ s) = Lib.byteCells l ++ Lib.strCells ⟨s.toArray⟩ := by simp [Lib.byteCells, Lib.strCells]
  by_cases hroom : l.length + s.length ≤ cap
  · have hf := Lib.run_firstCells_string (P := Tryd.prog) w 1 ⟨s.toArray⟩
    have hst := run_storeCells_atM Tryd.prog g l.length 5 fz (Lib.strCells ⟨s.toArray⟩) 0 cur w hg (by rw [hsl]; omega) (by rw [hsl]; omega) (Lib.strCells_oneCell _)
    simp only [Nat.add_zero, hsl] at hst
    have hr : (Builtin.append_ #[t, u] ty #[.slice (some ⟨g, 0, none⟩) l.length cap, .string ⟨s.toArray⟩]).run Tryd.prog w =
        .ok (.slice (some ⟨g, 0, none⟩) (l.length + s.length) cap) (w.setRow g (cur.toList.take l.length ++ Lib.strCells ⟨s.toArray⟩ ++ cur.toList.drop (l.length + s.length)).toArray) := by
      rw [hss] at hf
      simp [Builtin.append_, run_underlying ht, run_underlying hu, sizeOf, typeInfo, hi, hsize, Builtin.lenOf, hroom, hf, Addr.add_lit, hst, hss]
    refine ⟨_, _, hr, ⟨g, cap, _, fz, by rw [List.length_append], hB, Go.setRow_heap w g cur _ 5 _ hg, by rw [List.length_append]; omega, by rw [List.length_append]; exact hroom, hcm, ?_, ?_⟩, ⟨rfl, rfl, rfl, by simp [World.setRow], fun k _ hk => setRow_other w g k _ (fun e => hk (by simp [Value.ownBlock, e]))⟩, fun x hx => .inl (by simpa [ob, Value.ownBlock] using hx)⟩
    · simp only [List.size_toArray, List.length_append, List.length_take, List.length_drop, Array.length_toList, hsl]
      omega
    · rw [htk, hcat]
      refine List.take_left' ?_
      rw [List.length_append, hbl, hsl, List.length_append]
  · have holds : ∀ j u, (Lib.byteCells l)[j]? = some u → w.cell? ((⟨g, 0, none⟩ : Addr).add j) = some u := fun j u hu => by
      have hr0 : RowM w B (.slice (some ⟨g, 0, none⟩) l.length cap) l := ⟨g, cap, cur, fz, rfl, hB, hg, hfz, hnc, hcm, hcs, htk⟩
      have := hr0.range j u hu
      rw [Addr.add_lit]; simpa using this
    have h63 : l.length + s.length ≤ maxLen := by unfold maxLen; omega
    have hr := Lib.run_append_grow_string (P := Tryd.prog) w t u ty 5 i (.int .u8 0) ht hu hi hz ⟨g, 0, none⟩ l.length cap (Lib.byteCells l) (by rw [hsize, hbl]; omega) holds ⟨s.toArray⟩ (by rw [hss]; omega) (by rw [hss]; omega) (by rw [hby]; exact growslice_fits (by rw [hss]; omega) (by rw [hss]; omega))
    have hge := grownCap_ge w (l.length + s.length) cap 5
    have hcm2 : grownCap w (l.length + s.length) cap 5 ≤ maxLen := grownCap_le_maxLen w (l.length + s.length) cap 5 h63
    refine ⟨_, _, hr, ⟨w.heap.size, _, _, (0, 0), by rw [List.length_append]; rfl, hbase, (MapKept.heap_alloc w.drew _).1, .inl (Nat.zero_le _), by rw [List.length_append]; exact hge, hcm2, ?_, ?_⟩, ⟨rfl, rfl, rfl, by simp, fun k hk _ => Below.heap_alloc w.drew _ _ hk⟩, fun x hx => .inr ?_⟩
    · have hz1 : (Value.int IntKind.u8 0).cells.size = 1 := rfl
      simp only [Array.size_append, List.size_toArray, size_zeroCells, hz1, hbl, hsl, hss]
      omega
    · simp only [Array.toList_append, List.append_assoc]
      rw [← List.append_assoc, hcat]
      refine List.take_left' ?_
      rw [List.length_append, hbl, hsl, List.length_append]
    · have : x = w.heap.size := by simpa [ob, Value.ownBlock] using hx
      omega
theorem wp_append_M {o : Oper} {a : Act} {K : Act → World → Prop} {Q : Exit → Act → World → Prop} (sl x : Operand) (t u : TypeId)
    (ho : o.op = .call { callee := .builtin .append, args := #[sl, x], argTypes := #[t, u] }) (i : TypeInfo)
    (ht : Tryd.prog.underlying t = some (.slice 5)) (hu : Tryd.prog.underlying u = some .string) (hi : Tryd.prog.info? 5 = some i) (hz : i.zero = some (.int .u8 0)) (hsize : i.size = 1) (hby : i.bytes = 1)
    (v : Value) (l s : List UInt8) (hs : a.eval sl = v) (hown : RowM w B v l) (hx : a.eval x = .string ⟨s.toArray⟩) (hbytes : l.length + s.length ≤ 140737488355328) (hbase : B ≤ w.heap.size)
    (h : ∀ v' w', RowM w' B v' (l ++ s) → w.grownBy w' v.ownBlock → (∀ x ∈ ob v', x ∈ ob v ∨ w.heap.size ≤ x) → K (a.put o.dst v') w') : o.wp Tryd.prog a w K Q := by
  obtain ⟨v', w', hr, h2, h3, h4⟩ := run_append_M (B := B) t u o.type i ht hu hi hz hsize hby v l s hown hbytes hbase
  unfold Oper.wp execOp
  simp only [ho, resolve, invoke, builtin, Sem.run_bind, Sem.run_pure, Result.andThen_ok, List.map_toArray, List.map_cons, List.map_nil, hs, hx, hr]
  exact h v' w' h2 h3 h4
end
end Go.Proofs.YthcjjekkjbidlaaDoor.St
