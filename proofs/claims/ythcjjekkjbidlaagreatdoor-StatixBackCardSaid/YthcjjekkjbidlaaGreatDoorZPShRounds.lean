import Derived.Test.YthcjjekkjbidlaaGreatDoorZPStAll
import Derived.Test.YthcjjekkjbidlaaGreatDoorZPStLen
import Derived.Test.YthcjjekkjbidlaaGreatDoorZPStReg
import Derived.StillTailTactics
set_option linter.unusedSimpArgs false
set_option linter.unusedVariables false
/-
  The contract of what a block makes of the eight words: the program's.
-/
namespace Go.Proofs.YthcjjekkjbidlaaGreatDoor.Sh
open Go.RowKit Go.Proofs.YthcjjekkjbidlaaGreatDoor.Rf Go.Proofs.YthcjjekkjbidlaaGreatDoor.Rd

abbrev wdV (x : Int) : Value := .int .u32 x
def V8.cells (v : V8) : Array Value := #[wdV v.a, wdV v.b, wdV v.c, wdV v.d, wdV v.e, wdV v.f, wdV v.g, wdV v.h]
abbrev T8 : TypeId := 194
abbrev T64 : TypeId := 196
/-- A row of words as cells. -/
def wc (L : List Int) : Array Value := (L.map wdV).toArray
theorem wc_size (L : List Int) : (wc L).size = L.length := by simp [wc]
theorem wc_get {L : List Int} {j : Nat} (h : j < L.length) : (wc L)[j]? = some (wdV (L.getD j 0)) := by
  simp [wc, List.getD_eq_getElem?_getD, h]
theorem wc_set (L : List Int) (j : Nat) (x : Int) : (wc L).setIfInBounds j (wdV x) = wc (L.set j x) := by
  simp [wc]

theorem add_left (A x : Int) : (A % 4294967296 + x) % 4294967296 = (A + x) % 4294967296 := by omega
/-- The words when i bytes were read. -/
def L1 (B : List UInt8) (i : Nat) : List Int := (List.range 64).map fun j => num (((B.take i).drop (4 * j)).take 4)
theorem L1_length (B : List UInt8) (i : Nat) : (L1 B i).length = 64 := by simp [L1]
theorem L1_get (B : List UInt8) (i j : Nat) (h : j < 64) : (L1 B i).getD j 0 = num (((B.take i).drop (4 * j)).take 4) := by
  simp [L1, h]
theorem ext_getD {A C : List Int} {n : Nat} (hA : A.length = n) (hC : C.length = n) (h : ∀ j, j < n → A.getD j 0 = C.getD j 0) : A = C := by
  apply List.ext_getElem (by omega)
  intro j h1 h2
  have := h j (by omega)
  rwa [List.getD_eq_getElem?_getD, List.getD_eq_getElem?_getD, List.getElem?_eq_getElem h1, List.getElem?_eq_getElem h2] at this
theorem getD_set (A : List Int) (i : Nat) (x : Int) (j : Nat) (hi : i < A.length) : (A.set i x).getD j 0 = if i = j then x else A.getD j 0 := by
  rw [List.getD_eq_getElem?_getD, List.getElem?_set]
  split
  · next h => subst h; simp
  · rw [List.getD_eq_getElem?_getD]
theorem getD_rep (n : Nat) (j : Nat) : (List.replicate n (0 : Int)).getD j 0 = 0 := by
  rw [List.getD_eq_getElem?_getD, List.getElem?_replicate]
  split <;> rfl
theorem L1_zero (B : List UInt8) : L1 B 0 = List.replicate 64 0 :=
  ext_getD (L1_length B 0) (List.length_replicate ..) (fun j hj => by rw [L1_get _ _ _ hj, getD_rep, List.take_zero, List.drop_nil]; rfl)
theorem L1_step (B : List UInt8) (hB : B.length = 64) (i : Nat) (hi : i < 64) : (L1 B i).set (i / 4) ((L1 B i).getD (i / 4) 0 * 256 + ((B[i]'(by omega)).toNat : Int)) = L1 B (i + 1) := by
  refine ext_getD (n := 64) (by rw [List.length_set, L1_length]) (L1_length _ _) (fun j hj => ?_)
  have e1 : B.take (i + 1) = B.take i ++ [B[i]'(by omega)] := by rw [List.take_succ_eq_append_getElem (by omega)]
  rw [getD_set _ _ _ _ (by rw [L1_length]; omega), L1_get _ _ _ (by omega), L1_get _ _ _ hj, L1_get _ _ _ hj, e1]
  split
  · next h =>
    subst h
    rw [List.drop_append_of_le_length (by rw [List.length_take]; omega), List.take_of_length_le (l := (B.take i).drop _) (by rw [List.length_drop, List.length_take]; omega), List.take_of_length_le (l := (B.take i).drop (4 * (i / 4)) ++ [B[i]'(by omega)]) (by rw [List.length_append, List.length_drop, List.length_take, List.length_singleton]; omega), num_snoc]
  · next h =>
    congr 1
    by_cases hlt : j < i / 4
    · rw [List.drop_append_of_le_length (by rw [List.length_take]; omega), List.take_append_of_le_length (by rw [List.length_drop, List.length_take]; omega)]
    · rw [List.drop_eq_nil_of_le (by rw [List.length_take]; omega), List.drop_eq_nil_of_le (by rw [List.length_append, List.length_take, List.length_singleton]; omega)]
theorem L1_lt (B : List UInt8) (i : Nat) (hi : i < 64) : 0 ≤ (L1 B i).getD (i / 4) 0 ∧ (L1 B i).getD (i / 4) 0 < 16777216 := by
  rw [L1_get _ _ _ (by omega)]
  have h := num_in (((B.take i).drop (4 * (i / 4))).take 4)
  have hl : (((B.take i).drop (4 * (i / 4))).take 4).length ≤ 3 := by
    rw [List.length_take, List.length_drop, List.length_take]; omega
  generalize ((B.take i).drop (4 * (i / 4))).take 4 = A at *
  refine ⟨h.1, Int.lt_of_lt_of_le h.2 ?_⟩
  clear h
  generalize A.length = n at hl
  match n, hl with
  | 0, _ => decide
  | 1, _ => decide
  | 2, _ => decide
  | 3, _ => decide
/-- The words when k more were reckoned. -/
def L2 (B : List UInt8) (k : Nat) : List Int := sch (wrds B) k ++ List.replicate (48 - k) 0
theorem L2_length (B : List UInt8) (k : Nat) (h : k ≤ 48) : (L2 B k).length = 64 := by rw [L2, List.length_append, sch_length, wrds_length, List.length_replicate]; omega
theorem L2_zero (B : List UInt8) (hB : B.length = 64) : L1 B 64 = L2 B 0 := by
  refine ext_getD (L1_length _ _) (L2_length _ _ (by omega)) (fun j hj => ?_)
  rw [L1_get _ _ _ hj, List.take_of_length_le (l := B) (by omega), L2, sch]
  by_cases h16 : j < 16
  · rw [List.getD_eq_getElem?_getD, List.getElem?_append_left (by rw [wrds_length]; exact h16)]
    simp [wrds, wrd, h16]
  · rw [List.getD_eq_getElem?_getD, List.getElem?_append_right (by rw [wrds_length]; omega), ← List.getD_eq_getElem?_getD, getD_rep, List.drop_eq_nil_of_le (by omega)]
    rfl
theorem L2_get (B : List UInt8) (k j : Nat) (h : j < 16 + k) : (L2 B k).getD j 0 = (sch (wrds B) k).getD j 0 := by
  rw [L2, List.getD_eq_getElem?_getD, List.getElem?_append_left (by rw [sch_length, wrds_length]; exact h), ← List.getD_eq_getElem?_getD]
theorem L2_step (B : List UInt8) (k : Nat) (h : k < 48) : (L2 B k).set (16 + k) (nxt (L2 B k) (16 + k)) = L2 B (k + 1) := by
  have e : nxt (L2 B k) (16 + k) = nxt (sch (wrds B) k) (16 + k) := by
    unfold nxt
    rw [L2_get _ _ _ (by omega), L2_get _ _ _ (by omega), L2_get _ _ _ (by omega), L2_get _ _ _ (by omega)]
  rw [e]
  have e2 : List.replicate (48 - k) (0 : Int) = 0 :: List.replicate (48 - (k + 1)) 0 := by
    rw [show 48 - k = (48 - (k + 1)) + 1 by omega]; rfl
  rw [L2, L2, e2, sch, List.set_append_right _ _ (by rw [sch_length, wrds_length]; omega), sch_length, wrds_length, show 16 + k - (16 + k) = 0 by omega, List.append_assoc]
  rfl
theorem L2_end (B : List UInt8) : L2 B 48 = sch (wrds B) 48 := by simp [L2]

theorem info8 (v : V8) : (Tryz.prog.info? T8).map (·.size) = some v.cells.size := by kernel_rfl
theorem info64 {L : List Int} (h : L.length = 64) : (Tryz.prog.info? T64).map (·.size) = some (wc L).size := by rw [wc_size, h]; kernel_rfl
theorem one8 (v : V8) : v.cells.all (·.oneCell') = true := by simp [V8.cells, Value.oneCell']
theorem run_word (L : List Int) (i : Nat) (hi : i < 64) (hL : L.length = 64) (w : World) : (Instr.index T64 (.agg (wc L)) (.int .i64 (i : Int))).run Tryz.prog w = .ok (wdV (L.getD i 0)) w := by
  have hg : (wc L)[i]? = some (wdV (L.getD i 0)) := wc_get (by omega)
  simp [Instr.index, run_underlying Tryz.underlying196, asIntOf, go_sem]
  rw [if_pos hi, hg, List.getD_eq_getElem?_getD]
  rfl
/-- The blocks under a block's rounds. -/
structure RSt (w : World) (kb a c d : Nat) (h z : V8) (W : List Int) (wr : World) : Prop where
  hh : wr.heap[a]? = some (.cells h.cells T8)
  hz : wr.heap[c]? = some (.cells z.cells T8)
  hw : wr.heap[d]? = some (.cells (wc W) T64)
  hk : wr.heap[kb]? = some (.cells (wc K64) T64)
  be : Below w.heap.size w wr
theorem RSt.drew {w : World} {kb a c d : Nat} {h z : V8} {W : List Int} {wr : World} (H : RSt w kb a c d h z W wr) : RSt w kb a c d h z W wr.drew := ⟨H.hh, H.hz, H.hw, H.hk, H.be.drew⟩
theorem RSt.drewN {w : World} {kb a c d : Nat} {h z : V8} {W : List Int} {wr : World} (H : RSt w kb a c d h z W wr) (n : Nat) : RSt w kb a c d h z W (wr.drewN n) :=
  ⟨by rw [World.heap_drewN]; exact H.hh, by rw [World.heap_drewN]; exact H.hz, by rw [World.heap_drewN]; exact H.hw, by rw [World.heap_drewN]; exact H.hk, H.be.trans ⟨rfl, rfl, rfl, Nat.le_of_eq (by rw [World.heap_drewN]), fun _ _ => by rw [World.heap_drewN]⟩⟩
theorem RSt.setW {w : World} {kb a c d : Nat} {h z : V8} {W : List Int} {wr : World} (H : RSt w kb a c d h z W wr) (ha : a ≠ d) (hc : c ≠ d) (hk : kb ≠ d) (hd : w.heap.size ≤ d) (j : Nat) (x : Int) :
    RSt w kb a c d h z (W.set j x) (wr.setCell ⟨d, j, none⟩ (wdV x)) :=
  ⟨(Below.heap_setCell _ _ _ _ ha).trans H.hh, (Below.heap_setCell _ _ _ _ hc).trans H.hz, by rw [setCell_heap _ _ _ _ _ _ H.hw, wc_set], (Below.heap_setCell _ _ _ _ hk).trans H.hk, H.be.setCell hd _⟩
theorem RSt.below {w : World} {kb a c d : Nat} {h z : V8} {W : List Int} {wr w' : World} (H : RSt w kb a c d h z W wr) (hb : Below wr.heap.size wr w') : RSt w kb a c d h z W w' :=
  ⟨(hb.block _ (lt_of_heap H.hh)).trans H.hh, (hb.block _ (lt_of_heap H.hz)).trans H.hz, (hb.block _ (lt_of_heap H.hw)).trans H.hw, (hb.block _ (lt_of_heap H.hk)).trans H.hk, H.be.trans (hb.mono H.be.size)⟩
/-- .. and the eight words under way. -/
structure VSt (w : World) (kb a c d e : Nat) (h v z : V8) (W : List Int) (wr : World) : Prop where
  hv : wr.heap[e]? = some (.cells v.cells T8)
  st : RSt w kb a c d h z W wr
theorem VSt.copied {w : World} {kb a c d e : Nat} {h v z : V8} {W : List Int} {wr : World} (H : VSt w kb a c d e h v z W wr) (hae : a ≠ e) (hce : c ≠ e) (hde : d ≠ e) (hke : kb ≠ e) (hw : w.heap.size ≤ e) (cs : V8) :
    VSt w kb a c d e h cs z W (wr.setRow e cs.cells) :=
  ⟨setRow_heap _ _ _ _ _ _ H.hv, ⟨(setRow_other _ _ _ _ hae).trans H.st.hh, (setRow_other _ _ _ _ hce).trans H.st.hz, (setRow_other _ _ _ _ hde).trans H.st.hw, (setRow_other _ _ _ _ hke).trans H.st.hk, Go.below_setRow H.st.be hw _⟩⟩
theorem VSt.stepped {w : World} {kb a c d e : Nat} {h v z : V8} {W : List Int} {wr : World} (H : VSt w kb a c d e h v z W wr) (hae : a ≠ e) (hce : c ≠ e) (hde : d ≠ e) (hke : kb ≠ e) (hw : w.heap.size ≤ e) (x y : Int) :
    VSt w kb a c d e h ⟨x, v.b, v.c, v.d, y, v.f, v.g, v.h⟩ z W ((wr.setCell ⟨e, 0, none⟩ (wdV x)).setCell ⟨e, 4, none⟩ (wdV y)) :=
  ⟨by rw [setCell_heap _ _ _ _ _ _ (setCell_heap _ _ _ _ _ _ H.hv)]; rfl,
    ⟨(Below.heap_setCell _ _ _ _ hae).trans ((Below.heap_setCell _ _ _ _ hae).trans H.st.hh), (Below.heap_setCell _ _ _ _ hce).trans ((Below.heap_setCell _ _ _ _ hce).trans H.st.hz), (Below.heap_setCell _ _ _ _ hde).trans ((Below.heap_setCell _ _ _ _ hde).trans H.st.hw), (Below.heap_setCell _ _ _ _ hke).trans ((Below.heap_setCell _ _ _ _ hke).trans H.st.hk), (H.st.be.setCell hw _).setCell hw _⟩⟩
/-- The words when i of them were added. -/
def L3 (h v : V8) (i : Nat) : List Int := (List.range 8).map fun j => if j < i then add (h.list.getD j 0) (v.list.getD j 0) else h.list.getD j 0
theorem L3_length (h v : V8) (i : Nat) : (L3 h v i).length = 8 := by simp [L3]
theorem L3_get (h v : V8) (i j : Nat) (hj : j < 8) : (L3 h v i).getD j 0 = if j < i then add (h.list.getD j 0) (v.list.getD j 0) else h.list.getD j 0 := by
  simp [L3, hj]
theorem L3_zero (h v : V8) : L3 h v 0 = h.list := by
  refine ext_getD (n := 8) (L3_length _ _ _) rfl (fun j hj => ?_)
  rw [L3_get _ _ _ _ hj, if_neg (by omega)]
theorem L3_step (h v : V8) (i : Nat) (hi : i < 8) : (L3 h v i).set i (add (h.list.getD i 0) (v.list.getD i 0)) = L3 h v (i + 1) := by
  refine ext_getD (n := 8) (by rw [List.length_set, L3_length]) (L3_length _ _ _) (fun j hj => ?_)
  rw [getD_set _ _ _ _ (by rw [L3_length]; omega), L3_get _ _ _ _ hj, L3_get _ _ _ _ hj]
  by_cases e : i = j
  · subst e; rw [if_pos rfl, if_pos (by omega)]
  · rw [if_neg e]
    by_cases h1 : j < i
    · rw [if_pos h1, if_pos (by omega)]
    · rw [if_neg h1, if_neg (by omega)]
/-- The blocks under the adding up. -/
structure ASt (w : World) (a c e : Nat) (L : List Int) (v z : V8) (wr : World) : Prop where
  hh : wr.heap[a]? = some (.cells (wc L) T8)
  hz : wr.heap[c]? = some (.cells z.cells T8)
  hv : wr.heap[e]? = some (.cells (wc v.list) T8)
  be : Below w.heap.size w wr
theorem ASt.set {w : World} {a c e : Nat} {L : List Int} {v z : V8} {wr : World} (H : ASt w a c e L v z wr) (hac : c ≠ a) (hae : e ≠ a) (hw : w.heap.size ≤ a) (j : Nat) (x : Int) : ASt w a c e (L.set j x) v z (wr.drew.setCell ⟨a, j, none⟩ (wdV x)) :=
  ⟨by rw [setCell_heap _ _ _ _ _ _ (show wr.drew.heap[a]? = _ from H.hh), wc_set], (Below.heap_setCell _ _ _ _ hac).trans H.hz, (Below.heap_setCell _ _ _ _ hae).trans H.hv, (H.be.drew).setCell hw _⟩
def Z8 : V8 := ⟨0, 0, 0, 0, 0, 0, 0, 0⟩

set_option maxHeartbeats 4000000 in
set_option maxRecDepth 100000 in
theorem rounds_any (w : World) (V : V8) (B : List UInt8) (kb : Nat) (hB : B.length = 64) (hk : w.heap[kb]? = some (.cells (wc K64) T64)) :
    Calls Tryz.prog 176 #[.agg V.cells, ptr kb, .string ⟨B.toArray⟩] w fun e w' => e = .returned (.agg (blk V B).cells) ∧ Below w.heap.size w w' := by
  have hkw : kb < w.heap.size := lt_of_heap hk
  have hs : (⟨B.toArray⟩ : ByteArray).size = 64 := hB
  unfold ptr
  go_enter Tryz.func176, Tryz.ntmps176
  go_wp2
  obtain ⟨a, ha⟩ : ∃ a, a = w.heap.size := ⟨_, rfl⟩
  obtain ⟨c, hc⟩ : ∃ c, c = w.heap.size + 1 := ⟨_, rfl⟩
  obtain ⟨d, hd⟩ : ∃ d, d = w.heap.size + 1 + 1 := ⟨_, rfl⟩
  rw [← hd, ← hc, ← ha]
  have H0 : RSt w kb a c d V Z8 (L1 B 0) (((w.alloc (.cells V.cells T8)).alloc (.cells Z8.cells T8)).alloc (.cells (wc (L1 B 0)) T64)) := by
    have b1 : Below w.heap.size w (((w.alloc (.cells V.cells T8)).alloc (.cells Z8.cells T8)).alloc (.cells (wc (L1 B 0)) T64)) :=
      (((Below.refl w.heap.size w).alloc (Nat.le_refl _) _).alloc (by rw [one_size]; omega) _).alloc (by rw [one_size, one_size]; omega) _
    refine ⟨?_, ?_, ?_, (b1.block _ hkw).trans hk, b1⟩
    · rw [ha]; exact at_alloc (at_alloc (at_new _ _) _) _
    · rw [hc, ← one_size w (.cells V.cells T8)]; exact at_alloc (at_new _ _) _
    · rw [hd, ← one_size w (.cells V.cells T8), ← one_size (w.alloc (.cells V.cells T8)) (.cells Z8.cells T8)]; exact at_new _ _
  have ha1 : w.heap.size ≤ a := by omega
  have hac : a < c := by omega
  have hcd : c < d := by omega
  have hak : kb < a := by omega
  rw [L1_zero] at H0
  change RSt w kb a c d V Z8 _ (((w.alloc (.cells V.cells T8)).alloc (.cells #[wdV 0, wdV 0, wdV 0, wdV 0, wdV 0, wdV 0, wdV 0, wdV 0] T8)).alloc _) at H0
  have HH0 := Lib.hid H0
  clear H0 ha hc hd hk hkw
  go_loopw [21] (fun v21 wr => ∃ i : Nat, i ≤ 64 ∧ v21 = .int .i64 (i : Int) ∧ Hid (RSt w kb a c d V Z8 (L1 B i) wr)) (fun v21 _ => 64 - (RowKit.intOf v21).toNat)
  case atStart => exact ⟨0, by omega, rfl, Lib.hid (by rw [L1_zero]; exact HH0.out)⟩
  case round =>
    obtain ⟨i, hi, rfl, HR⟩ := hrel
    by_cases hlt : (i : Int) < 64
    · have hil : i < 64 := by omega
      obtain ⟨b, hb⟩ : ∃ b, b = B[i]'(by omega) := ⟨_, rfl⟩
      have hidx : (⟨B.toArray⟩ : ByteArray)[i]'(by rw [hs]; omega) = b := by rw [hb]; rfl
      obtain ⟨q, hq⟩ : ∃ q, q = i / 4 := ⟨_, rfl⟩
      have eq1 : IntKind.i64.wrap ((i : Int) / 4) = (q : Int) := by rw [IntKind.wrap_i64]; omega
      have q1 : (q : Int) < 64 := by omega
      have q0 : (0 : Int) ≤ (q : Int) := by omega
      obtain ⟨y, hy⟩ : ∃ y, y = (L1 B i).getD q 0 := ⟨_, rfl⟩
      obtain ⟨y0, y1⟩ : 0 ≤ y ∧ y < 16777216 := by rw [hy, hq]; exact L1_lt B i hil
      have hbb := UInt8.toNat_lt b
      obtain ⟨x, hx⟩ : ∃ x, x = y * 256 + (b.toNat : Int) := ⟨_, rfl⟩
      have e2 : IntKind.u32.wrap (y * 256) = y * 256 := by rw [IntKind.wrap_u32]; omega
      have e3 : IntKind.u32.wrap (b.toNat : Int) = (b.toNat : Int) := by rw [IntKind.wrap_u32]; omega
      have e4 : bits .or .u32 (y * 256) (b.toNat : Int) = x := by rw [hx]; exact or_byte y _ y0 y1 (by omega) (by omega)
      have Hx := Lib.hid hx
      have cw : wr.cell? ⟨d, q, none⟩ = some (wdV y) := by
        rw [cell_of_heap HR.out.hw, wc_get (by rw [L1_length]; omega), ← hy]
      have cw2 : wr.drew.cell? ⟨d, q, none⟩ = some (wdV y) := cw
      have fw : wr.frozen? ⟨d, q, none⟩ = false := frozen_of_heap HR.out.hw
      have Hb := Lib.hid hb; have Hy := Lib.hid hy; have Hq := Lib.hid hq
      clear hb hy hq hx hbb
      go_wp2
      go_still_tail 13, (by kernel_rfl)
      change wpList _ _ _ _ _ wr.drew
      have H2 : Hid (RSt w kb a c d V Z8 (L1 B (i + 1)) (wr.drew.setCell ⟨d, q, none⟩ (wdV x))) := Lib.hid (by
        rw [← L1_step B hB i hil, ← Hq.out, ← Hy.out, ← Hb.out, ← Hx.out]
        exact HR.out.drew.setW (by omega) (by omega) (by omega) (by omega) q x)
      clear HR e2 e3 e4 eq1
      go_wp2
      go_roundw
      case rel => exact ⟨i + 1, by omega, by go_num, H2⟩
      case measure => simp [RowKit.intOf]; omega
    · obtain rfl : i = 64 := by omega
      have HR0 : Hid (RSt w kb a c d V Z8 (L2 B 0) wr) := Lib.hid (by rw [← L2_zero B hB]; exact HR.out)
      clear HR hlt
      go_wp2
      rw [show (((64 : Nat)) : Int) = 64 from rfl]
      go_loopw [10] (fun v10 wr => ∃ k : Nat, k ≤ 48 ∧ v10 = .int .i64 ((16 + k : Nat) : Int) ∧ Hid (RSt w kb a c d V Z8 (L2 B k) wr)) (fun v10 _ => 64 - (RowKit.intOf v10).toNat)
      case atStart => exact ⟨0, by omega, rfl, HR0⟩
      case round =>
        obtain ⟨k, hk, rfl, HR⟩ := hrel
        obtain ⟨t, ht⟩ : ∃ t, t = 16 + k := ⟨_, rfl⟩
        rw [← ht]
        have hk16 : 16 ≤ t := by omega
        by_cases hlt : (t : Int) < 64
        · have hkl : t < 64 := by omega
          obtain ⟨p15, h15⟩ : ∃ p, p = t - 15 := ⟨_, rfl⟩
          obtain ⟨p2, h2⟩ : ∃ p, p = t - 2 := ⟨_, rfl⟩
          obtain ⟨p7, h7⟩ : ∃ p, p = t - 7 := ⟨_, rfl⟩
          obtain ⟨p16, h16⟩ : ∃ p, p = t - 16 := ⟨_, rfl⟩
          have w15 : IntKind.i64.wrap ((t : Int) - 15) = (p15 : Int) := by rw [IntKind.wrap_i64]; omega
          have w2 : IntKind.i64.wrap ((t : Int) - 2) = (p2 : Int) := by rw [IntKind.wrap_i64]; omega
          have w7 : IntKind.i64.wrap ((t : Int) - 7) = (p7 : Int) := by rw [IntKind.wrap_i64]; omega
          have w16 : IntKind.i64.wrap ((t : Int) - 16) = (p16 : Int) := by rw [IntKind.wrap_i64]; omega
          have l15 : (p15 : Int) < 64 := by omega
          have l2 : (p2 : Int) < 64 := by omega
          have l7 : (p7 : Int) < 64 := by omega
          have l16 : (p16 : Int) < 64 := by omega
          obtain ⟨x, hx⟩ : ∃ x, x = (L2 B k).getD p15 0 := ⟨_, rfl⟩
          obtain ⟨y, hy⟩ : ∃ y, y = (L2 B k).getD p2 0 := ⟨_, rfl⟩
          obtain ⟨x7, hx7⟩ : ∃ x, x = (L2 B k).getD p7 0 := ⟨_, rfl⟩
          obtain ⟨x16, hx16⟩ : ∃ x, x = (L2 B k).getD p16 0 := ⟨_, rfl⟩
          have hL := L2_length B k hk
          have c15 : wr.cell? ⟨d, p15, none⟩ = some (wdV x) := by rw [cell_of_heap HR.out.hw, wc_get (by omega), ← hx]
          have c2 : wr.cell? ⟨d, p2, none⟩ = some (wdV y) := by rw [cell_of_heap HR.out.hw, wc_get (by omega), ← hy]
          have HX := Lib.hid (And.intro hx (And.intro hy (And.intro hx7 hx16)))
          have HP := Lib.hid (And.intro h15 (And.intro h2 (And.intro h7 h16)))
          have HT := Lib.hid ht
          have W7 := Lib.hid w7; have W16 := Lib.hid w16; have HL := Lib.hid hL
          clear hx hy hx7 hx16 h15 h2 h7 h16 ht w7 w16 hL
          go_wp2
          go_quiet (fail)
          have HR2 := Lib.hid (HR.out.drewN nq)
          clear c15 c2 HR w15 w2
          generalize wr.drewN nq = w2 at *
          have q7 : w2.cell? ⟨d, p7, none⟩ = some (wdV x7) := by rw [cell_of_heap HR2.out.hw, wc_get (by rw [HL.out]; omega), ← HX.out.2.2.1]
          have q16 : w2.cell? ⟨d, p16, none⟩ = some (wdV x16) := by rw [cell_of_heap HR2.out.hw, wc_get (by rw [HL.out]; omega), ← HX.out.2.2.2]
          have fz : w2.frozen? ⟨d, t, none⟩ = false := frozen_of_heap HR2.out.hw
          have ct : w2.cell? ⟨d, t, none⟩ = some (wdV ((L2 B k).getD t 0)) := by rw [cell_of_heap HR2.out.hw, wc_get (by rw [HL.out]; omega)]
          have CT := Lib.hid ct
          clear ct
          have C7 := Lib.hid q7; have C16 := Lib.hid q16; have FZ := Lib.hid fz
          have R1 := Lib.hid (rotl_any w2 x 7 (by omega) (by omega)); have R2 := Lib.hid (rotl_any w2 x 18 (by omega) (by omega))
          have R3 := Lib.hid (rotl_any w2 y 17 (by omega) (by omega)); have R4 := Lib.hid (rotl_any w2 y 19 (by omega) (by omega))
          clear q7 q16 fz
          go_wp2_with fail
          refine R1.out.mono ?_
          rintro e wx ⟨rfl, hwx⟩
          obtain rfl : w2 = wx := hwx.symm
          go_wp2_with fail
          refine R2.out.mono ?_
          rintro e wx ⟨rfl, hwx⟩
          obtain rfl : w2 = wx := hwx.symm
          go_wp2_with fail
          refine R3.out.mono ?_
          rintro e wx ⟨rfl, hwx⟩
          obtain rfl : w2 = wx := hwx.symm
          go_wp2_with fail
          refine R4.out.mono ?_
          rintro e wx ⟨rfl, hwx⟩
          obtain rfl : w2 = wx := hwx.symm
          go_wp2
          obtain ⟨s0, hs0⟩ : ∃ s, s = sg0 x := ⟨_, rfl⟩
          obtain ⟨s1, hs1⟩ : ∃ s, s = sg1 y := ⟨_, rfl⟩
          rw [show bits .xor .u32 (bits .xor .u32 (rot 7 x) (rot 18 x)) (x / 8) = s0 from hs0.symm, show bits .xor .u32 (bits .xor .u32 (rot 17 y) (rot 19 y)) (y / 1024) = s1 from hs1.symm]
          obtain ⟨z1, hz1⟩ : ∃ s, s = add s1 x7 := ⟨_, rfl⟩
          obtain ⟨z2, hz2⟩ : ∃ s, s = add z1 s0 := ⟨_, rfl⟩
          obtain ⟨z3, hz3⟩ : ∃ s, s = add z2 x16 := ⟨_, rfl⟩
          have HZ : Hid (z3 = nxt (L2 B k) (16 + k)) := Lib.hid (by
            rw [hz3, hz2, hz1, hs0, hs1, HX.out.1, HX.out.2.1, HX.out.2.2.1, HX.out.2.2.2, HP.out.1, HP.out.2.1, HP.out.2.2.1, HP.out.2.2.2, HT.out]
            rfl)
          have a1 : IntKind.u32.wrap (s1 + x7) = z1 := by rw [IntKind.wrap_u32, hz1]
          have a2 : IntKind.u32.wrap (z1 + s0) = z2 := by rw [IntKind.wrap_u32, hz2]
          have a3 : IntKind.u32.wrap (z2 + x16) = z3 := by rw [IntKind.wrap_u32, hz3]
          have HN : Hid (RSt w kb a c d V Z8 (L2 B (k + 1)) (w2.drew.setCell ⟨d, t, none⟩ (wdV z3))) := Lib.hid (by
            rw [HZ.out, ← L2_step B k (by have := HT.out; omega), HT.out]
            exact HR2.out.drew.setW (by omega) (by omega) (by omega) (by omega) _ _)
          have q7 := C7.out; have q16 := C16.out; have fz := FZ.out; have w7 := W7.out; have w16 := W16.out
          clear hs0 hs1 hz1 hz2 hz3 HZ HR2 HX R1 R2 R3 R4
          go_still_tail 15, (by kernel_rfl)
          change wpList _ _ _ _ _ w2.drew
          clear a1 a2 a3 w7 w16 q7 q16
          have ct := CT.out
          go_wp2
          go_roundw
          case rel => exact ⟨k + 1, by have := HT.out; omega, congrArg (Value.int .i64) (by have := HT.out; omega), HN⟩
          case measure => simp [RowKit.intOf]; omega
        · obtain rfl : k = 48 := by omega
          have HR0 : Hid (RSt w kb a c d V Z8 (sch (wrds B) 48) wr) := Lib.hid (by rw [← L2_end]; exact HR.out)
          clear HR ht
          obtain ⟨e, he⟩ : ∃ e, e = wr.heap.size := ⟨_, rfl⟩
          have hde : d < e := by rw [he]; exact lt_of_heap HR0.out.hw
          have HSL : Hid ((sch (wrds B) 48).length = 64) := Lib.hid (by rw [sch_length, wrds_length])
          go_wp2_with (first
            | (refine wpList_load_at HR0.out.hh rfl T8 (.tmp 3) rfl rfl _ Tryz.underlying194 rfl (info8 V) ?_)
            | (refine wpList_store_new rfl rfl T8 (.tmp 15) (.tmp 81) rfl V.cells rfl rfl (info8 V) rfl (one8 V) ?_
               intro w3 hq3 hb3 hs3
               have HV : Hid (VSt w kb a c d e V V Z8 (sch (wrds B) 48) w3) := Lib.hid ⟨by rw [he]; exact hq3, HR0.out.below hb3⟩
               rw [← he]
               clear hq3 hb3 hs3 he)
            | (refine wpList_load_at HV.out.st.hw rfl T64 (.tmp 7) rfl rfl _ Tryz.underlying196 rfl (info64 HSL.out) ?_))
          obtain ⟨W, hW⟩ : ∃ W, W = sch (wrds B) 48 := ⟨_, rfl⟩
          rw [← hW] at HV HSL ⊢
          have HW := Lib.hid hW
          clear hW HR0
          go_loopw [83] (fun v83 wr => ∃ i : Nat, i ≤ 64 ∧ v83 = .int .i64 (i : Int) ∧ Hid (VSt w kb a c d e V (rnds K64 W V i) Z8 W wr)) (fun v83 _ => 64 - (RowKit.intOf v83).toNat)
          case atStart => exact ⟨0, by omega, rfl, HV⟩
          case round =>
            obtain ⟨i, hi, rfl, HR⟩ := hrel
            by_cases hlt : (i : Int) < 64
            · have hil : i < 64 := by omega
              obtain ⟨v, hv⟩ : ∃ v, v = rnds K64 W V i := ⟨_, rfl⟩
              rw [← hv] at HR
              obtain ⟨x, hx⟩ : ∃ x, x = W.getD i 0 := ⟨_, rfl⟩
              obtain ⟨k, hk⟩ : ∃ k, k = K64.getD i 0 := ⟨_, rfl⟩
              have c0 : wr.cell? ⟨e, 0, none⟩ = some (wdV v.a) := cell_of_heap HR.out.hv
              have c1 : wr.cell? ⟨e, 1, none⟩ = some (wdV v.b) := cell_of_heap HR.out.hv
              have c2 : wr.cell? ⟨e, 2, none⟩ = some (wdV v.c) := cell_of_heap HR.out.hv
              have c3 : wr.cell? ⟨e, 3, none⟩ = some (wdV v.d) := cell_of_heap HR.out.hv
              have c4 : wr.cell? ⟨e, 4, none⟩ = some (wdV v.e) := cell_of_heap HR.out.hv
              have c5 : wr.cell? ⟨e, 5, none⟩ = some (wdV v.f) := cell_of_heap HR.out.hv
              have c6 : wr.cell? ⟨e, 6, none⟩ = some (wdV v.g) := cell_of_heap HR.out.hv
              have c7 : wr.cell? ⟨e, 7, none⟩ = some (wdV v.h) := cell_of_heap HR.out.hv
              have ck : wr.cell? ⟨kb, i, none⟩ = some (wdV k) := by rw [cell_of_heap HR.out.st.hk, wc_get (by simpa [K64] using hil), ← hk]
              have hxi : ∀ w, (Instr.index T64 (.agg (wc W)) (.int .i64 (i : Int))).run Tryz.prog w = .ok (wdV x) w := fun w => by rw [hx]; exact run_word W i hil HSL.out w
              have hns : IntKind.u32.signed = false := rfl
              have Hk := Lib.hid hk; have Hx := Lib.hid hx; have Hv := Lib.hid hv
              clear hk hx hv
              go_wp2
              go_quiet ((go_at_call 193; exact Calls.quiet_of_same (tri_any _ _ 6 11 25 (by decide) (by decide) (by decide))))
              go_wp2
              obtain ⟨z1, hz1⟩ : ∃ z, z = t1 v k x := ⟨_, rfl⟩
              rw [show ((v.h + tri 6 11 25 v.e + bits .xor .u32 (bits .and .u32 v.e v.f) (bits .and .u32 (bits .xor .u32 IntKind.u32.max v.e) v.g) + k) % 4294967296 + x) % 4294967296 = z1 from (add_left _ _).trans hz1.symm]
              have Hz1 := Lib.hid hz1
              have HR2 : Hid (VSt w kb a c d e V v Z8 W (wr.drewN nq)) := Lib.hid ⟨by rw [World.heap_drewN]; exact HR.out.hv, HR.out.st.drewN nq⟩
              clear hz1 c0 c1 c2 c3 c4 c5 c6 c7 ck HR
              generalize wr.drewN nq = w2 at HR2 ⊢
              have c0 : w2.cell? ⟨e, 0, none⟩ = some (wdV v.a) := cell_of_heap HR2.out.hv
              have c1 : w2.cell? ⟨e, 1, none⟩ = some (wdV v.b) := cell_of_heap HR2.out.hv
              have c2 : w2.cell? ⟨e, 2, none⟩ = some (wdV v.c) := cell_of_heap HR2.out.hv
              go_quiet ((go_at_call 193; exact Calls.quiet_of_same (tri_any _ _ 2 13 22 (by decide) (by decide) (by decide))))
              go_wp2
              obtain ⟨z2, hz2⟩ : ∃ z, z = t2 v := ⟨_, rfl⟩
              rw [show (tri 2 13 22 v.a + bits .xor .u32 (bits .xor .u32 (bits .and .u32 v.a v.b) (bits .and .u32 v.a v.c)) (bits .and .u32 v.b v.c)) % 4294967296 = z2 from hz2.symm]
              have Hz2 := Lib.hid hz2
              have HR3 : Hid (VSt w kb a c d e V v Z8 W (w2.drewN nq)) := Lib.hid ⟨by rw [World.heap_drewN]; exact HR2.out.hv, HR2.out.st.drewN nq⟩
              clear hz2 c0 c1 c2 HR2
              generalize w2.drewN nq = w3 at HR3 ⊢
              go_still_tail 2, (by kernel_rfl)
              change wpList _ _ _ _ _ w3.drew
              have HR4 : Hid (VSt w kb a c d e V v Z8 W w3.drew) := Lib.hid ⟨HR3.out.hv, HR3.out.st.drew⟩
              generalize w3.drew = w4 at HR4 ⊢
              clear HR3
              have hsrc : Hid (∀ j u, [wdV v.a, wdV v.b, wdV v.c, wdV v.d, wdV v.e, wdV v.f, wdV v.g][j]? = some u → w4.cell? ((⟨e, 0, none⟩ : Addr).add j) = some u) := Lib.hid (by
                intro j u hj
                have hj7 : j < 7 := (List.getElem?_eq_some_iff.1 hj).1
                have : (⟨e, 0, none⟩ : Addr).add j = ⟨e, j, none⟩ := by simp [Addr.add]; omega
                rw [this, cell_of_heap HR4.out.hv, ← hj]
                match j, hj7 with
                | 0, _ => rfl
                | 1, _ => rfl
                | 2, _ => rfl
                | 3, _ => rfl
                | 4, _ => rfl
                | 5, _ => rfl
                | 6, _ => rfl)
              refine wpList_copy_own rfl (.tmp 137) (.tmp 138) 260 260 rfl 76 Tryz.underlying260 (by kernel_rfl) e 1 7 7 ⟨e, 0, none⟩ 7 8 rfl rfl v.cells T8 HR4.out.hv [wdV v.a, wdV v.b, wdV v.c, wdV v.d, wdV v.e, wdV v.f, wdV v.g] rfl hsrc.out (Nat.le_refl 8) (by simp [Value.oneCell']) ?_
              have HR5 : Hid (VSt w kb a c d e V ⟨v.a, v.a, v.b, v.c, v.d, v.e, v.f, v.g⟩ Z8 W (w4.setRow e (V8.cells ⟨v.a, v.a, v.b, v.c, v.d, v.e, v.f, v.g⟩))) := Lib.hid (HR4.out.copied (by omega) (by omega) (by omega) (by omega) (by omega) _)
              change wpList _ _ _ _ _ (w4.setRow e (V8.cells ⟨v.a, v.a, v.b, v.c, v.d, v.e, v.f, v.g⟩))
              generalize w4.setRow e (V8.cells ⟨v.a, v.a, v.b, v.c, v.d, v.e, v.f, v.g⟩) = w5 at HR5 ⊢
              clear HR4 hsrc
              have c0 : w5.cell? ⟨e, 0, none⟩ = some (wdV v.a) := cell_of_heap HR5.out.hv
              have c4 : w5.cell? ⟨e, 4, none⟩ = some (wdV v.d) := cell_of_heap HR5.out.hv
              have f0 : w5.frozen? ⟨e, 0, none⟩ = false := frozen_of_heap HR5.out.hv
              have f4 : w5.frozen? ⟨e, 4, none⟩ = false := frozen_of_heap HR5.out.hv
              have HN : Hid (VSt w kb a c d e V (rnds K64 W V (i + 1)) Z8 W ((w5.setCell ⟨e, 0, none⟩ (wdV (add z1 z2))).setCell ⟨e, 4, none⟩ (wdV (add v.d z1)))) := Lib.hid (by
                have := HR5.out.stepped (by omega) (by omega) (by omega) (by omega) (by omega) (add z1 z2) (add v.d z1)
                rw [rnds, ← Hv.out, ← Hx.out, ← Hk.out, rnd, ← Hz1.out, ← Hz2.out]
                exact this)
              clear HR5
              go_wp2
              go_roundw
              case rel => exact ⟨i + 1, by omega, by go_num, HN⟩
              case measure => simp [RowKit.intOf]; omega
            · obtain rfl : i = 64 := by omega
              obtain ⟨v, hv⟩ : ∃ v, v = rnds K64 W V 64 := ⟨_, rfl⟩
              rw [← hv] at HR
              have HA : Hid (ASt w a c e (L3 V v 0) v Z8 wr) := Lib.hid ⟨by rw [L3_zero]; exact HR.out.st.hh, HR.out.st.hz, HR.out.hv, HR.out.st.be⟩
              have HE : Hid (blk V B = V.add v) := Lib.hid (by rw [blk, hv, HW.out])
              clear HR hv HV HSL HW
              rw [show (((64 : Nat)) : Int) = 64 from rfl]
              go_wp2
              go_loopw [150] (fun v150 wr => ∃ i : Nat, i ≤ 8 ∧ v150 = .int .i64 (i : Int) ∧ Hid (ASt w a c e (L3 V v i) v Z8 wr)) (fun v150 _ => 8 - (RowKit.intOf v150).toNat)
              case atStart => exact ⟨0, by omega, rfl, HA⟩
              case round =>
                obtain ⟨i, hi, rfl, HR⟩ := hrel
                by_cases hlt : (i : Int) < 8
                · have hil : i < 8 := by omega
                  obtain ⟨x, hx⟩ : ∃ x, x = V.list.getD i 0 := ⟨_, rfl⟩
                  obtain ⟨y, hy⟩ : ∃ y, y = v.list.getD i 0 := ⟨_, rfl⟩
                  obtain ⟨z, hz⟩ : ∃ z, z = add x y := ⟨_, rfl⟩
                  have ca : wr.cell? ⟨a, i, none⟩ = some (wdV x) := by rw [cell_of_heap HR.out.hh, wc_get (by rw [L3_length]; exact hil), L3_get _ _ _ _ hil, if_neg (by omega), hx]
                  have ce : wr.cell? ⟨e, i, none⟩ = some (wdV y) := by rw [cell_of_heap HR.out.hv, wc_get hil, hy]
                  have fa : wr.frozen? ⟨a, i, none⟩ = false := frozen_of_heap HR.out.hh
                  have ea : IntKind.u32.wrap (x + y) = z := by rw [IntKind.wrap_u32, hz]
                  have HN : Hid (ASt w a c e (L3 V v (i + 1)) v Z8 (wr.drew.setCell ⟨a, i, none⟩ (wdV z))) := Lib.hid (by
                    rw [← L3_step V v i hil, ← hx, ← hy, ← hz]
                    exact HR.out.set (by omega) (by omega) (by omega) _ _)
                  clear hx hy hz HR
                  go_wp2
                  go_still_tail 8, (by kernel_rfl)
                  change wpList _ _ _ _ _ wr.drew
                  clear ea
                  go_wp2
                  go_roundw
                  case rel => exact ⟨i + 1, by omega, by go_num, HN⟩
                  case measure => simp [RowKit.intOf]; omega
                · obtain rfl : i = 8 := by omega
                  have HF : Hid (ASt w a c e (V.add v).list v Z8 wr) := HR
                  clear HR
                  go_wp2_with (first
                    | (refine wpList_load_at HF.out.hh rfl T8 (.tmp 3) rfl rfl _ Tryz.underlying194 rfl (info8 (V.add v)) ?_)
                    | (refine wpList_store_at HF.out.hz rfl T8 (.tmp 6) (.tmp 162) rfl (V.add v).cells rfl rfl (info8 (V.add v)) rfl (one8 (V.add v)) ?_
                       intro w6 hq6 ht6 hs6
                       have HQ6 := Lib.hid hq6; have HT6 := Lib.hid ht6
                       clear hq6 ht6 hs6))
                  refine bodyPost_ret (v := .agg (V.add v).cells) (results_cell_row rfl _ _ c T8 _ (0, 0) _ rfl HQ6.out Tryz.underlying194 rfl (info8 (V.add v))) rfl ⟨by rw [HE.out], ?_⟩
                  exact HF.out.be.trans (HT6.out.below (by intro x hx; simp at hx; omega) HF.out.be.size)
end Go.Proofs.YthcjjekkjbidlaaGreatDoor.Sh
