import Derived.Test.YthcjjekkjbidlaaDoorZPShRounds
import Derived.Test.YthcjjekkjbidlaaDoorZPShFixed
import Derived.Test.YthcjjekkjbidlaaDoorZPShRow
import Derived.Test.YthcjjekkjbidlaaDoorZPStHeld
set_option linter.unusedSimpArgs false
set_option linter.unusedVariables false
/-
  The contract of the reference's sum with the constants at hand.
-/
namespace Go.Proofs.YthcjjekkjbidlaaDoor.Sh
open Go.RowKit Go.Maps Go.Proofs.YthcjjekkjbidlaaDoor.Rf Go.Proofs.YthcjjekkjbidlaaDoor.Rd Go.Proofs.YthcjjekkjbidlaaDoor.St

abbrev IdT : TypeId := 63
def zeroId : Array Value := #[.int .u8 0, .int .u8 0, .int .u8 0, .int .u8 0, .int .u8 0, .int .u8 0, .int .u8 0, .int .u8 0, .int .u8 0, .int .u8 0, .int .u8 0, .int .u8 0, .int .u8 0, .int .u8 0, .int .u8 0, .int .u8 0, .int .u8 0, .int .u8 0, .int .u8 0, .int .u8 0, .int .u8 0, .int .u8 0, .int .u8 0, .int .u8 0, .int .u8 0, .int .u8 0, .int .u8 0, .int .u8 0, .int .u8 0, .int .u8 0, .int .u8 0, .int .u8 0]
def slLen : Value → Nat | .slice _ n _ => n | _ => 0
theorem infoByte : (Tryd.prog.info? 5).map (fun i => (i.zero, i.size, i.bytes)) = some (some (.int .u8 0), 1, 1) := by kernel_rfl
/-- The blocks that stand while the sum is reckoned. -/
structure SSt (w : World) (a b c : Nat) (A : Array Value) (v : Value) (m : List UInt8) (wr : World) : Prop where
  ha : wr.heap[a]? = some (.cells A T8)
  hb : wr.heap[b]? = some (.cells (wc K64) T64)
  hc : wr.heap[c]? = some (.cells zeroId IdT)
  hm : RowM wr (c + 1) v m
  be : Below w.heap.size w wr
theorem SSt.lt {w : World} {a b c : Nat} {A : Array Value} {v : Value} {m : List UInt8} {wr : World} (H : SSt w a b c A v m wr) : c < wr.heap.size := lt_of_heap H.hc
theorem SSt.below {w : World} {a b c : Nat} {A : Array Value} {v : Value} {m : List UInt8} {wr w' : World} (H : SSt w a b c A v m wr) (hb : Below wr.heap.size wr w') : SSt w a b c A v m w' :=
  ⟨(hb.block _ (lt_of_heap H.ha)).trans H.ha, (hb.block _ (lt_of_heap H.hb)).trans H.hb, (hb.block _ (lt_of_heap H.hc)).trans H.hc, H.hm.below hb, H.be.trans (hb.mono H.be.size)⟩
theorem SSt.grown {w : World} {a b c : Nat} {A : Array Value} {v v' : Value} {m m' : List UInt8} {wr w' : World} (H : SSt w a b c A v m wr) (hac : a < c) (hbc : b < c) (hc : w.heap.size ≤ c) (hm : RowM w' (c + 1) v' m') (hg : wr.grownBy w' v.ownBlock) : SSt w a b c A v' m' w' := by
  have hob := H.hm.lt
  have hk : ∀ k, k ≤ c → w'.heap[k]? = wr.heap[k]? := fun k hk => hg.block k (Nat.lt_of_le_of_lt hk H.lt) (fun e => by
    have := hob k (by rw [ob, ← e]; simp); omega)
  refine ⟨(hk a (by omega)).trans H.ha, (hk b (by omega)).trans H.hb, (hk c (Nat.le_refl _)).trans H.hc, hm, ?_⟩
  refine H.be.trans ⟨hg.os, hg.tape, hg.output, hg.size, fun k hk' => hk k (by omega)⟩

theorem SSt.drewN {w : World} {a b c : Nat} {A : Array Value} {v : Value} {m : List UInt8} {wr : World} (H : SSt w a b c A v m wr) (n : Nat) : SSt w a b c A v m (wr.drewN n) := H.below (below_drewN wr n)
/-- Another block is written. -/
theorem SSt.other {w : World} {a b c d : Nat} {A : Array Value} {v : Value} {m : List UInt8} {wr : World} (H : SSt w a b c A v m wr) (hd : c < d) (hac : a < c) (hbc : b < c) (hwc : w.heap.size ≤ c) (hv : ∀ x ∈ ob v, x ≠ d) (j : Nat) (x : Value) : SSt w a b c A v m (wr.setCell ⟨d, j, none⟩ x) :=
  ⟨(Below.heap_setCell _ _ _ _ (show a ≠ d by omega)).trans H.ha, (Below.heap_setCell _ _ _ _ (show b ≠ d by omega)).trans H.hb, (Below.heap_setCell _ _ _ _ (show c ≠ d by omega)).trans H.hc, H.hm.kept (fun y hy _ => Below.heap_setCell _ _ _ _ (hv y hy)), H.be.setCell (by show w.heap.size ≤ d; omega) _⟩
/-- The words when t of them were read. -/
def LR (B : List UInt8) (t : Nat) : List Int := (List.range 64).map fun j => if j < t then wrd B j else 0
theorem LR_length (B : List UInt8) (t : Nat) : (LR B t).length = 64 := by simp [LR]
theorem LR_get (B : List UInt8) (t j : Nat) (h : j < 64) : (LR B t).getD j 0 = if j < t then wrd B j else 0 := by simp [LR, h]
theorem LR_zero (B : List UInt8) : LR B 0 = List.replicate 64 0 :=
  ext_getD (LR_length B 0) (List.length_replicate ..) (fun j hj => by rw [LR_get _ _ _ hj, getD_rep, if_neg (by omega)])
theorem LR_step (B : List UInt8) (t : Nat) (ht : t < 64) : (LR B t).set t (wrd B t) = LR B (t + 1) := by
  refine ext_getD (n := 64) (by rw [List.length_set, LR_length]) (LR_length _ _) (fun j hj => ?_)
  rw [getD_set _ _ _ _ (by rw [LR_length]; omega), LR_get _ _ _ hj, LR_get _ _ _ hj]
  by_cases e : t = j
  · subst e; rw [if_pos rfl, if_pos (by omega)]
  · rw [if_neg e]
    by_cases h1 : j < t
    · rw [if_pos h1, if_pos (by omega)]
    · rw [if_neg h1, if_neg (by omega)]
theorem LR_end (B : List UInt8) : LR B 16 = L2 B 0 := by
  refine ext_getD (LR_length _ _) (L2_length _ _ (by omega)) (fun j hj => ?_)
  rw [LR_get _ _ _ hj, L2, sch]
  by_cases h16 : j < 16
  · rw [if_pos h16, List.getD_eq_getElem?_getD, List.getElem?_append_left (by rw [wrds_length]; exact h16)]
    simp [wrds, h16]
  · rw [if_neg h16, List.getD_eq_getElem?_getD, List.getElem?_append_right (by rw [wrds_length]; omega), ← List.getD_eq_getElem?_getD, getD_rep]
/-- Four bytes as a word. -/
theorem wrd_four {B : List UInt8} {t : Nat} {b0 b1 b2 b3 : UInt8} (h0 : B[4 * t]? = some b0) (h1 : B[4 * t + 1]? = some b1) (h2 : B[4 * t + 2]? = some b2) (h3 : B[4 * t + 3]? = some b3) :
    wrd B t = (b0.toNat : Int) * 16777216 + (b1.toNat : Int) * 65536 + (b2.toNat : Int) * 256 + (b3.toNat : Int) := by
  have l0 := (List.getElem?_eq_some_iff.1 h0); have l1 := (List.getElem?_eq_some_iff.1 h1); have l2 := (List.getElem?_eq_some_iff.1 h2); have l3 := (List.getElem?_eq_some_iff.1 h3)
  obtain ⟨l0, e0⟩ := l0; obtain ⟨l1, e1⟩ := l1; obtain ⟨l2, e2⟩ := l2; obtain ⟨l3, e3⟩ := l3
  have e : (B.drop (4 * t)).take 4 = [b0, b1, b2, b3] := by
    rw [List.drop_eq_getElem_cons l0, List.drop_eq_getElem_cons l1, List.drop_eq_getElem_cons (show 4 * t + 1 + 1 < B.length from l2), List.drop_eq_getElem_cons (show 4 * t + 1 + 1 + 1 < B.length from l3), e0, e1]
    simp only [List.take_succ_cons, List.take_zero]
    exact congrArg _ (congrArg _ (by rw [show B[4 * t + 1 + 1] = b2 from e2, show B[4 * t + 1 + 1 + 1] = b3 from e3]))
  rw [wrd, e]
  simp only [num, List.foldl_cons, List.foldl_nil]
  omega
/-- .. the words of a block under way. -/
structure WSt (w : World) (a b c d : Nat) (A : Array Value) (v : Value) (m : List UInt8) (W : List Int) (wr : World) : Prop where
  st : SSt w a b c A v m wr
  hw : wr.heap[d]? = some (.cells (wc W) T64)
theorem WSt.drew {w : World} {a b c d : Nat} {A : Array Value} {v : Value} {m : List UInt8} {W : List Int} {wr : World} (H : WSt w a b c d A v m W wr) : WSt w a b c d A v m W wr.drew := ⟨H.st.below ((Below.refl _ _).drew), H.hw⟩
theorem WSt.drewN {w : World} {a b c d : Nat} {A : Array Value} {v : Value} {m : List UInt8} {W : List Int} {wr : World} (H : WSt w a b c d A v m W wr) (n : Nat) : WSt w a b c d A v m W (wr.drewN n) := ⟨H.st.drewN n, by rw [World.heap_drewN]; exact H.hw⟩
theorem WSt.set {w : World} {a b c d : Nat} {A : Array Value} {v : Value} {m : List UInt8} {W : List Int} {wr : World} (H : WSt w a b c d A v m W wr) (hd : c < d) (hac : a < c) (hbc : b < c) (hwc : w.heap.size ≤ c) (hv : ∀ x ∈ ob v, x ≠ d) (j : Nat) (x : Int) :
    WSt w a b c d A v m (W.set j x) (wr.setCell ⟨d, j, none⟩ (wdV x)) :=
  ⟨H.st.other hd hac hbc hwc hv j _, by rw [setCell_heap _ _ _ _ _ _ H.hw, wc_set]⟩

/-- .. and the eight words under way. -/
structure XSt (w : World) (a b c d e : Nat) (A : Array Value) (v : Value) (m : List UInt8) (W : List Int) (u : V8) (wr : World) : Prop where
  ws : WSt w a b c d A v m W wr
  hv : wr.heap[e]? = some (.cells u.cells T8)
theorem XSt.drewN {w : World} {a b c d e : Nat} {A : Array Value} {v : Value} {m : List UInt8} {W : List Int} {u : V8} {wr : World} (H : XSt w a b c d e A v m W u wr) (n : Nat) : XSt w a b c d e A v m W u (wr.drewN n) := ⟨H.ws.drewN n, by rw [World.heap_drewN]; exact H.hv⟩
/-- The eight words are written anew. -/
theorem XSt.step {w : World} {a b c d e : Nat} {A : Array Value} {v : Value} {m : List UInt8} {W : List Int} {u u' : V8} {wr w2 : World} (H : XSt w a b c d e A v m W u wr) (hde : d < e) (hcd : c < d) (hac : a < c) (hbc : b < c) (hwc : w.heap.size ≤ c) (hv : ∀ x ∈ ob v, x ≠ e)
    (h2 : w2.heap[e]? = some (.cells u'.cells T8)) (ht : Turn [e] wr w2) : XSt w a b c d e A v m W u' w2 := by
  have hk : ∀ k, k < e → w2.heap[k]? = wr.heap[k]? := fun k hk => ht.block k (Nat.lt_trans hk (lt_of_heap H.hv)) (by simp; omega)
  have hl := lt_of_heap H.hv
  refine ⟨⟨⟨(hk a (by omega)).trans H.ws.st.ha, (hk b (by omega)).trans H.ws.st.hb, (hk c (by omega)).trans H.ws.st.hc, H.ws.st.hm.kept (fun x hx hxl => ht.block x hxl (by simp; exact hv x hx)), ?_⟩, (hk d hde).trans H.ws.hw⟩, h2⟩
  exact H.ws.st.be.trans (ht.below (by intro x hx; simp at hx; omega) H.ws.st.be.size)

theorem XSt.setA {w : World} {a b c d e : Nat} {L : List Int} {v : Value} {m : List UInt8} {W : List Int} {u : V8} {wr : World} (H : XSt w a b c d e (wc L) v m W u wr) (hab : a < b) (hbc : b < c) (hcd : c < d) (hde : d < e) (hwa : w.heap.size ≤ a) (j : Nat) (x : Int) :
    XSt w a b c d e (wc (L.set j x)) v m W u (wr.setCell ⟨a, j, none⟩ (wdV x)) := by
  refine ⟨⟨⟨?_, (Below.heap_setCell _ _ _ _ (show b ≠ a by omega)).trans H.ws.st.hb, (Below.heap_setCell _ _ _ _ (show c ≠ a by omega)).trans H.ws.st.hc, H.ws.st.hm.kept (fun y hy _ => Below.heap_setCell _ _ _ _ (fun e => by have h1 := (H.ws.st.hm.lt y hy).1; have e2 : y = a := e; omega)), H.ws.st.be.setCell hwa _⟩, (Below.heap_setCell _ _ _ _ (show d ≠ a by omega)).trans H.ws.hw⟩, (Below.heap_setCell _ _ _ _ (show e ≠ a by omega)).trans H.hv⟩
  rw [setCell_heap _ _ _ _ _ _ H.ws.st.ha, wc_set]

/-- The bytes when i of them were laid. -/
def LB (V : V8) (i : Nat) : List UInt8 := (List.range 32).map fun j => if j < i then byteOf V j else 0
theorem LB_length (V : V8) (i : Nat) : (LB V i).length = 32 := by simp [LB]
theorem LB_get (V : V8) (i j : Nat) (h : j < 32) : (LB V i)[j]? = some (if j < i then byteOf V j else 0) := by simp [LB, h]
theorem LB_step (V : V8) (i : Nat) (hi : i < 32) : (LB V i).set i (byteOf V i) = LB V (i + 1) := by
  apply List.ext_getElem?
  intro j
  rw [List.getElem?_set]
  by_cases hj : j < 32
  · rw [LB_get _ _ _ hj, LB_get _ _ _ hj]
    by_cases e : i = j
    · subst e; rw [if_pos rfl, if_pos (by rw [LB_length]; omega), if_pos (by omega)]
    · rw [if_neg e]
      by_cases h1 : j < i
      · rw [if_pos h1, if_pos (by omega)]
      · rw [if_neg h1, if_neg (by omega)]
  · rw [if_neg (by omega), List.getElem?_eq_none (by rw [LB_length]; omega), List.getElem?_eq_none (by rw [LB_length]; omega)]
theorem LB_end (V : V8) : LB V 32 = bytesOf V := by
  apply List.ext_getElem?
  intro j
  by_cases hj : j < 32
  · rw [LB_get _ _ _ hj, if_pos hj]; simp [bytesOf, hj]
  · rw [List.getElem?_eq_none (by rw [LB_length]; omega), List.getElem?_eq_none (by simp [bytesOf]; omega)]
theorem LB_zero (V : V8) : (Lib.byteCells (LB V 0)).toArray = zeroId := rfl
theorem infoId {l : List UInt8} (h : l.length = 32) : (Tryd.prog.info? IdT).map (·.size) = some (Lib.byteCells l).toArray.size := by
  rw [List.size_toArray, Lib.byteCells_length, h]; kernel_rfl
theorem oneId (l : List UInt8) : (Lib.byteCells l).toArray.all (·.oneCell') = true :=
  all_oneCell_toArray (fun v hv => by obtain ⟨b, _, rfl⟩ := List.mem_map.1 hv; rfl)
theorem shr_u8 (V : V8) (i : Nat) (x : Int) (hx : x = V.list.getD (i / 4) 0) (h0 : 0 ≤ x) : x / 2 ^ (24 - 8 * (i % 4)) % 256 = ((byteOf V i).toNat : Int) := by
  rw [byteOf, ← hx]
  have h1 : 0 ≤ x / 2 ^ (24 - 8 * (i % 4)) := Int.ediv_nonneg h0 (Int.le_of_lt (Int.pow_pos (by decide)))
  obtain ⟨n, hn⟩ := Int.eq_ofNat_of_zero_le h1
  rw [hn]
  simp
theorem V8.In.get {V : V8} (h : V.In) (i : Nat) : 0 ≤ V.list.getD i 0 := by
  match i with
  | 0 => exact h.a.1
  | 1 => exact h.b.1
  | 2 => exact h.c.1
  | 3 => exact h.d.1
  | 4 => exact h.e.1
  | 5 => exact h.f.1
  | 6 => exact h.g.1
  | 7 => exact h.h.1
  | n + 8 => exact Int.le_refl 0

set_option maxHeartbeats 8000000 in
set_option maxRecDepth 100000 in
theorem sum_any (w : World) (s : List UInt8) (hs : s.length ≤ 140737488351232) :
    Calls Tryd.prog 66 #[.string ⟨s.toArray⟩, .agg H0.cells, .agg (wc K64)] w fun e w' => e = .returned (.agg (Lib.byteCells (sum s)).toArray) ∧ Below w.heap.size w w' := by
  have hss : (⟨s.toArray⟩ : ByteArray).size = s.length := rfl
  have hpl : s.length + 1 ≤ 9223372036854775807 := by omega
  go_enter Tryd.func66, Tryd.ntmps66
  obtain ⟨a, ha⟩ : ∃ a, a = w.heap.size := ⟨_, rfl⟩
  obtain ⟨b, hb⟩ : ∃ b, b = w.heap.size + 1 := ⟨_, rfl⟩
  obtain ⟨c, hc⟩ : ∃ c, c = w.heap.size + 1 + 1 := ⟨_, rfl⟩
  have hab : a < b := by omega
  have hbc : b < c := by omega
  have hwa : w.heap.size ≤ a := by omega
  obtain ⟨W0, hW0⟩ : ∃ W0, W0 = (((w.alloc (.cells H0.cells T8)).alloc (.cells (wc K64) T64)).alloc (.cells zeroId IdT)) := ⟨_, rfl⟩
  have hsz : W0.heap.size = c + 1 := by rw [hW0, one_size, one_size, one_size, hc]
  obtain ⟨M, hM⟩ : ∃ M, M = s ++ [128] := ⟨_, rfl⟩
  have hcat : (⟨s.toArray⟩ : ByteArray) ++ ⟨#[128]⟩ = ⟨M.toArray⟩ := by
    rw [hM]
    rw [show (⟨#[128]⟩ : ByteArray) = ⟨([128] : List UInt8).toArray⟩ from rfl, cat_list, ba_data]
  have hl1 : M.length = s.length + 1 := by rw [hM]; simp
  obtain ⟨W1, hW1⟩ : ∃ W1, W1 = Lib.bytesWorld W0 5 ⟨M.toArray⟩ := ⟨_, rfl⟩
  have hcv : (convert 9 38 (.string ⟨M.toArray⟩)).run Tryd.prog W0 = .ok (.slice (some ⟨W0.heap.size, 0, none⟩) M.length (grownCap W0 M.length 0 5)) W1 := by
    rw [hW1]; exact Lib.run_convert_string_bytes (P := Tryd.prog) W0 9 38 5 ⟨M.toArray⟩ Tryd.underlying9 Tryd.underlying38 Tryd.underlying5
  have HM0 := rowM_conv W0 (c + 1) (by omega) M (by rw [hl1]; unfold maxLen; omega)
  rw [← hW1] at HM0
  have HS0 : SSt w a b c H0.cells (.slice (some ⟨W0.heap.size, 0, none⟩) M.length (grownCap W0 M.length 0 5)) M W1 := by
    have b1 : Below w.heap.size w W0 := by
      rw [hW0]
      exact (((Below.refl w.heap.size w).alloc (Nat.le_refl _) _).alloc (by rw [one_size]; omega) _).alloc (by rw [one_size, one_size]; omega) _
    have b2 : Below W0.heap.size W0 W1 := by rw [hW1]; exact bytesWorld_below _ _ _
    refine ⟨(b2.block _ (by omega)).trans ?_, (b2.block _ (by omega)).trans ?_, (b2.block _ (by omega)).trans ?_, HM0, b1.trans (b2.mono b1.size)⟩
    · rw [hW0, ha]; exact at_alloc (at_alloc (at_new _ _) _) _
    · rw [hW0, hb, ← one_size w (.cells H0.cells T8)]; exact at_alloc (at_new _ _) _
    · rw [hW0, hc, ← one_size w (.cells H0.cells T8), ← one_size (w.alloc (.cells H0.cells T8)) (.cells (wc K64) T64)]; exact at_new _ _
  have HS := Lib.hid HS0
  obtain ⟨cap0, hcap⟩ : ∃ cap0, cap0 = grownCap W0 M.length 0 5 := ⟨_, rfl⟩
  rw [← hcap, hl1, hsz] at HS hcv
  obtain ⟨ib, hib, hbzz⟩ := Option.map_eq_some_iff.1 infoByte
  obtain ⟨hbz, hb1, hb2⟩ : ib.zero = some (.int .u8 0) ∧ ib.size = 1 ∧ ib.bytes = 1 := by injection hbzz with a b; injection b with b c; exact ⟨a, b, c⟩
  have HIB := Lib.hid (And.intro hib (And.intro hbz (And.intro hb1 hb2)))
  have HL1 := Lib.hid hl1
  clear hbzz hib hbz hb1 hb2 HS0 HM0 hW1 hcap hsz hl1
  have HM := Lib.hid hM
  clear hM
  have HA := Lib.hid ha; have HB := Lib.hid hb; have HC := Lib.hid hc; have HW0 := Lib.hid hW0
  clear ha hb hc hW0
  have hcv2 : (convert 9 38 (.string ((⟨s.toArray⟩ : ByteArray) ++ ⟨#[128]⟩))).run Tryd.prog (((w.alloc (.cells H0.cells T8)).alloc (.cells (wc K64) T64)).alloc (.cells #[.int .u8 0, .int .u8 0, .int .u8 0, .int .u8 0, .int .u8 0, .int .u8 0, .int .u8 0, .int .u8 0, .int .u8 0, .int .u8 0, .int .u8 0, .int .u8 0, .int .u8 0, .int .u8 0, .int .u8 0, .int .u8 0, .int .u8 0, .int .u8 0, .int .u8 0, .int .u8 0, .int .u8 0, .int .u8 0, .int .u8 0, .int .u8 0, .int .u8 0, .int .u8 0, .int .u8 0, .int .u8 0, .int .u8 0, .int .u8 0, .int .u8 0, .int .u8 0] IdT)) = .ok (.slice (some ⟨c + 1, 0, none⟩) (s.length + 1) cap0) W1 := by
    rw [hcat, ← hcv, HW0.out]; rfl
  clear hcv hcat
  go_wp2
  rw [← HC.out, ← HB.out, ← HA.out]
  clear hcv2
  have hM0 : Hid (M = s ++ 128 :: List.replicate 0 0) := Lib.hid (by rw [HM.out]; rfl)
  go_loopw [7] (fun v7 wr => ∃ (j : Nat) (g cap : Nat), j ≤ gap s.length ∧ v7 = .slice (some ⟨g, 0, none⟩) (s.length + 1 + j) cap ∧ Hid (SSt w a b c H0.cells v7 (s ++ 128 :: List.replicate j 0) wr)) (fun v7 _ => s.length + 64 - slLen v7)
  case atStart => exact ⟨0, _, _, Nat.zero_le _, rfl, by rw [← hM0.out]; exact HS⟩
  case round =>
    obtain ⟨j, g, cap, hj, rfl, HS1⟩ := hrel
    have hg64 : gap s.length < 64 := Nat.mod_lt _ (by decide)
    by_cases hlt : j < gap s.length
    · skip
      have hne : ((((s.length + 1 + j : Nat) : Int) % 64) == 56) = false := by
        rw [beq_eq_false_iff_ne]
        unfold gap at hlt
        omega
      have hne2 : ((((s.length + 1 + j : Nat) : Int) % 64) != 56) = true := by
        rw [bne, hne]; rfl
      have hl63 : ((s.length + 1 + j : Nat) : Int) ≤ 9223372036854775807 := by omega
      obtain ⟨hib, hbz, hb1, hb2⟩ := HIB.out
      have HSX := Lib.hid (HS1.out.below ((Below.refl wr.heap.size wr).alloc (Nat.le_refl _) (.cells #[.int .u8 0] 5)))
      have HSR : Hid (∀ j u, (Lib.byteCells [0])[j]? = some u → (wr.alloc (.cells #[.int .u8 0] 5)).cell? ((⟨wr.heap.size, 0, none⟩ : Addr).add j) = some u) := Lib.hid (by
        intro j u hj
        have hj1 : j < 1 := (List.getElem?_eq_some_iff.1 hj).1
        obtain rfl : j = 0 := by omega
        rw [Addr.add_lit, cell_of_heap (at_new _ _)]
        exact hj)
      have hlen : Hid ((s ++ 128 :: List.replicate j 0).length = s.length + 1 + j) := Lib.hid (by simp; omega)
      have hx1 : Hid ((s ++ 128 :: List.replicate j 0) ++ [0] = s ++ 128 :: List.replicate (j + 1) 0) := Lib.hid (by rw [List.append_assoc, List.cons_append, List.replicate_succ'])
      have hlen2 : Hid ((s ++ 128 :: List.replicate (j + 1) 0).length = s.length + 1 + (j + 1)) := Lib.hid (by simp; omega)
      clear HS1
      have HH := Lib.hid (And.intro hib (And.intro hbz (And.intro hb1 hb2)))
      clear hib hbz hb1 hb2
      go_wp2_with (first
        | (at_builtin; refine wpList_append_MB (B := c + 1) rfl (.tmp 31) (.tmp 32) 38 rfl ib Tryd.underlying38 HH.out.1 HH.out.2.1 HH.out.2.2.1 HH.out.2.2.2 (.slice (some ⟨g, 0, none⟩) (s.length + 1 + j) cap) (s ++ 128 :: List.replicate j 0) [0] ⟨wr.heap.size, 0, none⟩ 1 1 rfl HSR.out rfl HSX.out.hm rfl (by rw [hlen.out]; simp; omega) (by have := HSX.out.lt; omega) ?_
           intro v2 w2 hm2 hg2
           rw [hx1.out] at hm2
           have HN := Lib.hid (HSX.out.grown (by omega) (by omega) (by omega) hm2 hg2)
           obtain ⟨g2, cap2, hv2⟩ := RowM.slice hm2
           rw [hlen2.out] at hv2
           subst hv2
           clear hm2 hg2))
      go_roundw
      case rel => exact ⟨j + 1, g2, cap2, by omega, rfl, HN⟩
      case measure => simp only [slLen]; omega
    · obtain rfl : j = gap s.length := by omega
      have hne : ((((s.length + 1 + gap s.length : Nat) : Int) % 64) == 56) = true := by
        rw [beq_iff_eq]; unfold gap; omega
      have hne2 : ((((s.length + 1 + gap s.length : Nat) : Int) % 64) != 56) = false := by
        rw [bne, hne]; rfl
      have hl63 : ((s.length + 1 + gap s.length : Nat) : Int) ≤ 9223372036854775807 := by omega
      have F8 := Lib.hid (ref_Fixed8 wr (8 * s.length))
      have e8 : IntKind.u64.wrap (8 * IntKind.u64.wrap (s.length : Int)) = ((8 * s.length : Nat) : Int) := by rw [IntKind.wrap_u64, IntKind.wrap_u64]; omega
      have hlen : Hid ((s ++ 128 :: List.replicate (gap s.length) 0).length = s.length + 1 + gap s.length) := Lib.hid (by simp; omega)
      clear hlt hj hM0 HM
      have HSL := Lib.hid HS1.out
      have hpad : Hid ((s ++ 128 :: List.replicate (gap s.length) 0) ++ be8 (8 * s.length) = s ++ pad s.length) := Lib.hid (by rw [pad, List.append_assoc]; rfl)
      have hlenp : Hid ((s ++ pad s.length).length = s.length + 9 + gap s.length) := Lib.hid (by simp [pad, be8_length]; omega)
      have hgm : Hid ((s.length + 9 + gap s.length) % 64 = 0) := Lib.hid (by unfold gap; omega)
      obtain ⟨hib, hbz, hb1, hb2⟩ := HIB.out
      have HH := Lib.hid (And.intro hib (And.intro hbz (And.intro hb1 hb2)))
      clear hib hbz hb1 hb2 HS1 HIB
      go_wp2_with (first
        | (go_at_call 82; rw [show (8 : Int) * (s.length : Int) = ((8 * s.length : Nat) : Int) by omega]; refine F8.out.mono ?_
           rintro e w1 ⟨rfl, hb1⟩
           have HS2 := Lib.hid (HSL.out.below hb1)
           clear hb1 F8)
        | (at_builtin; refine wpList_append_MS (B := c + 1) rfl (.tmp 34) (.tmp 39) 38 9 rfl ib Tryd.underlying38 Tryd.underlying9 HH.out.1 HH.out.2.1 HH.out.2.2.1 HH.out.2.2.2 (.slice (some ⟨g, 0, none⟩) (s.length + 1 + gap s.length) cap) (s ++ 128 :: List.replicate (gap s.length) 0) (be8 (8 * s.length)) rfl HS2.out.hm rfl (by rw [hlen.out, be8_length]; omega) (by have := HS2.out.lt; omega) ?_
           intro v2 w2 hm2 hg2
           rw [hpad.out] at hm2
           have HN := Lib.hid (HS2.out.grown (by omega) (by omega) (by omega) hm2 hg2)
           obtain ⟨g2, cap2, hv2⟩ := RowM.slice hm2
           rw [hlenp.out] at hv2
           subst hv2
           clear hm2 hg2))
      obtain ⟨m, hm⟩ : ∃ m, m = s ++ pad s.length := ⟨_, rfl⟩
      obtain ⟨N, hN⟩ : ∃ N, N = s.length + 9 + gap s.length := ⟨_, rfl⟩
      rw [← hm] at HN hlenp
      rw [← hN] at HN hlenp hgm ⊢
      have hNb : N ≤ 140737488355328 := by omega
      have hcap2 : Hid (N ≤ cap2) := Lib.hid (by
        obtain ⟨g', cap', cur', fz', hv', _, _, _, hle, _⟩ := HN.out.hm
        injection hv' with _ e2 e3
        omega)
      have HMS := Lib.hid hm
      clear hm hN hpad hlen HSL HS HH HS2 HA HB HC HW0 HL1 hpl hg64 hne hne2 hl63 e8
      go_loopw [8] (fun v8 wr => ∃ (k : Nat) (V : V8), 64 * k ≤ N ∧ v8 = .int .i64 ((64 * k : Nat) : Int) ∧ Hid (V.In ∧ run H0 m = run V (m.drop (64 * k))) ∧ Hid (SSt w a b c V.cells (.slice (some ⟨g2, 0, none⟩) N cap2) m wr)) (fun v8 _ => N - (RowKit.intOf v8).toNat)
      case atStart => exact ⟨0, H0, Nat.zero_le _, rfl, Lib.hid ⟨H0_in, rfl⟩, HN⟩
      case round =>
        obtain ⟨k, V, hk, rfl, HV, HS⟩ := hrel
        obtain ⟨p, hp⟩ : ∃ p, p = 64 * k := ⟨_, rfl⟩
        rw [← hp] at hk HV ⊢
        have Hp := Lib.hid hp
        clear hp
        by_cases hlt : (p : Int) < (N : Int)
        · have hp64 : p + 64 ≤ N := by have := Hp.out; have := hgm.out; omega
          obtain ⟨Bk, hBk⟩ : ∃ Bk, Bk = (m.drop p).take 64 := ⟨_, rfl⟩
          have hBl : Hid (Bk.length = 64) := Lib.hid (by rw [hBk, List.length_take, List.length_drop, hlenp.out]; omega)
          have HBk := Lib.hid hBk
          obtain ⟨d, hd⟩ : ∃ d, d = wr.heap.size := ⟨_, rfl⟩
          have hgd : g2 < d := by rw [hd]; exact (HS.out.hm.lt g2 (by simp [ob, Value.ownBlock])).2
          have hcd : c < d := by rw [hd]; exact HS.out.lt
          have HW0 : Hid (WSt w a b c d V.cells (.slice (some ⟨g2, 0, none⟩) N cap2) m (LR Bk 0) (wr.alloc (.cells (wc (LR Bk 0)) T64))) := Lib.hid ⟨HS.out.below ((Below.refl _ _).alloc (Nat.le_refl _) _), by rw [hd]; exact at_new _ _⟩
          rw [LR_zero] at HW0
          have hob : Hid (∀ x ∈ ob (.slice (some ⟨g2, 0, none⟩) N cap2), x ≠ d) := Lib.hid (by intro x hx; simp [ob, Value.ownBlock] at hx; omega)
          clear hBk HS
          go_wp2
          rw [← hd]
          clear hd
          go_loopw [10] (fun v10 wr => ∃ t : Nat, t ≤ 16 ∧ v10 = .int .i64 (t : Int) ∧ Hid (WSt w a b c d V.cells (.slice (some ⟨g2, 0, none⟩) N cap2) m (LR Bk t) wr)) (fun v10 _ => 16 - (RowKit.intOf v10).toNat)
          case atStart => exact ⟨0, Nat.zero_le _, rfl, by rw [LR_zero]; exact HW0⟩
          case round =>
            obtain ⟨t, ht, rfl, HR⟩ := hrel
            by_cases hlt2 : (t : Int) < 16
            · have ht16 : t < 16 := by omega
              obtain ⟨q, hq⟩ : ∃ q : Nat, q = p + 4 * t := ⟨_, rfl⟩
              have eq1 : (p : Int) + 4 * (t : Int) = (q : Int) := by omega
              have hqN : (q : Int) ≤ (N : Int) := by omega
              have hq0 : (0 : Int) ≤ (q : Int) := by omega
              have hqc : q < cap2 := by have := hcap2.out; omega
              have hqc1 : (q : Int) ≤ (cap2 : Int) := by omega
              have hNc : (N : Int) ≤ (cap2 : Int) := by have := hcap2.out; omega
              have hne3 : ¬ cap2 = q := by omega
              have hl4 : q + 4 ≤ N := by omega
              have hml := hlenp.out
              obtain ⟨b0, hb0⟩ : ∃ x, m[q]? = some x := ⟨_, List.getElem?_eq_getElem (by omega)⟩
              obtain ⟨b1, hb1⟩ : ∃ x, m[q + 1]? = some x := ⟨_, List.getElem?_eq_getElem (by omega)⟩
              obtain ⟨b2, hb2⟩ : ∃ x, m[q + 2]? = some x := ⟨_, List.getElem?_eq_getElem (by omega)⟩
              obtain ⟨b3, hb3⟩ : ∃ x, m[q + 3]? = some x := ⟨_, List.getElem?_eq_getElem (by omega)⟩
              have hrg := HR.out.st.hm.range
              have cell : ∀ (j : Nat) (x : UInt8), m[j]? = some x → wr.cell? ⟨g2, j, none⟩ = some (.int .u8 (x.toNat : Int)) := fun j x hx => by
                have := hrg j (.int .u8 (x.toNat : Int)) (by rw [Lib.byteCells, List.getElem?_map, hx]; rfl)
                rwa [Nat.zero_add] at this
              have k0 := cell q b0 hb0
              have k1 := cell (q + 1) b1 hb1
              have k2 := cell (q + 2) b2 hb2
              have k3 := cell (q + 3) b3 hb3
              obtain ⟨x, hx⟩ : ∃ x, x = wrd Bk t := ⟨_, rfl⟩
              have hx2 : x = (b0.toNat : Int) * 16777216 + (b1.toNat : Int) * 65536 + (b2.toNat : Int) * 256 + (b3.toNat : Int) := by
                have hBj : ∀ j, j < 64 → Bk[j]? = m[p + j]? := fun j hj => by rw [HBk.out, List.getElem?_take_of_lt hj, List.getElem?_drop]
                rw [hx]
                refine wrd_four ?_ ?_ ?_ ?_
                · rw [hBj _ (by omega), ← hb0, hq]
                · rw [hBj _ (by omega), ← hb1, hq, Nat.add_assoc]
                · rw [hBj _ (by omega), ← hb2, hq, Nat.add_assoc]
                · rw [hBj _ (by omega), ← hb3, hq, Nat.add_assoc]
              have v0 := UInt8.toNat_lt b0; have v1 := UInt8.toNat_lt b1; have v2 := UInt8.toNat_lt b2; have v3 := UInt8.toNat_lt b3
              have e0 : IntKind.u32.wrap (IntKind.u32.wrap (b0.toNat : Int) * 16777216) = (b0.toNat : Int) * 16777216 := by rw [IntKind.wrap_u32, IntKind.wrap_u32]; omega
              have cd : wr.cell? ⟨d, t, none⟩ = some (wdV ((LR Bk t).getD t 0)) := by rw [cell_of_heap HR.out.hw, wc_get (by rw [LR_length]; omega)]
              have fd : wr.frozen? ⟨d, t, none⟩ = false := frozen_of_heap HR.out.hw
              have Hx2 := Lib.hid hx2; have Hx := Lib.hid hx
              have HRR := Lib.hid HR.out
              clear HR cell hrg hx hx2 hb0 hb1 hb2 hb3 hq hml e0
              go_wp2
              have hR4 : 4 ≤ N - q := by omega
              generalize N - q = R at hR4 ⊢
              generalize cap2 - q = C2
              have r0 : (0 : Int) < (R : Int) := by omega
              have r1 : (1 : Int) < (R : Int) := by omega
              have r2 : (2 : Int) < (R : Int) := by omega
              have r3 : (3 : Int) < (R : Int) := by omega
              have t64 : (t : Int) < 64 := by omega
              have s0 : IntKind.u32.wrap (b0.toNat : Int) = (b0.toNat : Int) := by rw [IntKind.wrap_u32]; omega
              have s1 : IntKind.u32.wrap (b1.toNat : Int) = (b1.toNat : Int) := by rw [IntKind.wrap_u32]; omega
              have s2 : IntKind.u32.wrap (b2.toNat : Int) = (b2.toNat : Int) := by rw [IntKind.wrap_u32]; omega
              have s3 : IntKind.u32.wrap (b3.toNat : Int) = (b3.toNat : Int) := by rw [IntKind.wrap_u32]; omega
              refine wp_region_quiet_tail 24 (by kernel_rfl) (by kernel_rfl) ?_
              simp only [List.take_succ_cons, List.take_zero, List.drop_succ_cons, List.drop_zero]
              repeat (go_big_quiet_step (fail))
              refine wpQuiet_nil ?_
              intro _ hw'
              obtain ⟨nq, hw''⟩ := hw'
              subst hw''
              have eX : bits .or .u32 (bits .or .u32 (bits .or .u32 ((b0.toNat : Int) * 16777216) ((b1.toNat : Int) * 65536)) ((b2.toNat : Int) * 256)) (b3.toNat : Int) = x := by
                have v0 := UInt8.toNat_lt b0; have v1 := UInt8.toNat_lt b1; have v2 := UInt8.toNat_lt b2; have v3 := UInt8.toNat_lt b3
                rw [or_join 24 ((b0.toNat : Int) * 16777216) ((b1.toNat : Int) * 65536) (by omega) (by omega) (by omega) (by omega) (by omega) (by omega),
                  or_join 16 ((b0.toNat : Int) * 16777216 + (b1.toNat : Int) * 65536) ((b2.toNat : Int) * 256) (by omega) (by omega) (by omega) (by omega) (by omega) (by omega),
                  or_join 8 ((b0.toNat : Int) * 16777216 + (b1.toNat : Int) * 65536 + (b2.toNat : Int) * 256) (b3.toNat : Int) (by omega) (by omega) (by omega) (by omega) (by omega) (by omega), Hx2.out]
              rw [eX]
              have HN2 : Hid (WSt w a b c d V.cells (.slice (some ⟨g2, 0, none⟩) N cap2) m (LR Bk (t + 1)) ((wr.drewN nq).setCell ⟨d, t, none⟩ (wdV x))) := Lib.hid (by
                rw [← LR_step Bk t (by omega), ← Hx.out]
                exact (HRR.out.drewN nq).set hcd (by omega) (by omega) (by omega) hob.out _ _)
              clear eX HRR k0 k1 k2 k3 s0 s1 s2 s3 r0 r1 r2 r3 hR4 eq1
              go_wp2
              go_roundw
              case rel => exact ⟨t + 1, by omega, by go_num, HN2⟩
              case measure => simp [RowKit.intOf]; omega
            · obtain rfl : t = 16 := by omega
              have HR2 : Hid (WSt w a b c d V.cells (.slice (some ⟨g2, 0, none⟩) N cap2) m (L2 Bk 0) wr) := Lib.hid (by rw [← LR_end]; exact HR.out)
              clear HR HW0
              rw [show (((16 : Nat)) : Int) = 16 from rfl]
              go_wp2
              go_loopw [12] (fun v12 wr => ∃ k : Nat, k ≤ 48 ∧ v12 = .int .i64 ((16 + k : Nat) : Int) ∧ Hid (WSt w a b c d V.cells (.slice (some ⟨g2, 0, none⟩) N cap2) m (L2 Bk k) wr)) (fun v12 _ => 64 - (RowKit.intOf v12).toNat)
              case atStart => exact ⟨0, by omega, rfl, HR2⟩
              case round =>
                obtain ⟨kk, hkk, rfl, HR⟩ := hrel
                obtain ⟨t, ht⟩ : ∃ t, t = 16 + kk := ⟨_, rfl⟩
                rw [← ht]
                have hk16 : 16 ≤ t := by omega
                by_cases hlt3 : (t : Int) < 64
                · have hkl : t < 64 := by omega
                  obtain ⟨p15, h15⟩ : ∃ p, p = t - 15 := ⟨_, rfl⟩
                  obtain ⟨p2, h2⟩ : ∃ p, p = t - 2 := ⟨_, rfl⟩
                  obtain ⟨p7, h7⟩ : ∃ p, p = t - 7 := ⟨_, rfl⟩
                  obtain ⟨p16, h16⟩ : ∃ p, p = t - 16 := ⟨_, rfl⟩
                  have w15 : (t : Int) - 15 = (p15 : Int) := by omega
                  have w2 : (t : Int) - 2 = (p2 : Int) := by omega
                  have w7 : (t : Int) - 7 = (p7 : Int) := by omega
                  have w16 : (t : Int) - 16 = (p16 : Int) := by omega
                  have l15 : (p15 : Int) < 64 := by omega
                  have l2 : (p2 : Int) < 64 := by omega
                  have l7 : (p7 : Int) < 64 := by omega
                  have l16 : (p16 : Int) < 64 := by omega
                  obtain ⟨x, hx⟩ : ∃ x, x = (L2 Bk kk).getD p15 0 := ⟨_, rfl⟩
                  obtain ⟨y, hy⟩ : ∃ y, y = (L2 Bk kk).getD p2 0 := ⟨_, rfl⟩
                  obtain ⟨x7, hx7⟩ : ∃ x, x = (L2 Bk kk).getD p7 0 := ⟨_, rfl⟩
                  obtain ⟨x16, hx16⟩ : ∃ x, x = (L2 Bk kk).getD p16 0 := ⟨_, rfl⟩
                  have hL := L2_length Bk kk hkk
                  have c15 : wr.cell? ⟨d, p15, none⟩ = some (wdV x) := by rw [cell_of_heap HR.out.hw, wc_get (by omega), ← hx]
                  have c2 : wr.cell? ⟨d, p2, none⟩ = some (wdV y) := by rw [cell_of_heap HR.out.hw, wc_get (by omega), ← hy]
                  have q7 : wr.cell? ⟨d, p7, none⟩ = some (wdV x7) := by rw [cell_of_heap HR.out.hw, wc_get (by omega), ← hx7]
                  have q16 : wr.cell? ⟨d, p16, none⟩ = some (wdV x16) := by rw [cell_of_heap HR.out.hw, wc_get (by omega), ← hx16]
                  have ct : wr.cell? ⟨d, t, none⟩ = some (wdV ((L2 Bk kk).getD t 0)) := by rw [cell_of_heap HR.out.hw, wc_get (by omega)]
                  have fz : wr.frozen? ⟨d, t, none⟩ = false := frozen_of_heap HR.out.hw
                  have HX := Lib.hid (And.intro hx (And.intro hy (And.intro hx7 hx16)))
                  have HP := Lib.hid (And.intro h15 (And.intro h2 (And.intro h7 h16)))
                  have HT := Lib.hid ht
                  clear hx hy hx7 hx16 h15 h2 h7 h16 ht hL
                  go_wp2
                  refine wp_region_quiet_tail 29 (by kernel_rfl) (by kernel_rfl) ?_
                  simp only [List.take_succ_cons, List.take_zero, List.drop_succ_cons, List.drop_zero]
                  iterate 3 (go_big_quiet_step ((go_at_call 83; exact Calls.quiet_of (turn_lit _ _ 17 17 rfl (by decide) (by decide)))))
                  iterate 2 (go_big_quiet_step ((go_at_call 83; exact Calls.quiet_of (turn_lit _ _ 19 19 rfl (by decide) (by decide)))))
                  iterate 11 (go_big_quiet_step ((go_at_call 83; exact Calls.quiet_of (turn_lit _ _ 7 7 rfl (by decide) (by decide)))))
                  iterate 2 (go_big_quiet_step ((go_at_call 83; exact Calls.quiet_of (turn_lit _ _ 18 18 rfl (by decide) (by decide)))))
                  repeat (go_big_quiet_step (fail))
                  refine wpQuiet_nil ?_
                  intro _ hw'
                  obtain ⟨nq, hw''⟩ := hw'
                  subst hw''
                  obtain ⟨z3, hz3⟩ : ∃ z, z = nxt (L2 Bk kk) (16 + kk) := ⟨_, rfl⟩
                  have eZ : ((bits .xor .u32 (bits .xor .u32 (rot 17 y) (rot 19 y)) (y / 1024) + x7 + bits .xor .u32 (bits .xor .u32 (rot 7 x) (rot 18 x)) (x / 8)) % 4294967296 + x16) % 4294967296 = z3 := by
                    have e : z3 = (((sg1 y + x7) % 4294967296 + sg0 x) % 4294967296 + x16) % 4294967296 := by
                      rw [hz3, HX.out.1, HX.out.2.1, HX.out.2.2.1, HX.out.2.2.2, HP.out.1, HP.out.2.1, HP.out.2.2.1, HP.out.2.2.2, HT.out]
                      rfl
                    rw [e, add_left (sg1 y + x7) (sg0 x)]
                    rfl
                  rw [eZ]
                  have HN3 : Hid (WSt w a b c d V.cells (.slice (some ⟨g2, 0, none⟩) N cap2) m (L2 Bk (kk + 1)) ((wr.drewN nq).setCell ⟨d, t, none⟩ (wdV z3))) := Lib.hid (by
                    rw [hz3, ← L2_step Bk kk (by have := HT.out; omega), HT.out]
                    exact (HR.out.drewN nq).set hcd (by omega) (by omega) (by omega) hob.out _ _)
                  clear eZ hz3 c15 c2 q7 q16 w15 w2 w7 w16 HR
                  go_wp2
                  go_roundw
                  case rel => exact ⟨kk + 1, by have := HT.out; omega, congrArg (Value.int .i64) (by have := HT.out; omega), HN3⟩
                  case measure => simp [RowKit.intOf]; omega
                · obtain rfl : kk = 48 := by omega
                  obtain rfl : t = 64 := by omega
                  obtain ⟨W, hW⟩ : ∃ W, W = sch (wrds Bk) 48 := ⟨_, rfl⟩
                  have HWS : Hid (WSt w a b c d V.cells (.slice (some ⟨g2, 0, none⟩) N cap2) m W wr) := Lib.hid (by rw [hW, ← L2_end]; exact HR.out)
                  have HSL : Hid (W.length = 64) := Lib.hid (by rw [hW, sch_length, wrds_length])
                  have HW := Lib.hid hW
                  obtain ⟨e, he⟩ : ∃ e, e = wr.heap.size := ⟨_, rfl⟩
                  have hde : d < e := by rw [he]; exact lt_of_heap HWS.out.hw
                  clear HR ht hW HR2
                  rw [show (((64 : Nat)) : Int) = 64 from rfl]
                  go_wp2_with (first
                    | (refine wpList_load_at HWS.out.st.ha rfl T8 (.tmp 4) rfl rfl _ Tryd.underlying125 rfl (info8 V) ?_)
                    | (refine wpList_store_new rfl rfl T8 (.tmp 15) (.tmp 122) rfl V.cells rfl rfl (info8 V) rfl (one8 V) ?_
                       intro w3 hq3 hb3 hs3
                       have HV3 : Hid (w3.heap[e]? = some (.cells V.cells T8)) := Lib.hid (by rw [he]; exact hq3)
                       have HS3 : Hid (WSt w a b c d V.cells (.slice (some ⟨g2, 0, none⟩) N cap2) m W w3) := Lib.hid ⟨HWS.out.st.below hb3, (hb3.block _ (lt_of_heap HWS.out.hw)).trans HWS.out.hw⟩
                       rw [← he]
                       clear hq3 hb3 hs3 he))
                  have HX3 : Hid (XSt w a b c d e V.cells (.slice (some ⟨g2, 0, none⟩) N cap2) m W V w3) := Lib.hid ⟨HS3.out, HV3.out⟩
                  have hobe : Hid (∀ x ∈ ob (.slice (some ⟨g2, 0, none⟩) N cap2), x ≠ e) := Lib.hid (by intro x hx; simp [ob, Value.ownBlock] at hx; omega)
                  clear HWS HV3 HS3
                  go_loopw [16] (fun v16 wr => ∃ i : Nat, i ≤ 64 ∧ v16 = .int .i64 (i : Int) ∧ Hid (XSt w a b c d e V.cells (.slice (some ⟨g2, 0, none⟩) N cap2) m W (rnds K64 W V i) wr)) (fun v16 _ => 64 - (RowKit.intOf v16).toNat)
                  case atStart => exact ⟨0, by omega, rfl, HX3⟩
                  case round =>
                    obtain ⟨i, hi, rfl, HR⟩ := hrel
                    by_cases hlt4 : (i : Int) < 64
                    · skip
                      --R8
                      have hil : i < 64 := by omega
                      obtain ⟨v, hv⟩ : ∃ v, v = rnds K64 W V i := ⟨_, rfl⟩
                      rw [← hv] at HR
                      obtain ⟨x, hx⟩ : ∃ x, x = W.getD i 0 := ⟨_, rfl⟩
                      obtain ⟨kc, hkc⟩ : ∃ k, k = K64.getD i 0 := ⟨_, rfl⟩
                      have c0 : wr.cell? ⟨e, 0, none⟩ = some (wdV v.a) := cell_of_heap HR.out.hv
                      have c1 : wr.cell? ⟨e, 1, none⟩ = some (wdV v.b) := cell_of_heap HR.out.hv
                      have c2 : wr.cell? ⟨e, 2, none⟩ = some (wdV v.c) := cell_of_heap HR.out.hv
                      have c3 : wr.cell? ⟨e, 3, none⟩ = some (wdV v.d) := cell_of_heap HR.out.hv
                      have c4 : wr.cell? ⟨e, 4, none⟩ = some (wdV v.e) := cell_of_heap HR.out.hv
                      have c5 : wr.cell? ⟨e, 5, none⟩ = some (wdV v.f) := cell_of_heap HR.out.hv
                      have c6 : wr.cell? ⟨e, 6, none⟩ = some (wdV v.g) := cell_of_heap HR.out.hv
                      have c7 : wr.cell? ⟨e, 7, none⟩ = some (wdV v.h) := cell_of_heap HR.out.hv
                      have ck : wr.cell? ⟨b, i, none⟩ = some (wdV kc) := by rw [cell_of_heap HR.out.ws.st.hb, wc_get (by simpa [K64] using hil), ← hkc]
                      have cx : wr.cell? ⟨d, i, none⟩ = some (wdV x) := by rw [cell_of_heap HR.out.ws.hw, wc_get (by rw [HSL.out]; exact hil), ← hx]
                      have hns : IntKind.u32.signed = false := rfl
                      have Hk := Lib.hid hkc; have Hx := Lib.hid hx; have Hv := Lib.hid hv
                      clear hkc hx hv
                      go_wp2
                      refine wp_region_quiet_lit (by kernel_rfl) (by kernel_rfl) ?_
                      iterate 4 (go_big_quiet_step ((go_at_call 83; exact Calls.quiet_of (turn_lit _ _ 6 6 rfl (by decide) (by decide)))))
                      iterate 2 (go_big_quiet_step ((go_at_call 83; exact Calls.quiet_of (turn_lit _ _ 11 11 rfl (by decide) (by decide)))))
                      iterate 3 (go_big_quiet_step ((go_at_call 83; exact Calls.quiet_of (turn_lit _ _ 25 25 rfl (by decide) (by decide)))))
                      repeat (go_big_quiet_step (fail))
                      refine wpQuiet_nil ?_
                      intro _ hw'
                      obtain ⟨nq, hw''⟩ := hw'
                      subst hw''
                      go_wp2
                      obtain ⟨z1, hz1⟩ : ∃ z, z = t1 v kc x := ⟨_, rfl⟩
                      rw [show ((v.h + bits .xor .u32 (bits .xor .u32 (rot 6 v.e) (rot 11 v.e)) (rot 25 v.e) + bits .xor .u32 (bits .and .u32 v.e v.f) (bits .and .u32 (bits .xor .u32 IntKind.u32.max v.e) v.g) + kc) % 4294967296 + x) % 4294967296 = z1 from (add_left _ _).trans hz1.symm]
                      have Hz1 := Lib.hid hz1
                      have HR2 := Lib.hid (HR.out.drewN nq)
                      clear hz1 c0 c1 c2 c3 c4 c5 c6 c7 ck cx HR
                      generalize wr.drewN nq = w4 at HR2 ⊢
                      have c0 : w4.cell? ⟨e, 0, none⟩ = some (wdV v.a) := cell_of_heap HR2.out.hv
                      have c1 : w4.cell? ⟨e, 1, none⟩ = some (wdV v.b) := cell_of_heap HR2.out.hv
                      have c2 : w4.cell? ⟨e, 2, none⟩ = some (wdV v.c) := cell_of_heap HR2.out.hv
                      refine wp_region_quiet_lit (by kernel_rfl) (by kernel_rfl) ?_
                      iterate 2 (go_big_quiet_step ((go_at_call 83; exact Calls.quiet_of (turn_lit _ _ 2 2 rfl (by decide) (by decide)))))
                      iterate 2 (go_big_quiet_step ((go_at_call 83; exact Calls.quiet_of (turn_lit _ _ 13 13 rfl (by decide) (by decide)))))
                      iterate 3 (go_big_quiet_step ((go_at_call 83; exact Calls.quiet_of (turn_lit _ _ 22 22 rfl (by decide) (by decide)))))
                      repeat (go_big_quiet_step (fail))
                      refine wpQuiet_nil ?_
                      intro _ hw'
                      obtain ⟨nq, hw''⟩ := hw'
                      subst hw''
                      go_upto_region 28 with (fail)
                      obtain ⟨z2, hz2⟩ : ∃ z, z = t2 v := ⟨_, rfl⟩
                      try rw [show (bits .xor .u32 (bits .xor .u32 (rot 2 v.a) (rot 13 v.a)) (rot 22 v.a) + bits .xor .u32 (bits .xor .u32 (bits .and .u32 v.a v.b) (bits .and .u32 v.a v.c)) (bits .and .u32 v.b v.c)) % 4294967296 = z2 from hz2.symm]
                      have Hz2 := Lib.hid hz2
                      have HR3 := Lib.hid (HR2.out.drewN nq)
                      clear hz2 c0 c1 c2 HR2
                      generalize w4.drewN nq = w5 at HR3 ⊢
                      have c0 : w5.cell? ⟨e, 0, none⟩ = some (wdV v.a) := cell_of_heap HR3.out.hv
                      have c1 : w5.cell? ⟨e, 1, none⟩ = some (wdV v.b) := cell_of_heap HR3.out.hv
                      have c2 : w5.cell? ⟨e, 2, none⟩ = some (wdV v.c) := cell_of_heap HR3.out.hv
                      have c3 : w5.cell? ⟨e, 3, none⟩ = some (wdV v.d) := cell_of_heap HR3.out.hv
                      have c4 : w5.cell? ⟨e, 4, none⟩ = some (wdV v.e) := cell_of_heap HR3.out.hv
                      have c5 : w5.cell? ⟨e, 5, none⟩ = some (wdV v.f) := cell_of_heap HR3.out.hv
                      have c6 : w5.cell? ⟨e, 6, none⟩ = some (wdV v.g) := cell_of_heap HR3.out.hv
                      go_wp2_with (first
                        | (refine wpList_store_at HR3.out.hv rfl T8 (.tmp 15) (.tmp 204) rfl (V8.cells ⟨add z1 z2, v.a, v.b, v.c, add v.d z1, v.e, v.f, v.g⟩) rfl rfl (info8 _) rfl (one8 _) ?_
                           intro w6 hq6 ht6 hs6
                           have HN4 : Hid (XSt w a b c d e V.cells (.slice (some ⟨g2, 0, none⟩) N cap2) m W (rnds K64 W V (i + 1)) w6) := Lib.hid (by
                             rw [rnds, ← Hv.out, ← Hx.out, ← Hk.out, rnd, ← Hz1.out, ← Hz2.out]
                             exact HR3.out.step hde hcd (by omega) (by omega) (by omega) hobe.out hq6 ht6)
                           clear hq6 ht6 hs6))
                      go_roundw
                      case rel => exact ⟨i + 1, by omega, by go_num, HN4⟩
                      case measure => simp [RowKit.intOf]; omega
                    · obtain rfl : i = 64 := by omega
                      obtain ⟨v, hv⟩ : ∃ v, v = rnds K64 W V 64 := ⟨_, rfl⟩
                      rw [← hv] at HR
                      have HEB : Hid (blk V Bk = V.add v) := Lib.hid (by rw [blk, hv, HW.out])
                      clear hv HX3
                      rw [show (((64 : Nat)) : Int) = 64 from rfl]
                      go_wp2
                      have HA0 : Hid (XSt w a b c d e (wc (L3 V v 0)) (.slice (some ⟨g2, 0, none⟩) N cap2) m W v wr) := Lib.hid (by rw [L3_zero]; exact HR.out)
                      clear HR
                      go_loopw [21] (fun v21 wr => ∃ i : Nat, i ≤ 8 ∧ v21 = .int .i64 (i : Int) ∧ Hid (XSt w a b c d e (wc (L3 V v i)) (.slice (some ⟨g2, 0, none⟩) N cap2) m W v wr)) (fun v21 _ => 8 - (RowKit.intOf v21).toNat)
                      case atStart => exact ⟨0, by omega, rfl, HA0⟩
                      case round =>
                        obtain ⟨i, hi, rfl, HR⟩ := hrel
                        by_cases hlt5 : (i : Int) < 8
                        · have hil : i < 8 := by omega
                          obtain ⟨x, hx⟩ : ∃ x, x = V.list.getD i 0 := ⟨_, rfl⟩
                          obtain ⟨y, hy⟩ : ∃ y, y = v.list.getD i 0 := ⟨_, rfl⟩
                          obtain ⟨z, hz⟩ : ∃ z, z = add x y := ⟨_, rfl⟩
                          have ca : wr.cell? ⟨a, i, none⟩ = some (wdV x) := by rw [cell_of_heap HR.out.ws.st.ha, wc_get (by rw [L3_length]; exact hil), L3_get _ _ _ _ hil, if_neg (by omega), hx]
                          have ce : wr.cell? ⟨e, i, none⟩ = some (wdV y) := by rw [cell_of_heap HR.out.hv, show v.cells = wc v.list from rfl, wc_get hil, hy]
                          have fa : wr.frozen? ⟨a, i, none⟩ = false := frozen_of_heap HR.out.ws.st.ha
                          have ea : (x + y) % 4294967296 = z := by rw [hz]
                          have HZ := Lib.hid (And.intro hx (And.intro hy hz))
                          clear hx hy hz
                          go_wp2
                          refine wp_region_quiet_tail 9 (by kernel_rfl) (by kernel_rfl) ?_
                          simp only [List.take_succ_cons, List.take_zero, List.drop_succ_cons, List.drop_zero]
                          repeat (go_big_quiet_step (fail))
                          refine wpQuiet_nil ?_
                          intro _ hw'
                          obtain ⟨nq, hw''⟩ := hw'
                          subst hw''
                          have HN5 : Hid (XSt w a b c d e (wc (L3 V v (i + 1))) (.slice (some ⟨g2, 0, none⟩) N cap2) m W v ((wr.drewN nq).setCell ⟨a, i, none⟩ (wdV z))) := Lib.hid (by
                            rw [← L3_step V v i hil, ← HZ.out.1, ← HZ.out.2.1, ← HZ.out.2.2]
                            exact (HR.out.drewN nq).setA hab hbc hcd hde hwa _ _)
                          clear HR
                          go_wp2
                          go_roundw
                          case rel => exact ⟨i + 1, by omega, by go_num, HN5⟩
                          case measure => simp [RowKit.intOf]; omega
                        · obtain rfl : i = 8 := by omega
                          have HF : Hid (SSt w a b c (blk V Bk).cells (.slice (some ⟨g2, 0, none⟩) N cap2) m wr) := Lib.hid (by rw [HEB.out]; exact HR.out.ws.st)
                          have HV2 : Hid ((blk V Bk).In ∧ run H0 m = run (blk V Bk) (m.drop (p + 64))) := Lib.hid ⟨blk_in _ _, by
                            rw [HV.out.2, run_ge (by rw [List.length_drop, hlenp.out]; omega), ← HBk.out, List.drop_drop]⟩
                          have hp6 : ((p : Int) + 64) ≤ 9223372036854775807 := by omega
                          clear HR HA0
                          go_wp2
                          go_roundw
                          case rel => exact ⟨k + 1, blk V Bk, by have := Hp.out; omega, congrArg (Value.int .i64) (by have := Hp.out; omega), Lib.hid (by rw [show 64 * (k + 1) = p + 64 by rw [Hp.out]; omega]; exact HV2.out), HF⟩
                          case measure => simp [RowKit.intOf]; omega
        · have hpN : p = N := by omega
          have HE : Hid (run H0 m = V) := Lib.hid (by rw [HV.out.2, List.drop_eq_nil_of_le (by rw [hlenp.out]; omega), run_lt (by simp)])
          have HVI := Lib.hid HV.out.1
          clear HV hlt
          obtain ⟨f, hf⟩ : ∃ f, f = wr.heap.size := ⟨_, rfl⟩
          have hcf : c < f := by rw [hf]; exact HS.out.lt
          have HI0 : Hid ((wr.alloc (.cells zeroId IdT)).heap[f]? = some (.cells (Lib.byteCells (LB V 0)).toArray IdT) ∧ SSt w a b c V.cells (.slice (some ⟨g2, 0, none⟩) N cap2) m (wr.alloc (.cells zeroId IdT))) := Lib.hid ⟨by rw [hf, LB_zero]; exact at_new _ _, HS.out.below ((Below.refl _ _).alloc (Nat.le_refl _) _)⟩
          have hobf : Hid (∀ x ∈ ob (.slice (some ⟨g2, 0, none⟩) N cap2), x ≠ f) := Lib.hid (by intro x hx; have := (HS.out.hm.lt x hx).2; omega)
          clear HS
          go_wp2
          rw [← hf]
          clear hf
          go_loopw [23] (fun v23 wr => ∃ i : Nat, i ≤ 32 ∧ v23 = .int .i64 (i : Int) ∧ Hid (wr.heap[f]? = some (.cells (Lib.byteCells (LB V i)).toArray IdT) ∧ SSt w a b c V.cells (.slice (some ⟨g2, 0, none⟩) N cap2) m wr)) (fun v23 _ => 32 - (RowKit.intOf v23).toNat)
          case atStart => exact ⟨0, by omega, rfl, HI0⟩
          case round =>
            obtain ⟨i, hi, rfl, HR⟩ := hrel
            by_cases hlt6 : (i : Int) < 32
            · have hil : i < 32 := by omega
              obtain ⟨q, hq⟩ : ∃ q : Nat, q = i / 4 := ⟨_, rfl⟩
              obtain ⟨r, hr⟩ : ∃ r : Nat, r = 24 - 8 * (i % 4) := ⟨_, rfl⟩
              have q8 : (q : Int) < 8 := by omega
              have q0 : (0 : Int) ≤ (q : Int) := by omega
              have eq1 : (i : Int) / 4 = (q : Int) := by omega
              have eq2 : 24 - 8 * ((i : Int) % 4) = (r : Int) := by omega
              have r32 : r < 32 := by omega
              obtain ⟨x, hx⟩ : ∃ x, x = V.list.getD q 0 := ⟨_, rfl⟩
              have ca : wr.cell? ⟨a, q, none⟩ = some (wdV x) := by rw [cell_of_heap HR.out.2.ha, show V.cells = wc V.list from rfl, wc_get (by show q < 8; omega), hx]
              have cf : wr.cell? ⟨f, i, none⟩ = some (.int .u8 ((if i < i then byteOf V i else 0 : UInt8).toNat : Int)) := by rw [cell_of_heap HR.out.1, bc_get (LB_get _ _ _ hil)]
              have ff : wr.frozen? ⟨f, i, none⟩ = false := frozen_of_heap HR.out.1
              obtain ⟨y, hy⟩ : ∃ y, y = byteOf V i := ⟨_, rfl⟩
              have eX : x / 2 ^ r % 256 = (y.toNat : Int) := by rw [hr, hy]; exact shr_u8 V i x (by rw [hx, hq]) (by rw [hx]; exact HVI.out.get _)
              have HN6 : Hid ((wr.setCell ⟨f, i, none⟩ (.int .u8 (y.toNat : Int))).heap[f]? = some (.cells (Lib.byteCells (LB V (i + 1))).toArray IdT) ∧ SSt w a b c V.cells (.slice (some ⟨g2, 0, none⟩) N cap2) m (wr.setCell ⟨f, i, none⟩ (.int .u8 (y.toNat : Int)))) := Lib.hid ⟨by rw [setCell_heap _ _ _ _ _ _ HR.out.1, bc_set, ← LB_step V i hil, hy], HR.out.2.other hcf (by omega) (by omega) (by omega) hobf.out _ _⟩
              clear hq hr hx hy HR
              go_wp2
              go_roundw
              case rel => exact ⟨i + 1, by omega, by go_num, HN6⟩
              case measure => simp [RowKit.intOf]; omega
            · obtain rfl : i = 32 := by omega
              obtain ⟨l, hl⟩ : ∃ l, l = bytesOf V := ⟨_, rfl⟩
              have HF2 : Hid (wr.heap[f]? = some (.cells (Lib.byteCells l).toArray IdT) ∧ SSt w a b c V.cells (.slice (some ⟨g2, 0, none⟩) N cap2) m wr) := Lib.hid (by rw [hl, ← LB_end]; exact HR.out)
              have hl32 : l.length = 32 := by rw [hl]; simp [bytesOf]
              have HSUM : Hid (sum s = l) := Lib.hid (by rw [sum, ← HMS.out, HE.out, hl])
              have HL32 := Lib.hid hl32
              have HZ32 : Hid (zeroId.size = (Lib.byteCells l).toArray.size) := Lib.hid (by
                have e : (Lib.byteCells l).toArray.size = 32 := by rw [List.size_toArray, Lib.byteCells_length, hl32]
                exact e.symm)
              clear HR hl hl32
              go_wp2_with (first
                | (refine wpList_load_at HF2.out.1 rfl IdT (.tmp 22) rfl rfl _ Tryd.underlying63 rfl (infoId HL32.out) ?_)
                | (refine wpList_store_at HF2.out.2.hc rfl IdT (.tmp 6) (.tmp 234) rfl (Lib.byteCells l).toArray rfl rfl (infoId HL32.out) HZ32.out (oneId l) ?_
                   intro w7 hq7 ht7 hs7
                   have HQ7 := Lib.hid hq7; have HT7 := Lib.hid ht7
                   clear hq7 ht7 hs7))
              refine bodyPost_ret (v := .agg (Lib.byteCells l).toArray) (results_cell_row rfl _ _ c IdT _ (0, 0) _ rfl HQ7.out Tryd.underlying63 rfl (infoId HL32.out)) rfl ⟨by rw [HSUM.out], ?_⟩
              exact HF2.out.2.be.trans (HT7.out.below (by intro x hx; simp at hx; omega) HF2.out.2.be.size)
end Go.Proofs.YthcjjekkjbidlaaDoor.Sh
/-
  An entry written over another one of a row.
-/
namespace Go.Proofs.YthcjjekkjbidlaaDoor.St
open Go.RowKit Go.Maps Go.WideMaps Go.Proofs.YthcjjekkjbidlaaDoor.Rf Go.Proofs.YthcjjekkjbidlaaDoor.Rd

theorem list_mid {α : Type} (l : List α) (o : Nat) (v : α) (m : Nat) (h : o < l.length) : (l.take o ++ v :: l.drop (o + 1)).take (o + 1) = l.take o ++ [v] ∧ (l.take o ++ v :: l.drop (o + 1)).drop (o + 1 + m) = l.drop (o + 1 + m) := by
  have hA : (l.take o).length = o := by rw [List.length_take]; omega
  have hC : l.drop (o + 1 + m) = (l.drop (o + 1)).drop m := by rw [List.drop_drop]
  rw [hC]
  generalize l.take o = A at *
  generalize l.drop (o + 1) = C at *
  subst hA
  constructor
  · simp [List.take_append]
    exact List.take_of_length_le (by omega)
  · rw [Nat.add_assoc, ← List.drop_drop, List.drop_left, Nat.add_comm, List.drop_succ_cons]
theorem heap_setCells {b : Nat} {T : TypeId} : ∀ (vs : List Value) (o : Nat) (w : World) (cur : Array Value), w.heap[b]? = some (.cells cur T) → o + vs.length ≤ cur.size →
    ∃ cur' : Array Value, (w.setCells b o vs).heap[b]? = some (.cells cur' T) ∧ cur'.size = cur.size ∧ cur'.toList = cur.toList.take o ++ vs ++ cur.toList.drop (o + vs.length)
  | [], o, w, cur, h, _ => ⟨cur, h, rfl, by simp⟩
  | v :: r, o, w, cur, h, hl => by
    have h1 := setCell_heap w b o v cur T h
    have hsz : (cur.setIfInBounds o v).size = cur.size := Array.size_setIfInBounds ..
    obtain ⟨cur', a1, a2, a3⟩ := heap_setCells r (o + 1) _ _ h1 (by rw [hsz]; simp at hl; omega)
    refine ⟨cur', a1, a2.trans hsz, ?_⟩
    have ho : o < cur.toList.length := by simp at hl ⊢; omega
    rw [a3, Array.toList_setIfInBounds, List.set_eq_take_append_cons_drop, if_pos ho]
    obtain ⟨l1, l2⟩ := list_mid cur.toList o v r.length ho
    rw [l1, l2]
    simp [show o + (r.length + 1) = o + 1 + r.length by omega]
theorem turn_setCells (w : World) (g o : Nat) (vs : List Value) : Turn [g] w (w.setCells g o vs) := by
  induction vs generalizing w o with
  | nil => exact Turn.refl _ _
  | cons v r ih => exact ((Turn.refl [g] w).setCell (p := ⟨g, o, none⟩) (.inl (by simp)) v).trans (ih _ _) (fun y hy => .inl hy)
end Go.Proofs.YthcjjekkjbidlaaDoor.St
