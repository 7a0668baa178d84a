import Derived.Test.YtkeegnhjemhblaaGreatDoorZPRfOps
import Derived.Test.YtkeegnhjemhblaaGreatDoorZPRfShelf
import Derived.Test.YtkeegnhjemhblaaGreatDoorZPNmCheck
import Derived.WalkKit
import Derived.WalkSpells
import Derived.WalkLawsBesides
import Derived.Lib.Hide
import Derived.Deep.AppendLies
import Derived.Deep.RegionHeld3
import Derived.Deep.MidRow
set_option linter.unusedSimpArgs false
set_option linter.unusedVariables false
/-
  The contract of a book's Add.
-/
namespace Go.Proofs.YtkeegnhjemhblaaGreatDoor.Rf
open Go.RowKit Go.Maps Go.WideMaps
variable {X : Spect}

/-- A book with one more snapshot behind a branch's. -/
def addB (K : BK) (k : List UInt8) (e : En) : Int × BK :=
  if Nm.chk k = false then (10, K) else
  if e.t < 0 ∨ 1099511627776 < e.t then (1, K) else
  match getM K k with
  | none => if 64 ≤ K.length then (3, K) else (0, putM K k [e])
  | some l => if e.t < (l.getLast?.getD e).t then (1, K) else if 4096 ≤ l.length then (3, K) else (0, putM K k (l ++ [e]))

/-- What a call that turns a book leaves. -/
def BkPost (X : Spect) (B : Nat) (w : World) (g b : Nat) (r : Value) (K : BK) (e : Ending) (w' : World) : Prop :=
  ∃ Z', e = .returned r ∧ BookAt X B w' g b Z' ∧ plainB Z' = K ∧ Below B w w'

theorem BookAt.drewN {B : Nat} {w : World} {g b : Nat} {Z : BM} (h : BookAt X B w g b Z) (n : Nat) : BookAt X B (w.drewN n) g b Z := by
  have e : (w.drewN n).heap = w.heap := World.heap_drewN w n
  exact h.kept (fun b _ => by rw [e])
theorem below_drewN' {B : Nat} {a b : World} (h : Below B a b) (n : Nat) : Below B a (b.drewN n) := h.trans ⟨rfl, rfl, rfl, Nat.le_refl _, fun _ _ => rfl⟩
theorem below_le {B : Nat} {a b : World} (h : Below B a b) (hB : B ≤ a.heap.size) : B ≤ b.heap.size := Nat.le_trans hB h.size

theorem delM_length {α : Type} (m : MV α) (k : List UInt8) : (delM m k).length ≤ m.length := List.length_filter_le _ _
theorem putM_length {α : Type} (m : MV α) (k : List UInt8) (n : α) : (putM m k n).length ≤ m.length + 1 := by
  rw [(put_perm k n m).length_eq, List.length_cons]; have := delM_length m k; omega
theorem map_tight {w : World} {b n n' : Nat} {α : Type} {enc : α → Value} {m : MV α} (h : w.ownsMap Tryz.prog 9 Rv b n (toD enc m)) (hs : m.length ≤ n') : w.ownsMap Tryz.prog 9 Rv b n' (toD enc m) := by
  obtain ⟨es, clock, h1, h2, h3, h4⟩ := h
  refine ⟨es, clock, h1, h2, ?_, h4⟩
  have := congrArg Maps.size h4
  rw [toD_size, Maps.size_eq, length_sorted] at this
  simp at this
  omega

/-- Ahead of the append: the slice's own row, and the snapshot that was laid in a block of its own. -/
theorem add_ready {B : Nat} {w3 : World} {g b : Nat} {Z : BM} {k : List UInt8} (h : BookAt X B w3 g b Z) {x : En} (cs : List Value) (hxs : cs.length = 33) (hxc : cs = x.cells) (v : Value) (l : List En)
    (hold : (v = .slice none 0 0 ∧ l = []) ∨ (k, (v, l)) ∈ Z) :
    ((w3.alloc (.cells cs.toArray 84)).drew).ownsRow B 84 33 v l.length (cellsL l) ∧ cs.length = 1 * 33 ∧
    (∀ j u, cs[j]? = some u → ((w3.alloc (.cells cs.toArray 84)).drew).cell? ((⟨w3.heap.size, 0, none⟩ : Addr).add j) = some u) ∧ (∀ u ∈ cs, u.oneCell' = true) ∧
    B ≤ ((w3.alloc (.cells cs.toArray 84)).drew).heap.size ∧ ((w3.alloc (.cells cs.toArray 84)).drew).heap.size = w3.heap.size + 1 := by
  have hs : ((w3.alloc (.cells cs.toArray 84)).drew).heap.size = w3.heap.size + 1 := by show (w3.heap.push _).size = _; simp
  have hh : ((w3.alloc (.cells cs.toArray 84)).drew).heap[w3.heap.size]? = some (.cells cs.toArray 84) := (MapKept.heap_alloc w3 _).1
  have hb := h.lt_g; have hB := h.baseg
  refine ⟨?_, by simp [hxs], ?_, ?_, by omega, hs⟩
  · rcases hold with ⟨rfl, rfl⟩ | hz
    · exact ⟨rfl, .inl ⟨rfl, rfl⟩⟩
    · exact rowS_kept (h.each _ hz) (fun y _ hy => Below.heap_alloc w3 _ y hy)
  · intro j u hj
    rw [Addr.add_lit, Nat.zero_add, cell_of_heap hh, List.getElem?_toArray]; exact hj
  · rw [hxc]
    intro u hu
    exact row_one (l := [x]) u (by simpa [cellsL] using hu)
/-- Behind the append: the book's map is as it was. -/
theorem add_map {B : Nat} {w3 W w8 : World} {g b : Nat} {Z : BM} {k : List UInt8} (h : BookAt X B w3 g b Z) (hW : Below w3.heap.size w3 W) {v : Value} (hg : W.grownBy w8 v.ownBlock) {l : List En} (hold : v = .slice none 0 0 ∨ (k, (v, l)) ∈ Z) :
    w8.ownsMap Tryz.prog 9 Rv b 1000000 (toD Prod.fst Z) ∧ w8.cell? ⟨g, 0, none⟩ = some (.map (some b)) ∧ ∀ q cs, q < w3.heap.size → (∀ y, v.ownBlock = some y → y ≠ q) → w3.rangeAt q 0 cs → w8.rangeAt q 0 cs := by
  have hne : ∀ y, v.ownBlock = some y → y ≠ g ∧ y ≠ b := fun y hy => by
    rcases hold with e | e
    · subst e; simp [Value.ownBlock] at hy
    · exact h.off _ e y (by simp [ob, hy])
  have hlb := h.lt_b; have hlg := h.lt_g; have hs := hW.size
  refine ⟨ownsMap_block h.map ?_, ?_, fun q cs hq hy hr j u hj => (World.cell?_of_block (a := ⟨q, 0 + j, none⟩) (by
    show w8.heap[q]? = _
    rw [hg.block q (by omega) (fun e => hy q e.symm rfl), hW.block q hq])).trans (hr j u hj)⟩
  · rw [hg.block b (by omega) (fun e => (hne b e.symm).2 rfl), hW.block b hlb]
  · refine cell_of_heap (cur := #[.map (some b)]) (T := 109) ?_
    rw [hg.block g (by omega) (fun e => (hne g e.symm).1 rfl), hW.block g hlg]; exact h.book

/-- A snapshot was appended, and the new slice stands in the map. -/
theorem put_end {B : Nat} {w3 W w4 w5 : World} {g b : Nat} {Z : BM} {k : List UInt8} {v v' : Value} {l : List En} {x : En} (h : BookAt X B w3 g b Z) (hW : Below w3.heap.size w3 W)
    (hold : v = .slice none 0 0 ∨ (k, (v, l)) ∈ Z)
    (hown : w4.ownsRow B 84 33 v' (l.length + 1) (cellsL l ++ x.cells)) (hg : W.grownBy w4 v.ownBlock) (hat : v'.ownBlock = v.ownBlock ∨ v'.ownBlock = some W.heap.size)
    (hm : w5.ownsMap Tryz.prog 9 Rv b 1000001 ((toD Prod.fst Z).put (.string k) (.held v'))) (hz : Z.length ≤ 64) (ht : w4.mapTurned w5 b) :
    BookAt X B w5 g b (putM Z k (v', l ++ [x])) ∧ Below B w3 w5 := by
  have hlb := h.lt_b; have hlg := h.lt_g
  have hs3 := hW.size; have hs4 := hg.size
  have t5 := ht.grown
  have hob : ∀ y, v.ownBlock = some y → (k, (v, l)) ∈ Z ∧ y ∈ ob v := fun y hy => by
    rcases hold with e | e
    · subst e; simp [Value.ownBlock] at hy
    · exact ⟨e, by simp [ob, hy]⟩
  have hv : ∀ y ∈ ob v', w3.heap.size ≤ y ∨ ∃ q, (k, q) ∈ Z ∧ y ∈ ob q.1 := fun y hy => by
    have hy' : v'.ownBlock = some y := by simpa [ob] using hy
    rcases hat with e | e
    · obtain ⟨a1, a2⟩ := hob y (e.symm.trans hy')
      exact .inr ⟨_, a1, a2⟩
    · left
      have : y = W.heap.size := by rw [hy'] at e; exact Option.some.inj e
      omega
  have hne : ∀ y, v.ownBlock = some y → y ≠ g ∧ y ≠ b := fun y hy => h.off _ (hob y hy).1 y (hob y hy).2
  refine ⟨h.put k v' (l ++ [x]) ?_ ?_ ?_ hv, ?_⟩
  · intro y hy hyb hq
    rw [t5.block y (by omega) (by simpa using hyb), hg.block y (by omega) (fun e => hq _ (hob y e.symm).1 (hob y e.symm).2), hW.block y hy]
  · rw [toD_put Prod.fst Z k (v', l ++ [x])] at hm
    exact map_tight hm (by have := putM_length Z k (v', l ++ [x]); omega)
  · have e : cellsL (l ++ [x]) = cellsL l ++ x.cells := by simp [cellsL]
    rw [e, List.length_append]
    refine rowS_kept hown (fun y hy hl => t5.block y hl ?_)
    have hyb : y ≠ b := by
      rcases hv y hy with c | ⟨q, hq, hyq⟩
      · omega
      · exact (h.off _ hq y hyq).2
    simpa using hyb
  · have b1 : Below B w3 W := hW.mono (Nat.le_trans h.baseg (Nat.le_of_lt hlg))
    have b2 := b1.grown hg (Nat.le_trans (Nat.le_trans h.baseg (Nat.le_of_lt hlg)) hs3) (fun y hy => by
      obtain ⟨a1, a2⟩ := hob y hy
      exact rowS_ge (h.each _ a1) y a2)
    exact b2.grown t5 (by have := h.baseg; omega) (fun y hy => by obtain rfl := Option.some.inj hy; exact h.baseb)

theorem s_turned {w8 w9 : World} {g b q : Nat} {cs : List Value} (hg : g < q) (hb : b < q) (hgb : g ≠ b) (hq : q ≤ w8.heap.size) (ht : w8.mapTurned w9 b) (c8 : w8.cell? ⟨g, 0, none⟩ = some (.map (some b))) (r8 : w8.rangeAt q 0 cs) :
    w9.cell? ⟨g, 0, none⟩ = some (.map (some b)) ∧ w9.rangeAt q 0 cs := by
  have t9 := ht.grown
  refine ⟨(World.cell?_of_block (a := ⟨g, 0, none⟩) (t9.block g (by omega) (by simpa using hgb))).trans c8, fun j u hj => ?_⟩
  have h1 := r8 j u hj
  have hlt : q < w8.heap.size := by
    by_cases e : q < w8.heap.size
    · exact e
    · exfalso
      have : w8.heap[q]? = none := Array.getElem?_eq_none (by omega)
      simp [World.cell?, this] at h1
  exact (World.cell?_of_block (a := ⟨q, 0 + j, none⟩) (t9.block q hlt (by simp; omega))).trans h1

abbrev enV (e : En) : Value := .agg e.cells.toArray

set_option linter.unusedSimpArgs false in
set_option maxHeartbeats 4000000 in
set_option maxRecDepth 100000 in
theorem add_any (B : Nat) (w : World) (g b : Nat) (Z : BM) (S : ByteArray) (x : En) (hS : S.size ≤ maxLen) (hx0 : x.c.length = 32) (h : BookAt X B w g b Z) (ok : OkB (plainB Z)) :
    Calls Tryz.prog 38 #[ptr g, .string S, enV x] w (BkPost X B w g b (.int .i64 (addB (plainB Z) S.data.toList x).1) (addB (plainB Z) S.data.toList x).2) := by
  obtain ⟨W, hW⟩ : ∃ W, W = w.alloc (.cells x.cells.toArray 84) := ⟨_, rfl⟩
  have hb0 : Below w.heap.size w W := by rw [hW]; exact (Below.refl _ _).alloc (Nat.le_refl _) _
  have hq0 : W.heap[w.heap.size]? = some (.cells x.cells.toArray 84) := by rw [hW]; exact (MapKept.heap_alloc w _).1
  have h0 : BookAt X B W g b Z := h.below hb0
  have hBw : B ≤ w.heap.size := Nat.le_trans h.baseg (Nat.le_of_lt h.lt_g)
  have HBW := Lib.hid (show Below B w W from hb0.mono hBw)
  have HBs := Lib.hid hBw
  have HLG := Lib.hid h.lt_g; have HLB := Lib.hid h.lt_b
  have HLT0 : Hid (∀ p ∈ Z, ∀ y ∈ ob p.2.1, y < w.heap.size) := Lib.hid (fun p hp => rowS_lt (h.each p hp))
  clear hBw
  have K := Lib.hid (log_any B W g b Z S hS h0)
  have C := Lib.hid (fun w => Nm.check_any S w hS)
  have hxt : x.cells.toArray[32]? = some (.int .i64 x.t) := by
    rw [List.getElem?_toArray, En.cells, List.getElem?_append_right (by simp [Lib.byteCells_length, hx0])]; simp [Lib.byteCells_length, hx0]
  have HB0 := Lib.hid hb0; have HQ0 := Lib.hid hq0; have H0 := Lib.hid h0; have HW := Lib.hid hW; have HT := Lib.hid hxt
  have HOK := Lib.hid ok
  have HX := Lib.hid hx0
  have hxs : x.cells.length = 33 := by simp [En.cells, Lib.byteCells_length, hx0]
  clear hb0 hq0 h0 h ok hxt hx0
  obtain ⟨R, hR⟩ : ∃ R, R = addB (plainB Z) S.data.toList x := ⟨_, rfl⟩
  have ER := Lib.hid hR
  rw [← hR]
  clear hR
  unfold ptr enV at *
  unfold Nm.chkN at C
  obtain ⟨⟨lv, er⟩, hlv⟩ : ∃ p, p = logV Z S.data.toList := ⟨_, rfl⟩
  have HLV := Lib.hid hlv
  rw [← hlv] at K
  dsimp only at K
  obtain ⟨t, ht0⟩ : ∃ t, t = x.t := ⟨_, rfl⟩
  have HT0 := Lib.hid ht0
  rw [← ht0] at HT
  obtain ⟨cs, hxc⟩ : ∃ cs, cs = x.cells := ⟨_, rfl⟩
  have HXC := Lib.hid hxc
  rw [← hxc] at HT HQ0 HW hW hxs ⊢
  have HSZ : Hid ((Tryz.prog.info? 84).map (·.size) = some cs.length) := Lib.hid (by rw [hxs]; kernel_rfl)
  have HXS := Lib.hid hxs
  clear hxs
  clear ht0 hxc hlv
  go_enter Tryz.func38, Tryz.ntmps38
  go_wp2_with fail
  rw [← HW.out]
  refine K.out.mono ?_
  rintro e w1 ⟨rfl, rfl⟩
  clear K hW
  cases hc : Nm.chk S.data.toList with
  | false =>
    rw [hc] at C
    have ER2 : Hid (R = (10, plainB Z)) := Lib.hid (by rw [ER.out, addB, if_pos hc])
    clear hc
    go_wp2_with fail
    refine (C.out _).mono ?_
    rintro e w2 ⟨rfl, hb2⟩
    have HB2 := Lib.hid hb2
    clear hb2 C
    go_wp2
    go_ret
    rw [ER2.out]
    exact ⟨Z, rfl, H0.out.below HB2.out, rfl, HBW.out.trans (HB2.out.mono (below_le HBW.out HBs.out))⟩
  | true =>
    rw [hc] at C
    have HC := Lib.hid hc
    clear hc
    by_cases ht : t < 0 ∨ 1099511627776 < t
    · have ER2 : Hid (R = (1, plainB Z)) := Lib.hid (by rw [ER.out, addB, if_neg (by simp [HC.out]), ← HT0.out, if_pos ht])
      go_wp2_with fail
      refine (C.out _).mono ?_
      rintro e w2 ⟨rfl, hb2⟩
      have hq2 := (hb2.block _ (lt_of_heap HQ0.out)).trans HQ0.out
      have hc2 : w2.cell? ⟨w.heap.size, 32, none⟩ = some (.int .i64 t) := (cell_of_heap hq2).trans HT.out
      have HB2 := Lib.hid hb2
      clear hb2 C hq2
      rcases ht with ht | ht
      · have d1 : decide (t < 0) = true := by simpa using ht
        go_wp2
        go_quiet (fail)
        go_wp2
        go_ret
        rw [ER2.out]
        exact ⟨Z, rfl, (H0.out.below HB2.out).drewN _, rfl, below_drewN' (HBW.out.trans (HB2.out.mono (below_le HBW.out HBs.out))) _⟩
      · have d1 : decide (t < 0) = false := by simp; omega
        go_wp2
        go_quiet (fail)
        go_wp2
        go_ret
        rw [ER2.out]
        exact ⟨Z, rfl, (H0.out.below HB2.out).drewN _, rfl, below_drewN' (HBW.out.trans (HB2.out.mono (below_le HBW.out HBs.out))) _⟩
    · have d1 : decide (t < 0) = false := by simp; omega
      have d2 : decide (1099511627776 < t) = false := by simp; omega
      have HTR := Lib.hid ht
      clear ht
      cases hg : getM Z S.data.toList with
      | none =>
        obtain ⟨rfl, rfl⟩ : lv = .slice none 0 0 ∧ er = 6 := by
          have := HLV.out
          rw [logV, hg] at this
          exact ⟨congrArg Prod.fst this, congrArg Prod.snd this⟩
        by_cases hz : 64 ≤ Z.length
        · have ER2 : Hid (R = (3, plainB Z)) := Lib.hid (by rw [ER.out, addB, if_neg (by simp [HC.out]), ← HT0.out, if_neg HTR.out, plain_get, hg, plain_length]; exact if_pos hz)
          clear hg
          go_wp2_with fail
          refine (C.out _).mono ?_
          rintro e w2 ⟨rfl, hb2⟩
          have hq2 := (hb2.block _ (lt_of_heap HQ0.out)).trans HQ0.out
          have hc2 : w2.cell? ⟨w.heap.size, 32, none⟩ = some (.int .i64 t) := (cell_of_heap hq2).trans HT.out
          have h2 := H0.out.below hb2
          have c0 : w2.cell? ⟨g, 0, none⟩ = some (.map (some b)) := cell_of_heap h2.book
          have hlen := fun n => (h2.drewN n).map.len Tryz.underlying107
          simp only [toD_size] at hlen
          have HB2 := Lib.hid hb2; have H2 := Lib.hid h2; have HQL := Lib.hid (lt_of_heap hq2)
          have r2 : w2.rangeAt w.heap.size 0 cs := fun j u hj => by rw [Nat.zero_add, cell_of_heap hq2, List.getElem?_toArray]; exact hj
          have hz2 : (64 : Int) ≤ (Z.length : Int) := by omega
          clear hb2 C hq2 h2
          go_wp2
          go_quiet (fail)
          go_wp2
          go_ret
          rw [ER2.out]
          exact ⟨Z, rfl, H2.out.drewN _, rfl, below_drewN' (HBW.out.trans (HB2.out.mono (below_le HBW.out HBs.out))) _⟩
        · have ER2 : Hid (R = (0, putM (plainB Z) S.data.toList [x])) := Lib.hid (by rw [ER.out, addB, if_neg (by simp [HC.out]), ← HT0.out, if_neg HTR.out, plain_get, hg, plain_length]; exact if_neg hz)
          clear hg
          go_wp2_with fail
          refine (C.out _).mono ?_
          rintro e w2 ⟨rfl, hb2⟩
          have hq2 := (hb2.block _ (lt_of_heap HQ0.out)).trans HQ0.out
          have hc2 : w2.cell? ⟨w.heap.size, 32, none⟩ = some (.int .i64 t) := (cell_of_heap hq2).trans HT.out
          have h2 := H0.out.below hb2
          have c0 : w2.cell? ⟨g, 0, none⟩ = some (.map (some b)) := cell_of_heap h2.book
          have hlen := fun n => (h2.drewN n).map.len Tryz.underlying107
          simp only [toD_size] at hlen
          have HB2 := Lib.hid hb2; have H2 := Lib.hid h2; have HQL := Lib.hid (lt_of_heap hq2)
          have r2 : w2.rangeAt w.heap.size 0 cs := fun j u hj => by rw [Nat.zero_add, cell_of_heap hq2, List.getElem?_toArray]; exact hj
          have hz2 : ¬ (64 : Int) ≤ (Z.length : Int) := by omega
          clear hb2 C hq2 h2
          go_wp2
          go_quiet (fail)
          have H3 := Lib.hid (H2.out.drewN nq)
          have c03 : (w2.drewN nq).cell? ⟨g, 0, none⟩ = some (.map (some b)) := c0
          have r3 : (w2.drewN nq).rangeAt w.heap.size 0 cs := r2
          have hlen3 : ∀ ty, (Builtin.len_ #[107] ty #[.map (some b)]).run Tryz.prog (w2.drewN nq) = .ok (.int .i64 (Z.length : Int)) (w2.drewN nq) := hlen nq
          have HB3 := Lib.hid (below_drewN' (HBW.out.trans (HB2.out.mono (below_le HBW.out HBs.out))) nq)
          have hq3 : w.heap.size < (w2.drewN nq).heap.size := HQL.out
          clear hlen c0 hc2 H2 HB2 r2 
          generalize w2.drewN nq = w3 at H3 c03 r3 hlen3 HB3 hq3 ⊢
          go_wp2
          obtain ⟨i0, hi, hz0, hz1, hz2⟩ := info_parts infoEn
          have A := Lib.hid (add_ready (k := S.data.toList) H3.out cs HXS.out HXC.out (.slice none 0 0) [] (.inl ⟨rfl, rfl⟩))
          have HAR : Hid (((w3.alloc (.cells cs.toArray 84)).drew).ownsRow B 84 33 (.slice none 0 0) 0 (cellsL [])) := Lib.hid (A.out.1)
          have HWB : Hid (Below w3.heap.size w3 ((w3.alloc (.cells cs.toArray 84)).drew)) := Lib.hid ((Below.refl _ _).alloc (Nat.le_refl _) _).drew
          have SA : Hid (((w3.alloc (.cells cs.toArray 84)).drew).cell? ⟨g, 0, none⟩ = some (.map (some b)) ∧ ((w3.alloc (.cells cs.toArray 84)).drew).rangeAt w.heap.size 0 cs) := Lib.hid ⟨by
            exact (World.cell?_of_block (a := ⟨g, 0, none⟩) (Below.heap_alloc w3 _ g H3.out.lt_g)).trans c03, World.rangeAt_alloc r3 _⟩
          have hu := Tryz.underlying84
          have hi33 := HSZ.out
          refine wp_region_held_drew (S := (fun w' : World => w'.cell? ⟨g, 0, none⟩ = some (.map (some b)) ∧ w'.rangeAt w.heap.size 0 cs)) (by kernel_rfl) ⟨c03, r3⟩ (fun hHeld => ?_)
          refine wpAnyH_take (i := 0) (v := ?_) rfl (by kernel_rfl) (by kernel_rfl) (by kernel_rfl) (fun _ _ _ h => h) (Or.inl ⟨by rfl, ?hy0a⟩) hHeld ?_
          case hy0a =>
            intro w hSw
            try dsimp only at hSw
            go_simp
            try with_reducible rfl
          try simp only [Act.put, List.setIfInBounds_toArray, List.set_cons_zero, List.set_cons_succ]
          refine wpAnyH_take (i := 1) (v := ?_) rfl (by kernel_rfl) (by kernel_rfl) (by kernel_rfl) (fun _ _ _ h => h) (Or.inl ⟨by rfl, ?hy1a⟩) hHeld ?_
          case hy1a =>
            intro w hSw
            try dsimp only at hSw
            go_simp
            try with_reducible rfl
          try simp only [Act.put, List.setIfInBounds_toArray, List.set_cons_zero, List.set_cons_succ]
          refine wpAnyH_take (i := 2) (v := ?_) rfl (by kernel_rfl) (by kernel_rfl) (by kernel_rfl) (fun _ _ _ h => h) (Or.inl ⟨by rfl, ?hy2a⟩) hHeld ?_
          case hy2a =>
            intro w hSw
            try dsimp only at hSw
            go_simp
            try with_reducible rfl
          try simp only [Act.put, List.setIfInBounds_toArray, List.set_cons_zero, List.set_cons_succ]
          refine wpAnyH_take (i := 3) (v := ?_) rfl (by kernel_rfl) (by kernel_rfl) (by kernel_rfl) (fun _ _ _ h => h) (Or.inl ⟨by rfl, ?hy3a⟩) hHeld ?_
          case hy3a =>
            intro w hSw
            try dsimp only at hSw
            go_simp
            try with_reducible rfl
          try simp only [Act.put, List.setIfInBounds_toArray, List.set_cons_zero, List.set_cons_succ]
          refine wpAnyH_take (i := 4) (v := ?_) rfl (by kernel_rfl) (by kernel_rfl) (by kernel_rfl) (fun _ _ _ h => h) (Or.inl ⟨by rfl, ?hy4a⟩) hHeld ?_
          case hy4a =>
            intro w hSw
            try dsimp only at hSw
            go_simp
            try with_reducible rfl
          try simp only [Act.put, List.setIfInBounds_toArray, List.set_cons_zero, List.set_cons_succ]
          refine wpAnyH_take (i := 5) (v := ?_) rfl (by kernel_rfl) (by kernel_rfl) (by kernel_rfl) (fun _ _ _ h => h) (Or.inl ⟨by rfl, ?hy5a⟩) hHeld ?_
          case hy5a =>
            intro w hSw
            try dsimp only at hSw
            go_simp
            try with_reducible rfl
          try simp only [Act.put, List.setIfInBounds_toArray, List.set_cons_zero, List.set_cons_succ]
          refine' wpAnyH_take (i := 6) (v := _) rfl (by kernel_rfl) (by kernel_rfl) (by kernel_rfl) (fun _ _ _ h => h) (yieldsIf_load_mid (by rfl) _ _ rfl _ _ rfl cs _ ?hSa ?hua ?hda ?hia) hHeld ?resta
          case hSa => intro w hw; exact hw.2
          case hua => exact hu
          case hda => rfl
          case hia => exact hi33
          try simp only [Act.put, List.setIfInBounds_toArray, List.set_cons_zero, List.set_cons_succ]
          refine wpAnyH_ready (rs := [7]) (by kernel_rfl) (by simp) ?_
          refine AllReadyH.cons rfl (fun K hK => ?_) AllReadyH.nil
          refine step_buildOne rfl 96 (.tmp 69) (.agg cs.toArray) _ rfl (by simp [Act.eval]) (run_buildOne w3.drew 96 84 i0 _ cs Tryz.underlying96 hi hz0 hz1 HXS.out) ?_
          refine hK.out _ _ SA.out (fun hHeld2 => ?_)
          clear hK K hHeld
          try simp only [Act.put, List.setIfInBounds_toArray, List.set_cons_zero, List.set_cons_succ]
          refine wpAnyH_ready (rs := [8]) (by kernel_rfl) (by simp) ?_
          refine AllReadyH.cons rfl (fun K hK => ?_) AllReadyH.nil
          refine step_append_lies _ rfl (.tmp 68) (.tmp 70) 96 rfl B 84 i0 _ 33 40 Tryz.underlying96 hi hz0 hz1 hz2 rfl (by decide) (.slice none 0 0) 0 (cellsL []) (by simp [Act.eval]) HAR.out ⟨w3.heap.size, 0, none⟩ 1 1 cs (by simp [Act.eval]) A.out.2.1 A.out.2.2.1 A.out.2.2.2.1 (by decide) (by unfold maxLen; omega) (by omega) A.out.2.2.2.2.1 (w3.heap.size + 1) A.out.2.2.2.2.2 ?_
          intro g8 cap8 w8 hown8 hgrow8 hat8 hlt8
          obtain ⟨m8, c8, r8'⟩ := add_map (k := S.data.toList) (l := []) H3.out HWB.out hgrow8 (.inl rfl)
          have r8 := r8' w.heap.size cs hq3 (by intro y hy; simp [Value.ownBlock] at hy) r3
          obtain ⟨w9, hrun9, hown9, hturn9⟩ := m8.store law Tryz.underlying107 (by decide) (val := .slice (some ⟨g8, 0, none⟩) (0 + 1) cap8) (keyK S hS) rfl
          have c9 := s_turned HLG.out HLB.out H3.out.gb (Nat.le_trans (Nat.le_of_lt hq3) (Nat.le_trans HWB.out.size hgrow8.size)) hturn9 c8 r8
          refine hK.out _ _ ⟨c8, r8⟩ (fun hHeld3 => ?_)
          clear hK K hHeld2
          try simp only [Act.put, List.setIfInBounds_toArray, List.set_cons_zero, List.set_cons_succ]
          refine wpAnyH_ready (rs := [9]) (by kernel_rfl) (by simp) ?_
          refine AllReadyH.cons rfl (fun K hK => ?_) AllReadyH.nil
          go_simp
          refine hK.out _ _ c9 (fun hHeld4 => ?_)
          clear hK K hHeld3
          refine wpAnyH_done (by kernel_rfl) ?_ _
          have HO8 := Lib.hid hown8; have HG8 := Lib.hid hgrow8; have HA8 := Lib.hid hat8; have HO9 := Lib.hid hown9; have HT9 := Lib.hid hturn9
          clear hown8 hgrow8 hat8 hlt8 hown9 hturn9 m8 c8 r8 r8' hrun9 hHeld4 SA c9
          go_wp2
          go_ret
          rw [ER2.out]
          obtain ⟨P1, P2⟩ := put_end (k := S.data.toList) (v := .slice none 0 0) (l := []) (x := x) H3.out HWB.out (.inl rfl) (by rw [← HXC.out]; exact HO8.out) HG8.out (HA8.out.imp (fun e => e.symm) (fun e => by rw [A.out.2.2.2.2.2, ← e]; rfl)) HO9.out (by rw [← plain_length]; exact HOK.out.size) HT9.out
          exact ⟨_, rfl, P1, plain_put _ _ _ _, HB3.out.trans P2⟩
      | some p =>
        obtain ⟨pv, pl⟩ := p
        obtain ⟨rfl, rfl⟩ : lv = pv ∧ er = 0 := by
          have := HLV.out
          rw [logV, hg] at this
          exact ⟨congrArg Prod.fst this, congrArg Prod.snd this⟩
        obtain ⟨_, ok1, ok2, ok3⟩ := HOK.out.row hg
        have hrow := H0.out.row hg
        have HIN := Lib.hid (getM_mem hg)
        dsimp only at ok1 ok2 ok3 hrow
        obtain ⟨pl', el, rfl⟩ : ∃ pl' el, pl = pl' ++ [el] := ⟨_, _, (List.dropLast_concat_getLast ok1).symm⟩
        obtain ⟨m, hm⟩ : ∃ m, m = pl'.length := ⟨_, rfl⟩
        have hln : (pl' ++ [el]).length = m + 1 := by simp [hm]
        have hcl : (cellsL pl').length = 33 * m := by rw [hm]; exact cellsL_length (fun e he => (ok3 e (by simp [he])).1)
        have hel := (ok3 el (by simp)).1
        obtain ⟨gb, cap, rfl, hgb, _, hcell⟩ := rowS_form hrow (by omega)
        have hlc := hcell (m * 33 + 32) (.int .i64 el.t) (by
          rw [cellsL, List.flatMap_append, ← cellsL, List.getElem?_append_right (by omega), hcl]
          have e : m * 33 + 32 - 33 * m = 32 := by omega
          rw [e]
          simp [En.cells, Lib.byteCells_length, hel])
        have hob := HLT0.out _ HIN.out
        rw [hln] at hob ok2 hrow
        have HLN := Lib.hid hln
        rw [hln] at HIN
        obtain ⟨tl, htl⟩ : ∃ tl, tl = el.t := ⟨_, rfl⟩
        have HTL := Lib.hid htl
        rw [← htl] at hlc
        have HHG := Lib.hid hg
        clear hg hrow hcell ok1 ok3 hcl hel htl hm HLV hln
        have hok2 : m + 1 ≤ 4096 := ok2
        clear ok2
        rw [HLN.out]
        by_cases hl : t < tl
        · have ER2 : Hid (R = (1, plainB Z)) := Lib.hid (by
            rw [ER.out, addB, if_neg (by simp [HC.out]), ← HT0.out, if_neg HTR.out, plain_get, HHG.out]
            have e : ((pl' ++ [el]).getLast?.getD x).t = tl := by rw [HTL.out]; simp
            show (if t < ((pl' ++ [el]).getLast?.getD x).t then _ else _) = _
            rw [e, if_pos hl])
          go_wp2_with fail
          refine (C.out _).mono ?_
          rintro e w2 ⟨rfl, hb2⟩
          have hq2 := (hb2.block _ (lt_of_heap HQ0.out)).trans HQ0.out
          have hc2 : w2.cell? ⟨w.heap.size, 32, none⟩ = some (.int .i64 t) := (cell_of_heap hq2).trans HT.out
          have h2 := H0.out.below hb2
          have c0 : w2.cell? ⟨g, 0, none⟩ = some (.map (some b)) := cell_of_heap h2.book
          have hlen := fun n => (h2.drewN n).map.len Tryz.underlying107
          simp only [toD_size] at hlen
          have HB2 := Lib.hid hb2; have H2 := Lib.hid h2; have HQL := Lib.hid (lt_of_heap hq2)
          have r2 : w2.rangeAt w.heap.size 0 cs := fun j u hj => by rw [Nat.zero_add, cell_of_heap hq2, List.getElem?_toArray]; exact hj
          have hlc2 : w2.cell? ⟨gb, m * 33 + 32, none⟩ = some (.int .i64 tl) := (World.cell?_of_block (a := ⟨gb, m * 33 + 32, none⟩) (hb2.block _ hgb)).trans hlc
          have d3 : decide (t < tl) = true := by simpa using hl
          clear hb2 C hq2 h2
          go_wp2
          go_quiet (fail)
          go_wp2
          go_ret
          rw [ER2.out]
          exact ⟨Z, rfl, H2.out.drewN _, rfl, below_drewN' (HBW.out.trans (HB2.out.mono (below_le HBW.out HBs.out))) _⟩
        · by_cases hf : 4096 ≤ m + 1
          · have ER2 : Hid (R = (3, plainB Z)) := Lib.hid (by
              rw [ER.out, addB, if_neg (by simp [HC.out]), ← HT0.out, if_neg HTR.out, plain_get, HHG.out]
              have e : ((pl' ++ [el]).getLast?.getD x).t = tl := by rw [HTL.out]; simp
              show (if t < ((pl' ++ [el]).getLast?.getD x).t then _ else if 4096 ≤ (pl' ++ [el]).length then _ else _) = _
              rw [e, if_neg hl, HLN.out, if_pos hf])
            go_wp2_with fail
            refine (C.out _).mono ?_
            rintro e w2 ⟨rfl, hb2⟩
            have hq2 := (hb2.block _ (lt_of_heap HQ0.out)).trans HQ0.out
            have hc2 : w2.cell? ⟨w.heap.size, 32, none⟩ = some (.int .i64 t) := (cell_of_heap hq2).trans HT.out
            have h2 := H0.out.below hb2
            have c0 : w2.cell? ⟨g, 0, none⟩ = some (.map (some b)) := cell_of_heap h2.book
            have hlen := fun n => (h2.drewN n).map.len Tryz.underlying107
            simp only [toD_size] at hlen
            have HB2 := Lib.hid hb2; have H2 := Lib.hid h2; have HQL := Lib.hid (lt_of_heap hq2)
            have r2 : w2.rangeAt w.heap.size 0 cs := fun j u hj => by rw [Nat.zero_add, cell_of_heap hq2, List.getElem?_toArray]; exact hj
            have hlc2 : w2.cell? ⟨gb, m * 33 + 32, none⟩ = some (.int .i64 tl) := (World.cell?_of_block (a := ⟨gb, m * 33 + 32, none⟩) (hb2.block _ hgb)).trans hlc
            have d3 : decide (t < tl) = false := by simpa using hl
            have hf2 : (4096 : Int) ≤ (m : Int) + 1 := by omega
            clear hb2 C hq2 h2
            go_wp2
            go_quiet (fail)
            go_wp2
            go_ret
            rw [ER2.out]
            exact ⟨Z, rfl, H2.out.drewN _, rfl, below_drewN' (HBW.out.trans (HB2.out.mono (below_le HBW.out HBs.out))) _⟩
          · have ER2 : Hid (R = (0, putM (plainB Z) S.data.toList (pl' ++ [el] ++ [x]))) := Lib.hid (by
              rw [ER.out, addB, if_neg (by simp [HC.out]), ← HT0.out, if_neg HTR.out, plain_get, HHG.out]
              have e : ((pl' ++ [el]).getLast?.getD x).t = tl := by rw [HTL.out]; simp
              show (if t < ((pl' ++ [el]).getLast?.getD x).t then _ else if 4096 ≤ (pl' ++ [el]).length then _ else _) = _
              rw [e, if_neg hl, HLN.out, if_neg hf])
            go_wp2_with fail
            refine (C.out _).mono ?_
            rintro e w2 ⟨rfl, hb2⟩
            have hq2 := (hb2.block _ (lt_of_heap HQ0.out)).trans HQ0.out
            have hc2 : w2.cell? ⟨w.heap.size, 32, none⟩ = some (.int .i64 t) := (cell_of_heap hq2).trans HT.out
            have h2 := H0.out.below hb2
            have c0 : w2.cell? ⟨g, 0, none⟩ = some (.map (some b)) := cell_of_heap h2.book
            have hlen := fun n => (h2.drewN n).map.len Tryz.underlying107
            simp only [toD_size] at hlen
            have HB2 := Lib.hid hb2; have H2 := Lib.hid h2; have HQL := Lib.hid (lt_of_heap hq2)
            have r2 : w2.rangeAt w.heap.size 0 cs := fun j u hj => by rw [Nat.zero_add, cell_of_heap hq2, List.getElem?_toArray]; exact hj
            have hlc2 : w2.cell? ⟨gb, m * 33 + 32, none⟩ = some (.int .i64 tl) := (World.cell?_of_block (a := ⟨gb, m * 33 + 32, none⟩) (hb2.block _ hgb)).trans hlc
            have d3 : decide (t < tl) = false := by simpa using hl
            have hf2 : ¬ (4096 : Int) ≤ (m : Int) + 1 := by omega
            clear hb2 C hq2 h2
            go_wp2
            go_quiet (fail)
            have H3 := Lib.hid (H2.out.drewN nq)
            have c03 : (w2.drewN nq).cell? ⟨g, 0, none⟩ = some (.map (some b)) := c0
            have r3 : (w2.drewN nq).rangeAt w.heap.size 0 cs := r2
            have hlen3 : ∀ ty, (Builtin.len_ #[107] ty #[.map (some b)]).run Tryz.prog (w2.drewN nq) = .ok (.int .i64 (Z.length : Int)) (w2.drewN nq) := hlen nq
            have HB3 := Lib.hid (below_drewN' (HBW.out.trans (HB2.out.mono (below_le HBW.out HBs.out))) nq)
            have hq3 : w.heap.size < (w2.drewN nq).heap.size := HQL.out
            clear hlen c0 hc2 H2 HB2 r2 hlc2
            generalize w2.drewN nq = w3 at H3 c03 r3 hlen3 HB3 hq3 ⊢
            go_wp2
            obtain ⟨i0, hi, hz0, hz1, hz2⟩ := info_parts infoEn
            have A := Lib.hid (add_ready (k := S.data.toList) H3.out cs HXS.out HXC.out (.slice (some ⟨gb, 0, none⟩) (m + 1) cap) (pl' ++ [el]) (.inr HIN.out))
            have HAR : Hid (((w3.alloc (.cells cs.toArray 84)).drew).ownsRow B 84 33 (.slice (some ⟨gb, 0, none⟩) (m + 1) cap) (m + 1) (cellsL (pl' ++ [el]))) := Lib.hid (by have := A.out.1; rwa [HLN.out] at this)
            have HWB : Hid (Below w3.heap.size w3 ((w3.alloc (.cells cs.toArray 84)).drew)) := Lib.hid ((Below.refl _ _).alloc (Nat.le_refl _) _).drew
            have SA : Hid (((w3.alloc (.cells cs.toArray 84)).drew).cell? ⟨g, 0, none⟩ = some (.map (some b)) ∧ ((w3.alloc (.cells cs.toArray 84)).drew).rangeAt w.heap.size 0 cs) := Lib.hid ⟨by
              exact (World.cell?_of_block (a := ⟨g, 0, none⟩) (Below.heap_alloc w3 _ g H3.out.lt_g)).trans c03, World.rangeAt_alloc r3 _⟩
            have hu := Tryz.underlying84
            have hi33 := HSZ.out
            refine wp_region_held_drew (S := (fun w' : World => w'.cell? ⟨g, 0, none⟩ = some (.map (some b)) ∧ w'.rangeAt w.heap.size 0 cs)) (by kernel_rfl) ⟨c03, r3⟩ (fun hHeld => ?_)
            refine wpAnyH_take (i := 0) (v := ?_) rfl (by kernel_rfl) (by kernel_rfl) (by kernel_rfl) (fun _ _ _ h => h) (Or.inl ⟨by rfl, ?hy0b⟩) hHeld ?_
            case hy0b =>
              intro w hSw
              try dsimp only at hSw
              go_simp
              try with_reducible rfl
            try simp only [Act.put, List.setIfInBounds_toArray, List.set_cons_zero, List.set_cons_succ]
            refine wpAnyH_take (i := 1) (v := ?_) rfl (by kernel_rfl) (by kernel_rfl) (by kernel_rfl) (fun _ _ _ h => h) (Or.inl ⟨by rfl, ?hy1b⟩) hHeld ?_
            case hy1b =>
              intro w hSw
              try dsimp only at hSw
              go_simp
              try with_reducible rfl
            try simp only [Act.put, List.setIfInBounds_toArray, List.set_cons_zero, List.set_cons_succ]
            refine wpAnyH_take (i := 2) (v := ?_) rfl (by kernel_rfl) (by kernel_rfl) (by kernel_rfl) (fun _ _ _ h => h) (Or.inl ⟨by rfl, ?hy2b⟩) hHeld ?_
            case hy2b =>
              intro w hSw
              try dsimp only at hSw
              go_simp
              try with_reducible rfl
            try simp only [Act.put, List.setIfInBounds_toArray, List.set_cons_zero, List.set_cons_succ]
            refine wpAnyH_take (i := 3) (v := ?_) rfl (by kernel_rfl) (by kernel_rfl) (by kernel_rfl) (fun _ _ _ h => h) (Or.inl ⟨by rfl, ?hy3b⟩) hHeld ?_
            case hy3b =>
              intro w hSw
              try dsimp only at hSw
              go_simp
              try with_reducible rfl
            try simp only [Act.put, List.setIfInBounds_toArray, List.set_cons_zero, List.set_cons_succ]
            refine wpAnyH_take (i := 4) (v := ?_) rfl (by kernel_rfl) (by kernel_rfl) (by kernel_rfl) (fun _ _ _ h => h) (Or.inl ⟨by rfl, ?hy4b⟩) hHeld ?_
            case hy4b =>
              intro w hSw
              try dsimp only at hSw
              go_simp
              try with_reducible rfl
            try simp only [Act.put, List.setIfInBounds_toArray, List.set_cons_zero, List.set_cons_succ]
            refine wpAnyH_take (i := 5) (v := ?_) rfl (by kernel_rfl) (by kernel_rfl) (by kernel_rfl) (fun _ _ _ h => h) (Or.inl ⟨by rfl, ?hy5b⟩) hHeld ?_
            case hy5b =>
              intro w hSw
              try dsimp only at hSw
              go_simp
              try with_reducible rfl
            try simp only [Act.put, List.setIfInBounds_toArray, List.set_cons_zero, List.set_cons_succ]
            refine' wpAnyH_take (i := 6) (v := _) rfl (by kernel_rfl) (by kernel_rfl) (by kernel_rfl) (fun _ _ _ h => h) (yieldsIf_load_mid (by rfl) _ _ rfl _ _ rfl cs _ ?hSb ?hub ?hdb ?hib) hHeld ?restb
            case hSb => intro w hw; exact hw.2
            case hub => exact hu
            case hdb => rfl
            case hib => exact hi33
            try simp only [Act.put, List.setIfInBounds_toArray, List.set_cons_zero, List.set_cons_succ]
            refine wpAnyH_ready (rs := [7]) (by kernel_rfl) (by simp) ?_
            refine AllReadyH.cons rfl (fun K hK => ?_) AllReadyH.nil
            refine step_buildOne rfl 96 (.tmp 69) (.agg cs.toArray) _ rfl (by simp [Act.eval]) (run_buildOne w3.drew 96 84 i0 _ cs Tryz.underlying96 hi hz0 hz1 HXS.out) ?_
            refine hK.out _ _ SA.out (fun hHeld2 => ?_)
            clear hK K hHeld
            try simp only [Act.put, List.setIfInBounds_toArray, List.set_cons_zero, List.set_cons_succ]
            refine wpAnyH_ready (rs := [8]) (by kernel_rfl) (by simp) ?_
            refine AllReadyH.cons rfl (fun K hK => ?_) AllReadyH.nil
            refine step_append_lies _ rfl (.tmp 68) (.tmp 70) 96 rfl B 84 i0 _ 33 40 Tryz.underlying96 hi hz0 hz1 hz2 rfl (by decide) (.slice (some ⟨gb, 0, none⟩) (m + 1) cap) (m + 1) (cellsL (pl' ++ [el])) (by simp [Act.eval]) HAR.out ⟨w3.heap.size, 0, none⟩ 1 1 cs (by simp [Act.eval]) A.out.2.1 A.out.2.2.1 A.out.2.2.2.1 (by decide) (by unfold maxLen; omega) (by omega) A.out.2.2.2.2.1 (w3.heap.size + 1) A.out.2.2.2.2.2 ?_
            intro g8 cap8 w8 hown8 hgrow8 hat8 hlt8
            obtain ⟨m8, c8, r8'⟩ := add_map (k := S.data.toList) (l := (pl' ++ [el])) H3.out HWB.out hgrow8 (.inr HIN.out)
            have r8 := r8' w.heap.size cs hq3 (by intro y hy; have := hob y (by simp [ob, hy]); omega) r3
            obtain ⟨w9, hrun9, hown9, hturn9⟩ := m8.store law Tryz.underlying107 (by decide) (val := .slice (some ⟨g8, 0, none⟩) ((m + 1) + 1) cap8) (keyK S hS) rfl
            have c9 := s_turned HLG.out HLB.out H3.out.gb (Nat.le_trans (Nat.le_of_lt hq3) (Nat.le_trans HWB.out.size hgrow8.size)) hturn9 c8 r8
            refine hK.out _ _ ⟨c8, r8⟩ (fun hHeld3 => ?_)
            clear hK K hHeld2
            try simp only [Act.put, List.setIfInBounds_toArray, List.set_cons_zero, List.set_cons_succ]
            refine wpAnyH_ready (rs := [9]) (by kernel_rfl) (by simp) ?_
            refine AllReadyH.cons rfl (fun K hK => ?_) AllReadyH.nil
            go_simp
            refine hK.out _ _ c9 (fun hHeld4 => ?_)
            clear hK K hHeld3
            refine wpAnyH_done (by kernel_rfl) ?_ _
            have HO8 := Lib.hid hown8; have HG8 := Lib.hid hgrow8; have HA8 := Lib.hid hat8; have HO9 := Lib.hid hown9; have HT9 := Lib.hid hturn9
            clear hown8 hgrow8 hat8 hlt8 hown9 hturn9 m8 c8 r8 r8' hrun9 hHeld4 SA c9
            go_wp2
            go_ret
            rw [ER2.out]
            obtain ⟨P1, P2⟩ := put_end (k := S.data.toList) (v := .slice (some ⟨gb, 0, none⟩) (m + 1) cap) (l := (pl' ++ [el])) (x := x) H3.out HWB.out (.inr HIN.out) (by rw [← HXC.out, HLN.out]; exact HO8.out) HG8.out (HA8.out.imp (fun e => e.symm) (fun e => by rw [A.out.2.2.2.2.2, ← e]; rfl)) HO9.out (by rw [← plain_length]; exact HOK.out.size) HT9.out
            exact ⟨_, rfl, P1, plain_put _ _ _ _, HB3.out.trans P2⟩
end Go.Proofs.YtkeegnhjemhblaaGreatDoor.Rf
