import Derived.Test.YtkeegnhjemhblaaGreatDoorProg
import Derived.WalkKit
import Derived.Test.YtkeegnhjemhblaaGreatDoorZPRbPair
import Derived.Test.YtkeegnhjemhblaaGreatDoorZPRbIds
import Derived.Test.YtkeegnhjemhblaaGreatDoorZPRfDec1
set_option linter.unusedSimpArgs false
set_option linter.unusedVariables false
/-
  Regions and blocks, taken out of a code.
-/
namespace Go.Proofs.YtkeegnhjemhblaaGreatDoor.Sr
def findR (n : Nat) : Code → Option Code
  | .region id ops d => if id = n then some (.region id ops d) else none
  | .seq a b => match findR n a with
    | some c => some c
    | none => findR n b
  | .block _ c => findR n c
  | .cond _ a b => match findR n a with
    | some c => some c
    | none => findR n b
  | .loop c => findR n c
  | _ => none
def findB (n : Nat) : Code → Option Code
  | .seq a b => match findB n a with
    | some c => some c
    | none => findB n b
  | .block k c => if k == n then some (.block k c) else findB n c
  | .cond _ a b => match findB n a with
    | some c => some c
    | none => findB n b
  | .loop c => findB n c
  | _ => none
end Go.Proofs.YtkeegnhjemhblaaGreatDoor.Sr
/-
  The program's Decode at any bytes: where it stands; its closure.
-/
set_option linter.unusedSimpArgs false
namespace Go.Proofs.YtkeegnhjemhblaaGreatDoor.Rb
open Go.RowKit Go.Maps Go.WideMaps Go.Proofs.YtkeegnhjemhblaaGreatDoor.Rf

noncomputable def deB (n : Nat) : Code := (Tryz.f7.body.bind (Sr.findB n)).getD .skip
/-- Where Decode stands: the reader, its two variables, the book so far. -/
structure DcSt (w : World) (q gt bt : Nat) (W : World) (ok : Bool) (L : List UInt8) (Z : BM) (K : BK) : Prop where
  rd : Rd.ReaderAt W q L
  rv : W.heap[q + 1]? = some (.cells #[ptr q] 71)
  ov : W.heap[q + 2]? = some (.cells #[.bool ok] 4)
  bk : BookAt noSp (q + 3) W gt bt Z
  be : Below w.heap.size w W
  le : w.heap.size ≤ q
  pl : plainB Z = K
  kk : OkB K
  len : L.length ≤ 140737488355328
theorem DcSt.read {w W W' : World} {q gt bt : Nat} {ok : Bool} {L L' : List UInt8} {Z : BM} {K : BK} (h : DcSt w q gt bt W ok L Z K) (hr : Rd.ReaderAt W' q L') (ht : Turn [q] W W') (hl : L'.length ≤ L.length) : DcSt w q gt bt W' ok L' Z K := by
  have l1 := lt_of_heap h.rv; have l2 := lt_of_heap h.ov
  refine ⟨hr, (ht.block _ l1 (by simp)).trans h.rv, (ht.block _ l2 (by simp)).trans h.ov, h.bk.keptP (fun x hx => ht.block x (h.bk.ltP x hx) ?_), h.be.trans (ht.below (by simpa using h.le) h.be.size), h.le, h.pl, h.kk, Nat.le_trans hl h.len⟩
  have := h.bk.geP x hx
  simp; omega
theorem DcSt.okCell {w W : World} {q gt bt : Nat} {ok : Bool} {L : List UInt8} {Z : BM} {K : BK} (h : DcSt w q gt bt W ok L Z K) (ok' : Bool) : DcSt w q gt bt (W.setCell ⟨q + 2, 0, none⟩ (.bool ok')) ok' L Z K := by
  have hk : ∀ x, x ≠ q + 2 → (W.setCell ⟨q + 2, 0, none⟩ (.bool ok')).heap[x]? = W.heap[x]? := fun x hx => Below.heap_setCell _ _ _ _ hx
  refine ⟨(hk _ (by omega)).trans h.rd, (hk _ (by omega)).trans h.rv, by rw [setCell_heap _ _ _ _ _ _ h.ov]; rfl, h.bk.keptP (fun x hx => hk x ?_), h.be.setCell (by have := h.le; show w.heap.size ≤ q + 2; omega) _, h.le, h.pl, h.kk, h.len⟩
  have := h.bk.geP x hx
  omega
theorem DcSt.below {w W W' : World} {q gt bt : Nat} {ok : Bool} {L : List UInt8} {Z : BM} {K : BK} (h : DcSt w q gt bt W ok L Z K) (hb : Below W.heap.size W W') : DcSt w q gt bt W' ok L Z K :=
  ⟨(hb.block _ (lt_of_heap h.rd)).trans h.rd, (hb.block _ (lt_of_heap h.rv)).trans h.rv, (hb.block _ (lt_of_heap h.ov)).trans h.ov, h.bk.below hb, h.be.trans (hb.mono h.be.size), h.le, h.pl, h.kk, h.len⟩
theorem DcSt.add {w W W' : World} {q gt bt : Nat} {ok : Bool} {L : List UInt8} {Z Z' : BM} {K K' : BK} (h : DcSt w q gt bt W ok L Z K) (hk : BookAt noSp (q + 3) W' gt bt Z') (hb : Below (q + 3) W W') (hp : plainB Z' = K') (ok' : OkB K') : DcSt w q gt bt W' ok L Z' K' :=
  ⟨(hb.block _ (by omega)).trans h.rd, (hb.block _ (by omega)).trans h.rv, (hb.block _ (by omega)).trans h.ov, hk, h.be.trans (hb.mono (by have := h.le; omega)), h.le, hp, ok', h.len⟩
/-- What the closure makes of ok. -/
def okN (ok : Bool) (L : List UInt8) (most : Nat) : Bool := ok && (rd0 L).isSome && decide (Rd.shN L ≤ most)
set_option maxHeartbeats 4000000 in
set_option maxRecDepth 100000 in
theorem number_any (w W : World) (q gt bt : Nat) (ok : Bool) (L : List UInt8) (Z : BM) (K : BK) (most : Nat) (hm : most < 18446744073709551616) (h : DcSt w q gt bt W ok L Z K) :
    Calls Tryz.prog 33 #[.int .u64 (most : Int), ptr (q + 1), ptr (q + 2)] W fun e w' => e = .returned (.int .u64 (Rd.shN L : Int)) ∧ DcSt w q gt bt w' (okN ok L most) (Rd.shR L) Z K := by
  have c1 : W.cell? ⟨q + 1, 0, none⟩ = some (ptr q) := cell_of_heap h.rv
  have U := Lib.hid (Rd.uint_any W q L h.len h.rd)
  have H := Lib.hid h
  have HN := Lib.hid (Rd.shN_lt L)
  unfold ptr at *
  go_enter Tryz.func33, Tryz.ntmps33
  go_wp2_with fail
  refine U.out.mono ?_
  rintro e w1 ⟨rfl, hr1, t1⟩
  have h1 := H.out.read hr1 t1 (Rd.shR_le' L)
  have c2 : w1.cell? ⟨q + 2, 0, none⟩ = some (.bool ok) := cell_of_heap h1.ov
  have f2 : w1.frozen? ⟨q + 2, 0, none⟩ = false := frozen_of_heap h1.ov
  have H2 := Lib.hid (h1.okCell (okN ok L most))
  obtain ⟨n, hn⟩ : ∃ n, n = Rd.shN L := ⟨_, rfl⟩
  have HNN := Lib.hid hn
  obtain ⟨ec, hec⟩ : ∃ ec, ec = Rd.shE L := ⟨_, rfl⟩
  have HEC : Hid (ec = if (rd0 L).isSome then 0 else 4) := Lib.hid (by rw [hec, Rd.shE])
  rw [← hn, ← hec]
  clear h1 hr1 t1 hn hec U h
  cases ok with
  | false =>
    have HE2 : Hid (okN false L most = false) := Lib.hid (by rw [okN, Bool.false_and, Bool.false_and])
    rw [HE2.out] at H2
    go_wp2
    go_ret
    rw [HE2.out, HNN.out]
    exact ⟨rfl, H2.out⟩
  | true =>
    cases hs : (rd0 L).isSome with
    | false =>
      have he : ec = 4 := by rw [HEC.out, hs]; rfl
      subst he
      have HE2 : Hid (okN true L most = false) := Lib.hid (by rw [okN, hs, Bool.and_false, Bool.false_and])
      rw [HE2.out] at H2
      clear hs
      go_wp2
      go_ret
      rw [HE2.out, HNN.out]
      exact ⟨rfl, H2.out⟩
    | true =>
      have he : ec = 0 := by rw [HEC.out, hs]; rfl
      subst he
      by_cases hle : n ≤ most
      · have HE2 : Hid (okN true L most = true) := Lib.hid (by rw [okN, hs, ← HNN.out]; simp [hle])
        have hli : (n : Int) ≤ (most : Int) := by omega
        rw [HE2.out] at H2
        clear hs hle
        go_wp2
        go_ret
        rw [HE2.out, HNN.out]
        exact ⟨rfl, H2.out⟩
      · have HE2 : Hid (okN true L most = false) := Lib.hid (by rw [okN, hs, ← HNN.out]; simp [hle])
        have hli : ¬ (n : Int) ≤ (most : Int) := by omega
        have hdd : decide (n ≤ most) = false := by simp [hle]
        rw [HE2.out] at H2
        clear hs hle
        go_wp2
        go_ret
        rw [HE2.out, HNN.out]
        exact ⟨rfl, H2.out⟩
set_option maxRecDepth 100000 in
theorem less_any (w : World) (a b : List UInt8) : Calls Tryz.prog 36 #[.string ⟨a.toArray⟩, .string ⟨b.toArray⟩] w fun e w' => e = .returned (.bool (lt a b)) ∧ w' = w := by
  have hl : Op.bytesLess a b = lt a b := lt_less a b
  generalize lt a b = c at *
  go_enter Tryz.func36, Tryz.ntmps36
  go_wp2
  go_ret
  exact ⟨rfl, rfl⟩
theorem list_cons {l : List UInt8} {n : Nat} (h : l.length = n + 1) : ∃ b r, l = b :: r ∧ r.length = n := by
  cases l with
  | nil => cases h
  | cons b r => exact ⟨b, r, rfl, by simpa using h⟩
theorem build_any (w : World) (x : List UInt8) (hx : x.length = 32) (t : Int) : (Instr.build 84 #[(0, .agg (Lib.byteCells x).toArray), (1, .int .i64 t)]).run Tryz.prog w = .ok (enV ⟨x, t⟩) w := by
  obtain ⟨b0, x0, rfl, h0⟩ := list_cons hx
  obtain ⟨b1, x1, rfl, h1⟩ := list_cons h0
  obtain ⟨b2, x2, rfl, h2⟩ := list_cons h1
  obtain ⟨b3, x3, rfl, h3⟩ := list_cons h2
  obtain ⟨b4, x4, rfl, h4⟩ := list_cons h3
  obtain ⟨b5, x5, rfl, h5⟩ := list_cons h4
  obtain ⟨b6, x6, rfl, h6⟩ := list_cons h5
  obtain ⟨b7, x7, rfl, h7⟩ := list_cons h6
  obtain ⟨b8, x8, rfl, h8⟩ := list_cons h7
  obtain ⟨b9, x9, rfl, h9⟩ := list_cons h8
  obtain ⟨b10, x10, rfl, h10⟩ := list_cons h9
  obtain ⟨b11, x11, rfl, h11⟩ := list_cons h10
  obtain ⟨b12, x12, rfl, h12⟩ := list_cons h11
  obtain ⟨b13, x13, rfl, h13⟩ := list_cons h12
  obtain ⟨b14, x14, rfl, h14⟩ := list_cons h13
  obtain ⟨b15, x15, rfl, h15⟩ := list_cons h14
  obtain ⟨b16, x16, rfl, h16⟩ := list_cons h15
  obtain ⟨b17, x17, rfl, h17⟩ := list_cons h16
  obtain ⟨b18, x18, rfl, h18⟩ := list_cons h17
  obtain ⟨b19, x19, rfl, h19⟩ := list_cons h18
  obtain ⟨b20, x20, rfl, h20⟩ := list_cons h19
  obtain ⟨b21, x21, rfl, h21⟩ := list_cons h20
  obtain ⟨b22, x22, rfl, h22⟩ := list_cons h21
  obtain ⟨b23, x23, rfl, h23⟩ := list_cons h22
  obtain ⟨b24, x24, rfl, h24⟩ := list_cons h23
  obtain ⟨b25, x25, rfl, h25⟩ := list_cons h24
  obtain ⟨b26, x26, rfl, h26⟩ := list_cons h25
  obtain ⟨b27, x27, rfl, h27⟩ := list_cons h26
  obtain ⟨b28, x28, rfl, h28⟩ := list_cons h27
  obtain ⟨b29, x29, rfl, h29⟩ := list_cons h28
  obtain ⟨b30, x30, rfl, h30⟩ := list_cons h29
  obtain ⟨b31, x31, rfl, h31⟩ := list_cons h30
  obtain rfl : x31 = [] := List.eq_nil_of_length_eq_zero h31
  kernel_rfl
theorem wp_buildEnG {o : Oper} {a : Act} {w : World} {K : Act → World → Prop} {Q : Exit → Act → World → Prop} (x y : Operand) (id : List UInt8) (hid : id.length = 32) (t : Int) (ho : o.op = .build 84 #[(0, x), (1, y)])
    (hx : a.eval x = .agg (Lib.byteCells id).toArray) (hy : a.eval y = .int .i64 t) (h : K (a.put o.dst (enV ⟨id, t⟩)) w) : o.wp Tryz.prog a w K Q := by
  have hc := build_any w id hid t
  unfold Oper.wp execOp
  simp only [ho, List.map_toArray, List.map_cons, List.map_nil, hx, hy, Sem.run_bind, hc, Result.andThen_ok]
  exact h
end Go.Proofs.YtkeegnhjemhblaaGreatDoor.Rb
