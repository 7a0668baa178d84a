/-
  The contract of Decode at the bytes of a book with one branch and one snapshot.
-/
import Derived.Test.YtjfmboiokplngaaRfFixed
namespace Go.Proofs.Ytjfmboiokplngaa.Rf
open Go.RowKit Go.Maps Go.WideMaps

def id1 : List UInt8 := 1 :: List.replicate 31 0
def en1 : En := ⟨id1, 5⟩
def main : List UInt8 := [109, 97, 105, 110]
def K1 : BK := [(main, [en1])]
/-- What stands behind the number of branches. -/
def rest3 : List UInt8 := id1 ++ [5]
def rest2 : List UInt8 := 1 :: rest3
def rest1 : List UInt8 := 4 :: (main ++ rest2)
theorem payload1 : payload K1 = 1 :: rest1 := by decide +kernel

/-- Where Decode stands: the reader, its two variables, the book so far. -/
structure DecSt (w : World) (q gt bt : Nat) (W : World) (L : List UInt8) (Z : BM) : Prop where
  rd : ReaderAt W q L
  rv : W.heap[q + 1]? = some (.cells #[ptr q] 74)
  ov : W.heap[q + 2]? = some (.cells #[.bool true] 4)
  bk : BookAt none (q + 3) W gt bt Z
  be : Below w.heap.size w W
  le : w.heap.size ≤ q
theorem DecSt.read {w W W' : World} {q gt bt : Nat} {L L' : List UInt8} {Z : BM} (h : DecSt w q gt bt W L Z) (hr : ReaderAt W' q L') (ht : Turn [q] W W') : DecSt w q gt bt W' L' Z := by
  have l1 := lt_of_heap h.rv; have l2 := lt_of_heap h.ov
  refine ⟨hr, (ht.block _ l1 (by simp)).trans h.rv, (ht.block _ l2 (by simp)).trans h.ov, ?_, h.be.trans (ht.below (by simpa using h.le) h.be.size), h.le⟩
  have hg := h.bk.baseg; have hb := h.bk.baseb
  refine ⟨(ht.block _ h.bk.lt_g (by simp; omega)).trans h.bk.book, ownsMap_block h.bk.map (ht.block _ h.bk.lt_b (by simp; omega)), fun p hp => rowS_kept (h.bk.each p hp) (fun y hy hl => ht.block y hl ?_), h.bk.gb, h.bk.off, h.bk.apart, hg, hb, fun _ hp => nomatch hp⟩
  have := rowS_ge (h.bk.each p hp) y hy
  simp; omega
theorem DecSt.okCell {w W : World} {q gt bt : Nat} {L : List UInt8} {Z : BM} (h : DecSt w q gt bt W L Z) : DecSt w q gt bt (W.setCell ⟨q + 2, 0, none⟩ (.bool true)) L Z := by
  have hk : ∀ x, x ≠ q + 2 → (W.setCell ⟨q + 2, 0, none⟩ (.bool true)).heap[x]? = W.heap[x]? := fun x hx => Below.heap_setCell _ _ _ _ hx
  have hg := h.bk.baseg; have hb := h.bk.baseb
  refine ⟨(hk _ (by omega)).trans h.rd, (hk _ (by omega)).trans h.rv, by rw [setCell_heap _ _ _ _ _ _ h.ov]; rfl, ?_, h.be.setCell (by have := h.le; show w.heap.size ≤ q + 2; omega) _, h.le⟩
  refine ⟨(hk _ (by omega)).trans h.bk.book, ownsMap_block h.bk.map (hk _ (by omega)), fun p hp => rowS_kept (h.bk.each p hp) (fun y hy hl => hk y ?_), h.bk.gb, h.bk.off, h.bk.apart, hg, hb, fun _ hp => nomatch hp⟩
  have := rowS_ge (h.bk.each p hp) y hy
  omega
theorem DecSt.below {w W W' : World} {q gt bt : Nat} {L : List UInt8} {Z : BM} (h : DecSt w q gt bt W L Z) (hb : Below W.heap.size W W') : DecSt w q gt bt W' L Z :=
  ⟨(hb.block _ (lt_of_heap h.rd)).trans h.rd, (hb.block _ (lt_of_heap h.rv)).trans h.rv, (hb.block _ (lt_of_heap h.ov)).trans h.ov, h.bk.below hb, h.be.trans (hb.mono h.be.size), h.le⟩
theorem DecSt.add {w W W' : World} {q gt bt : Nat} {L : List UInt8} {Z Z' : BM} (h : DecSt w q gt bt W L Z) (hk : BookAt none (q + 3) W' gt bt Z') (hb : Below (q + 3) W W') : DecSt w q gt bt W' L Z' :=
  ⟨(hb.block _ (by omega)).trans h.rd, (hb.block _ (by omega)).trans h.rv, (hb.block _ (by omega)).trans h.ov, hk, h.be.trans (hb.mono (by have := h.le; omega)), h.le⟩

set_option maxHeartbeats 4000000 in
set_option maxRecDepth 100000 in
theorem number_small (w W : World) (q gt bt : Nat) (b : UInt8) (r : List UInt8) (Z : BM) (most : Nat) (hb : b.toNat < 128) (hm : b.toNat ≤ most) (hl : r.length ≤ 1099511627776) (h : DecSt w q gt bt W (b :: r) Z) :
    Calls Try.prog 31 #[.int .u64 (most : Int), ptr (q + 1), ptr (q + 2)] W fun e w' => e = .returned (.int .u64 (b.toNat : Int)) ∧ DecSt w q gt bt w' r Z := by
  have c1 : W.cell? ⟨q + 1, 0, none⟩ = some (ptr q) := cell_of_heap h.rv
  have U := Lib.hid (uint_small W q b r hb hl h.rd)
  have hmi : (b.toNat : Int) ≤ (most : Int) := by omega
  unfold ptr at *
  go_enter Try.func31, Try.ntmps31
  go_wp2_with fail
  refine U.out.mono ?_
  rintro e w1 ⟨rfl, hr1, t1⟩
  have h1 := h.read hr1 t1
  have c2 : w1.cell? ⟨q + 2, 0, none⟩ = some (.bool true) := cell_of_heap h1.ov
  have f2 : w1.frozen? ⟨q + 2, 0, none⟩ = false := frozen_of_heap h1.ov
  have H2 := Lib.hid h1.okCell
  clear U h1 hr1 t1
  go_wp2
  go_ret
  exact ⟨rfl, H2.out⟩
end Go.Proofs.Ytjfmboiokplngaa.Rf
