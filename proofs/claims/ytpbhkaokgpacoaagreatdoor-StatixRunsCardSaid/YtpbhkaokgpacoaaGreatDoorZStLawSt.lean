import Derived.Test.YtpbhkaokgpacoaaGreatDoorZStTold
import Derived.Test.YtpbhkaokgpacoaaGreatDoorZStDecode
import Derived.Test.YtpbhkaokgpacoaaGreatDoorZStRefSet
import Derived.Test.YtpbhkaokgpacoaaGreatDoorZStRefFresh
import Derived.Test.YtpbhkaokgpacoaaGreatDoorZStIn
import Derived.Test.YtpbhkaokgpacoaaGreatDoorZStWant
set_option linter.unusedSimpArgs false
set_option linter.unusedVariables false
/-
  What the law of the stat index carries along: two indexes and the reference's two, apart from one another.
-/
namespace Go.Proofs.YtpbhkaokgpacoaaGreatDoor.St
open Go.RowKit Go.Maps Go.WideMaps Go.Proofs.YtpbhkaokgpacoaaGreatDoor.Rf Go.Proofs.YtpbhkaokgpacoaaGreatDoor.Rd

/-- One place's index and the reference's. -/
structure PairAt (B : Nat) (W : World) (g b r : Nat) (v : Value) (L M : List SE) : Prop where
  ix : IndexAt B W g b L
  rf : RefAt B W r v M
  mL : ∀ e ∈ L, mayN e = 0
  gr : ∀ x ∈ [g, b], x ∉ r :: ob v
def own (g b r : Nat) (v : Value) : List Nat := [g, b] ++ r :: ob v
theorem PairAt.lt {B : Nat} {W : World} {g b r : Nat} {v : Value} {L M : List SE} (h : PairAt B W g b r v L M) : ∀ x ∈ own g b r v, B ≤ x ∧ x < W.heap.size := by
  intro x hx
  rcases List.mem_append.1 hx with hx | hx
  · simp at hx
    rcases hx with rfl | rfl
    · exact ⟨h.ix.baseg, h.ix.lt_g⟩
    · exact ⟨h.ix.baseb, h.ix.lt_b⟩
  · rcases List.mem_cons.1 hx with rfl | hx
    · exact ⟨h.rf.base, h.rf.lt⟩
    · exact ⟨rowS_ge h.rf.row x hx, rowS_lt h.rf.row x hx⟩
theorem PairAt.kept {B : Nat} {W W' : World} {g b r : Nat} {v : Value} {L M : List SE} (h : PairAt B W g b r v L M) (hk : ∀ x ∈ own g b r v, W'.heap[x]? = W.heap[x]?) : PairAt B W' g b r v L M :=
  ⟨h.ix.kept (hk g (by simp [own])) (hk b (by simp [own])), h.rf.kept (hk r (by simp [own])) (fun x hx => hk x (by simp [own, hx])), h.mL, h.gr⟩
/-- The variable of a pair of pointers. -/
def TwoAt (W : World) (a : Nat) (T : TypeId) (c p p' : Nat) : Prop := ∃ X : Array Value, W.heap[a]? = some (.cells X T) ∧ X.size = 2 ∧ X[c]? = some (ptr p) ∧ X[1 - c]? = some (ptr p')
structure RunSt (w : World) (c xa ma g b r : Nat) (v : Value) (L M : List SE) (g' b' r' : Nat) (v' : Value) (L' : List SE) (Q : List Nat) (W : World) : Prop where
  hc : c < 2
  xs : TwoAt W xa 25 c g g'
  ms : TwoAt W ma 30 c r r'
  cur : PairAt w.heap.size W g b r v L M
  oth : PairAt w.heap.size W g' b' r' v' L' L'
  out : ∀ x ∈ own g b r v, x ∉ xa :: ma :: Q
  out' : ∀ x ∈ own g' b' r' v', x ∉ xa :: ma :: Q
  apart : ∀ x ∈ own g b r v, x ∉ own g' b' r' v'
  xm : xa ≠ ma
  bx : w.heap.size ≤ xa ∧ w.heap.size ≤ ma
  be : Below w.heap.size w W
section
variable {w : World} {c xa ma g b r : Nat} {v : Value} {L M : List SE} {g' b' r' : Nat} {v' : Value} {L' : List SE} {Q : List Nat} {W W' : World}
theorem TwoAt.lt {a : Nat} {T : TypeId} {c p p' : Nat} (h : TwoAt W a T c p p') : a < W.heap.size := by obtain ⟨X, h1, _⟩ := h; exact lt_of_heap h1
theorem TwoAt.kept {a : Nat} {T : TypeId} {c p p' : Nat} (h : TwoAt W a T c p p') (hk : W'.heap[a]? = W.heap[a]?) : TwoAt W' a T c p p' := by obtain ⟨X, h1, h2⟩ := h; exact ⟨X, hk.trans h1, h2⟩
theorem TwoAt.cell {a : Nat} {T : TypeId} {c p p' : Nat} (h : TwoAt W a T c p p') : W.cell? ⟨a, c, none⟩ = some (.pointer (some ⟨p, 0, none⟩)) := by obtain ⟨X, h1, h2, h3, _⟩ := h; rw [cell_of_heap h1]; exact h3
theorem TwoAt.swap {a : Nat} {T : TypeId} {c p p' : Nat} (hc : c < 2) (h : TwoAt W a T c p p') : TwoAt W a T (1 - c) p' p := by
  obtain ⟨X, h1, h2, h3, h4⟩ := h
  exact ⟨X, h1, h2, h4, by rw [show 1 - (1 - c) = c by omega]; exact h3⟩
theorem RunSt.swap (h : RunSt w c xa ma g b r v L L g' b' r' v' L' Q W) : RunSt w (1 - c) xa ma g' b' r' v' L' L' g b r v L Q W :=
  ⟨by have := h.hc; omega, h.xs.swap h.hc, h.ms.swap h.hc, h.oth, h.cur, h.out', h.out, fun x hx hy => h.apart x hy hx, h.xm, h.bx, h.be⟩
theorem RunSt.below (h : RunSt w c xa ma g b r v L M g' b' r' v' L' Q W) (hb : Below W.heap.size W W') : RunSt w c xa ma g b r v L M g' b' r' v' L' Q W' :=
  ⟨h.hc, h.xs.kept (hb.block _ h.xs.lt), h.ms.kept (hb.block _ h.ms.lt), h.cur.kept (fun x hx => hb.block x (h.cur.lt x hx).2), h.oth.kept (fun x hx => hb.block x (h.oth.lt x hx).2), h.out, h.out', h.apart, h.xm, h.bx, h.be.trans (hb.mono h.be.size)⟩
theorem RunSt.unq (h : RunSt w c xa ma g b r v L M g' b' r' v' L' Q W) : RunSt w c xa ma g b r v L M g' b' r' v' L' [] W :=
  ⟨h.hc, h.xs, h.ms, h.cur, h.oth, fun x hx hy => h.out x hx (by simp at hy ⊢; rcases hy with h | h <;> simp [h]), fun x hx hy => h.out' x hx (by simp at hy ⊢; rcases hy with h | h <;> simp [h]), h.apart, h.xm, h.bx, h.be⟩
theorem RunSt.withq (h : RunSt w c xa ma g b r v L M g' b' r' v' L' [] W) {Q : List Nat} (hq : ∀ q ∈ Q, q ∉ own g b r v ∧ q ∉ own g' b' r' v') : RunSt w c xa ma g b r v L M g' b' r' v' L' Q W :=
  ⟨h.hc, h.xs, h.ms, h.cur, h.oth, fun x hx hy => by
    rcases List.mem_cons.1 hy with e | hy
    · exact h.out x hx (by simp [e])
    · rcases List.mem_cons.1 hy with e | hy
      · exact h.out x hx (by simp [e])
      · exact (hq x hy).1 hx, fun x hx hy => by
    rcases List.mem_cons.1 hy with e | hy
    · exact h.out' x hx (by simp [e])
    · rcases List.mem_cons.1 hy with e | hy
      · exact h.out' x hx (by simp [e])
      · exact (hq x hy).2 hx, h.apart, h.xm, h.bx, h.be⟩
/-- A call turned something of the place that is in use. -/
theorem RunSt.turn (h : RunSt w c xa ma g b r v L M g' b' r' v' L' Q W) {X : List Nat} (hT : Turn X W W') (hX : ∀ x ∈ X, x ∈ own g b r v) {b2 : Nat} {v2 : Value} {L2 M2 : List SE}
    (hp : PairAt w.heap.size W' g b2 r v2 L2 M2) (ho : ∀ x ∈ own g b2 r v2, x ∈ own g b r v ∨ W.heap.size ≤ x) (hQ : ∀ q ∈ Q, q < W.heap.size) : RunSt w c xa ma g b2 r v2 L2 M2 g' b' r' v' L' Q W' := by
  have hxa : xa ∉ X := fun hx => h.out xa (hX xa hx) (by simp)
  have hma : ma ∉ X := fun hx => h.out ma (hX ma hx) (by simp)
  have h1 := h.xs.lt; have h2 := h.ms.lt
  refine ⟨h.hc, h.xs.kept (hT.block _ h1 hxa), h.ms.kept (hT.block _ h2 hma), hp, h.oth.kept (fun x hx => hT.block x (h.oth.lt x hx).2 (fun hy => h.apart x (hX x hy) hx)), fun x hx hy => ?_, h.out', fun x hx hy => ?_, h.xm, h.bx, h.be.trans (hT.below (fun x hx => (h.cur.lt x (hX x hx)).1) h.be.size)⟩
  · rcases ho x hx with k | k
    · exact h.out x k hy
    · rcases List.mem_cons.1 hy with e | hy
      · omega
      · rcases List.mem_cons.1 hy with e | hy
        · omega
        · have := hQ x hy; omega
  · rcases ho x hx with k | k
    · exact h.apart x k hy
    · have := (h.oth.lt x hy).2; omega
/-- The index was turned. -/
theorem RunSt.idx (h : RunSt w c xa ma g b r v L M g' b' r' v' L' Q W) {X : List Nat} (hT : Turn X W W') (hX : ∀ x ∈ X, x = g ∨ x = b) {b2 : Nat} {L2 : List SE}
    (hi : IndexAt w.heap.size W' g b2 L2) (hb2 : b2 = b ∨ W.heap.size ≤ b2) (hm : ∀ e ∈ L2, mayN e = 0) (hQ : ∀ q ∈ Q, q < W.heap.size) : RunSt w c xa ma g b2 r v L2 M g' b' r' v' L' Q W' := by
  have hgr := h.cur.gr
  have hrl := h.cur.rf.lt
  have hXr : ∀ y, y ∈ r :: ob v → y ∉ X := fun y hy hx => by
    rcases hX y hx with e | e
    · exact hgr g (by simp) (e ▸ hy)
    · exact hgr b (by simp) (e ▸ hy)
  have hlt : ∀ y ∈ r :: ob v, y < W.heap.size := fun y hy => (h.cur.lt y (by simp only [own, List.mem_append]; exact .inr hy)).2
  refine h.turn hT (fun x hx => by rcases hX x hx with e | e <;> simp [own, e]) ⟨hi, h.cur.rf.kept (hT.block r hrl (hXr r (by simp))) (fun x hx => hT.block x (hlt x (by simp [hx])) (hXr x (by simp [hx]))), hm, fun x hx hy => ?_⟩ (fun x hx => ?_) hQ
  · simp at hx
    rcases hx with e | e
    · exact hgr x (by simp [e]) hy
    · rcases hb2 with k | k
      · exact hgr x (by simp [e, k]) hy
      · have := hlt x hy; omega
  · rcases List.mem_append.1 hx with hx | hx
    · simp at hx
      rcases hx with e | e
      · exact .inl (by simp [own, e])
      · rcases hb2 with k | k
        · exact .inl (by simp [own, e, k])
        · exact .inr (by omega)
    · exact .inl (by simp only [own, List.mem_append]; exact .inr hx)
/-- The reference's index was turned. -/
theorem RunSt.ref (h : RunSt w c xa ma g b r v L M g' b' r' v' L' Q W) {e : Ending} {n : Int} {M2 : List SE} (hp : RxPost w.heap.size W r v n M2 e W') (hQ : ∀ q ∈ Q, q < W.heap.size) : ∃ v2, e = .returned (.int .i64 n) ∧ RunSt w c xa ma g b r v2 L M2 g' b' r' v' L' Q W' ∧ Turn (r :: ob v) W W' := by
  obtain ⟨v2, he, hr, hT, ho⟩ := hp
  have hgr := h.cur.gr
  refine ⟨v2, he, ?_, hT⟩
  refine h.turn hT (fun x hx => by simp only [own, List.mem_append]; exact .inr hx) ⟨h.cur.ix.kept (hT.block g h.cur.ix.lt_g (hgr g (by simp))) (hT.block b h.cur.ix.lt_b (hgr b (by simp))), hr, h.cur.mL, fun x hx hy => ?_⟩ (fun x hx => ?_) hQ
  · rcases List.mem_cons.1 hy with e1 | hy
    · exact hgr x hx (by simp [e1])
    · rcases ho x hy with k | k
      · exact hgr x hx (by simp [k])
      · have : x < W.heap.size := by
          simp at hx
          rcases hx with e1 | e1
          · rw [e1]; exact h.cur.ix.lt_g
          · rw [e1]; exact h.cur.ix.lt_b
        omega
  · rcases List.mem_append.1 hx with hx | hx
    · exact .inl (by simp only [own, List.mem_append]; exact .inl hx)
    · rcases List.mem_cons.1 hx with e1 | hx
      · exact .inl (by simp [own, e1])
      · rcases ho x hx with k | k
        · exact .inl (by simp [own, k])
        · exact .inr k
/-- Another index is laid into the variable. -/
theorem RunSt.lay (h : RunSt w c xa ma g b r v L M g' b' r' v' L' Q W) {g2 b2 : Nat} {L2 : List SE} (hi : IndexAt w.heap.size W g2 b2 L2) (hm : ∀ e ∈ L2, mayN e = 0) (hn : ∀ x, x = g2 ∨ x = b2 → x ∉ r :: ob v ∧ x ∉ own g' b' r' v' ∧ x ∉ xa :: ma :: Q) :
    RunSt w c xa ma g2 b2 r v L2 M g' b' r' v' L' Q (W.setCell ⟨xa, c, none⟩ (ptr g2)) := by
  have hk : ∀ x, x ≠ xa → (W.setCell ⟨xa, c, none⟩ (ptr g2)).heap[x]? = W.heap[x]? := fun x hx => Below.heap_setCell _ _ _ _ hx
  have hc := h.hc
  obtain ⟨X, x1, x2, x3, x4⟩ := h.xs
  refine ⟨hc, ⟨X.setIfInBounds c (ptr g2), setCell_heap _ _ _ _ _ _ x1, by simp [x2], ?_, ?_⟩, h.ms.kept (hk _ (fun e => h.xm e.symm)), ⟨hi.kept (hk _ (fun e => (hn g2 (.inl rfl)).2.2 (by simp [e]))) (hk _ (fun e => (hn b2 (.inr rfl)).2.2 (by simp [e]))), h.cur.rf.kept (hk r (fun e => h.out r (by simp [own]) (by simp [e]))) (fun x hx => hk x (fun e => h.out x (by simp [own, hx]) (by simp [e]))), hm, fun x hx hy => (hn x (by simpa using hx)).1 hy⟩,
    h.oth.kept (fun x hx => hk x (fun e => h.out' x hx (by simp [e]))), fun x hx hy => ?_, h.out', fun x hx hy => ?_, h.xm, h.bx, h.be.setCell (p := ⟨xa, c, none⟩) h.bx.1 _⟩
  · rw [Array.getElem?_setIfInBounds_self_of_lt (by omega)]
  · rw [Array.getElem?_setIfInBounds_ne (by omega)]; exact x4
  · rcases List.mem_append.1 hx with hx | hx
    · exact (hn x (by simpa using hx)).2.2 hy
    · exact h.out x (by simp only [own, List.mem_append]; exact .inr hx) hy
  · rcases List.mem_append.1 hx with hx | hx
    · exact (hn x (by simpa using hx)).2.1 hy
    · exact h.apart x (by simp only [own, List.mem_append]; exact .inr hx) hy
end
end Go.Proofs.YtpbhkaokgpacoaaGreatDoor.St
