import Derived.Test.YthcjjekkjbidlaaGreatDoorZPStTold
import Derived.Test.YthcjjekkjbidlaaGreatDoorZPStDecode
import Derived.Test.YthcjjekkjbidlaaGreatDoorZPStRow
import Derived.Test.YthcjjekkjbidlaaGreatDoorZPStHeld
import Derived.Test.YthcjjekkjbidlaaGreatDoorZPStSet
import Derived.Test.YthcjjekkjbidlaaGreatDoorZPStDrop
import Derived.Test.YthcjjekkjbidlaaGreatDoorZPStFresh
import Derived.Test.YthcjjekkjbidlaaGreatDoorZPRowKit
import Derived.Carry
import Derived.Deep.Slices
import Derived.ChangeSame
import Derived.SizedLaws
import Derived.Test.YthcjjekkjbidlaaGreatDoorZPSrNew
set_option linter.unusedSimpArgs false
set_option linter.unusedVariables false
/-
  What the law of the stat index carries along: two indexes and the reference's two, apart from one another.
-/
namespace Go.Proofs.YthcjjekkjbidlaaGreatDoor.St
open Go.RowKit Go.Maps Go.WideMaps Go.Proofs.YthcjjekkjbidlaaGreatDoor.Rf Go.Proofs.YthcjjekkjbidlaaGreatDoor.Rd

/-- One place's index and the reference's. -/
structure PairAt (B : Nat) (W : World) (g b r : Nat) (v : Value) (L M : List SE) : Prop where
  ix : IndexAt B W g b L
  rf : RefAt B W r v M
  mL : ∀ e ∈ L, mayN e = 0
  gr : ∀ x ∈ [g, b], x ∉ r :: ob v
def own (g b r : Nat) (v : Value) : List Nat := [g, b] ++ r :: ob v
theorem PairAt.lt {B : Nat} {W : World} {g b r : Nat} {v : Value} {L M : List SE} (h : PairAt B W g b r v L M) : ∀ x ∈ own g b r v, B ≤ x ∧ x < W.heap.size := by
  intro x hx
  rcases List.mem_append.1 hx with hx | hx
  · simp at hx
    rcases hx with rfl | rfl
    · exact ⟨h.ix.baseg, h.ix.lt_g⟩
    · exact ⟨h.ix.baseb, h.ix.lt_b⟩
  · rcases List.mem_cons.1 hx with rfl | hx
    · exact ⟨h.rf.base, h.rf.lt⟩
    · exact ⟨rowS_ge h.rf.row x hx, rowS_lt h.rf.row x hx⟩
theorem PairAt.kept {B : Nat} {W W' : World} {g b r : Nat} {v : Value} {L M : List SE} (h : PairAt B W g b r v L M) (hk : ∀ x ∈ own g b r v, W'.heap[x]? = W.heap[x]?) : PairAt B W' g b r v L M :=
  ⟨h.ix.kept (hk g (by simp [own])) (hk b (by simp [own])), h.rf.kept (hk r (by simp [own])) (fun x hx => hk x (by simp [own, hx])), h.mL, h.gr⟩
/-- The variable of a pair of pointers. -/
def TwoAt (W : World) (a : Nat) (T : TypeId) (c p p' : Nat) : Prop := ∃ X : Array Value, W.heap[a]? = some (.cells X T) ∧ X.size = 2 ∧ X[c]? = some (ptr p) ∧ X[1 - c]? = some (ptr p')
structure RunSt (w : World) (c xa ma g b r : Nat) (v : Value) (L M : List SE) (g' b' r' : Nat) (v' : Value) (L' : List SE) (Q : List Nat) (W : World) : Prop where
  hc : c < 2
  xs : TwoAt W xa 25 c g g'
  ms : TwoAt W ma 30 c r r'
  cur : PairAt w.heap.size W g b r v L M
  oth : PairAt w.heap.size W g' b' r' v' L' L'
  out : ∀ x ∈ own g b r v, x ∉ xa :: ma :: Q
  out' : ∀ x ∈ own g' b' r' v', x ∉ xa :: ma :: Q
  apart : ∀ x ∈ own g b r v, x ∉ own g' b' r' v'
  xm : xa ≠ ma
  bx : w.heap.size ≤ xa ∧ w.heap.size ≤ ma
  be : Below w.heap.size w W
section
variable {w : World} {c xa ma g b r : Nat} {v : Value} {L M : List SE} {g' b' r' : Nat} {v' : Value} {L' : List SE} {Q : List Nat} {W W' : World}
theorem TwoAt.lt {a : Nat} {T : TypeId} {c p p' : Nat} (h : TwoAt W a T c p p') : a < W.heap.size := by obtain ⟨X, h1, _⟩ := h; exact lt_of_heap h1
theorem TwoAt.kept {a : Nat} {T : TypeId} {c p p' : Nat} (h : TwoAt W a T c p p') (hk : W'.heap[a]? = W.heap[a]?) : TwoAt W' a T c p p' := by obtain ⟨X, h1, h2⟩ := h; exact ⟨X, hk.trans h1, h2⟩
/-- Another index is laid into the variable. -/
theorem RunSt.lay (h : RunSt w c xa ma g b r v L M g' b' r' v' L' Q W) {g2 b2 : Nat} {L2 : List SE} (hi : IndexAt w.heap.size W g2 b2 L2) (hm : ∀ e ∈ L2, mayN e = 0) (hn : ∀ x, x = g2 ∨ x = b2 → x ∉ r :: ob v ∧ x ∉ own g' b' r' v' ∧ x ∉ xa :: ma :: Q) :
    RunSt w c xa ma g2 b2 r v L2 M g' b' r' v' L' Q (W.setCell ⟨xa, c, none⟩ (ptr g2)) := by
  have hk : ∀ x, x ≠ xa → (W.setCell ⟨xa, c, none⟩ (ptr g2)).heap[x]? = W.heap[x]? := fun x hx => Below.heap_setCell _ _ _ _ hx
  have hc := h.hc
  obtain ⟨X, x1, x2, x3, x4⟩ := h.xs
  refine ⟨hc, ⟨X.setIfInBounds c (ptr g2), setCell_heap _ _ _ _ _ _ x1, by simp [x2], ?_, ?_⟩, h.ms.kept (hk _ (fun e => h.xm e.symm)), ⟨hi.kept (hk _ (fun e => (hn g2 (.inl rfl)).2.2 (by simp [e]))) (hk _ (fun e => (hn b2 (.inr rfl)).2.2 (by simp [e]))), h.cur.rf.kept (hk r (fun e => h.out r (by simp [own]) (by simp [e]))) (fun x hx => hk x (fun e => h.out x (by simp [own, hx]) (by simp [e]))), hm, fun x hx hy => (hn x (by simpa using hx)).1 hy⟩,
    h.oth.kept (fun x hx => hk x (fun e => h.out' x hx (by simp [e]))), fun x hx hy => ?_, h.out', fun x hx hy => ?_, h.xm, h.bx, h.be.setCell (p := ⟨xa, c, none⟩) h.bx.1 _⟩
  · rw [Array.getElem?_setIfInBounds_self_of_lt (by omega)]
  · rw [Array.getElem?_setIfInBounds_ne (by omega)]; exact x4
  · rcases List.mem_append.1 hx with hx | hx
    · exact (hn x (by simpa using hx)).2.2 hy
    · exact h.out x (by simp only [own, List.mem_append]; exact .inr hx) hy
  · rcases List.mem_append.1 hx with hx | hx
    · exact (hn x (by simpa using hx)).2.1 hy
    · exact h.apart x (by simp only [own, List.mem_append]; exact .inr hx) hy
end
end Go.Proofs.YthcjjekkjbidlaaGreatDoor.St
/-
  The law's argument, opened: a list of steps.
-/
namespace Go.Proofs.YthcjjekkjbidlaaGreatDoor.St
open Go.RowKit Go.ChangeShapes Go.WideShapes Go.Deep Go.Proofs.YthcjjekkjbidlaaGreatDoor.Rf Go.Proofs.YthcjjekkjbidlaaGreatDoor.Rd

/-- A step, as it lies. -/
structure StpX where
  kind : Int
  who : Int
  e : It
  pv : Value
  ps : List (List UInt8)
instance : Inhabited StpX := ⟨⟨0, 0, default, .slice none 0 0, []⟩⟩
structure StpX.Fits (W : World) (x : StpX) : Prop where
  e : x.e.Fits
  pv : StrsAt W x.pv x.ps
  ps : x.ps.length * 16 ≤ 140737488351232
  pz : ∀ n cap, x.pv = .slice none n cap → cap = 0
def StpX.cells (x : StpX) : List Value := .int .i64 x.kind :: .int .i64 x.who :: (x.e.cells ++ [x.pv])
set_option linter.unusedSimpArgs false
section
variable {H : Type} {enc : TypeId × Value → H} {w : World} {base : Nat} {spare : Nat → Bool} {held : Bool}

theorem all_mem {l : List Nat} (h : l.all (· ≤ reachBytes) = true) {x : Nat} (hx : x ∈ l) : x ≤ 140737488351232 := by
  have := List.all_eq_true.1 h x hx
  have h2 : reachBytes ≤ 140737488351232 := by decide
  simp only [decide_eq_true_eq] at this
  omega
theorem all_sub {l m : List Nat} (h : l.all (· ≤ reachBytes) = true) (hm : ∀ x ∈ m, x ∈ l) : m.all (· ≤ reachBytes) = true :=
  List.all_eq_true.2 (fun x hx => List.all_eq_true.1 h x (hm x hx))

set_option maxRecDepth 100000 in
theorem open_item {n : Nat} {cs : List Value} {y : DataW H × List MemPlace} (h : DataW.trod enc Tryz.prog w base spare held n 33 cs = some y) (hz : (DataW.weights Tryz.prog 33 y.1).all (· ≤ reachBytes) = true) :
    ∃ x : It, cs = x.cells ∧ x.Fits := by
  obtain ⟨xs, m, _, rfl, hl, hxl, hf⟩ := DataW.trod_struct Tryz.underlying33 h
  have k3 : Tryz.prog.cellsOf 3 = 1 := by kernel_rfl
  have k2 : Tryz.prog.cellsOf 2 = 1 := by kernel_rfl
  have k9 : Tryz.prog.cellsOf 9 = 1 := by kernel_rfl
  have k5 : Tryz.prog.cellsOf 5 = 1 := by kernel_rfl
  have k6 : Tryz.prog.cellsOf 31 = 1 := by kernel_rfl
  have k33 : Tryz.prog.cellsOf 33 = 7 := by kernel_rfl
  rw [k33] at hl
  match xs, hxl with
  | [y0, y1, y2, y3, y4, y5, y6], _ =>
    match cs, hl with
    | [e0, e1, e2, e3, e4, e5, e6], _ =>
      have h0 := hf 0 _ rfl
      have h1 := hf 1 _ rfl
      have h2 := hf 2 _ rfl
      have h3 := hf 3 _ rfl
      have h4 := hf 4 _ rfl
      have h5 := hf 5 _ rfl
      have h6 := hf 6 _ rfl
      simp only [k3, k2, k9, k5, k6, List.drop_zero, List.drop_succ_cons, List.take_succ_cons, List.take_zero, List.getElem?_cons_zero, List.getElem?_cons_succ] at h0 h1 h2 h3 h4 h5 h6
      obtain ⟨q0, r0, t0, _⟩ := DataW.trod_string Tryz.underlying9 h0
      obtain ⟨q1, r1, _, s1⟩ := DataW.trod_int Tryz.underlying5 h1
      obtain ⟨q2, r2, _, s2⟩ := DataW.trod_int Tryz.underlying3 h2
      obtain ⟨q3, r3, _, s3⟩ := DataW.trod_int Tryz.underlying31 h3
      obtain ⟨q4, r4, _, s4⟩ := DataW.trod_int Tryz.underlying2 h4
      obtain ⟨q5, r5, _, s5⟩ := DataW.trod_int Tryz.underlying5 h5
      obtain ⟨q6, r6, t6, _⟩ := DataW.trod_string Tryz.underlying9 h6
      have hz2 : (DataW.weightsEach Tryz.prog [9, 5, 3, 31, 2, 5, 9] [y0.1, y1.1, y2.1, y3.1, y4.1, y5.1, y6.1]).all (· ≤ reachBytes) = true := by
        have hz' := hz
        simp only [DataW.weights, Tryz.underlying33] at hz'
        exact hz'
      have w0 : q0.size ≤ 140737488351232 := by
        refine all_mem hz2 (DataW.weights_mem_each (j := 0) rfl rfl _ ?_)
        rw [t0]; simp [DataW.weights, ← Lib.size_eq]
      have w6 : q6.size ≤ 140737488351232 := by
        refine all_mem hz2 (DataW.weights_mem_each (j := 6) rfl rfl _ ?_)
        rw [t6]; simp [DataW.weights, ← Lib.size_eq]
      have hu : ∀ z : Int, (Lit.int .u8 z).wf = true → (((UInt8.ofNat z.toNat).toNat : Nat) : Int) = z := fun z s => by
        have hq : 0 ≤ z ∧ z < 256 := by
          simp [Lit.wf, IntKind.min, IntKind.max, IntKind.signed, IntKind.bits] at s
          omega
        have e : (UInt8.ofNat z.toNat).toNat = z.toNat := UInt8.toNat_ofNat_of_lt' (by show _ < 256; omega)
        rw [e]; omega
      have hi3 : 0 ≤ q3 ∧ q3 < 18446744073709551616 := by
        simp [Lit.wf, IntKind.min, IntKind.max, IntKind.signed, IntKind.bits] at s3
        omega
      have hi2 : -9223372036854775808 ≤ q2 ∧ q2 < 9223372036854775808 := by
        simp [Lit.wf, IntKind.min, IntKind.max, IntKind.signed, IntKind.bits] at s2
        omega
      have hi4 : -9223372036854775808 ≤ q4 ∧ q4 < 9223372036854775808 := by
        simp [Lit.wf, IntKind.min, IntKind.max, IntKind.signed, IntKind.bits] at s4
        omega
      have hn3 : ((q3.toNat : Nat) : Int) = q3 := by omega
      injection r0 with r0; injection r1 with r1; injection r2 with r2; injection r3 with r3; injection r4 with r4; injection r5 with r5; injection r6 with r6
      refine ⟨⟨q0.data.toList, UInt8.ofNat q1.toNat, q2, q3.toNat, q4, UInt8.ofNat q5.toNat, q6.data.toList⟩, ?_, ?_⟩
      · simp only [It.cells, ba_mk, hu q1 s1, hu q5 s5, hn3]
        rw [r0, r1, r2, r3, r4, r5, r6]
      · exact ⟨by show q0.data.toList.length ≤ _; rw [← Lib.size_eq]; omega, hi2, by show q3.toNat < _; omega, hi4, by show q6.data.toList.length ≤ _; rw [← Lib.size_eq]; omega⟩

theorem weights_all {P : Program} {e : TypeId} {x : Nat} : ∀ {l : List (DataW H)} {i : Nat} {d : DataW H}, l[i]? = some d → x ∈ DataW.weights P e d → x ∈ DataW.weightsAll P e l
  | [], _, _, h, _ => by simp at h
  | y :: r, 0, d, h, hx => by
    simp at h; subst h
    simp [DataW.weightsAll, hx]
  | y :: r, i + 1, d, h, hx => by
    have := weights_all (l := r) (by simpa using h) hx
    simp [DataW.weightsAll, this]

end
end Go.Proofs.YthcjjekkjbidlaaGreatDoor.St
/-
  StatixBack's argument, opened: a list of items.
-/
namespace Go.Proofs.YthcjjekkjbidlaaGreatDoor.St
open Go.RowKit Go.ChangeShapes Go.WideShapes Go.Deep Go.Proofs.YthcjjekkjbidlaaGreatDoor.Rf Go.Proofs.YthcjjekkjbidlaaGreatDoor.Rd
set_option linter.unusedSimpArgs false
section
variable {H : Type} {enc : TypeId × Value → H} {w : World} {base : Nat} {spare : Nat → Bool} {held : Bool}
set_option maxRecDepth 100000 in
theorem open_items {W : World} {v : Value} {d : DataW H} {p : List MemPlace} {r : Reach} {b0 : Nat} (hval : Value.okWide Tryz.prog W r b0 111 v) (h : DataW.Trod enc Tryz.prog W base (fun _ => true) true 111 v d p)
    (hz : (DataW.weights Tryz.prog 111 d).all (· ≤ reachBytes) = true) : ∃ l : List It, ItemsAt W v l := by
  obtain ⟨a0, n0, c0, rfl⟩ := okWide_slice Tryz.underlying111 hval
  obtain ⟨fuel, hf⟩ := h
  rcases open_slice Tryz.underlying111 hf with ⟨hcs, _⟩ | ⟨a, len, cap, m, n, D, Pl, hcs, _, hl, hm, hmm, hx, hi⟩
  · simp only [Value.cells] at hcs
    simp at hcs
    obtain ⟨rfl, rfl, rfl⟩ := hcs
    exact ⟨[], none, 0, rfl, by simp, fun hne => absurd rfl hne, by simp⟩
  · simp only [Value.cells] at hcs
    simp at hcs
    obtain ⟨rfl, rfl, rfl⟩ := hcs
    have k34 : Tryz.prog.cellsOf 33 = 7 := by kernel_rfl
    rw [k34] at hi
    have hmn : n0 ≤ m := by rw [hmm]; simp; exact hl
    have hd : d = .slice ((List.range n0).map D) ((List.range (m - n0)).map fun j => D (n0 + j)) := congrArg Prod.fst hx
    have hzi : ∀ i, i < n0 → (DataW.weights Tryz.prog 33 (D i)).all (· ≤ reachBytes) = true := fun i hi' => all_sub hz (fun z hzm => by
      rw [hd]
      simp only [DataW.weights, Tryz.underlying111]
      refine List.mem_cons_of_mem _ (List.mem_append_left _ (weights_all (i := i) ?_ hzm))
      rw [List.getElem?_map, List.getElem?_range hi']; rfl)
    have hspot : 0 < n0 → a.spot = none := fun hp => by
      obtain ⟨cs', hc, ht⟩ := hi 0 (by omega)
      obtain ⟨x, rfl, _⟩ := open_item ht (hzi 0 hp)
      obtain ⟨_, _, hat⟩ := World.cells?_some hc
      have := World.cell?_spot ((hat 0 (by simp [It.cells])).trans rfl)
      simpa [Addr.add] using this
    have hex : ∀ i : Nat, ∃ x : It, i < n0 → x.Fits ∧ a.spot = none ∧ a.block < W.heap.size ∧ W.rangeAt a.block (a.off + i * 7) x.cells := by
      intro i
      by_cases hlt : i < n0
      · obtain ⟨cs', hc, ht⟩ := hi i (by omega)
        obtain ⟨x, rfl, hx⟩ := open_item ht (hzi i hlt)
        obtain ⟨_, _, hat⟩ := World.cells?_some hc
        have g0 := hat 0 (by simp [It.cells])
        have hsp : a.spot = none := hspot (by omega)
        have hadd : ∀ j, (a.add (i * 7)).add j = ⟨a.block, a.off + i * 7 + j, none⟩ := fun j => by
          rw [add_add]
          obtain ⟨ab, ao, asp⟩ := a
          simp only at hsp
          subst hsp
          unfold Addr.add
          split
          · next h =>
            have h1 : i * 7 = 0 := by omega
            have h2 : j = 0 := by omega
            rw [h1, h2]; rfl
          · rw [Nat.add_assoc]
        have hbl : a.block < W.heap.size := by
          have := World.block_lt_of_cell? W _ (g0.trans rfl)
          rw [hadd] at this
          exact this
        refine ⟨x, fun _ => ⟨hx, hsp, hbl, ?_⟩⟩
        intro j v hv
        rw [← hadd]
        exact (hat j (List.getElem?_eq_some_iff.1 hv).1).trans hv
      · exact ⟨default, fun h => absurd h hlt⟩
    obtain ⟨g, hg⟩ := Classical.axiomOfChoice hex
    have hln : ((List.range n0).map g).length = n0 := by simp
    have hget : ∀ (i : Nat) x, ((List.range n0).map g)[i]? = some x → i < n0 ∧ x = g i := fun i x hx => by
      rw [List.getElem?_map] at hx
      by_cases hlt : i < n0
      · rw [List.getElem?_range hlt] at hx; exact ⟨hlt, (Option.some.inj hx).symm⟩
      · rw [List.getElem?_eq_none (by simp; omega)] at hx; simp at hx
    refine ⟨(List.range n0).map g, some a, c0, by rw [hln], by rw [hln]; omega, fun hne => ?_, fun x hx => ?_⟩
    · have hpos : 0 < n0 := by
        rcases Nat.eq_zero_or_pos n0 with e | e
        · exact absurd (by rw [e]; rfl) hne
        · exact e
      obtain ⟨_, hsp, hbl, _⟩ := hg 0 hpos
      refine ⟨a.block, a.off, ?_, hbl, fun i x hx => ?_⟩
      · obtain ⟨ab, ao, asp⟩ := a
        simp only at hsp
        subst hsp; rfl
      · obtain ⟨hlt, rfl⟩ := hget i x hx
        exact (hg i hlt).2.2.2
    · obtain ⟨i, hi', rfl⟩ := List.mem_map.1 hx
      exact (hg i (List.mem_range.1 hi')).1
end
end Go.Proofs.YthcjjekkjbidlaaGreatDoor.St
