/-
  The laws' arguments, opened: a list of calls; a crash.
-/
import Derived.Test.YtcfdfpjemonhoaaRowKit
import Derived.Carry
import Derived.Deep.Slices
import Derived.ChangeSame
namespace Go.Proofs.Ytcfdfpjemonhoaa.Dk
open Go.RowKit Go.ChangeShapes Go.WideShapes Go.Deep

/-- A call, as it lies. -/
structure OpX where
  kind : Int
  name : ByteArray
  other : ByteArray
  data : ByteArray
  a : Int
  b : Int
  c : Int
  ka : Option Addr
  kn : Nat
  kc : Nat
instance : Inhabited OpX := ⟨⟨0, .empty, .empty, .empty, 0, 0, 0, none, 0, 0⟩⟩
structure OpX.Fits (x : OpX) : Prop where
  name : x.name.size ≤ maxLen
  other : x.other.size ≤ maxLen
  data : x.data.size ≤ maxLen
/-- The eight cells of a call. -/
structure OpX.At (w : World) (b o : Nat) (x : OpX) : Prop where
  c0 : w.cell? ⟨b, o, none⟩ = some (.int .i64 x.kind)
  c1 : w.cell? ⟨b, o + 1, none⟩ = some (.string x.name)
  c2 : w.cell? ⟨b, o + 2, none⟩ = some (.string x.other)
  c3 : w.cell? ⟨b, o + 3, none⟩ = some (.string x.data)
  c4 : w.cell? ⟨b, o + 4, none⟩ = some (.int .i64 x.a)
  c5 : w.cell? ⟨b, o + 5, none⟩ = some (.int .i64 x.b)
  c6 : w.cell? ⟨b, o + 6, none⟩ = some (.int .i64 x.c)
  c7 : w.cell? ⟨b, o + 7, none⟩ = some (.slice x.ka x.kn x.kc)
/-- A list of calls. -/
def OpsAt (w : World) (v : Value) (l : List OpX) : Prop :=
  ∃ a cap, v = .slice a l.length cap ∧ l.length ≤ maxLen ∧ (l ≠ [] → ∃ b o, a = some ⟨b, o, none⟩ ∧ b < w.heap.size ∧ ∀ (i : Nat) x, l[i]? = some x → x.At w b (o + i * 8)) ∧ ∀ x ∈ l, x.Fits
theorem OpX.At.below {w w' : World} {b o : Nat} {x : OpX} (h : x.At w b o) (hb : Below w.heap.size w w') (hl : b < w.heap.size) : x.At w' b o :=
  ⟨(hb.cell (p := ⟨b, o, none⟩) hl).trans h.c0, (hb.cell (p := ⟨b, o + 1, none⟩) hl).trans h.c1, (hb.cell (p := ⟨b, o + 2, none⟩) hl).trans h.c2, (hb.cell (p := ⟨b, o + 3, none⟩) hl).trans h.c3,
   (hb.cell (p := ⟨b, o + 4, none⟩) hl).trans h.c4, (hb.cell (p := ⟨b, o + 5, none⟩) hl).trans h.c5, (hb.cell (p := ⟨b, o + 6, none⟩) hl).trans h.c6, (hb.cell (p := ⟨b, o + 7, none⟩) hl).trans h.c7⟩
theorem OpsAt.below {w w' : World} {v : Value} {l : List OpX} (h : OpsAt w v l) (hb : Below w.heap.size w w') : OpsAt w' v l := by
  obtain ⟨a, cap, rfl, hm, hc, hf⟩ := h
  refine ⟨a, cap, rfl, hm, fun hne => ?_, hf⟩
  obtain ⟨b, o, rfl, hlt, hx⟩ := hc hne
  exact ⟨b, o, rfl, Nat.lt_of_lt_of_le hlt hb.size, fun i x hi => (hx i x hi).below hb hlt⟩

section
variable {H : Type} {enc : TypeId × Value → H} {w : World} {base : Nat} {spare : Nat → Bool} {held : Bool}

set_option maxRecDepth 100000 in
theorem open_op {n : Nat} {cs : List Value} {y : DataW H × List MemPlace} (h : DataW.trod enc Try.prog w base spare held n 34 cs = some y) :
    ∃ x : OpX, cs = [.int .i64 x.kind, .string x.name, .string x.other, .string x.data, .int .i64 x.a, .int .i64 x.b, .int .i64 x.c, .slice x.ka x.kn x.kc] ∧ x.Fits := by
  obtain ⟨xs, m, _, _, hl, hxl, hf⟩ := DataW.trod_struct Try.underlying34 h
  have k3 : Try.prog.cellsOf 3 = 1 := by kernel_rfl
  have k9 : Try.prog.cellsOf 9 = 1 := by kernel_rfl
  have k32 : Try.prog.cellsOf 32 = 2 := by kernel_rfl
  have k30 : Try.prog.cellsOf 30 = 1 := by kernel_rfl
  have k34 : Try.prog.cellsOf 34 = 8 := by kernel_rfl
  rw [k34] at hl
  match xs, hxl with
  | [y0, y1, y2, y3, y4, y5, y6], _ =>
    match cs, hl with
    | [e0, e1, e2, e3, e4, e5, e6, e7], _ =>
      have h0 := hf 0 _ rfl
      have h1 := hf 1 _ rfl
      have h2 := hf 2 _ rfl
      have h3 := hf 3 _ rfl
      have h4 := hf 4 _ rfl
      have h5 := hf 5 _ rfl
      have h6 := hf 6 _ rfl
      simp only [k3, k9, k32, List.drop_zero, List.drop_succ_cons, List.take_succ_cons, List.take_zero, List.getElem?_cons_zero, List.getElem?_cons_succ] at h0 h1 h2 h3 h4 h5 h6
      obtain ⟨q0, r0, _, _⟩ := DataW.trod_int Try.underlying3 h0
      obtain ⟨q1, r1, _, s1⟩ := DataW.trod_string Try.underlying9 h1
      obtain ⟨q2, r2, _, s2⟩ := DataW.trod_string Try.underlying9 h2
      obtain ⟨q3, r3, _, s3⟩ := DataW.trod_string Try.underlying9 h3
      obtain ⟨q4, r4, _, _⟩ := DataW.trod_int Try.underlying3 h4
      obtain ⟨q5, r5, _, _⟩ := DataW.trod_int Try.underlying3 h5
      obtain ⟨z0, z1, m', _, _, g0, g1⟩ := trod_struct2 Try.underlying32 h6
      rw [k3] at g0
      rw [k30] at g1
      change DataW.trod enc Try.prog w base spare held m' 3 [e6] = _ at g0
      change DataW.trod enc Try.prog w base spare held m' 30 [e7] = _ at g1
      obtain ⟨q6, r6, _, _⟩ := DataW.trod_int Try.underlying3 g0
      injection r0 with r0; injection r1 with r1; injection r2 with r2; injection r3 with r3; injection r4 with r4; injection r5 with r5; injection r6 with r6
      obtain ⟨a, nn, cc, r7⟩ : ∃ a nn cc, e7 = .slice a nn cc := by
        rcases open_slice Try.underlying30 g1 with ⟨hcs, _⟩ | ⟨a, len, cap, _, _, _, _, hcs, _⟩
        · injection hcs with hcs; exact ⟨_, _, _, hcs⟩
        · injection hcs with hcs; exact ⟨_, _, _, hcs⟩
      exact ⟨⟨q0, q1, q2, q3, q4, q5, q6, a, nn, cc⟩, by rw [r0, r1, r2, r3, r4, r5, r6, r7], ⟨s1, s2, s3⟩⟩

set_option maxRecDepth 100000 in
theorem open_ops {W : World} {v : Value} {d : DataW H} {p : List MemPlace} {r : Reach} {b0 : Nat} (hval : Value.okWide Try.prog W r b0 23 v) (h : DataW.Trod enc Try.prog W base (fun _ => true) true 23 v d p) : ∃ l : List OpX, OpsAt W v l := by
  obtain ⟨a0, n0, c0, rfl⟩ := okWide_slice Try.underlying23 hval
  obtain ⟨fuel, hf⟩ := h
  rcases open_slice Try.underlying23 hf with ⟨hcs, _⟩ | ⟨a, len, cap, m, n, D, Pl, hcs, _, hl, hm, hmm, _, hi⟩
  · simp only [Value.cells] at hcs
    simp at hcs
    obtain ⟨rfl, rfl, rfl⟩ := hcs
    exact ⟨[], none, 0, rfl, by simp, fun hne => absurd rfl hne, by simp⟩
  · simp only [Value.cells] at hcs
    simp at hcs
    obtain ⟨rfl, rfl, rfl⟩ := hcs
    have k34 : Try.prog.cellsOf 34 = 8 := by kernel_rfl
    rw [k34] at hi
    have hmn : n0 ≤ m := by rw [hmm]; simp; exact hl
    have hspot : 0 < n0 → a.spot = none := fun hp => by
      obtain ⟨cs', hc, ht⟩ := hi 0 (by omega)
      obtain ⟨x, rfl, _⟩ := open_op ht
      obtain ⟨_, _, hat⟩ := World.cells?_some hc
      have := World.cell?_spot ((hat 0 (by decide)).trans rfl)
      simpa [Addr.add] using this
    have hex : ∀ i : Nat, ∃ x : OpX, i < n0 → x.Fits ∧ a.spot = none ∧ a.block < W.heap.size ∧ x.At W a.block (a.off + i * 8) := by
      intro i
      by_cases hlt : i < n0
      · obtain ⟨cs', hc, ht⟩ := hi i (by omega)
        obtain ⟨x, rfl, hx⟩ := open_op ht
        obtain ⟨_, _, hat⟩ := World.cells?_some hc
        have g0 := hat 0 (by decide)
        have hsp : a.spot = none := hspot (by omega)
        have hadd : ∀ j, (a.add (i * 8)).add j = ⟨a.block, a.off + i * 8 + j, none⟩ := fun j => by
          rw [add_add]
          obtain ⟨ab, ao, asp⟩ := a
          simp only at hsp
          subst hsp
          unfold Addr.add
          split
          · next h =>
            have h1 : i * 8 = 0 := by omega
            have h2 : j = 0 := by omega
            rw [h1, h2]; rfl
          · rw [Nat.add_assoc]
        have hbl : a.block < W.heap.size := by
          have := World.block_lt_of_cell? W _ (g0.trans rfl)
          rw [hadd] at this
          exact this
        refine ⟨x, fun _ => ⟨hx, hsp, hbl, ?_⟩⟩
        have hc : ∀ j, j < 8 → W.cell? ⟨a.block, a.off + i * 8 + j, none⟩ = [Value.int .i64 x.kind, .string x.name, .string x.other, .string x.data, .int .i64 x.a, .int .i64 x.b, .int .i64 x.c, .slice x.ka x.kn x.kc][j]? := fun j hj => by
          rw [← hadd]; exact hat j hj
        exact ⟨hc 0 (by decide), hc 1 (by decide), hc 2 (by decide), hc 3 (by decide), hc 4 (by decide), hc 5 (by decide), hc 6 (by decide), hc 7 (by decide)⟩
      · exact ⟨default, fun h => absurd h hlt⟩
    obtain ⟨g, hg⟩ := Classical.axiomOfChoice hex
    have hln : ((List.range n0).map g).length = n0 := by simp
    have hget : ∀ (i : Nat) x, ((List.range n0).map g)[i]? = some x → i < n0 ∧ x = g i := fun i x hx => by
      rw [List.getElem?_map] at hx
      by_cases hlt : i < n0
      · rw [List.getElem?_range hlt] at hx; exact ⟨hlt, (Option.some.inj hx).symm⟩
      · rw [List.getElem?_eq_none (by simp; omega)] at hx; simp at hx
    refine ⟨(List.range n0).map g, some a, c0, by rw [hln], by rw [hln]; omega, fun hne => ?_, fun x hx => ?_⟩
    · have hpos : 0 < n0 := by
        rcases Nat.eq_zero_or_pos n0 with e | e
        · exact absurd (by rw [e]; rfl) hne
        · exact e
      obtain ⟨_, hsp, hbl, _⟩ := hg 0 hpos
      refine ⟨a.block, a.off, ?_, hbl, fun i x hx => ?_⟩
      · obtain ⟨ab, ao, asp⟩ := a
        simp only at hsp
        subst hsp; rfl
      · obtain ⟨hlt, rfl⟩ := hget i x hx
        exact (hg i hlt).2.2.2
    · obtain ⟨i, hi', rfl⟩ := List.mem_map.1 hx
      exact (hg i (List.mem_range.1 hi')).1
end
end Go.Proofs.Ytcfdfpjemonhoaa.Dk
