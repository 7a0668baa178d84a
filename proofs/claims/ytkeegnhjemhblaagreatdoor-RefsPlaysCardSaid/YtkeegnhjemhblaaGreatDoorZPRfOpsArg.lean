import Derived.Test.YtkeegnhjemhblaaGreatDoorZPRowKit
import Derived.Carry
import Derived.Deep.Slices
import Derived.ChangeSame
set_option linter.unusedSimpArgs false
set_option linter.unusedVariables false
/-
  The law's argument, opened: a list of calls at a book.
-/
namespace Go.Proofs.YtkeegnhjemhblaaGreatDoor.Rf
open Go.RowKit Go.ChangeShapes Go.WideShapes Go.Deep

/-- A call, as it lies. -/
structure OpX where
  kind : Int
  name : ByteArray
  other : ByteArray
  c : UInt8
  t : Int
  n : Int
instance : Inhabited OpX := ⟨⟨0, .empty, .empty, 0, 0, 0⟩⟩
structure OpX.Fits (x : OpX) : Prop where
  name : x.name.size ≤ maxLen
  other : x.other.size ≤ maxLen
/-- The six cells of a call. -/
def OpX.cells (x : OpX) : List Value := [.int .i64 x.kind, .string x.name, .string x.other, .int .u8 (x.c.toNat : Int), .int .i64 x.t, .int .i64 x.n]
def OpX.At (w : World) (b o : Nat) (x : OpX) : Prop := ∀ (j : Nat) v, x.cells[j]? = some v → w.cell? ⟨b, o + j, none⟩ = some v
/-- A list of calls. -/
def OpsAt (w : World) (v : Value) (l : List OpX) : Prop :=
  ∃ a cap, v = .slice a l.length cap ∧ l.length ≤ maxLen ∧ (l ≠ [] → ∃ b o, a = some ⟨b, o, none⟩ ∧ b < w.heap.size ∧ ∀ (i : Nat) x, l[i]? = some x → x.At w b (o + i * 6)) ∧ ∀ x ∈ l, x.Fits

set_option linter.unusedSimpArgs false
section
variable {H : Type} {enc : TypeId × Value → H} {w : World} {base : Nat} {spare : Nat → Bool} {held : Bool}

set_option maxRecDepth 100000 in
theorem open_op {n : Nat} {cs : List Value} {y : DataW H × List MemPlace} (h : DataW.trod enc Tryz.prog w base spare held n 39 cs = some y) :
    ∃ x : OpX, cs = x.cells ∧ x.Fits := by
  obtain ⟨xs, m, _, _, hl, hxl, hf⟩ := DataW.trod_struct Tryz.underlying39 h
  have k3 : Tryz.prog.cellsOf 3 = 1 := by kernel_rfl
  have k2 : Tryz.prog.cellsOf 2 = 1 := by kernel_rfl
  have k9 : Tryz.prog.cellsOf 9 = 1 := by kernel_rfl
  have k5 : Tryz.prog.cellsOf 5 = 1 := by kernel_rfl
  have k34 : Tryz.prog.cellsOf 39 = 6 := by kernel_rfl
  rw [k34] at hl
  match xs, hxl with
  | [y0, y1, y2, y3, y4, y5], _ =>
    match cs, hl with
    | [e0, e1, e2, e3, e4, e5], _ =>
      have h0 := hf 0 _ rfl
      have h1 := hf 1 _ rfl
      have h2 := hf 2 _ rfl
      have h3 := hf 3 _ rfl
      have h4 := hf 4 _ rfl
      have h5 := hf 5 _ rfl
      simp only [k3, k2, k9, k5, List.drop_zero, List.drop_succ_cons, List.take_succ_cons, List.take_zero, List.getElem?_cons_zero, List.getElem?_cons_succ] at h0 h1 h2 h3 h4 h5
      obtain ⟨q0, r0, _, _⟩ := DataW.trod_int Tryz.underlying3 h0
      obtain ⟨q1, r1, _, s1⟩ := DataW.trod_string Tryz.underlying9 h1
      obtain ⟨q2, r2, _, s2⟩ := DataW.trod_string Tryz.underlying9 h2
      obtain ⟨q3, r3, _, s3⟩ := DataW.trod_int Tryz.underlying5 h3
      obtain ⟨q4, r4, _, _⟩ := DataW.trod_int Tryz.underlying2 h4
      obtain ⟨q5, r5, _, _⟩ := DataW.trod_int Tryz.underlying3 h5
      have hq : 0 ≤ q3 ∧ q3 < 256 := by
        simp [Lit.wf, IntKind.min, IntKind.max, IntKind.signed, IntKind.bits] at s3
        omega
      have hc : (((UInt8.ofNat q3.toNat).toNat : Nat) : Int) = q3 := by
        have e : (UInt8.ofNat q3.toNat).toNat = q3.toNat := UInt8.toNat_ofNat_of_lt' (by show _ < 256; omega)
        rw [e]; omega
      injection r0 with r0; injection r1 with r1; injection r2 with r2; injection r3 with r3; injection r4 with r4; injection r5 with r5
      exact ⟨⟨q0, q1, q2, UInt8.ofNat q3.toNat, q4, q5⟩, by rw [r0, r1, r2, r3, r4, r5, OpX.cells, hc], ⟨s1, s2⟩⟩

set_option maxRecDepth 100000 in
theorem open_ops {W : World} {v : Value} {d : DataW H} {p : List MemPlace} {r : Reach} {b0 : Nat} (hval : Value.okWide Tryz.prog W r b0 32 v) (h : DataW.Trod enc Tryz.prog W base (fun _ => true) true 32 v d p) : ∃ l : List OpX, OpsAt W v l := by
  obtain ⟨a0, n0, c0, rfl⟩ := okWide_slice Tryz.underlying32 hval
  obtain ⟨fuel, hf⟩ := h
  rcases open_slice Tryz.underlying32 hf with ⟨hcs, _⟩ | ⟨a, len, cap, m, n, D, Pl, hcs, _, hl, hm, hmm, _, hi⟩
  · simp only [Value.cells] at hcs
    simp at hcs
    obtain ⟨rfl, rfl, rfl⟩ := hcs
    exact ⟨[], none, 0, rfl, by simp, fun hne => absurd rfl hne, by simp⟩
  · simp only [Value.cells] at hcs
    simp at hcs
    obtain ⟨rfl, rfl, rfl⟩ := hcs
    have k34 : Tryz.prog.cellsOf 39 = 6 := by kernel_rfl
    rw [k34] at hi
    have hmn : n0 ≤ m := by rw [hmm]; simp; exact hl
    have hspot : 0 < n0 → a.spot = none := fun hp => by
      obtain ⟨cs', hc, ht⟩ := hi 0 (by omega)
      obtain ⟨x, rfl, _⟩ := open_op ht
      obtain ⟨_, _, hat⟩ := World.cells?_some hc
      have := World.cell?_spot ((hat 0 (by simp [OpX.cells])).trans rfl)
      simpa [Addr.add] using this
    have hex : ∀ i : Nat, ∃ x : OpX, i < n0 → x.Fits ∧ a.spot = none ∧ a.block < W.heap.size ∧ x.At W a.block (a.off + i * 6) := by
      intro i
      by_cases hlt : i < n0
      · obtain ⟨cs', hc, ht⟩ := hi i (by omega)
        obtain ⟨x, rfl, hx⟩ := open_op ht
        obtain ⟨_, _, hat⟩ := World.cells?_some hc
        have g0 := hat 0 (by simp [OpX.cells])
        have hsp : a.spot = none := hspot (by omega)
        have hadd : ∀ j, (a.add (i * 6)).add j = ⟨a.block, a.off + i * 6 + j, none⟩ := fun j => by
          rw [add_add]
          obtain ⟨ab, ao, asp⟩ := a
          simp only at hsp
          subst hsp
          unfold Addr.add
          split
          · next h =>
            have h1 : i * 6 = 0 := by omega
            have h2 : j = 0 := by omega
            rw [h1, h2]; rfl
          · rw [Nat.add_assoc]
        have hbl : a.block < W.heap.size := by
          have := World.block_lt_of_cell? W _ (g0.trans rfl)
          rw [hadd] at this
          exact this
        refine ⟨x, fun _ => ⟨hx, hsp, hbl, ?_⟩⟩
        intro j v hv
        rw [← hadd]
        exact (hat j (List.getElem?_eq_some_iff.1 hv).1).trans hv
      · exact ⟨default, fun h => absurd h hlt⟩
    obtain ⟨g, hg⟩ := Classical.axiomOfChoice hex
    have hln : ((List.range n0).map g).length = n0 := by simp
    have hget : ∀ (i : Nat) x, ((List.range n0).map g)[i]? = some x → i < n0 ∧ x = g i := fun i x hx => by
      rw [List.getElem?_map] at hx
      by_cases hlt : i < n0
      · rw [List.getElem?_range hlt] at hx; exact ⟨hlt, (Option.some.inj hx).symm⟩
      · rw [List.getElem?_eq_none (by simp; omega)] at hx; simp at hx
    refine ⟨(List.range n0).map g, some a, c0, by rw [hln], by rw [hln]; omega, fun hne => ?_, fun x hx => ?_⟩
    · have hpos : 0 < n0 := by
        rcases Nat.eq_zero_or_pos n0 with e | e
        · exact absurd (by rw [e]; rfl) hne
        · exact e
      obtain ⟨_, hsp, hbl, _⟩ := hg 0 hpos
      refine ⟨a.block, a.off, ?_, hbl, fun i x hx => ?_⟩
      · obtain ⟨ab, ao, asp⟩ := a
        simp only at hsp
        subst hsp; rfl
      · obtain ⟨hlt, rfl⟩ := hget i x hx
        exact (hg i hlt).2.2.2
    · obtain ⟨i, hi', rfl⟩ := List.mem_map.1 hx
      exact (hg i (List.mem_range.1 hi')).1
end
end Go.Proofs.YtkeegnhjemhblaaGreatDoor.Rf
