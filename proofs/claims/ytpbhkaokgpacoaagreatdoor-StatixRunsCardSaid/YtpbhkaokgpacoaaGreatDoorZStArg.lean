import Derived.Test.YtpbhkaokgpacoaaGreatDoorZStLawSt
import Derived.Test.YtpbhkaokgpacoaaGreatDoorZRowKit
import Derived.Carry
import Derived.Deep.Slices
import Derived.ChangeSame
import Derived.SizedLaws
set_option linter.unusedSimpArgs false
set_option linter.unusedVariables false
/-
  The law's argument, opened: a list of steps.
-/
namespace Go.Proofs.YtpbhkaokgpacoaaGreatDoor.St
open Go.RowKit Go.ChangeShapes Go.WideShapes Go.Deep Go.Proofs.YtpbhkaokgpacoaaGreatDoor.Rf Go.Proofs.YtpbhkaokgpacoaaGreatDoor.Rd

/-- A step, as it lies. -/
structure StpX where
  kind : Int
  who : Int
  e : It
  pv : Value
  ps : List (List UInt8)
instance : Inhabited StpX := ⟨⟨0, 0, default, .slice none 0 0, []⟩⟩
structure StpX.Fits (W : World) (x : StpX) : Prop where
  e : x.e.Fits
  pv : StrsAt W x.pv x.ps
  ps : x.ps.length * 16 ≤ 140737488351232
  pz : ∀ n cap, x.pv = .slice none n cap → cap = 0
def StpX.cells (x : StpX) : List Value := .int .i64 x.kind :: .int .i64 x.who :: (x.e.cells ++ [x.pv])
def StpX.At (w : World) (b o : Nat) (x : StpX) : Prop := ∀ (j : Nat) v, x.cells[j]? = some v → w.cell? ⟨b, o + j, none⟩ = some v
def StepsAt (w : World) (v : Value) (l : List StpX) : Prop :=
  ∃ a cap, v = .slice a l.length cap ∧ l.length ≤ maxLen ∧ (l ≠ [] → ∃ b o, a = some ⟨b, o, none⟩ ∧ b < w.heap.size ∧ ∀ (i : Nat) x, l[i]? = some x → x.At w b (o + i * 10)) ∧ ∀ x ∈ l, x.Fits w

set_option linter.unusedSimpArgs false
section
variable {H : Type} {enc : TypeId × Value → H} {w : World} {base : Nat} {spare : Nat → Bool} {held : Bool}

theorem all_mem {l : List Nat} (h : l.all (· ≤ reachBytes) = true) {x : Nat} (hx : x ∈ l) : x ≤ 140737488351232 := by
  have := List.all_eq_true.1 h x hx
  have h2 : reachBytes ≤ 140737488351232 := by decide
  simp only [decide_eq_true_eq] at this
  omega
theorem all_sub {l m : List Nat} (h : l.all (· ≤ reachBytes) = true) (hm : ∀ x ∈ m, x ∈ l) : m.all (· ≤ reachBytes) = true :=
  List.all_eq_true.2 (fun x hx => List.all_eq_true.1 h x (hm x hx))

set_option maxRecDepth 100000 in
theorem open_item {n : Nat} {cs : List Value} {y : DataW H × List MemPlace} (h : DataW.trod enc Tryz.prog w base spare held n 33 cs = some y) (hz : (DataW.weights Tryz.prog 33 y.1).all (· ≤ reachBytes) = true) :
    ∃ x : It, cs = x.cells ∧ x.Fits := by
  obtain ⟨xs, m, _, rfl, hl, hxl, hf⟩ := DataW.trod_struct Tryz.underlying33 h
  have k3 : Tryz.prog.cellsOf 3 = 1 := by kernel_rfl
  have k2 : Tryz.prog.cellsOf 2 = 1 := by kernel_rfl
  have k9 : Tryz.prog.cellsOf 9 = 1 := by kernel_rfl
  have k5 : Tryz.prog.cellsOf 5 = 1 := by kernel_rfl
  have k6 : Tryz.prog.cellsOf 31 = 1 := by kernel_rfl
  have k33 : Tryz.prog.cellsOf 33 = 7 := by kernel_rfl
  rw [k33] at hl
  match xs, hxl with
  | [y0, y1, y2, y3, y4, y5, y6], _ =>
    match cs, hl with
    | [e0, e1, e2, e3, e4, e5, e6], _ =>
      have h0 := hf 0 _ rfl
      have h1 := hf 1 _ rfl
      have h2 := hf 2 _ rfl
      have h3 := hf 3 _ rfl
      have h4 := hf 4 _ rfl
      have h5 := hf 5 _ rfl
      have h6 := hf 6 _ rfl
      simp only [k3, k2, k9, k5, k6, List.drop_zero, List.drop_succ_cons, List.take_succ_cons, List.take_zero, List.getElem?_cons_zero, List.getElem?_cons_succ] at h0 h1 h2 h3 h4 h5 h6
      obtain ⟨q0, r0, t0, _⟩ := DataW.trod_string Tryz.underlying9 h0
      obtain ⟨q1, r1, _, s1⟩ := DataW.trod_int Tryz.underlying5 h1
      obtain ⟨q2, r2, _, s2⟩ := DataW.trod_int Tryz.underlying3 h2
      obtain ⟨q3, r3, _, s3⟩ := DataW.trod_int Tryz.underlying31 h3
      obtain ⟨q4, r4, _, s4⟩ := DataW.trod_int Tryz.underlying2 h4
      obtain ⟨q5, r5, _, s5⟩ := DataW.trod_int Tryz.underlying5 h5
      obtain ⟨q6, r6, t6, _⟩ := DataW.trod_string Tryz.underlying9 h6
      have hz2 : (DataW.weightsEach Tryz.prog [9, 5, 3, 31, 2, 5, 9] [y0.1, y1.1, y2.1, y3.1, y4.1, y5.1, y6.1]).all (· ≤ reachBytes) = true := by
        have hz' := hz
        simp only [DataW.weights, Tryz.underlying33] at hz'
        exact hz'
      have w0 : q0.size ≤ 140737488351232 := by
        refine all_mem hz2 (DataW.weights_mem_each (j := 0) rfl rfl _ ?_)
        rw [t0]; simp [DataW.weights, ← Lib.size_eq]
      have w6 : q6.size ≤ 140737488351232 := by
        refine all_mem hz2 (DataW.weights_mem_each (j := 6) rfl rfl _ ?_)
        rw [t6]; simp [DataW.weights, ← Lib.size_eq]
      have hu : ∀ z : Int, (Lit.int .u8 z).wf = true → (((UInt8.ofNat z.toNat).toNat : Nat) : Int) = z := fun z s => by
        have hq : 0 ≤ z ∧ z < 256 := by
          simp [Lit.wf, IntKind.min, IntKind.max, IntKind.signed, IntKind.bits] at s
          omega
        have e : (UInt8.ofNat z.toNat).toNat = z.toNat := UInt8.toNat_ofNat_of_lt' (by show _ < 256; omega)
        rw [e]; omega
      have hi3 : 0 ≤ q3 ∧ q3 < 18446744073709551616 := by
        simp [Lit.wf, IntKind.min, IntKind.max, IntKind.signed, IntKind.bits] at s3
        omega
      have hi2 : -9223372036854775808 ≤ q2 ∧ q2 < 9223372036854775808 := by
        simp [Lit.wf, IntKind.min, IntKind.max, IntKind.signed, IntKind.bits] at s2
        omega
      have hi4 : -9223372036854775808 ≤ q4 ∧ q4 < 9223372036854775808 := by
        simp [Lit.wf, IntKind.min, IntKind.max, IntKind.signed, IntKind.bits] at s4
        omega
      have hn3 : ((q3.toNat : Nat) : Int) = q3 := by omega
      injection r0 with r0; injection r1 with r1; injection r2 with r2; injection r3 with r3; injection r4 with r4; injection r5 with r5; injection r6 with r6
      refine ⟨⟨q0.data.toList, UInt8.ofNat q1.toNat, q2, q3.toNat, q4, UInt8.ofNat q5.toNat, q6.data.toList⟩, ?_, ?_⟩
      · simp only [It.cells, ba_mk, hu q1 s1, hu q5 s5, hn3]
        rw [r0, r1, r2, r3, r4, r5, r6]
      · exact ⟨by show q0.data.toList.length ≤ _; rw [← Lib.size_eq]; omega, hi2, by show q3.toNat < _; omega, hi4, by show q6.data.toList.length ≤ _; rw [← Lib.size_eq]; omega⟩

theorem weights_all {P : Program} {e : TypeId} {x : Nat} : ∀ {l : List (DataW H)} {i : Nat} {d : DataW H}, l[i]? = some d → x ∈ DataW.weights P e d → x ∈ DataW.weightsAll P e l
  | [], _, _, h, _ => by simp at h
  | y :: r, 0, d, h, hx => by
    simp at h; subst h
    simp [DataW.weightsAll, hx]
  | y :: r, i + 1, d, h, hx => by
    have := weights_all (l := r) (by simpa using h) hx
    simp [DataW.weightsAll, this]

set_option maxRecDepth 100000 in
theorem open_paths {n : Nat} {v : Value} {y : DataW H × List MemPlace} (h : DataW.trod enc Tryz.prog w base spare held n 34 [v] = some y) (hz : (DataW.weights Tryz.prog 34 y.1).all (· ≤ reachBytes) = true) :
    ∃ ps, StrsAt w v ps ∧ ps.length * 16 ≤ 140737488351232 ∧ ∀ k cap, v = .slice none k cap → cap = 0 := by
  have k9 : Tryz.prog.cellsOf 9 = 1 := by kernel_rfl
  have kb : Tryz.prog.bytesOf 9 = 16 := by kernel_rfl
  rcases open_slice1 Tryz.underlying34 k9 h with ⟨hcs, _⟩ | ⟨a, len, cap, m, n', V, D, Pl, hcs, _, hl, hm, hmm, hx, hi⟩
  · injection hcs with hcs
    exact ⟨[], ⟨none, 0, hcs, by simp, by simp, fun hne => absurd rfl hne⟩, by simp, fun k cap e => by rw [hcs] at e; injection e with _ _ e; exact e.symm⟩
  · injection hcs with hcs
    have hlm : len ≤ m := by rw [hmm]; split <;> omega
    have hw : (len + (m - len)) * 16 ≤ 140737488351232 := by
      refine all_mem hz ?_
      rw [hx]; simp [DataW.weights, Tryz.underlying34, kb]
    have hst : ∀ i, i < m → ∃ s : ByteArray, V i = .string s ∧ s.size ≤ maxLen := fun i him => by
      obtain ⟨s, r, _, hs⟩ := DataW.trod_string Tryz.underlying9 (hi i him).2
      injection r with r
      exact ⟨s, r, hs⟩
    have hex : ∀ i : Nat, ∃ s : ByteArray, i < m → V i = .string s ∧ s.size ≤ maxLen := fun i => by
      by_cases him : i < m
      · obtain ⟨s, hs⟩ := hst i him; exact ⟨s, fun _ => hs⟩
      · exact ⟨.empty, fun h => absurd h him⟩
    obtain ⟨s, hs⟩ := Classical.axiomOfChoice hex
    have hspot : 0 < len → a.spot = none ∧ a.block < w.heap.size := fun hp => by
      have hc := (hi 0 (by omega)).1
      have h1 := World.cell?_spot hc
      have h2 := World.block_lt_of_cell? w _ hc
      simp [Addr.add] at h1 h2
      exact ⟨h1, h2⟩
    have hget : ∀ (i : Nat) p, ((List.range len).map fun i => (s i).data.toList)[i]? = some p → i < len ∧ p = (s i).data.toList := fun i p hp => by
      rw [List.getElem?_map] at hp
      by_cases hlt : i < len
      · rw [List.getElem?_range hlt] at hp; exact ⟨hlt, (Option.some.inj hp).symm⟩
      · rw [List.getElem?_eq_none (by simp; omega)] at hp; simp at hp
    have hln : ((List.range len).map fun i => (s i).data.toList).length = len := by simp
    refine ⟨(List.range len).map fun i => (s i).data.toList, ⟨some a, cap, by rw [hln]; exact hcs, by rw [hln]; omega, fun p hp => ?_, fun hne => ?_⟩, by rw [hln]; omega, fun k cap' e => by rw [hcs] at e; cases e⟩
    · obtain ⟨i, hi', rfl⟩ := List.mem_map.1 hp
      have := (hs i (by have := List.mem_range.1 hi'; omega)).2
      rw [← Lib.size_eq]; exact this
    · have hpos : 0 < len := by
        rcases Nat.eq_zero_or_pos len with e | e
        · exact absurd (by rw [e]; rfl) hne
        · exact e
      obtain ⟨hsp, hbl⟩ := hspot hpos
      obtain ⟨ab, ao, asp⟩ := a
      simp only at hsp hbl
      subst hsp
      refine ⟨ab, ao, rfl, hbl, fun i p hp => ?_⟩
      obtain ⟨hlt, rfl⟩ := hget i p hp
      have hc := (hi i (by omega)).1
      rw [(hs i (by omega)).1] at hc
      rw [ba_mk, ← Addr.add_lit]; exact hc

set_option maxRecDepth 100000 in
theorem open_step {n : Nat} {cs : List Value} {y : DataW H × List MemPlace} (h : DataW.trod enc Tryz.prog w base spare held n 36 cs = some y) (hz : (DataW.weights Tryz.prog 36 y.1).all (· ≤ reachBytes) = true) :
    ∃ x : StpX, cs = x.cells ∧ x.Fits w := by
  obtain ⟨xs, m, _, rfl, hl, hxl, hf⟩ := DataW.trod_struct Tryz.underlying36 h
  have k3 : Tryz.prog.cellsOf 3 = 1 := by kernel_rfl
  have k33 : Tryz.prog.cellsOf 33 = 7 := by kernel_rfl
  have k34 : Tryz.prog.cellsOf 34 = 1 := by kernel_rfl
  have k36 : Tryz.prog.cellsOf 36 = 10 := by kernel_rfl
  rw [k36] at hl
  match xs, hxl with
  | [y0, y1, y2, y3], _ =>
    match cs, hl with
    | [e0, e1, e2, e3, e4, e5, e6, e7, e8, e9], _ =>
      have h0 := hf 0 _ rfl
      have h1 := hf 1 _ rfl
      have h2 := hf 2 _ rfl
      have h3 := hf 3 _ rfl
      simp only [k3, k33, k34, List.drop_zero, List.drop_succ_cons, List.take_succ_cons, List.take_zero, List.getElem?_cons_zero, List.getElem?_cons_succ] at h0 h1 h2 h3
      have hz2 : (DataW.weightsEach Tryz.prog [3, 3, 33, 34] [y0.1, y1.1, y2.1, y3.1]).all (· ≤ reachBytes) = true := by
        have hz' := hz
        simp only [DataW.weights, Tryz.underlying36] at hz'
        exact hz'
      obtain ⟨q0, r0, _, _⟩ := DataW.trod_int Tryz.underlying3 h0
      obtain ⟨q1, r1, _, _⟩ := DataW.trod_int Tryz.underlying3 h1
      obtain ⟨x, hx, hxf⟩ := open_item h2 (all_sub hz2 (fun z hzm => DataW.weights_mem_each (j := 2) rfl rfl _ hzm))
      obtain ⟨ps, hp1, hp2, hp3⟩ := open_paths h3 (all_sub hz2 (fun z hzm => DataW.weights_mem_each (j := 3) rfl rfl _ hzm))
      injection r0 with r0; injection r1 with r1
      refine ⟨⟨q0, q1, x, e9, ps⟩, ?_, ⟨hxf, hp1, hp2, hp3⟩⟩
      rw [StpX.cells, ← hx, r0, r1]; rfl

set_option maxRecDepth 100000 in
theorem open_steps {W : World} {v : Value} {d : DataW H} {p : List MemPlace} {r : Reach} {b0 : Nat} (hval : Value.okWide Tryz.prog W r b0 22 v) (h : DataW.Trod enc Tryz.prog W base (fun _ => true) true 22 v d p)
    (hz : (DataW.weights Tryz.prog 22 d).all (· ≤ reachBytes) = true) : ∃ l : List StpX, StepsAt W v l := by
  obtain ⟨a0, n0, c0, rfl⟩ := okWide_slice Tryz.underlying22 hval
  obtain ⟨fuel, hf⟩ := h
  rcases open_slice Tryz.underlying22 hf with ⟨hcs, _⟩ | ⟨a, len, cap, m, n, D, Pl, hcs, _, hl, hm, hmm, hx, hi⟩
  · simp only [Value.cells] at hcs
    simp at hcs
    obtain ⟨rfl, rfl, rfl⟩ := hcs
    exact ⟨[], none, 0, rfl, by simp, fun hne => absurd rfl hne, by simp⟩
  · simp only [Value.cells] at hcs
    simp at hcs
    obtain ⟨rfl, rfl, rfl⟩ := hcs
    have k34 : Tryz.prog.cellsOf 36 = 10 := by kernel_rfl
    rw [k34] at hi
    have hmn : n0 ≤ m := by rw [hmm]; simp; exact hl
    have hd : d = .slice ((List.range n0).map D) ((List.range (m - n0)).map fun j => D (n0 + j)) := congrArg Prod.fst hx
    have hzi : ∀ i, i < n0 → (DataW.weights Tryz.prog 36 (D i)).all (· ≤ reachBytes) = true := fun i hi' => all_sub hz (fun z hzm => by
      rw [hd]
      simp only [DataW.weights, Tryz.underlying22]
      refine List.mem_cons_of_mem _ (List.mem_append_left _ (weights_all (i := i) ?_ hzm))
      rw [List.getElem?_map, List.getElem?_range hi']; rfl)
    have hspot : 0 < n0 → a.spot = none := fun hp => by
      obtain ⟨cs', hc, ht⟩ := hi 0 (by omega)
      obtain ⟨x, rfl, _⟩ := open_step ht (hzi 0 hp)
      obtain ⟨_, _, hat⟩ := World.cells?_some hc
      have := World.cell?_spot ((hat 0 (by simp [StpX.cells])).trans rfl)
      simpa [Addr.add] using this
    have hex : ∀ i : Nat, ∃ x : StpX, i < n0 → x.Fits W ∧ a.spot = none ∧ a.block < W.heap.size ∧ x.At W a.block (a.off + i * 10) := by
      intro i
      by_cases hlt : i < n0
      · obtain ⟨cs', hc, ht⟩ := hi i (by omega)
        obtain ⟨x, rfl, hx⟩ := open_step ht (hzi i hlt)
        obtain ⟨_, _, hat⟩ := World.cells?_some hc
        have g0 := hat 0 (by simp [StpX.cells])
        have hsp : a.spot = none := hspot (by omega)
        have hadd : ∀ j, (a.add (i * 10)).add j = ⟨a.block, a.off + i * 10 + j, none⟩ := fun j => by
          rw [add_add]
          obtain ⟨ab, ao, asp⟩ := a
          simp only at hsp
          subst hsp
          unfold Addr.add
          split
          · next h =>
            have h1 : i * 10 = 0 := by omega
            have h2 : j = 0 := by omega
            rw [h1, h2]; rfl
          · rw [Nat.add_assoc]
        have hbl : a.block < W.heap.size := by
          have := World.block_lt_of_cell? W _ (g0.trans rfl)
          rw [hadd] at this
          exact this
        refine ⟨x, fun _ => ⟨hx, hsp, hbl, ?_⟩⟩
        intro j v hv
        rw [← hadd]
        exact (hat j (List.getElem?_eq_some_iff.1 hv).1).trans hv
      · exact ⟨default, fun h => absurd h hlt⟩
    obtain ⟨g, hg⟩ := Classical.axiomOfChoice hex
    have hln : ((List.range n0).map g).length = n0 := by simp
    have hget : ∀ (i : Nat) x, ((List.range n0).map g)[i]? = some x → i < n0 ∧ x = g i := fun i x hx => by
      rw [List.getElem?_map] at hx
      by_cases hlt : i < n0
      · rw [List.getElem?_range hlt] at hx; exact ⟨hlt, (Option.some.inj hx).symm⟩
      · rw [List.getElem?_eq_none (by simp; omega)] at hx; simp at hx
    refine ⟨(List.range n0).map g, some a, c0, by rw [hln], by rw [hln]; omega, fun hne => ?_, fun x hx => ?_⟩
    · have hpos : 0 < n0 := by
        rcases Nat.eq_zero_or_pos n0 with e | e
        · exact absurd (by rw [e]; rfl) hne
        · exact e
      obtain ⟨_, hsp, hbl, _⟩ := hg 0 hpos
      refine ⟨a.block, a.off, ?_, hbl, fun i x hx => ?_⟩
      · obtain ⟨ab, ao, asp⟩ := a
        simp only at hsp
        subst hsp; rfl
      · obtain ⟨hlt, rfl⟩ := hget i x hx
        exact (hg i hlt).2.2.2
    · obtain ⟨i, hi', rfl⟩ := List.mem_map.1 hx
      exact (hg i (List.mem_range.1 hi')).1
end
end Go.Proofs.YtpbhkaokgpacoaaGreatDoor.St
