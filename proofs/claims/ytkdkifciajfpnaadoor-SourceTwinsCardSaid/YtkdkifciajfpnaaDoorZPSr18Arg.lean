import Derived.Test.YtkdkifciajfpnaaDoorZPSrPieces
import Derived.Test.YtkdkifciajfpnaaDoorZPStKit
import Derived.Test.YtkdkifciajfpnaaDoorZPRowKit
import Derived.Carry
import Derived.Deep.Slices
import Derived.ChangeSame
import Derived.SizedLaws
set_option linter.unusedSimpArgs false
set_option linter.unusedVariables false
/-
  The law's argument, opened: a list of steps.
-/
namespace Go.Proofs.YtkdkifciajfpnaaDoor.Sr
open Go.RowKit Go.ChangeShapes Go.WideShapes Go.Deep Go.Proofs.YtkdkifciajfpnaaDoor.Rf Go.Proofs.YtkdkifciajfpnaaDoor.Nm Go.Proofs.YtkdkifciajfpnaaDoor.St Go.Proofs.YtkdkifciajfpnaaDoor.Rd
set_option linter.unusedSimpArgs false
section
variable {H : Type} {enc : TypeId × Value → H} {w : World} {base : Nat} {spare : Nat → Bool} {held : Bool}
theorem all_mem {l : List Nat} (h : l.all (· ≤ reachBytes) = true) {x : Nat} (hx : x ∈ l) : x ≤ 140737488351232 := by
  have := List.all_eq_true.1 h x hx
  have h2 : reachBytes ≤ 140737488351232 := by decide
  simp only [decide_eq_true_eq] at this
  omega
theorem all_sub {l m : List Nat} (h : l.all (· ≤ reachBytes) = true) (hm : ∀ x ∈ m, x ∈ l) : m.all (· ≤ reachBytes) = true :=
  List.all_eq_true.2 (fun x hx => List.all_eq_true.1 h x (hm x hx))
theorem weights_all {P : Program} {e : TypeId} {x : Nat} : ∀ {l : List (DataW H)} {i : Nat} {d : DataW H}, l[i]? = some d → x ∈ DataW.weights P e d → x ∈ DataW.weightsAll P e l
  | [], _, _, h, _ => by simp at h
  | y :: r, 0, d, h, hx => by
    simp at h; subst h
    simp [DataW.weightsAll, hx]
  | y :: r, i + 1, d, h, hx => by
    have := weights_all (l := r) (by simpa using h) hx
    simp [DataW.weightsAll, this]
set_option maxRecDepth 100000 in
theorem open_xattr {n : Nat} {cs : List Value} {y : DataW H × List MemPlace} (h : DataW.trod enc Tryd.prog w base spare held n 77 cs = some y) :
    ∃ x : List UInt8 × List UInt8, cs = xpair x ∧ x.1.length ≤ maxLen ∧ x.2.length ≤ maxLen := by
  obtain ⟨xs, m, _, rfl, hl, hxl, hf⟩ := DataW.trod_struct Tryd.underlying77 h
  have k9 : Tryd.prog.cellsOf 9 = 1 := by kernel_rfl
  have k33 : Tryd.prog.cellsOf 77 = 2 := by kernel_rfl
  rw [k33] at hl
  match xs, hxl with
  | [y0, y1], _ =>
    match cs, hl with
    | [e0, e1], _ =>
      have h0 := hf 0 _ rfl
      have h1 := hf 1 _ rfl
      simp only [k9, List.drop_zero, List.drop_succ_cons, List.take_succ_cons, List.take_zero, List.getElem?_cons_zero, List.getElem?_cons_succ] at h0 h1
      obtain ⟨q0, r0, _, s0⟩ := DataW.trod_string Tryd.underlying9 h0
      obtain ⟨q1, r1, _, s1⟩ := DataW.trod_string Tryd.underlying9 h1
      injection r0 with r0; injection r1 with r1
      refine ⟨(q0.data.toList, q1.data.toList), ?_, by show q0.data.toList.length ≤ _; rw [← Lib.size_eq]; exact s0, by show q1.data.toList.length ≤ _; rw [← Lib.size_eq]; exact s1⟩
      simp only [xpair, ba_mk]
      rw [r0, r1]
set_option maxRecDepth 100000 in
theorem open_xats {n : Nat} {v : Value} {y : DataW H × List MemPlace} (h : DataW.trod enc Tryd.prog w base spare held n 24 [v] = some y) (hz : (DataW.weights Tryd.prog 24 y.1).all (· ≤ reachBytes) = true) :
    ∃ xs : Xs, XsAt w v xs ∧ xs.length * 32 ≤ 140737488351232 := by
  have k34 : Tryd.prog.cellsOf 77 = 2 := by kernel_rfl
  have kb : Tryd.prog.bytesOf 77 = 32 := by kernel_rfl
  rcases open_slice Tryd.underlying24 h with ⟨hcs, _⟩ | ⟨a, len, cap, m, n', D, Pl, hcs, _, hl, hm, hmm, hx, hi⟩
  · injection hcs with hcs
    exact ⟨[], ⟨none, 0, hcs, by simp, by simp, fun hne => absurd rfl hne⟩, by simp⟩
  · injection hcs with hcs
    rw [k34] at hi
    have hlm : len ≤ m := by rw [hmm]; split <;> omega
    have hw : (len + (m - len)) * 32 ≤ 140737488351232 := by
      refine all_mem hz ?_
      rw [hx]; simp [DataW.weights, Tryd.underlying24, kb]
    have hspot : 0 < len → a.spot = none := fun hp => by
      obtain ⟨cs', hc, ht⟩ := hi 0 (by omega)
      obtain ⟨x, rfl, _⟩ := open_xattr ht
      obtain ⟨_, _, hat⟩ := World.cells?_some hc
      have := World.cell?_spot ((hat 0 (by simp [xpair])).trans rfl)
      simpa [Addr.add] using this
    have hex : ∀ i : Nat, ∃ x : List UInt8 × List UInt8, i < len → x.1.length ≤ maxLen ∧ x.2.length ≤ maxLen ∧ a.spot = none ∧ a.block < w.heap.size ∧ w.rangeAt a.block (a.off + i * 2) (xpair x) := by
      intro i
      by_cases hlt : i < len
      · obtain ⟨cs', hc, ht⟩ := hi i (by omega)
        obtain ⟨x, rfl, hx1, hx2⟩ := open_xattr ht
        obtain ⟨_, _, hat⟩ := World.cells?_some hc
        have g0 := hat 0 (by simp [xpair])
        have hsp : a.spot = none := hspot (by omega)
        have hadd : ∀ j, (a.add (i * 2)).add j = ⟨a.block, a.off + i * 2 + j, none⟩ := fun j => by
          rw [add_add]
          obtain ⟨ab, ao, asp⟩ := a
          simp only at hsp
          subst hsp
          unfold Addr.add
          split
          · next h =>
            have h1 : i * 2 = 0 := by omega
            have h2 : j = 0 := by omega
            rw [h1, h2]; rfl
          · rw [Nat.add_assoc]
        have hbl : a.block < w.heap.size := by
          have := World.block_lt_of_cell? w _ (g0.trans rfl)
          rw [hadd] at this
          exact this
        refine ⟨x, fun _ => ⟨hx1, hx2, hsp, hbl, ?_⟩⟩
        intro j v hv
        rw [← hadd]
        exact (hat j (List.getElem?_eq_some_iff.1 hv).1).trans hv
      · exact ⟨([], []), fun h => absurd h hlt⟩
    obtain ⟨g, hg⟩ := Classical.axiomOfChoice hex
    have hln : ((List.range len).map g).length = len := by simp
    have hget : ∀ (i : Nat) x, ((List.range len).map g)[i]? = some x → i < len ∧ x = g i := fun i x hx => by
      rw [List.getElem?_map] at hx
      by_cases hlt : i < len
      · rw [List.getElem?_range hlt] at hx; exact ⟨hlt, (Option.some.inj hx).symm⟩
      · rw [List.getElem?_eq_none (by simp; omega)] at hx; simp at hx
    refine ⟨(List.range len).map g, ⟨some a, cap, by rw [hln]; exact hcs, by rw [hln]; unfold maxLen; omega, fun x hx => ?_, fun hne => ?_⟩, by rw [hln]; omega⟩
    · obtain ⟨i, hi', rfl⟩ := List.mem_map.1 hx
      have := hg i (List.mem_range.1 hi')
      exact ⟨this.1, this.2.1⟩
    · have hpos : 0 < len := by
        rcases Nat.eq_zero_or_pos len with e | e
        · exact absurd (by rw [e]; rfl) hne
        · exact e
      obtain ⟨_, _, hsp, hbl, _⟩ := hg 0 hpos
      refine ⟨a.block, a.off, ?_, hbl, fun i x hx => ?_⟩
      · obtain ⟨ab, ao, asp⟩ := a
        simp only at hsp
        subst hsp; rfl
      · obtain ⟨hlt, rfl⟩ := hget i x hx
        have hr := (hg i hlt).2.2.2.2
        exact ⟨hr 0 _ rfl, hr 1 _ rfl⟩
set_option maxRecDepth 100000 in
theorem open_attr {n : Nat} {cs : List Value} {y : DataW H × List MemPlace} (h : DataW.trod enc Tryd.prog w base spare held n 26 cs = some y) (hz : (DataW.weights Tryd.prog 26 y.1).all (· ≤ reachBytes) = true) :
    ∃ (A : XA) (v : Value), cs = A.cells v ∧ A.target.length ≤ 140737488351232 ∧ XsAt w v A.xs ∧ A.xs.length * 32 ≤ 140737488351232 := by
  obtain ⟨xs, m, _, rfl, hl, hxl, hf⟩ := DataW.trod_struct Tryd.underlying26 h
  have k2 : Tryd.prog.cellsOf 2 = 1 := by kernel_rfl
  have k9 : Tryd.prog.cellsOf 9 = 1 := by kernel_rfl
  have k5 : Tryd.prog.cellsOf 5 = 1 := by kernel_rfl
  have k6 : Tryd.prog.cellsOf 23 = 1 := by kernel_rfl
  have k7 : Tryd.prog.cellsOf 24 = 1 := by kernel_rfl
  have k33 : Tryd.prog.cellsOf 26 = 7 := by kernel_rfl
  rw [k33] at hl
  match xs, hxl with
  | [y0, y1, y2, y3, y4, y5, y6], _ =>
    match cs, hl with
    | [e0, e1, e2, e3, e4, e5, e6], _ =>
      have h0 := hf 0 _ rfl
      have h1 := hf 1 _ rfl
      have h2 := hf 2 _ rfl
      have h3 := hf 3 _ rfl
      have h4 := hf 4 _ rfl
      have h5 := hf 5 _ rfl
      have h6 := hf 6 _ rfl
      simp only [k2, k9, k5, k6, k7, List.drop_zero, List.drop_succ_cons, List.take_succ_cons, List.take_zero, List.getElem?_cons_zero, List.getElem?_cons_succ] at h0 h1 h2 h3 h4 h5 h6
      obtain ⟨q0, r0, _, s0⟩ := DataW.trod_int Tryd.underlying5 h0
      obtain ⟨q1, r1, _, s1⟩ := DataW.trod_int Tryd.underlying23 h1
      obtain ⟨q2, r2, _, s2⟩ := DataW.trod_int Tryd.underlying23 h2
      obtain ⟨q3, r3, _, s3⟩ := DataW.trod_int Tryd.underlying23 h3
      obtain ⟨q4, r4, _, s4⟩ := DataW.trod_int Tryd.underlying2 h4
      obtain ⟨q5, r5, t5, _⟩ := DataW.trod_string Tryd.underlying9 h5
      have hz2 : (DataW.weightsEach Tryd.prog [5, 23, 23, 23, 2, 9, 24] [y0.1, y1.1, y2.1, y3.1, y4.1, y5.1, y6.1]).all (· ≤ reachBytes) = true := by
        have hz' := hz
        simp only [DataW.weights, Tryd.underlying26] at hz'
        exact hz'
      obtain ⟨X, hX, hXl⟩ := open_xats h6 (all_sub hz2 (fun z hzm => DataW.weights_mem_each (j := 6) rfl rfl _ hzm))
      have w5 : q5.size ≤ 140737488351232 := by
        refine all_mem hz2 (DataW.weights_mem_each (j := 5) rfl rfl _ ?_)
        rw [t5]; simp [DataW.weights, ← Lib.size_eq]
      have p0 : ((q0.toNat : Nat) : Int) = q0 := by
        simp [Lit.wf, IntKind.min, IntKind.max, IntKind.signed, IntKind.bits] at s0; omega
      have p1 : ((q1.toNat : Nat) : Int) = q1 := by
        simp [Lit.wf, IntKind.min, IntKind.max, IntKind.signed, IntKind.bits] at s1; omega
      have p2 : ((q2.toNat : Nat) : Int) = q2 := by
        simp [Lit.wf, IntKind.min, IntKind.max, IntKind.signed, IntKind.bits] at s2; omega
      have p3 : ((q3.toNat : Nat) : Int) = q3 := by
        simp [Lit.wf, IntKind.min, IntKind.max, IntKind.signed, IntKind.bits] at s3; omega
      injection r0 with r0; injection r1 with r1; injection r2 with r2; injection r3 with r3; injection r4 with r4; injection r5 with r5
      refine ⟨⟨q0.toNat, q1.toNat, q2.toNat, q3.toNat, q4, q5.data.toList, X⟩, e6, ?_, by show q5.data.toList.length ≤ _; rw [← Lib.size_eq]; exact w5, hX, hXl⟩
      simp only [XA.cells, ba_mk, p0, p1, p2, p3]
      rw [r0, r1, r2, r3, r4, r5]
set_option maxRecDepth 100000 in
theorem open_stp {n : Nat} {cs : List Value} {y : DataW H × List MemPlace} (h : DataW.trod enc Tryd.prog w base spare held n 28 cs = some y) (hz : (DataW.weights Tryd.prog 28 y.1).all (· ≤ reachBytes) = true) :
    ∃ x : Stp, cs = x.cells ∧ x.Fits w := by
  obtain ⟨xs, m, _, rfl, hl, hxl, hf⟩ := DataW.trod_struct Tryd.underlying28 h
  have k3 : Tryd.prog.cellsOf 3 = 1 := by kernel_rfl
  have k9 : Tryd.prog.cellsOf 9 = 1 := by kernel_rfl
  have k33 : Tryd.prog.cellsOf 26 = 7 := by kernel_rfl
  have k36 : Tryd.prog.cellsOf 28 = 11 := by kernel_rfl
  rw [k36] at hl
  match xs, hxl with
  | [y0, y1, y2, y3, y4], _ =>
    match cs, hl with
    | [e0, e1, e2, e3, e4, e5, e6, e7, e8, e9, e10], _ =>
      have h0 := hf 0 _ rfl
      have h1 := hf 1 _ rfl
      have h2 := hf 2 _ rfl
      have h3 := hf 3 _ rfl
      have h4 := hf 4 _ rfl
      simp only [k3, k9, k33, List.drop_zero, List.drop_succ_cons, List.take_succ_cons, List.take_zero, List.getElem?_cons_zero, List.getElem?_cons_succ] at h0 h1 h2 h3 h4
      have hz2 : (DataW.weightsEach Tryd.prog [3, 3, 9, 9, 26] [y0.1, y1.1, y2.1, y3.1, y4.1]).all (· ≤ reachBytes) = true := by
        have hz' := hz
        simp only [DataW.weights, Tryd.underlying28] at hz'
        exact hz'
      obtain ⟨q0, r0, _, _⟩ := DataW.trod_int Tryd.underlying3 h0
      obtain ⟨q1, r1, _, _⟩ := DataW.trod_int Tryd.underlying3 h1
      obtain ⟨q2, r2, t2, _⟩ := DataW.trod_string Tryd.underlying9 h2
      obtain ⟨q3, r3, t3, _⟩ := DataW.trod_string Tryd.underlying9 h3
      obtain ⟨A, v, hA, hAt, hAx, hAl⟩ := open_attr h4 (all_sub hz2 (fun z hzm => DataW.weights_mem_each (j := 4) rfl rfl _ hzm))
      have w2 : q2.size ≤ 140737488351232 := by
        refine all_mem hz2 (DataW.weights_mem_each (j := 2) rfl rfl _ ?_)
        rw [t2]; simp [DataW.weights, ← Lib.size_eq]
      have w3 : q3.size ≤ 140737488351232 := by
        refine all_mem hz2 (DataW.weights_mem_each (j := 3) rfl rfl _ ?_)
        rw [t3]; simp [DataW.weights, ← Lib.size_eq]
      injection r0 with r0; injection r1 with r1; injection r2 with r2; injection r3 with r3
      refine ⟨⟨q0, q1, q2.data.toList, q3.data.toList, A, v⟩, ?_, ⟨by show q2.data.toList.length ≤ _; rw [← Lib.size_eq]; exact w2, by show q3.data.toList.length ≤ _; rw [← Lib.size_eq]; exact w3, hAt, hAx, hAl⟩⟩
      show _ = Value.int .i64 q0 :: Value.int .i64 q1 :: Value.string ⟨q2.data.toList.toArray⟩ :: Value.string ⟨q3.data.toList.toArray⟩ :: A.cells v
      rw [← hA, ba_mk, ba_mk, r0, r1, r2, r3]; rfl
set_option maxRecDepth 100000 in
theorem open_stps {W : World} {v : Value} {d : DataW H} {p : List MemPlace} {r : Reach} {b0 : Nat} (hval : Value.okWide Tryd.prog W r b0 22 v) (h : DataW.Trod enc Tryd.prog W base (fun _ => true) true 22 v d p)
    (hz : (DataW.weights Tryd.prog 22 d).all (· ≤ reachBytes) = true) : ∃ l : List Stp, StpsAt W v l := by
  obtain ⟨a0, n0, c0, rfl⟩ := okWide_slice Tryd.underlying22 hval
  obtain ⟨fuel, hf⟩ := h
  rcases open_slice Tryd.underlying22 hf with ⟨hcs, _⟩ | ⟨a, len, cap, m, n, D, Pl, hcs, _, hl, hm, hmm, hx, hi⟩
  · simp only [Value.cells] at hcs
    simp at hcs
    obtain ⟨rfl, rfl, rfl⟩ := hcs
    exact ⟨[], none, 0, rfl, by simp, fun hne => absurd rfl hne, by simp⟩
  · simp only [Value.cells] at hcs
    simp at hcs
    obtain ⟨rfl, rfl, rfl⟩ := hcs
    have k34 : Tryd.prog.cellsOf 28 = 11 := by kernel_rfl
    rw [k34] at hi
    have hmn : n0 ≤ m := by rw [hmm]; simp; exact hl
    have hd : d = .slice ((List.range n0).map D) ((List.range (m - n0)).map fun j => D (n0 + j)) := congrArg Prod.fst hx
    have hzi : ∀ i, i < n0 → (DataW.weights Tryd.prog 28 (D i)).all (· ≤ reachBytes) = true := fun i hi' => all_sub hz (fun z hzm => by
      rw [hd]
      simp only [DataW.weights, Tryd.underlying22]
      refine List.mem_cons_of_mem _ (List.mem_append_left _ (weights_all (i := i) ?_ hzm))
      rw [List.getElem?_map, List.getElem?_range hi']; rfl)
    have hspot : 0 < n0 → a.spot = none := fun hp => by
      obtain ⟨cs', hc, ht⟩ := hi 0 (by omega)
      obtain ⟨x, rfl, _⟩ := open_stp ht (hzi 0 hp)
      obtain ⟨_, _, hat⟩ := World.cells?_some hc
      have := World.cell?_spot ((hat 0 (by simp [Stp.cells])).trans rfl)
      simpa [Addr.add] using this
    have hex : ∀ i : Nat, ∃ x : Stp, i < n0 → x.Fits W ∧ a.spot = none ∧ a.block < W.heap.size ∧ x.At W a.block (a.off + i * 11) := by
      intro i
      by_cases hlt : i < n0
      · obtain ⟨cs', hc, ht⟩ := hi i (by omega)
        obtain ⟨x, rfl, hx⟩ := open_stp ht (hzi i hlt)
        obtain ⟨_, _, hat⟩ := World.cells?_some hc
        have g0 := hat 0 (by simp [Stp.cells])
        have hsp : a.spot = none := hspot (by omega)
        have hadd : ∀ j, (a.add (i * 11)).add j = ⟨a.block, a.off + i * 11 + j, none⟩ := fun j => by
          rw [add_add]
          obtain ⟨ab, ao, asp⟩ := a
          simp only at hsp
          subst hsp
          unfold Addr.add
          split
          · next h =>
            have h1 : i * 11 = 0 := by omega
            have h2 : j = 0 := by omega
            rw [h1, h2]; rfl
          · rw [Nat.add_assoc]
        have hbl : a.block < W.heap.size := by
          have := World.block_lt_of_cell? W _ (g0.trans rfl)
          rw [hadd] at this
          exact this
        refine ⟨x, fun _ => ⟨hx, hsp, hbl, ?_⟩⟩
        intro j v hv
        rw [← hadd]
        exact (hat j (List.getElem?_eq_some_iff.1 hv).1).trans hv
      · exact ⟨⟨0, 0, [], [], zeroA, .slice none 0 0⟩, fun h => absurd h hlt⟩
    obtain ⟨g, hg⟩ := Classical.axiomOfChoice hex
    have hln : ((List.range n0).map g).length = n0 := by simp
    have hget : ∀ (i : Nat) x, ((List.range n0).map g)[i]? = some x → i < n0 ∧ x = g i := fun i x hx => by
      rw [List.getElem?_map] at hx
      by_cases hlt : i < n0
      · rw [List.getElem?_range hlt] at hx; exact ⟨hlt, (Option.some.inj hx).symm⟩
      · rw [List.getElem?_eq_none (by simp; omega)] at hx; simp at hx
    refine ⟨(List.range n0).map g, some a, c0, by rw [hln], by rw [hln]; omega, fun hne => ?_, fun x hx => ?_⟩
    · have hpos : 0 < n0 := by
        rcases Nat.eq_zero_or_pos n0 with e | e
        · exact absurd (by rw [e]; rfl) hne
        · exact e
      obtain ⟨_, hsp, hbl, _⟩ := hg 0 hpos
      refine ⟨a.block, a.off, ?_, hbl, fun i x hx => ?_⟩
      · obtain ⟨ab, ao, asp⟩ := a
        simp only at hsp
        subst hsp; rfl
      · obtain ⟨hlt, rfl⟩ := hget i x hx
        exact (hg i hlt).2.2.2
    · obtain ⟨i, hi', rfl⟩ := List.mem_map.1 hx
      exact (hg i (List.mem_range.1 hi')).1
end
end Go.Proofs.YtkdkifciajfpnaaDoor.Sr
