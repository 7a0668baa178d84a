import Derived.Test.YthcjjekkjbidlaaDoorZPSrLawSw00
import Derived.Test.YthcjjekkjbidlaaDoorZPSrLawSw01
import Derived.Test.YthcjjekkjbidlaaDoorZPSrLawSw10
import Derived.Test.YthcjjekkjbidlaaDoorZPSrLawSw11
import Derived.Test.YthcjjekkjbidlaaDoorZPSrHonStep
import Derived.Test.YthcjjekkjbidlaaDoorZPStRead
import Derived.Test.YthcjjekkjbidlaaDoorZPRowKit
import Derived.Carry
import Derived.Deep.Slices
import Derived.ChangeSame
import Derived.SizedLaws
import Derived.Test.YthcjjekkjbidlaaDoorZPStBackKit
set_option linter.unusedSimpArgs false
set_option linter.unusedVariables false
/-
  The law of StatixSwept, its four cases joined.
-/
namespace Go.Proofs.YthcjjekkjbidlaaDoor.Sr
open Go.RowKit Go.Proofs.YthcjjekkjbidlaaDoor.Rf Go.Proofs.YthcjjekkjbidlaaDoor.Nm Go.Proofs.YthcjjekkjbidlaaDoor.St

theorem swept_law (w : World) (v : Value) (l : List Chg) (hl : ChgsAt w v l) (v1 : Value) (its : List It) (hits : ItemsAt w v1 its) (which : Int) (hwh : -9223372036854775808 ≤ which ∧ which < 9223372036854775808) :
    Calls Tryd.prog 5 #[v, v1, .int .i64 which] w fun e w' => e = .returned (.bool true) ∧ Below w.heap.size w w' := by
  by_cases hA : its.length ≤ 30
  · by_cases hB : l.length ≤ 60
    · exact swept_law00 w v l hl v1 its hits which hwh hA hB
    · exact swept_law01 w v l hl v1 its hits which hwh hA hB
  · by_cases hB : l.length ≤ 60
    · exact swept_law10 w v l hl v1 its hits which hwh hA hB
    · exact swept_law11 w v l hl v1 its hits which hwh hA hB
end Go.Proofs.YthcjjekkjbidlaaDoor.Sr
/-
  The law's argument, opened: a list of changes.
-/
namespace Go.Proofs.YthcjjekkjbidlaaDoor.Sr
open Go.RowKit Go.ChangeShapes Go.WideShapes Go.Deep Go.Proofs.YthcjjekkjbidlaaDoor.Rf Go.Proofs.YthcjjekkjbidlaaDoor.Nm Go.Proofs.YthcjjekkjbidlaaDoor.St Go.Proofs.YthcjjekkjbidlaaDoor.Rd
set_option linter.unusedSimpArgs false
section
variable {H : Type} {enc : TypeId × Value → H} {w : World} {base : Nat} {spare : Nat → Bool} {held : Bool}
theorem all_mem {l : List Nat} (h : l.all (· ≤ reachBytes) = true) {x : Nat} (hx : x ∈ l) : x ≤ 140737488351232 := by
  have := List.all_eq_true.1 h x hx
  have h2 : reachBytes ≤ 140737488351232 := by decide
  simp only [decide_eq_true_eq] at this
  omega
theorem all_sub {l m : List Nat} (h : l.all (· ≤ reachBytes) = true) (hm : ∀ x ∈ m, x ∈ l) : m.all (· ≤ reachBytes) = true :=
  List.all_eq_true.2 (fun x hx => List.all_eq_true.1 h x (hm x hx))
theorem weights_all {P : Program} {e : TypeId} {x : Nat} : ∀ {l : List (DataW H)} {i : Nat} {d : DataW H}, l[i]? = some d → x ∈ DataW.weights P e d → x ∈ DataW.weightsAll P e l
  | [], _, _, h, _ => by simp at h
  | y :: r, 0, d, h, hx => by
    simp at h; subst h
    simp [DataW.weightsAll, hx]
  | y :: r, i + 1, d, h, hx => by
    have := weights_all (l := r) (by simpa using h) hx
    simp [DataW.weightsAll, this]
set_option maxRecDepth 100000 in
theorem open_chg {n : Nat} {cs : List Value} {y : DataW H × List MemPlace} (h : DataW.trod enc Tryd.prog w base spare held n 53 cs = some y) (hz : (DataW.weights Tryd.prog 53 y.1).all (· ≤ reachBytes) = true) :
    ∃ x : Chg, cs = x.cells ∧ x.Fits := by
  obtain ⟨xs, m, _, rfl, hl, hxl, hf⟩ := DataW.trod_struct Tryd.underlying53 h
  have k3 : Tryd.prog.cellsOf 3 = 1 := by kernel_rfl
  have k9 : Tryd.prog.cellsOf 9 = 1 := by kernel_rfl
  have k5 : Tryd.prog.cellsOf 39 = 1 := by kernel_rfl
  have k33 : Tryd.prog.cellsOf 53 = 4 := by kernel_rfl
  rw [k33] at hl
  match xs, hxl with
  | [y0, y1, y2, y3], _ =>
    match cs, hl with
    | [e0, e1, e2, e3], _ =>
      have h0 := hf 0 _ rfl
      have h1 := hf 1 _ rfl
      have h2 := hf 2 _ rfl
      have h3 := hf 3 _ rfl
      simp only [k3, k9, k5, List.drop_zero, List.drop_succ_cons, List.take_succ_cons, List.take_zero, List.getElem?_cons_zero, List.getElem?_cons_succ] at h0 h1 h2 h3
      obtain ⟨q0, r0, _, s0⟩ := DataW.trod_int Tryd.underlying3 h0
      obtain ⟨q1, r1, t1, _⟩ := DataW.trod_string Tryd.underlying9 h1
      obtain ⟨q2, r2, t2, _⟩ := DataW.trod_string Tryd.underlying9 h2
      obtain ⟨q3, r3, _, s3⟩ := DataW.trod_int Tryd.underlying39 h3
      have hz2 : (DataW.weightsEach Tryd.prog [3, 9, 9, 39] [y0.1, y1.1, y2.1, y3.1]).all (· ≤ reachBytes) = true := by
        have hz' := hz
        simp only [DataW.weights, Tryd.underlying53] at hz'
        exact hz'
      have w1 : q1.size ≤ 140737488351232 := by
        refine all_mem hz2 (DataW.weights_mem_each (j := 1) rfl rfl _ ?_)
        rw [t1]; simp [DataW.weights, ← Lib.size_eq]
      have w2 : q2.size ≤ 140737488351232 := by
        refine all_mem hz2 (DataW.weights_mem_each (j := 2) rfl rfl _ ?_)
        rw [t2]; simp [DataW.weights, ← Lib.size_eq]
      have hi3 : 0 ≤ q3 ∧ q3 < 4294967296 := by
        simp [Lit.wf, IntKind.min, IntKind.max, IntKind.signed, IntKind.bits] at s3
        omega
      have hn3 : ((q3.toNat : Nat) : Int) = q3 := by omega
      injection r0 with r0; injection r1 with r1; injection r2 with r2; injection r3 with r3
      refine ⟨⟨q0, q1.data.toList, q2.data.toList, q3.toNat⟩, ?_, ?_⟩
      · simp only [Chg.cells, ba_mk, hn3]
        rw [r0, r1, r2, r3]
      · exact ⟨by show q1.data.toList.length ≤ _; rw [← Lib.size_eq]; omega, by show q2.data.toList.length ≤ _; rw [← Lib.size_eq]; omega, by show q3.toNat < _; omega⟩
set_option maxRecDepth 100000 in
theorem open_chgs {W : World} {v : Value} {d : DataW H} {p : List MemPlace} {r : Reach} {b0 : Nat} (hval : Value.okWide Tryd.prog W r b0 46 v) (h : DataW.Trod enc Tryd.prog W base (fun _ => true) true 46 v d p)
    (hz : (DataW.weights Tryd.prog 46 d).all (· ≤ reachBytes) = true) : ∃ l : List Chg, ChgsAt W v l := by
  obtain ⟨a0, n0, c0, rfl⟩ := okWide_slice Tryd.underlying46 hval
  obtain ⟨fuel, hf⟩ := h
  rcases open_slice Tryd.underlying46 hf with ⟨hcs, _⟩ | ⟨a, len, cap, m, n, D, Pl, hcs, _, hl, hm, hmm, hx, hi⟩
  · simp only [Value.cells] at hcs
    simp at hcs
    obtain ⟨rfl, rfl, rfl⟩ := hcs
    exact ⟨[], none, 0, rfl, by simp, fun hne => absurd rfl hne, by simp⟩
  · simp only [Value.cells] at hcs
    simp at hcs
    obtain ⟨rfl, rfl, rfl⟩ := hcs
    have k34 : Tryd.prog.cellsOf 53 = 4 := by kernel_rfl
    rw [k34] at hi
    have hmn : n0 ≤ m := by rw [hmm]; simp; exact hl
    have hd : d = .slice ((List.range n0).map D) ((List.range (m - n0)).map fun j => D (n0 + j)) := congrArg Prod.fst hx
    have hzi : ∀ i, i < n0 → (DataW.weights Tryd.prog 53 (D i)).all (· ≤ reachBytes) = true := fun i hi' => all_sub hz (fun z hzm => by
      rw [hd]
      simp only [DataW.weights, Tryd.underlying46]
      refine List.mem_cons_of_mem _ (List.mem_append_left _ (weights_all (i := i) ?_ hzm))
      rw [List.getElem?_map, List.getElem?_range hi']; rfl)
    have hspot : 0 < n0 → a.spot = none := fun hp => by
      obtain ⟨cs', hc, ht⟩ := hi 0 (by omega)
      obtain ⟨x, rfl, _⟩ := open_chg ht (hzi 0 hp)
      obtain ⟨_, _, hat⟩ := World.cells?_some hc
      have := World.cell?_spot ((hat 0 (by simp [Chg.cells])).trans rfl)
      simpa [Addr.add] using this
    have hex : ∀ i : Nat, ∃ x : Chg, i < n0 → x.Fits ∧ a.spot = none ∧ a.block < W.heap.size ∧ W.rangeAt a.block (a.off + i * 4) x.cells := by
      intro i
      by_cases hlt : i < n0
      · obtain ⟨cs', hc, ht⟩ := hi i (by omega)
        obtain ⟨x, rfl, hx⟩ := open_chg ht (hzi i hlt)
        obtain ⟨_, _, hat⟩ := World.cells?_some hc
        have g0 := hat 0 (by simp [Chg.cells])
        have hsp : a.spot = none := hspot (by omega)
        have hadd : ∀ j, (a.add (i * 4)).add j = ⟨a.block, a.off + i * 4 + j, none⟩ := fun j => by
          rw [add_add]
          obtain ⟨ab, ao, asp⟩ := a
          simp only at hsp
          subst hsp
          unfold Addr.add
          split
          · next h =>
            have h1 : i * 4 = 0 := by omega
            have h2 : j = 0 := by omega
            rw [h1, h2]; rfl
          · rw [Nat.add_assoc]
        have hbl : a.block < W.heap.size := by
          have := World.block_lt_of_cell? W _ (g0.trans rfl)
          rw [hadd] at this
          exact this
        refine ⟨x, fun _ => ⟨hx, hsp, hbl, ?_⟩⟩
        intro j v hv
        rw [← hadd]
        exact (hat j (List.getElem?_eq_some_iff.1 hv).1).trans hv
      · exact ⟨default, fun h => absurd h hlt⟩
    obtain ⟨g, hg⟩ := Classical.axiomOfChoice hex
    have hln : ((List.range n0).map g).length = n0 := by simp
    have hget : ∀ (i : Nat) x, ((List.range n0).map g)[i]? = some x → i < n0 ∧ x = g i := fun i x hx => by
      rw [List.getElem?_map] at hx
      by_cases hlt : i < n0
      · rw [List.getElem?_range hlt] at hx; exact ⟨hlt, (Option.some.inj hx).symm⟩
      · rw [List.getElem?_eq_none (by simp; omega)] at hx; simp at hx
    refine ⟨(List.range n0).map g, some a, c0, by rw [hln], by rw [hln]; omega, fun hne => ?_, fun x hx => ?_⟩
    · have hpos : 0 < n0 := by
        rcases Nat.eq_zero_or_pos n0 with e | e
        · exact absurd (by rw [e]; rfl) hne
        · exact e
      obtain ⟨_, hsp, hbl, _⟩ := hg 0 hpos
      refine ⟨a.block, a.off, ?_, hbl, fun i x hx => ?_⟩
      · obtain ⟨ab, ao, asp⟩ := a
        simp only at hsp
        subst hsp; rfl
      · obtain ⟨hlt, rfl⟩ := hget i x hx
        exact (hg i hlt).2.2.2
    · obtain ⟨i, hi', rfl⟩ := List.mem_map.1 hx
      exact (hg i (List.mem_range.1 hi')).1
end
end Go.Proofs.YthcjjekkjbidlaaDoor.Sr
/-
  The law's argument, opened: a list of items.
-/
namespace Go.Proofs.YthcjjekkjbidlaaDoor.Sr
open Go.RowKit Go.ChangeShapes Go.WideShapes Go.Deep Go.Proofs.YthcjjekkjbidlaaDoor.Rf Go.Proofs.YthcjjekkjbidlaaDoor.Nm Go.Proofs.YthcjjekkjbidlaaDoor.St Go.Proofs.YthcjjekkjbidlaaDoor.Rd
set_option linter.unusedSimpArgs false
section
variable {H : Type} {enc : TypeId × Value → H} {w : World} {base : Nat} {spare : Nat → Bool} {held : Bool}
set_option maxRecDepth 100000 in
theorem open_item {n : Nat} {cs : List Value} {y : DataW H × List MemPlace} (h : DataW.trod enc Tryd.prog w base spare held n 68 cs = some y) (hz : (DataW.weights Tryd.prog 68 y.1).all (· ≤ reachBytes) = true) :
    ∃ x : It, cs = x.cells ∧ x.Fits := by
  obtain ⟨xs, m, _, rfl, hl, hxl, hf⟩ := DataW.trod_struct Tryd.underlying68 h
  have k3 : Tryd.prog.cellsOf 3 = 1 := by kernel_rfl
  have k2 : Tryd.prog.cellsOf 2 = 1 := by kernel_rfl
  have k9 : Tryd.prog.cellsOf 9 = 1 := by kernel_rfl
  have k5 : Tryd.prog.cellsOf 5 = 1 := by kernel_rfl
  have k6 : Tryd.prog.cellsOf 23 = 1 := by kernel_rfl
  have k33 : Tryd.prog.cellsOf 68 = 7 := by kernel_rfl
  rw [k33] at hl
  match xs, hxl with
  | [y0, y1, y2, y3, y4, y5, y6], _ =>
    match cs, hl with
    | [e0, e1, e2, e3, e4, e5, e6], _ =>
      have h0 := hf 0 _ rfl
      have h1 := hf 1 _ rfl
      have h2 := hf 2 _ rfl
      have h3 := hf 3 _ rfl
      have h4 := hf 4 _ rfl
      have h5 := hf 5 _ rfl
      have h6 := hf 6 _ rfl
      simp only [k3, k2, k9, k5, k6, List.drop_zero, List.drop_succ_cons, List.take_succ_cons, List.take_zero, List.getElem?_cons_zero, List.getElem?_cons_succ] at h0 h1 h2 h3 h4 h5 h6
      obtain ⟨q0, r0, t0, _⟩ := DataW.trod_string Tryd.underlying9 h0
      obtain ⟨q1, r1, _, s1⟩ := DataW.trod_int Tryd.underlying5 h1
      obtain ⟨q2, r2, _, s2⟩ := DataW.trod_int Tryd.underlying3 h2
      obtain ⟨q3, r3, _, s3⟩ := DataW.trod_int Tryd.underlying23 h3
      obtain ⟨q4, r4, _, s4⟩ := DataW.trod_int Tryd.underlying2 h4
      obtain ⟨q5, r5, _, s5⟩ := DataW.trod_int Tryd.underlying5 h5
      obtain ⟨q6, r6, t6, _⟩ := DataW.trod_string Tryd.underlying9 h6
      have hz2 : (DataW.weightsEach Tryd.prog [9, 5, 3, 23, 2, 5, 9] [y0.1, y1.1, y2.1, y3.1, y4.1, y5.1, y6.1]).all (· ≤ reachBytes) = true := by
        have hz' := hz
        simp only [DataW.weights, Tryd.underlying68] at hz'
        exact hz'
      have w0 : q0.size ≤ 140737488351232 := by
        refine all_mem hz2 (DataW.weights_mem_each (j := 0) rfl rfl _ ?_)
        rw [t0]; simp [DataW.weights, ← Lib.size_eq]
      have w6 : q6.size ≤ 140737488351232 := by
        refine all_mem hz2 (DataW.weights_mem_each (j := 6) rfl rfl _ ?_)
        rw [t6]; simp [DataW.weights, ← Lib.size_eq]
      have hu : ∀ z : Int, (Lit.int .u8 z).wf = true → (((UInt8.ofNat z.toNat).toNat : Nat) : Int) = z := fun z s => by
        have hq : 0 ≤ z ∧ z < 256 := by
          simp [Lit.wf, IntKind.min, IntKind.max, IntKind.signed, IntKind.bits] at s
          omega
        have e : (UInt8.ofNat z.toNat).toNat = z.toNat := UInt8.toNat_ofNat_of_lt' (by show _ < 256; omega)
        rw [e]; omega
      have hi3 : 0 ≤ q3 ∧ q3 < 18446744073709551616 := by
        simp [Lit.wf, IntKind.min, IntKind.max, IntKind.signed, IntKind.bits] at s3
        omega
      have hi2 : -9223372036854775808 ≤ q2 ∧ q2 < 9223372036854775808 := by
        simp [Lit.wf, IntKind.min, IntKind.max, IntKind.signed, IntKind.bits] at s2
        omega
      have hi4 : -9223372036854775808 ≤ q4 ∧ q4 < 9223372036854775808 := by
        simp [Lit.wf, IntKind.min, IntKind.max, IntKind.signed, IntKind.bits] at s4
        omega
      have hn3 : ((q3.toNat : Nat) : Int) = q3 := by omega
      injection r0 with r0; injection r1 with r1; injection r2 with r2; injection r3 with r3; injection r4 with r4; injection r5 with r5; injection r6 with r6
      refine ⟨⟨q0.data.toList, UInt8.ofNat q1.toNat, q2, q3.toNat, q4, UInt8.ofNat q5.toNat, q6.data.toList⟩, ?_, ?_⟩
      · simp only [It.cells, ba_mk, hu q1 s1, hu q5 s5, hn3]
        rw [r0, r1, r2, r3, r4, r5, r6]
      · exact ⟨by show q0.data.toList.length ≤ _; rw [← Lib.size_eq]; omega, hi2, by show q3.toNat < _; omega, hi4, by show q6.data.toList.length ≤ _; rw [← Lib.size_eq]; omega⟩
set_option maxRecDepth 100000 in
theorem open_items {W : World} {v : Value} {d : DataW H} {p : List MemPlace} {r : Reach} {b0 : Nat} (hval : Value.okWide Tryd.prog W r b0 60 v) (h : DataW.Trod enc Tryd.prog W base (fun _ => true) true 60 v d p)
    (hz : (DataW.weights Tryd.prog 60 d).all (· ≤ reachBytes) = true) : ∃ l : List It, ItemsAt W v l := by
  obtain ⟨a0, n0, c0, rfl⟩ := okWide_slice Tryd.underlying60 hval
  obtain ⟨fuel, hf⟩ := h
  rcases open_slice Tryd.underlying60 hf with ⟨hcs, _⟩ | ⟨a, len, cap, m, n, D, Pl, hcs, _, hl, hm, hmm, hx, hi⟩
  · simp only [Value.cells] at hcs
    simp at hcs
    obtain ⟨rfl, rfl, rfl⟩ := hcs
    exact ⟨[], none, 0, rfl, by simp, fun hne => absurd rfl hne, by simp⟩
  · simp only [Value.cells] at hcs
    simp at hcs
    obtain ⟨rfl, rfl, rfl⟩ := hcs
    have k34 : Tryd.prog.cellsOf 68 = 7 := by kernel_rfl
    rw [k34] at hi
    have hmn : n0 ≤ m := by rw [hmm]; simp; exact hl
    have hd : d = .slice ((List.range n0).map D) ((List.range (m - n0)).map fun j => D (n0 + j)) := congrArg Prod.fst hx
    have hzi : ∀ i, i < n0 → (DataW.weights Tryd.prog 68 (D i)).all (· ≤ reachBytes) = true := fun i hi' => all_sub hz (fun z hzm => by
      rw [hd]
      simp only [DataW.weights, Tryd.underlying60]
      refine List.mem_cons_of_mem _ (List.mem_append_left _ (weights_all (i := i) ?_ hzm))
      rw [List.getElem?_map, List.getElem?_range hi']; rfl)
    have hspot : 0 < n0 → a.spot = none := fun hp => by
      obtain ⟨cs', hc, ht⟩ := hi 0 (by omega)
      obtain ⟨x, rfl, _⟩ := open_item ht (hzi 0 hp)
      obtain ⟨_, _, hat⟩ := World.cells?_some hc
      have := World.cell?_spot ((hat 0 (by simp [It.cells])).trans rfl)
      simpa [Addr.add] using this
    have hex : ∀ i : Nat, ∃ x : It, i < n0 → x.Fits ∧ a.spot = none ∧ a.block < W.heap.size ∧ W.rangeAt a.block (a.off + i * 7) x.cells := by
      intro i
      by_cases hlt : i < n0
      · obtain ⟨cs', hc, ht⟩ := hi i (by omega)
        obtain ⟨x, rfl, hx⟩ := open_item ht (hzi i hlt)
        obtain ⟨_, _, hat⟩ := World.cells?_some hc
        have g0 := hat 0 (by simp [It.cells])
        have hsp : a.spot = none := hspot (by omega)
        have hadd : ∀ j, (a.add (i * 7)).add j = ⟨a.block, a.off + i * 7 + j, none⟩ := fun j => by
          rw [add_add]
          obtain ⟨ab, ao, asp⟩ := a
          simp only at hsp
          subst hsp
          unfold Addr.add
          split
          · next h =>
            have h1 : i * 7 = 0 := by omega
            have h2 : j = 0 := by omega
            rw [h1, h2]; rfl
          · rw [Nat.add_assoc]
        have hbl : a.block < W.heap.size := by
          have := World.block_lt_of_cell? W _ (g0.trans rfl)
          rw [hadd] at this
          exact this
        refine ⟨x, fun _ => ⟨hx, hsp, hbl, ?_⟩⟩
        intro j v hv
        rw [← hadd]
        exact (hat j (List.getElem?_eq_some_iff.1 hv).1).trans hv
      · exact ⟨default, fun h => absurd h hlt⟩
    obtain ⟨g, hg⟩ := Classical.axiomOfChoice hex
    have hln : ((List.range n0).map g).length = n0 := by simp
    have hget : ∀ (i : Nat) x, ((List.range n0).map g)[i]? = some x → i < n0 ∧ x = g i := fun i x hx => by
      rw [List.getElem?_map] at hx
      by_cases hlt : i < n0
      · rw [List.getElem?_range hlt] at hx; exact ⟨hlt, (Option.some.inj hx).symm⟩
      · rw [List.getElem?_eq_none (by simp; omega)] at hx; simp at hx
    refine ⟨(List.range n0).map g, some a, c0, by rw [hln], by rw [hln]; omega, fun hne => ?_, fun x hx => ?_⟩
    · have hpos : 0 < n0 := by
        rcases Nat.eq_zero_or_pos n0 with e | e
        · exact absurd (by rw [e]; rfl) hne
        · exact e
      obtain ⟨_, hsp, hbl, _⟩ := hg 0 hpos
      refine ⟨a.block, a.off, ?_, hbl, fun i x hx => ?_⟩
      · obtain ⟨ab, ao, asp⟩ := a
        simp only at hsp
        subst hsp; rfl
      · obtain ⟨hlt, rfl⟩ := hget i x hx
        exact (hg i hlt).2.2.2
    · obtain ⟨i, hi', rfl⟩ := List.mem_map.1 hx
      exact (hg i (List.mem_range.1 hi')).1
end
end Go.Proofs.YthcjjekkjbidlaaDoor.Sr
