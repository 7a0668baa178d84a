/-
  The contract of the disk's reckon: the sum over a map, in whatever order.
-/
import Derived.Test.YtcfdfpjemonhoaaDkClos
import Derived.Maps.RangeWalk
namespace Go.Proofs.Ytcfdfpjemonhoaa.Dk
open Go.RowKit Go.Maps Go.WideMaps

/-- The bytes of those entries that have come. -/
def sumL (fs : List Fl) (m : DM) (left : Lit → Bool) : Int := usedOf fs (m.filter fun p => !left (.string p.1))

theorem sumL_start (fs : List Fl) (m : DM) : sumL fs m (Maps.has (toD m)) = 0 := by
  have : (m.filter fun p => !Maps.has (toD m) (.string p.1)) = [] := by
    rw [List.filter_eq_nil_iff]
    intro p hp
    rw [toD_has, getM]
    have : (m.find? fun q => q.1 == p.1).isSome = true := by
      rw [List.find?_isSome]; exact ⟨p, hp, by simp⟩
    rw [Option.isSome_map, this]; simp
  rw [sumL, this]; rfl
theorem sumL_end {fs : List Fl} {m : DM} {left : Lit → Bool} (h : ∀ k, left k = false) : sumL fs m left = usedOf fs m := by
  have : (m.filter fun p => !left (.string p.1)) = m := by
    rw [List.filter_eq_self]
    intro p _
    rw [h]; rfl
  rw [sumL, this]
theorem usedOf_cons (fs : List Fl) (y : List UInt8 × Nat) (r : DM) : usedOf fs (y :: r) = (fileLen fs y.2 : Int) + usedOf fs r := by simp [usedOf]
theorem filter_step {left : Lit → Bool} {x : List UInt8} : ∀ m : DM, (∀ p ∈ m, p.1 ≠ x) → (m.filter fun p => !(left (.string p.1) && !(Lit.string p.1).sameKey (.string x))) = m.filter fun p => !left (.string p.1)
  | [], _ => rfl
  | y :: r, h => by
    have h1 : ((y.1 == x) : Bool) = false := by simpa using h y (by simp)
    rw [List.filter_cons, List.filter_cons, filter_step r (fun p hp => h p (by simp [hp])), sameKey_string, h1]
    simp
theorem sumL_step (fs : List Fl) {left : Lit → Bool} {x : List UInt8} {c : Nat} (hl : left (.string x) = true) : ∀ m : DM, (m.Pairwise fun p q => p.1 ≠ q.1) → getM m x = some c →
    sumL fs m (fun z => left z && !z.sameKey (.string x)) = sumL fs m left + (fileLen fs c : Int)
  | [], _, h => by simp [getM] at h
  | y :: r, hp, h => by
    rw [List.pairwise_cons] at hp
    by_cases hy : y.1 = x
    · subst hy
      have hc : y.2 = c := by simpa [getM] using h
      have e1 := filter_step (left := left) (x := y.1) r (fun p hq => (hp.1 p hq).symm)
      unfold sumL
      rw [List.filter_cons, List.filter_cons, e1]
      dsimp only
      simp only [sameKey_string, hl, beq_self_eq_true, Bool.not_true, Bool.and_false, Bool.not_false, if_true, Bool.false_eq_true, if_false]
      rw [usedOf_cons, hc]; omega
    · have h' : getM r x = some c := by
        rw [getM, List.find?_cons] at h
        have : (y.1 == x) = false := by simpa using hy
        rw [this] at h
        exact h
      have ih := sumL_step fs hl r hp.2 h'
      unfold sumL at ih ⊢
      have hk : ((y.1 == x) : Bool) = false := by simpa using hy
      rw [List.filter_cons, List.filter_cons]
      dsimp only
      have ih2 := ih
      simp only [sameKey_string] at ih2
      simp only [sameKey_string, hk, Bool.not_false, Bool.and_true]
      cases left (.string y.1) with
      | true => simpa using ih2
      | false =>
        simp only [Bool.not_false, if_true]
        rw [usedOf_cons, usedOf_cons, ih2]; omega

theorem dir_nodup {w : World} {b n : Nat} {m : DM} (h : Dir w b n m) : m.Pairwise fun p q => p.1 ≠ q.1 := by
  obtain ⟨es, e, hp⟩ := h.tidy law
  rw [toD] at e
  injection e with e
  rw [← e, List.pairwise_map] at hp
  exact hp.imp (fun h e => h (by rw [e]))

theorem ranges_block {w w' : World} {b r n cnt : Nat} {D : DataW Unit} {left : Lit → Bool} (h : w.ranges Try.prog 9 (plainElem Try.prog 3) b r n D left cnt) (hb : w'.heap[b]? = w.heap[b]?) (hr : w'.heap[r]? = w.heap[r]?) :
    w'.ranges Try.prog 9 (plainElem Try.prog 3) b r n D left cnt := by
  obtain ⟨es, clock, since, seen, c0, a1, a2, a3, a4, a5, a6⟩ := h
  exact ⟨es, clock, since, seen, c0, hb.trans a1, a2, a3, a4, hr.trans a5, a6⟩

theorem string_inv (key : Value) (kl : Lit) (h : keyOf Try.prog 9 key = some kl) : ∃ x, key = Value.string x := by
  cases key <;> simp [keyOf, Try.underlying9, mapKey] at h
  exact ⟨_, rfl⟩

/-- What reckon leaves. -/
def ReckonPost (B : Nat) (Y : Lay) (D : Dk) (w : World) (e : Ending) (w' : World) : Prop := e = .returned (.tuple #[]) ∧ DiskAt B w' Y { D with used := usedOf D.files D.now } ∧ Turn [Y.g] w w'

theorem elem_inv (v : Value) (y : DataW Unit × List MemPlace) (h : plainElem Try.prog 3 v = some y) : ∃ c, v = Value.int .i64 c := by
  obtain ⟨a, rfl, _⟩ := plainElem_int_inv Try.underlying3 h
  exact ⟨a, rfl⟩

set_option maxHeartbeats 4000000 in
set_option maxRecDepth 100000 in
theorem reckon_any (B : Nat) (w : World) (Y : Lay) (D : Dk) (h : DiskAt B w Y D) (hfit : fits D.files.length D.now) (hlen : ∀ f ∈ D.files, f.data.length ≤ 134217728) (hn : D.now.length ≤ 4097) :
    Calls Try.prog 43 #[ptr Y.g] w (ReckonPost B Y D w) := by
  have mixed : Try.prog.follows Departure.mixedOrders = true := by kernel_rfl
  have c1 : w.cell? ⟨Y.g, 1, none⟩ = some (.int .i64 D.used) := h.cell 1
  have g1 : w.frozen? ⟨Y.g, 1, none⟩ = false := h.frozen 1
  have c3 : w.cell? ⟨Y.g, 3, none⟩ = some (.map (some Y.bn)) := h.cell 3
  have hbn : Y.bn ≠ Y.g := h.ne_g (mem_bn Y)
  have hnow := h.now.setCell (a := ⟨Y.g, 1, none⟩) hbn (.int .i64 0)
  have HN := Lib.hid hnow; have H := Lib.hid h; have HL := Lib.hid hlen
  have hsz : (w.setCell ⟨Y.g, 1, none⟩ (.int .i64 0)).heap.size = w.heap.size := by simp [World.setCell]
  have HSZ := Lib.hid hsz
  clear hnow h hlen hsz
  unfold ptr
  go_enter Try.func43, Try.ntmps43
  go_wp2_with (first
    | (at_range; refine wpList_range_own _ rfl _ 59 rfl 9 3 law Try.underlying59 _ Y.bn 1000000 _ rfl HN.out ?_; intro w0 hrg0 hg0 hs0; rw [HSZ.out] at hrg0 hs0)
    | go_in)
  go_frame
  rw [HSZ.out]
  have hglt : Y.g < w.heap.size := lt_of_heap H.out.disk
  have hk0 : w0.heap[Y.g]? = some (.cells (cellsOf Y { D with used := sumL D.files D.now (Maps.has (toD D.now)) }) 63) := by
    rw [sumL_start, hg0.block Y.g (by rw [HSZ.out]; exact hglt) (by simp), setCell_heap _ _ _ _ _ _ H.out.disk]
    simp [cellsOf]
  have ht0 : Turn [Y.g] w w0 := ((Turn.refl _ _).setCell (.inl (by simp)) _).grown hg0 (by simp)
  have HRG0 := Lib.hid hrg0; have HK0 := Lib.hid hk0; have HT0 := Lib.hid ht0
  clear hrg0 hk0 ht0 hg0 hs0 c1 g1 c3
  go_loopw [3] (fun _ wr => ∃ (left : Lit → Bool) (cnt : Nat), Hid (wr.ranges Try.prog 9 (plainElem Try.prog 3) Y.bn w.heap.size 1000000 (toD D.now) left cnt) ∧ Hid (wr.heap[Y.g]? = some (.cells (cellsOf Y { D with used := sumL D.files D.now left }) 63)) ∧ Hid (Turn [Y.g] w wr)) (fun _ wr => wr.rangeLeft Y.bn w.heap.size)
  case atStart => exact ⟨_, _, HRG0, HK0, HT0⟩
  case round =>
    obtain ⟨left, cnt, HR, HK, HT⟩ := hrel
    go_wp2_with (first
      | (at_next; refine wpList_next_ranges (α := ByteArray) (β := Int) _ rfl _ rfl 9 law (plainElem Try.prog 3) Value.string (Value.int .i64) string_inv elem_inv Y.bn w.heap.size 1000000 _ _ _ (by first | rfl | simp [Act.eval, World.setCell]) HR.out ?_ ?_)
      | go_in)
    · intro _ hl0
      have hs := Lib.hid (sumL_end (fs := D.files) (m := D.now) hl0)
      clear hl0
      go_wp2
      go_end0
      have hg := HK.out
      rw [hs.out] at hg
      have hb : ∀ b, b < w.heap.size → b ≠ Y.g → wr.heap[b]? = w.heap[b]? := fun b hb hne => HT.out.block b hb (by simpa using hne)
      have hx : ∀ b, b < w.heap.size → b ∉ Y.blocks → wr.heap[b]? = w.heap[b]? := fun b hlt hnb => hb b hlt (fun e => hnb (by rw [e]; exact mem_g Y))
      exact ⟨rfl, H.out.scalars Y.kn Y.kc { D with used := usedOf D.files D.now } rfl rfl rfl rfl hg HT.out.size hb (H.out.kn.kept HT.out.size hx (fun _ _ x => x)) (H.out.kc.kept HT.out.size hx (fun _ _ x => x)), HT.out⟩
    · intro x c kl yd yp w1 cnt1 hkey hlx hv hat hrg1 hlt hg1 hs1 hen
      obtain ⟨x', ex, ekl, _⟩ := string_of_keyOf Try.underlying9 hkey
      injection ex with ex
      subst ex
      subst ekl
      obtain ⟨c', ec, ey, _⟩ := plainElem_int_inv Try.underlying3 hv
      injection ec with _ ec
      subst ec
      injection ey with ey _
      subst ey
      have hhas := has_true_of_atKey hat
      rw [toD_has] at hhas
      obtain ⟨n, hgm⟩ := Option.isSome_iff_exists.1 hhas
      have hcn := hat (.lit (.int .i64 0))
      rw [toD_at, hgm] at hcn
      injection hcn with hcn
      injection hcn with _ hcn
      have hcn' : (n : Int) = c := hcn
      subst hcn'
      have hnf : n < D.files.length := fits_get hfit hgm
      obtain ⟨f, hf⟩ : ∃ f, D.files[n]? = some f := ⟨_, List.getElem?_eq_getElem hnf⟩
      obtain ⟨p, hp⟩ : ∃ p, Y.fs[n]? = some p := ⟨_, List.getElem?_eq_getElem (by rw [H.out.lenF]; exact hnf)⟩
      obtain ⟨gf, cap, cur, hvf, hgf, hcur⟩ := file_cell H.out hp
      obtain ⟨k1, k2⟩ := H.out.each n p f hp hf
      obtain ⟨a, cp, hpv⟩ := row_slice k2
      have same : ∀ b, b < w.heap.size → b ≠ Y.g → w1.heap[b]? = w.heap[b]? := fun b hb hne =>
        (hg1.block b (Nat.lt_of_lt_of_le hb HT.out.size) (by intro e; injection e with e; omega)).trans (HT.out.block b hb (by simpa using hne))
      have hgfm : gf ≠ Y.g := H.out.ne_g (mem_vf (by rw [hvf]; simp [ob, Value.ownBlock]))
      have k11 : w1.heap[p.1]? = some (.cells #[p.2, .int .i64 (f.safe : Int)] 71) := (same _ (lt_of_heap k1) (H.out.ne_g (mem_fs hp))).trans k1
      have kf1 : w1.heap[gf]? = some (.cells cur 68) := (same _ (lt_of_heap hgf) hgfm).trans hgf
      have kg1 : w1.heap[Y.g]? = some (.cells (cellsOf Y { D with used := sumL D.files D.now left }) 63) := (hg1.block Y.g (Nat.lt_of_lt_of_le hglt HT.out.size) (by intro e; injection e with e; omega)).trans HK.out
      have d1 : w1.drew.cell? ⟨Y.g, 1, none⟩ = some (.int .i64 (sumL D.files D.now left)) := cell_of_heap kg1
      have d2 : w1.drew.cell? ⟨Y.g, 2, none⟩ = some Y.vf := cell_of_heap kg1
      rw [hvf] at d2
      have e1 : w1.drew.cell? ⟨gf, n, none⟩ = some (.pointer (some ⟨p.1, 0, none⟩)) := (cell_of_heap kf1).trans hcur
      have e2 : w1.drew.cell? ⟨p.1, 0, none⟩ = some p.2 := cell_of_heap k11
      rw [hpv] at e2
      have fz : w1.drew.frozen? ⟨Y.g, 1, none⟩ = false := frozen_of_heap kg1
      have hni : (n : Int) < (D.files.length : Int) := by omega
      have hsb := usedOf_bounds HL.out (D.now.filter fun p => !left (.string p.1))
      have hfl : ((D.now.filter fun p => !left (.string p.1)).length : Nat) ≤ D.now.length := List.length_filter_le _ _
      have hstep := sumL_step D.files hlx D.now (dir_nodup HR.out.owns) hgm
      have hfd : fileLen D.files n = f.data.length := by rw [fileLen, hf]; rfl
      rw [hfd] at hstep
      have hflb := HL.out f (List.mem_of_getElem? hf)
      change 0 ≤ sumL D.files D.now left ∧ sumL D.files D.now left ≤ _ at hsb
      obtain ⟨s0, s1⟩ := hsb
      have HST := Lib.hid hstep; have HG1 := Lib.hid hg1; have HRG1 := Lib.hid hrg1; have KG1 := Lib.hid kg1
      generalize hsu : sumL D.files D.now left = su at *
      have s2 : su ≤ 1099511627776 := by omega
      clear s1 hfl hstep hg1 hrg1 kg1 k11 kf1 same hvf hgf hcur k1 k2 hpv hfd hsu hcn hat hhas hgm hv hkey hp hf hfit
      have w3 : IntKind.i64.wrap (su + (f.data.length : Int)) = su + (f.data.length : Int) := by rw [IntKind.wrap_i64]; omega
      go_wp2
      go_region
      go_wp2
      go_roundw
      case rel =>
        have hr' : (w1.setCell ⟨Y.g, 1, none⟩ (.int .i64 (su + (f.data.length : Int)))).ranges Try.prog 9 (plainElem Try.prog 3) Y.bn w.heap.size 1000000 (toD D.now) (fun z => left z && !z.sameKey (.string x.data.toList)) cnt1 :=
          ranges_block HRG1.out (Below.heap_setCell _ _ _ _ hbn) (Below.heap_setCell _ _ _ _ (by show w.heap.size ≠ Y.g; omega))
        refine ⟨fun z => left z && !z.sameKey (.string x.data.toList), cnt1, hr', Lib.hid ?_, Lib.hid ?_⟩
        · show (w1.setCell ⟨Y.g, 1, none⟩ (.int .i64 (su + (f.data.length : Int)))).heap[Y.g]? = _
          rw [HST.out, setCell_heap _ _ _ _ _ _ KG1.out]
          simp [cellsOf]
        · exact (((HT.out.grown HG1.out (fun k hk => .inr (by simp at hk; omega))).setCell (.inl (by simp)) _).drew)
      case measure =>
        have hr' : (w1.setCell ⟨Y.g, 1, none⟩ (.int .i64 (su + (f.data.length : Int)))).ranges Try.prog 9 (plainElem Try.prog 3) Y.bn w.heap.size 1000000 (toD D.now) (fun z => left z && !z.sameKey (.string x.data.toList)) cnt1 :=
          ranges_block HRG1.out (Below.heap_setCell _ _ _ _ hbn) (Below.heap_setCell _ _ _ _ (by show w.heap.size ≠ Y.g; omega))
        show (w1.setCell ⟨Y.g, 1, none⟩ (.int .i64 (su + (f.data.length : Int)))).rangeLeft Y.bn w.heap.size < _
        rw [hr'.left_eq, HR.out.left_eq]; exact hlt
end Go.Proofs.Ytcfdfpjemonhoaa.Dk
