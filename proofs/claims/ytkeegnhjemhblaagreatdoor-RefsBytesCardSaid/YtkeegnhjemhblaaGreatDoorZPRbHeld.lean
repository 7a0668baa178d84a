import Derived.Test.YtkeegnhjemhblaaGreatDoorZPRfFixed
import Derived.OrdersHeld
import Derived.Laws.Tables
import Derived.Laws.ResultCell
import Derived.Deep.MidRow
import Derived.Deep.RegionHeld3
import Derived.Great.BuildSlice
import Derived.OpenShut
import Derived.BigRegion
import Derived.Test.YtkeegnhjemhblaaGreatDoorZPRbKit
import Derived.ProofKit
set_option linter.unusedSimpArgs false
set_option linter.unusedVariables false
/-
  Steps of a region that draws its order, over variables of many cells; a region whose last operation writes what its loads read.
-/
namespace Go.Proofs.YtkeegnhjemhblaaGreatDoor.Rb
open Go.RowKit Go.Maps Go.WideMaps Go.Proofs.YtkeegnhjemhblaaGreatDoor.Rf

section
variable {P : Program} {ops : Array Oper} {o : Oper} {a : Act} {w : World} {K : Act → World → Prop} {Q : Exit → Act → World → Prop} {E : Prop}
theorem step_wp (hgd : o.guard = none) (h : Oper.wp P o a w K Q) : if Region.wanted o (yielded ops a.tmps) = true then Oper.wp P o a w K Q else E := by
  have hw : Region.wanted o (yielded ops a.tmps) = true := by simp [Region.wanted, hgd]
  rw [if_pos hw]
  exact h
/-- A load of many cells, under a guard that holds. -/
theorem wpList_want_load {rest : List Oper} {Q : Exit → Act → World → Prop} (hw : Region.wanted o (yielded ops a.tmps) = true) (ty : TypeId) (x : Operand) (ho : o.op = .load ty x)
    (b off : Nat) (hx : a.eval x = .pointer (some ⟨b, off, none⟩)) (cs : List Value) (d : TypeDesc) (hc : w.rangeAt b off cs)
    (hu : P.underlying ty = some d) (hd : d.isRow = true) (hi : (P.info? ty).map (·.size) = some cs.length)
    (h : wpList P ops Q rest (a.put o.dst (.agg cs.toArray)) w) : wpList P ops Q (o :: rest) a w := by
  unfold wpList
  rw [if_pos hw]
  exact .inl (wp_load_mid ty x ho b off hx cs d hc hu hd hi h)
/-- An op whose value is known, under a guard that holds. -/
theorem wpList_want_run {rest : List Oper} {Q : Exit → Act → World → Prop} (hw : Region.wanted o (yielded ops a.tmps) = true) (v : Value) (hrun : (execOp a.eval o).run P w = .ok (.value v) w)
    (h : wpList P ops Q rest (a.put o.dst v) w) : wpList P ops Q (o :: rest) a w := by
  unfold wpList
  rw [if_pos hw]
  refine .inl ?_
  unfold Oper.wp
  rw [hrun]
  exact h
end
section
variable {P : Program} {ops : Array Oper} {Q : Exit → Act → World → Prop} {md : Region.Mode} {S : World → Prop} {k : Nat}

/-- Whatever order is picked, S holds behind each operation but number k. -/
def Held (P : Program) (md : Region.Mode) (ops : Array Oper) (Q : Exit → Act → World → Prop) (S : World → Prop) (k : Nat) : Nat → Array Bool → Act → World → Prop
  | 0, listed, a, w => Region.ready md ops listed = [] ∧ Q .normal a w
  | n + 1, listed, a, w => (Region.ready md ops listed = [] → Q .normal a w) ∧
      ∀ j ∈ Region.ready md ops listed, wpOp P ops Q j (fun b u => (j ≠ k → S u) ∧ Held P md ops Q S k n (listed.setIfInBounds j true) b u) a w

theorem Held.any : ∀ (n : Nat) (listed : Array Bool) (a : Act) (w : World), Held P md ops Q S k n listed a w → wpAny P md ops Q n listed a w
  | 0, _, _, _, h => h
  | n + 1, _, _, _, h => ⟨h.1, fun j hj => wpOp_mono (fun b u h' => Held.any n _ b u h'.2) (h.2 j hj)⟩
/-- Operation k waits for i. -/
def waits (md : Region.Mode) (ops : Array Oper) (k i : Nat) : Bool :=
  match ops[k]? with
  | some o => o.after.toList.any fun e => Region.binds md e && e.on == i
  | none => false

theorem held_first {i : Nat} {oi : Oper} {v : Value} (hi : ops[i]? = some oi) (hsel : ∀ (j : Nat) (o : Oper) cs b, ops[j]? = some o → o.op ≠ .select cs b)
    (hQ : ∀ c a w, Q (.panic c) (a.put oi.dst v) w → Q (.panic c) a w) (hik : i ≠ k) (hwt : waits md ops k i = true) :
    ∀ (n : Nat) (listed : Array Bool) (a : Act) (w : World),
      (∀ j oj, ops[j]? = some oj → j ≠ i → listed.getD j true = false → (∀ e ∈ oj.after, Region.binds md e = true → e.on ≠ i) → oi.apart ops oj = true) →
      i ∈ Region.ready md ops listed → YieldsIf P ops S oi v a → S w →
      Held P md ops Q S k n (listed.setIfInBounds i true) (a.put oi.dst v) w → Held P md ops Q S k (n + 1) listed a w
  | n, listed, a, w, hfree, hr, hy, hS, H => by
    refine ⟨fun h => (by rw [h] at hr; cases hr), fun j hj => ?_⟩
    by_cases hji : j = i
    · subst hji; exact hy.wpOp hi hS ⟨fun _ => hS, H⟩
    · obtain ⟨hjun, oj, hoj, hall⟩ := mem_ready.1 hj
      have hnot : ∀ e ∈ oj.after, Region.binds md e = true → e.on ≠ i := fun e he hb heq => by
        have h1 := hall e he hb
        have h0 := (mem_ready.1 hr).1
        rw [heq] at h1
        rcases Nat.lt_or_ge i listed.size with h' | h'
        · simp [h'] at h0 h1; rw [h0] at h1; cases h1
        · simp [Array.getElem?_eq_none h'] at h1
      have hjk : j ≠ k := by
        rintro rfl
        unfold waits at hwt
        rw [hoj] at hwt
        obtain ⟨e, he, hb⟩ := List.any_eq_true.1 hwt
        rw [Bool.and_eq_true, beq_iff_eq] at hb
        exact hnot e (Array.mem_toList_iff.1 he) hb.1 hb.2
      cases n with
      | zero =>
        have := ready_mono hj hji
        rw [H.1] at this
        cases this
      | succ n =>
        have h2 := wpOp_putIf hoj (hfree j oj hoj hji hjun hnot) (fun cs b => hsel i oi cs b hi) (fun cs b => hsel j oj cs b hoj) hQ hy (H.2 j (ready_mono hj hji))
        refine wpOp_mono (fun b u h3 => ⟨h3.2.1, held_first hi hsel hQ hik hwt n (listed.setIfInBounds j true) b u ?_ (ready_mono hr (Ne.symm hji)) h3.1 (h3.2.1 hjk) ?_⟩) h2
        · intro m om hm hmi hun hno
          refine hfree m om hm hmi ?_ hno
          by_cases hjm : j = m
          · subst hjm; exact hjun
          · rw [getD_set_ne true hjm] at hun; exact hun
        · rw [Array.setIfInBounds_comm _ _ hji]
          exact h3.2.2
theorem held_take {i : Nat} {oi : Oper} {v : Value} {n : Nat} {listed : Array Bool} {a : Act} {w : World} (hi : ops[i]? = some oi)
    (hs : Region.noSelect ops = true) (hf : Region.free md ops listed i = true) (hr : (Region.ready md ops listed).contains i = true) (hk : (waits md ops k i && !(i == k)) = true)
    (hQ : ∀ c a w, Q (.panic c) (a.put oi.dst v) w → Q (.panic c) a w) (hy : YieldsIf P ops S oi v a) (hS : S w)
    (h : Held P md ops Q S k n (listed.setIfInBounds i true) (a.put oi.dst v) w) : Held P md ops Q S k (n + 1) listed a w :=
  held_first hi (Region.noSelect_spec hs) hQ (by rw [Bool.and_eq_true] at hk; simpa using hk.2) (by rw [Bool.and_eq_true] at hk; exact hk.1) n listed a w (Region.free_spec hi hf) (by simpa using hr) hy hS h

/-- The operations that may come up next. -/
def AllHeld (P : Program) (md : Region.Mode) (ops : Array Oper) (Q : Exit → Act → World → Prop) (S : World → Prop) (k n : Nat) (listed : Array Bool) (a : Act) (w : World) (rs : List Nat) : Prop :=
  ∀ i ∈ rs, wpOp P ops Q i (fun b u => (i ≠ k → S u) ∧ Held P md ops Q S k n (listed.setIfInBounds i true) b u) a w
theorem AllHeld.nil {n : Nat} {listed : Array Bool} {a : Act} {w : World} : AllHeld P md ops Q S k n listed a w [] := fun _ h => by cases h
theorem AllHeld.cons {n : Nat} {listed : Array Bool} {a : Act} {w : World} {i : Nat} {o : Oper} {rs : List Nat} (ho : ops[i]? = some o)
    (h : ∀ K' : Act → World → Prop, Shut (∀ a w, (i ≠ k → S w) → ((i ≠ k → S w) → Held P md ops Q S k n (listed.setIfInBounds i true) a w) → K' a w) → if Region.wanted o (yielded ops a.tmps) = true then Oper.wp P o a w K' Q else K' (a.put o.dst undef) w)
    (hs : AllHeld P md ops Q S k n listed a w rs) : AllHeld P md ops Q S k n listed a w (i :: rs) := fun j hj => by
  rcases List.mem_cons.1 hj with rfl | hj
  · exact wpOp_step ho (fun K' hK => h K' (fun a w hS hW => hK a w ⟨hS, hW hS⟩))
  · exact hs j hj
theorem held_ready {rs : List Nat} {n : Nat} {listed : Array Bool} {a : Act} {w : World} (hr : Region.ready md ops listed = rs) (hne : rs ≠ [])
    (h : AllHeld P md ops Q S k n listed a w rs) : Held P md ops Q S k (n + 1) listed a w :=
  ⟨fun e => absurd (hr.symm.trans e) hne, by rw [hr]; exact h⟩
theorem held_done {listed : Array Bool} {a : Act} {w : World} (hr : Region.ready md ops listed = []) (h : Q .normal a w) : ∀ n, Held P md ops Q S k n listed a w
  | 0 => ⟨hr, h⟩
  | _ + 1 => ⟨fun _ => h, by rw [hr]; simp⟩
theorem region_held {id : Nat} {a : Act} {w : World} (hm : P.follows .mixedOrders = true) (hS : S w.drew)
    (h : S w.drew → Held P .any ops Q S k ops.size (Array.replicate ops.size false) a w.drew) : (Code.region id ops true).wp P Q a w :=
  wp_region_any hm (Held.any _ _ _ _ (h hS))
end
end Go.Proofs.YtkeegnhjemhblaaGreatDoor.Rb
/-
  The contract of the reference's Less (names of 32 bytes).
-/
namespace Go.Proofs.YtkeegnhjemhblaaGreatDoor.Rb
open Go.RowKit Go.Maps Go.WideMaps Go.Proofs.YtkeegnhjemhblaaGreatDoor.Rf

theorem lt_at : ∀ (a b : List UInt8) (i : Nat) (x y : UInt8), a.take i = b.take i → a[i]? = some x → b[i]? = some y → x ≠ y → lt a b = decide (x < y)
  | [], _, _, _, _, _, h, _, _ => by simp at h
  | _ :: _, [], _, _, _, _, _, h, _ => by simp at h
  | u :: r, v :: s, 0, x, y, _, ha, hb, hn => by
    simp at ha hb
    subst ha hb
    show (decide (u < v) || (u == v && lt r s)) = _
    have : (u == v) = false := by simpa using hn
    rw [this]; simp
  | u :: r, v :: s, i + 1, x, y, ht, ha, hb, hn => by
    simp at ht ha hb
    obtain ⟨rfl, ht⟩ := ht
    show (decide (u < u) || (u == u && lt r s)) = _
    rw [lt_at r s i x y ht ha hb hn]
    simp
theorem u8_ne {x y : UInt8} (h : x ≠ y) : ¬ ((x.toNat : Int) = (y.toNat : Int)) := fun e => h (UInt8.toNat_inj.1 (by omega))
theorem u8_lt (x y : UInt8) : decide (x.toNat < y.toNat) = decide (x < y) := by
  simp [UInt8.lt_iff_toNat_lt]
set_option linter.unusedSimpArgs false in
set_option maxHeartbeats 4000000 in
set_option maxRecDepth 100000 in
theorem rless_any (w : World) (a b : List UInt8) (ha : a.length = 32) (hb : b.length = 32) :
    Calls Tryz.prog 154 #[.agg (Lib.byteCells a).toArray, .agg (Lib.byteCells b).toArray] w fun e w' => e = .returned (.bool (lt a b)) ∧ Below w.heap.size w w' := by
  obtain ⟨W, hW⟩ : ∃ W, W = (w.alloc (.cells (Lib.byteCells a).toArray 81)).alloc (.cells (Lib.byteCells b).toArray 81) := ⟨_, rfl⟩
  have hb1 : Below w.heap.size w (w.alloc (.cells (Lib.byteCells a).toArray 81)) := (Below.refl _ _).alloc (Nat.le_refl _) _
  have hs1 : (w.alloc (.cells (Lib.byteCells a).toArray 81)).heap.size = w.heap.size + 1 := Array.size_push _
  have HB0 : Hid (Below w.heap.size w W) := Lib.hid (by rw [hW]; exact hb1.alloc hb1.size _)
  have hqa : W.heap[w.heap.size]? = some (.cells (Lib.byteCells a).toArray 81) := by
    rw [hW]
    exact (((Below.refl (w.alloc (.cells (Lib.byteCells a).toArray 81)).heap.size _).alloc (Nat.le_refl _) _).block _ (by omega)).trans (MapKept.heap_alloc w _).1
  have hqb : W.heap[w.heap.size + 1]? = some (.cells (Lib.byteCells b).toArray 81) := by
    rw [hW, ← hs1]; exact (MapKept.heap_alloc _ _).1
  have KA : Hid (∀ w' : World, Below W.heap.size W w' → ∀ (i : Nat) x y, a[i]? = some x → b[i]? = some y → w'.cell? ⟨w.heap.size, i, none⟩ = some (.int .u8 (x.toNat : Int)) ∧ w'.cell? ⟨w.heap.size + 1, i, none⟩ = some (.int .u8 (y.toNat : Int))) := Lib.hid (fun w' hb i x y hx hy => by
    refine ⟨?_, ?_⟩
    · rw [cell_of_heap ((hb.block _ (lt_of_heap hqa)).trans hqa), List.getElem?_toArray, Lib.byteCells, List.getElem?_map, hx]; rfl
    · rw [cell_of_heap ((hb.block _ (lt_of_heap hqb)).trans hqb), List.getElem?_toArray, Lib.byteCells, List.getElem?_map, hy]; rfl)
  have HW := Lib.hid hW; have HA := Lib.hid ha; have HBL := Lib.hid hb
  clear hb1 hqa hqb hW ha hb
  go_enter Tryz.func154, Tryz.ntmps154
  go_wp2
  rw [← HW.out]
  try rw [hs1]
  clear hs1
  go_loopw [5] (fun v5 ws => ∃ i : Nat, i ≤ 32 ∧ v5 = .int .i64 (i : Int) ∧ Hid (Below W.heap.size W ws) ∧ Hid (a.take i = b.take i)) (fun v5 _ => 32 - (RowKit.intOf v5).toNat)
  case atStart => exact ⟨0, Nat.zero_le _, rfl, Lib.hid (Below.refl _ _), Lib.hid (by simp)⟩
  case round =>
    obtain ⟨i, hi, rfl, HB, HT⟩ := hrel
    by_cases hin : (i : Int) < 32
    · obtain ⟨x, hx⟩ : ∃ x, a[i]? = some x := ⟨_, List.getElem?_eq_getElem (by rw [HA.out]; omega)⟩
      obtain ⟨y, hy⟩ : ∃ y, b[i]? = some y := ⟨_, List.getElem?_eq_getElem (by rw [HBL.out]; omega)⟩
      obtain ⟨z0, z1⟩ := KA.out wr HB.out i x y hx hy
      have h0 : (0 : Int) ≤ (i : Int) := by omega
      by_cases hxy : x = y
      · subst hxy
        have HX := Lib.hid hx; have HY := Lib.hid hy
        clear hx hy
        go_wp2_with (first | go_region | fail)
        go_roundw
        case rel => exact ⟨i + 1, by omega, by go_num, Lib.hid (HB.out.drew), Lib.hid (by rw [List.take_add_one, List.take_add_one, HX.out, HY.out, HT.out])⟩
        case measure => simp [RowKit.intOf]; omega
      · have HLT : Hid (lt a b = decide (x.toNat < y.toNat)) := Lib.hid (by rw [u8_lt]; exact lt_at a b i x y HT.out hx hy hxy)
        have hne := u8_ne hxy
        clear hx hy hxy
        go_wp2_with (first | go_region | fail)
        go_ret
        rw [HLT.out]
        exact ⟨rfl, HB0.out.trans ((HB.out.drew).drew.mono HB0.out.size)⟩
    · obtain rfl : i = 32 := by omega
      have HLT : Hid (lt a b = false) := Lib.hid (by
        have h1 := HT.out
        rw [List.take_of_length_le (by rw [HA.out]; exact Nat.le_refl _), List.take_of_length_le (by rw [HBL.out]; exact Nat.le_refl _)] at h1
        rw [h1, lt_irr])
      go_wp2
      go_ret
      rw [HLT.out]
      exact ⟨rfl, HB0.out.trans (HB.out.mono HB0.out.size)⟩
end Go.Proofs.YtkeegnhjemhblaaGreatDoor.Rb
