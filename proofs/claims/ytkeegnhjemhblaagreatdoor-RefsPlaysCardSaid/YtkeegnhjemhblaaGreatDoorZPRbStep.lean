import Derived.Test.YtkeegnhjemhblaaGreatDoorZPRbPair
import Derived.Test.YtkeegnhjemhblaaGreatDoorZPRbAdd
import Derived.Test.YtkeegnhjemhblaaGreatDoorZPRbBack
import Derived.Test.YtkeegnhjemhblaaGreatDoorZPRbEnd
import Derived.Test.YtkeegnhjemhblaaGreatDoorZPRbIds
set_option linter.unusedSimpArgs false
set_option linter.unusedVariables false
/-
  The contract of munimentlaw20's step, on a book of the program's and one of the reference's. Printed by genstep20.py.
-/
set_option linter.unusedSimpArgs false
namespace Go.Proofs.YtkeegnhjemhblaaGreatDoor.Rb
open Go.RowKit Go.Maps Go.WideMaps Go.Proofs.YtkeegnhjemhblaaGreatDoor.Rf

def opC (kind : Int) (s u : List UInt8) (c : UInt8) (t n : Int) : Array Value := #[.int .i64 kind, .string ⟨s.toArray⟩, .string ⟨u.toArray⟩, .int .u8 (c.toNat : Int), .int .i64 t, .int .i64 n]
/-- What a call does to a book. -/
def opB (kind : Int) (s u : List UInt8) (c : UInt8) (t n : Int) (K : BK) : Int × BK :=
  if kind = 0 then addB K s (Rf.enB c t) else if kind = 1 then backB K s n else if kind = 2 then copyB K s u else if kind = 3 then dropB K s else (0, K)
theorem idB_len (c : UInt8) : (idB c).length = 32 := by simp [idB]
theorem opB_ok {K : BK} (ok : OkB K) (kind : Int) (s u : List UInt8) (c : UInt8) (t n : Int) : OkB (opB kind s u c t n K).2 := by
  unfold opB
  split
  · exact add_ok ok s _ (idB_len c)
  split
  · exact back_ok ok s n
  split
  · exact copy_ok ok s u
  split
  · exact drop_ok ok s
  · exact ok
theorem range_all {w : World} {q : Nat} {cs : List Value} {T : TypeId} (h : w.heap[q]? = some (.cells cs.toArray T)) : w.rangeAt q 0 cs := fun j v hj => by
  rw [Nat.zero_add, cell_of_heap h, List.getElem?_toArray]; exact hj
theorem build_en (w : World) (c : UInt8) (t : Int) : (Instr.build 84 #[(0, .agg (Lib.byteCells (idB c)).toArray), (1, .int .i64 t)]).run Tryz.prog w = .ok (enV (Rf.enB c t)) w := by kernel_rfl
theorem build_enR (w : World) (c : UInt8) (t : Int) : (Instr.build 89 #[(0, .agg (Lib.byteCells (idB c)).toArray), (1, .int .i64 t)]).run Tryz.prog w = .ok (enV (Rf.enB c t)) w := by kernel_rfl
theorem exec_build {P : Program} {o : Oper} {a : Act} {w : World} (t : TypeId) (x y : Operand) (X Y v : Value) (ho : o.op = .build t #[(0, x), (1, y)]) (hx : a.eval x = X) (hy : a.eval y = Y) (hr : (Instr.build t #[(0, X), (1, Y)]).run P w = .ok v w) :
    (execOp a.eval o).run P w = .ok (.value v) w := by
  simp [execOp, ho, hx, hy, hr, Result.andThen]
def zer32 : Array Value := (List.replicate 32 (Value.int .u8 0)).toArray
theorem store_newI (w : World) (cs : Array Value) : ((w.alloc (.cells zer32 IdT)).setRow w.heap.size cs).heap[w.heap.size]? = some (.cells cs IdT) ∧ Below w.heap.size w ((w.alloc (.cells zer32 IdT)).setRow w.heap.size cs) := by
  refine ⟨setRow_heap _ _ _ _ _ _ (MapKept.heap_alloc w _).1, ?_⟩
  refine ((Below.refl _ w).alloc (Nat.le_refl _) (.cells zer32 IdT)).trans ⟨rfl, rfl, rfl, by simp [World.setRow], fun k hk => ?_⟩
  exact setRow_other _ _ _ _ (by omega)
def StepPost (B : Nat) (w : World) (g b : Nat) (Z1 : BM) (r : Nat) (v : Value) (Z2 : BM) (P Q : Int × BK) (e : Ending) (w' : World) : Prop :=
  e = .returned (.bool (P.1 == Q.1)) ∧ ∃ Z1' v' Z2', Pair B w' g b Z1' r v' Z2' P.2 Q.2 ∧ Eff (prB g b Z1 r v Z2) (prB g b Z1' r v' Z2') w w'
set_option maxHeartbeats 40000000 in
set_option maxRecDepth 100000 in
theorem step_any {B : Nat} {w : World} {g b : Nat} {Z1 : BM} {r : Nat} {v : Value} {Z2 : BM} {K1 K2 : BK} (h : Pair B w g b Z1 r v Z2 K1 K2) (hT : ∀ W, Below B w W → Nm.Tabs W)
    (kind t n : Int) (c : UInt8) (s u : List UInt8) (hs : s.length ≤ maxLen) (hu : u.length ≤ maxLen) :
    Calls Tryz.prog 12 #[ptr g, ptr r, .agg (opC kind s u c t n)] w (StepPost B w g b Z1 r v Z2 (opB kind s u c t n K1) (opB kind s u c t n K2)) := by
  have HP := Lib.hid h; have HTT := Lib.hid hT; have HSL := Lib.hid hs; have HUL := Lib.hid hu
  obtain ⟨W, hW⟩ : ∃ W, W = w.alloc (.cells (opC kind s u c t n) 39) := ⟨_, rfl⟩
  have hq0 : W.heap[w.heap.size]? = some (.cells (opC kind s u c t n) 39) := by rw [hW]; exact (MapKept.heap_alloc w _).1
  have HQ0 := Lib.hid hq0
  have HBW : Hid (Below w.heap.size w W) := Lib.hid (by rw [hW]; exact (Below.refl _ _).alloc (Nat.le_refl _) _)
  have HW := Lib.hid hW
  have z0 : (opC kind s u c t n)[0]? = some (.int .i64 kind) := rfl
  have z3 : (opC kind s u c t n)[3]? = some (.int .u8 (c.toNat : Int)) := rfl
  obtain ⟨PP, hPP⟩ : ∃ PP, PP = opB kind s u c t n K1 := ⟨_, rfl⟩
  obtain ⟨QQ, hQQ⟩ : ∃ QQ, QQ = opB kind s u c t n K2 := ⟨_, rfl⟩
  rw [← hPP, ← hQQ]
  have HPP := Lib.hid hPP; have HQQ := Lib.hid hQQ
  have okP : Hid (OkB PP.2) := Lib.hid (by rw [hPP]; exact opB_ok h.ok _ _ _ _ _ _)
  have okQ : Hid (OkB QQ.2) := Lib.hid (by rw [hQQ]; exact opB_ok h.ok2 _ _ _ _ _ _)
  clear h hT hs hu hW hq0 hPP hQQ
  unfold ptr at *
  go_enter Tryz.func12, Tryz.ntmps12
  by_cases h0 : kind = 0
  · have hPQ : PP = addB K1 s (Rf.enB c t) ∧ QQ = addB K2 s (Rf.enB c t) := by rw [HPP.out, HQQ.out, opB, opB, if_pos h0, if_pos h0]; exact ⟨rfl, rfl⟩
    have HPQ := Lib.hid hPQ
    clear hPQ
    subst h0
    go_upto_region 3 with (fail)
    rw [← HW.out]
    have hws : W.heap.size = w.heap.size + 1 := by rw [HW.out]; exact one_size _ _
    have HWS := Lib.hid hws
    clear z0 z3 hws
    have z3 : W.cell? ⟨w.heap.size, 3, none⟩ = some (.int .u8 (c.toNat : Int)) := cell_of_heap HQ0.out
    have HI2 : Hid ((Tryz.prog.info? IdT).map (·.size) = some (Lib.byteCells (idB c)).toArray.size) := Lib.hid (by rw [List.size_toArray]; exact infoIdX (idB_len c))
    have HS2z : Hid (zer32.size = (Lib.byteCells (idB c)).toArray.size) := Lib.hid (by show 32 = _; rw [List.size_toArray, bytes_len, idB_len])
    have HONE : Hid ((Lib.byteCells (idB c)).toArray.all (·.oneCell') = true) := Lib.hid (all_oneCell_toArray (bytes_one _))
    go_upto_region 4 with (first
      | (refine wpList_store_row rfl _ _ _ rfl W.heap.size (Lib.byteCells (idB c)).toArray rfl rfl IdT zer32 (MapKept.heap_alloc W (.cells zer32 IdT)).1 HI2.out HS2z.out HONE.out ?_
         obtain ⟨hq6, hb6⟩ := store_newI W (Lib.byteCells (idB c)).toArray
         change wpList _ _ _ _ _ ((W.alloc (.cells zer32 IdT)).setRow W.heap.size (Lib.byteCells (idB c)).toArray)
         generalize (W.alloc (.cells zer32 IdT)).setRow W.heap.size (Lib.byteCells (idB c)).toArray = w6 at hq6 hb6 ⊢
         have HQ6 := Lib.hid hq6; have HB6 := Lib.hid hb6
         clear hq6 hb6)
      | fail)
    rw [HWS.out]
    clear z3
    have HBs : Hid (Below w.heap.size w w6.drew) := Lib.hid (HBW.out.trans (HB6.out.mono HBW.out.size)).drew
    have HSW : Hid (w6.drew.heap[w.heap.size]? = some (.cells (opC 0 s u c t n) 39) ∧ w6.drew.heap[w.heap.size + 1]? = some (.cells (Lib.byteCells (idB c)).toArray IdT)) := Lib.hid ⟨(HB6.out.block _ (lt_of_heap HQ0.out)).trans HQ0.out, by rw [← HWS.out]; exact HQ6.out⟩
    have KS : Hid (∀ w2 : World, (∀ x, x < w6.drew.heap.size → x ∉ pbB g b Z1 → w2.heap[x]? = w6.drew.heap[x]?) → w2.heap[w.heap.size]? = some (.cells (opC 0 s u c t n) 39) ∧ w2.heap[w.heap.size + 1]? = some (.cells (Lib.byteCells (idB c)).toArray IdT)) := Lib.hid (fun w2 hx => ⟨(hx _ (lt_of_heap HSW.out.1) (fun hc => Nat.lt_irrefl _ (HP.out.bk.ltP _ hc))).trans HSW.out.1, (hx _ (lt_of_heap HSW.out.2) (fun hc => by have := HP.out.bk.ltP _ hc; omega)).trans HSW.out.2⟩)
    have KS4 : Hid (∀ w2 w4 : World, (w2.heap[w.heap.size]? = some (.cells (opC 0 s u c t n) 39) ∧ w2.heap[w.heap.size + 1]? = some (.cells (Lib.byteCells (idB c)).toArray IdT)) → (∀ x, x < w2.heap.size → x ∉ rbB r v Z2 → w4.heap[x]? = w2.heap[x]?) → (w4.heap[w.heap.size]? = some (.cells (opC 0 s u c t n) 39) ∧ w4.heap[w.heap.size + 1]? = some (.cells (Lib.byteCells (idB c)).toArray IdT))) := Lib.hid (fun w2 w4 hq hx => ⟨(hx _ (lt_of_heap hq.1) (fun hc => Nat.lt_irrefl _ (HP.out.rb.lt _ hc))).trans hq.1, (hx _ (lt_of_heap hq.2) (fun hc => by have := HP.out.rb.lt _ hc; omega)).trans hq.2⟩)
    refine wp_region_held_drew (S := (fun w' : World => (w'.heap[w.heap.size]? = some (.cells (opC 0 s u c t n) 39)) ∧ w'.heap[w.heap.size + 1]? = some (.cells (Lib.byteCells (idB c)).toArray IdT))) (by kernel_rfl) HSW.out (fun hHeld => ?_)
    refine wpAnyH_take (i := 0) (v := ?_) rfl (by kernel_rfl) (by kernel_rfl) (by kernel_rfl) (fun _ _ _ h => h) (Or.inl ⟨by rfl, ?k00⟩) hHeld ?_
    case k00 =>
      intro wS hSw
      have z1 : wS.cell? ⟨w.heap.size, 1, none⟩ = some (.string ⟨s.toArray⟩) := cell_of_heap hSw.1
      have z2 : wS.cell? ⟨w.heap.size, 2, none⟩ = some (.string ⟨u.toArray⟩) := cell_of_heap hSw.1
      have z4 : wS.cell? ⟨w.heap.size, 4, none⟩ = some (.int .i64 t) := cell_of_heap hSw.1
      have z5 : wS.cell? ⟨w.heap.size, 5, none⟩ = some (.int .i64 n) := cell_of_heap hSw.1
      go_simp
      try with_reducible rfl
    try simp only [Act.put, List.getElem_toArray, List.getElem_cons_zero, List.getElem_cons_succ, List.setIfInBounds_toArray, List.set_cons_zero, List.set_cons_succ]
    refine wpAnyH_take (i := 1) (v := ?_) rfl (by kernel_rfl) (by kernel_rfl) (by kernel_rfl) (fun _ _ _ h => h) (Or.inl ⟨by rfl, ?k01⟩) hHeld ?_
    case k01 =>
      intro wS hSw
      have z1 : wS.cell? ⟨w.heap.size, 1, none⟩ = some (.string ⟨s.toArray⟩) := cell_of_heap hSw.1
      have z2 : wS.cell? ⟨w.heap.size, 2, none⟩ = some (.string ⟨u.toArray⟩) := cell_of_heap hSw.1
      have z4 : wS.cell? ⟨w.heap.size, 4, none⟩ = some (.int .i64 t) := cell_of_heap hSw.1
      have z5 : wS.cell? ⟨w.heap.size, 5, none⟩ = some (.int .i64 n) := cell_of_heap hSw.1
      go_simp
      try with_reducible rfl
    try simp only [Act.put, List.getElem_toArray, List.getElem_cons_zero, List.getElem_cons_succ, List.setIfInBounds_toArray, List.set_cons_zero, List.set_cons_succ]
    refine wpAnyH_take (i := 2) (v := ?_) rfl (by kernel_rfl) (by kernel_rfl) (by kernel_rfl) (fun _ _ _ h => h) (Or.inl ⟨by rfl, ?k02⟩) hHeld ?_
    case k02 =>
      intro wS hSw
      have z1 : wS.cell? ⟨w.heap.size, 1, none⟩ = some (.string ⟨s.toArray⟩) := cell_of_heap hSw.1
      have z2 : wS.cell? ⟨w.heap.size, 2, none⟩ = some (.string ⟨u.toArray⟩) := cell_of_heap hSw.1
      have z4 : wS.cell? ⟨w.heap.size, 4, none⟩ = some (.int .i64 t) := cell_of_heap hSw.1
      have z5 : wS.cell? ⟨w.heap.size, 5, none⟩ = some (.int .i64 n) := cell_of_heap hSw.1
      go_simp
      try with_reducible rfl
    try simp only [Act.put, List.getElem_toArray, List.getElem_cons_zero, List.getElem_cons_succ, List.setIfInBounds_toArray, List.set_cons_zero, List.set_cons_succ]
    refine' wpAnyH_take (i := 3) (v := _) rfl (by kernel_rfl) (by kernel_rfl) (by kernel_rfl) (fun _ _ _ h => h) (yieldsIf_load_mid (by rfl) _ _ rfl (w.heap.size + 1) 0 rfl (Lib.byteCells (idB c)) _ ?k03S ?k03u ?k03d ?k03i) hHeld ?k03x
    case k03S =>
      intro wS hSw
      exact (range_all hSw.2)
    case k03u => exact Tryz.underlying81
    case k03d => rfl
    case k03i => exact (infoIdX (idB_len c))
    try simp only [Act.put, List.getElem_toArray, List.getElem_cons_zero, List.getElem_cons_succ, List.setIfInBounds_toArray, List.set_cons_zero, List.set_cons_succ]
    refine wpAnyH_take (i := 4) (v := ?_) rfl (by kernel_rfl) (by kernel_rfl) (by kernel_rfl) (fun _ _ _ h => h) (Or.inl ⟨by rfl, ?k04⟩) hHeld ?_
    case k04 =>
      intro wS hSw
      have z1 : wS.cell? ⟨w.heap.size, 1, none⟩ = some (.string ⟨s.toArray⟩) := cell_of_heap hSw.1
      have z2 : wS.cell? ⟨w.heap.size, 2, none⟩ = some (.string ⟨u.toArray⟩) := cell_of_heap hSw.1
      have z4 : wS.cell? ⟨w.heap.size, 4, none⟩ = some (.int .i64 t) := cell_of_heap hSw.1
      have z5 : wS.cell? ⟨w.heap.size, 5, none⟩ = some (.int .i64 n) := cell_of_heap hSw.1
      go_simp
      try with_reducible rfl
    try simp only [Act.put, List.getElem_toArray, List.getElem_cons_zero, List.getElem_cons_succ, List.setIfInBounds_toArray, List.set_cons_zero, List.set_cons_succ]
    refine wpAnyH_take (i := 5) (v := ?_) rfl (by kernel_rfl) (by kernel_rfl) (by kernel_rfl) (fun _ _ _ h => h) (Or.inl ⟨by rfl, ?k05⟩) hHeld ?_
    case k05 =>
      intro wS hSw
      have z1 : wS.cell? ⟨w.heap.size, 1, none⟩ = some (.string ⟨s.toArray⟩) := cell_of_heap hSw.1
      have z2 : wS.cell? ⟨w.heap.size, 2, none⟩ = some (.string ⟨u.toArray⟩) := cell_of_heap hSw.1
      have z4 : wS.cell? ⟨w.heap.size, 4, none⟩ = some (.int .i64 t) := cell_of_heap hSw.1
      have z5 : wS.cell? ⟨w.heap.size, 5, none⟩ = some (.int .i64 n) := cell_of_heap hSw.1
      go_simp
      try with_reducible rfl
    try simp only [Act.put, List.getElem_toArray, List.getElem_cons_zero, List.getElem_cons_succ, List.setIfInBounds_toArray, List.set_cons_zero, List.set_cons_succ]
    refine wpAnyH_take (i := 6) (v := (enV (Rf.enB c t))) rfl (by kernel_rfl) (by kernel_rfl) (by kernel_rfl) (fun _ _ _ h => h) (Or.inl ⟨by rfl, ?k06⟩) hHeld ?_
    case k06 =>
      intro wS hSw
      exact exec_build 84 (.tmp 18) (.tmp 20) _ _ _ rfl rfl rfl (build_en _ c t)
    try simp only [Act.put, List.getElem_toArray, List.getElem_cons_zero, List.getElem_cons_succ, List.setIfInBounds_toArray, List.set_cons_zero, List.set_cons_succ]
    refine wpAnyH_take (i := 8) (v := ?_) rfl (by kernel_rfl) (by kernel_rfl) (by kernel_rfl) (fun _ _ _ h => h) (Or.inl ⟨by rfl, ?k07⟩) hHeld ?_
    case k07 =>
      intro wS hSw
      have z1 : wS.cell? ⟨w.heap.size, 1, none⟩ = some (.string ⟨s.toArray⟩) := cell_of_heap hSw.1
      have z2 : wS.cell? ⟨w.heap.size, 2, none⟩ = some (.string ⟨u.toArray⟩) := cell_of_heap hSw.1
      have z4 : wS.cell? ⟨w.heap.size, 4, none⟩ = some (.int .i64 t) := cell_of_heap hSw.1
      have z5 : wS.cell? ⟨w.heap.size, 5, none⟩ = some (.int .i64 n) := cell_of_heap hSw.1
      go_simp
      try with_reducible rfl
    try simp only [Act.put, List.getElem_toArray, List.getElem_cons_zero, List.getElem_cons_succ, List.setIfInBounds_toArray, List.set_cons_zero, List.set_cons_succ]
    refine wpAnyH_take (i := 9) (v := ?_) rfl (by kernel_rfl) (by kernel_rfl) (by kernel_rfl) (fun _ _ _ h => h) (Or.inl ⟨by rfl, ?k08⟩) hHeld ?_
    case k08 =>
      intro wS hSw
      have z1 : wS.cell? ⟨w.heap.size, 1, none⟩ = some (.string ⟨s.toArray⟩) := cell_of_heap hSw.1
      have z2 : wS.cell? ⟨w.heap.size, 2, none⟩ = some (.string ⟨u.toArray⟩) := cell_of_heap hSw.1
      have z4 : wS.cell? ⟨w.heap.size, 4, none⟩ = some (.int .i64 t) := cell_of_heap hSw.1
      have z5 : wS.cell? ⟨w.heap.size, 5, none⟩ = some (.int .i64 n) := cell_of_heap hSw.1
      go_simp
      try with_reducible rfl
    try simp only [Act.put, List.getElem_toArray, List.getElem_cons_zero, List.getElem_cons_succ, List.setIfInBounds_toArray, List.set_cons_zero, List.set_cons_succ]
    refine wpAnyH_take (i := 10) (v := ?_) rfl (by kernel_rfl) (by kernel_rfl) (by kernel_rfl) (fun _ _ _ h => h) (Or.inl ⟨by rfl, ?k09⟩) hHeld ?_
    case k09 =>
      intro wS hSw
      have z1 : wS.cell? ⟨w.heap.size, 1, none⟩ = some (.string ⟨s.toArray⟩) := cell_of_heap hSw.1
      have z2 : wS.cell? ⟨w.heap.size, 2, none⟩ = some (.string ⟨u.toArray⟩) := cell_of_heap hSw.1
      have z4 : wS.cell? ⟨w.heap.size, 4, none⟩ = some (.int .i64 t) := cell_of_heap hSw.1
      have z5 : wS.cell? ⟨w.heap.size, 5, none⟩ = some (.int .i64 n) := cell_of_heap hSw.1
      go_simp
      try with_reducible rfl
    try simp only [Act.put, List.getElem_toArray, List.getElem_cons_zero, List.getElem_cons_succ, List.setIfInBounds_toArray, List.set_cons_zero, List.set_cons_succ]
    refine' wpAnyH_take (i := 11) (v := _) rfl (by kernel_rfl) (by kernel_rfl) (by kernel_rfl) (fun _ _ _ h => h) (yieldsIf_load_mid (by rfl) _ _ rfl (w.heap.size + 1) 0 rfl (Lib.byteCells (idB c)) _ ?k010S ?k010u ?k010d ?k010i) hHeld ?k010x
    case k010S =>
      intro wS hSw
      exact (range_all hSw.2)
    case k010u => exact Tryz.underlying81
    case k010d => rfl
    case k010i => exact (infoIdX (idB_len c))
    try simp only [Act.put, List.getElem_toArray, List.getElem_cons_zero, List.getElem_cons_succ, List.setIfInBounds_toArray, List.set_cons_zero, List.set_cons_succ]
    refine wpAnyH_take (i := 12) (v := ?_) rfl (by kernel_rfl) (by kernel_rfl) (by kernel_rfl) (fun _ _ _ h => h) (Or.inl ⟨by rfl, ?k011⟩) hHeld ?_
    case k011 =>
      intro wS hSw
      have z1 : wS.cell? ⟨w.heap.size, 1, none⟩ = some (.string ⟨s.toArray⟩) := cell_of_heap hSw.1
      have z2 : wS.cell? ⟨w.heap.size, 2, none⟩ = some (.string ⟨u.toArray⟩) := cell_of_heap hSw.1
      have z4 : wS.cell? ⟨w.heap.size, 4, none⟩ = some (.int .i64 t) := cell_of_heap hSw.1
      have z5 : wS.cell? ⟨w.heap.size, 5, none⟩ = some (.int .i64 n) := cell_of_heap hSw.1
      go_simp
      try with_reducible rfl
    try simp only [Act.put, List.getElem_toArray, List.getElem_cons_zero, List.getElem_cons_succ, List.setIfInBounds_toArray, List.set_cons_zero, List.set_cons_succ]
    refine wpAnyH_take (i := 13) (v := ?_) rfl (by kernel_rfl) (by kernel_rfl) (by kernel_rfl) (fun _ _ _ h => h) (Or.inl ⟨by rfl, ?k012⟩) hHeld ?_
    case k012 =>
      intro wS hSw
      have z1 : wS.cell? ⟨w.heap.size, 1, none⟩ = some (.string ⟨s.toArray⟩) := cell_of_heap hSw.1
      have z2 : wS.cell? ⟨w.heap.size, 2, none⟩ = some (.string ⟨u.toArray⟩) := cell_of_heap hSw.1
      have z4 : wS.cell? ⟨w.heap.size, 4, none⟩ = some (.int .i64 t) := cell_of_heap hSw.1
      have z5 : wS.cell? ⟨w.heap.size, 5, none⟩ = some (.int .i64 n) := cell_of_heap hSw.1
      go_simp
      try with_reducible rfl
    try simp only [Act.put, List.getElem_toArray, List.getElem_cons_zero, List.getElem_cons_succ, List.setIfInBounds_toArray, List.set_cons_zero, List.set_cons_succ]
    refine wpAnyH_take (i := 14) (v := (enV (Rf.enB c t))) rfl (by kernel_rfl) (by kernel_rfl) (by kernel_rfl) (fun _ _ _ h => h) (Or.inl ⟨by rfl, ?k013⟩) hHeld ?_
    case k013 =>
      intro wS hSw
      exact exec_build 89 (.tmp 26) (.tmp 28) _ _ _ rfl rfl rfl (build_enR _ c t)
    try simp only [Act.put, List.getElem_toArray, List.getElem_cons_zero, List.getElem_cons_succ, List.setIfInBounds_toArray, List.set_cons_zero, List.set_cons_succ]
    refine wpAnyH_ready (rs := [7]) (by kernel_rfl) (by simp) ?_
    refine AllReadyH.cons rfl (fun K hK => ?_) AllReadyH.nil
    refine step_wp rfl ?_
    go_simp
    refine (add_any B _ g b Z1 ⟨s.toArray⟩ (Rf.enB c t) HSL.out (idB_len c) (book_all (HP.out.below HBs.out).bk) (by rw [HP.out.e1]; exact HP.out.ok)).mono ?_
    rintro e w2 hp2
    obtain ⟨Z1n, rfl, k2, q2, f2⟩ := bk_eff (HP.out.below HBs.out).bk hp2
    have K2 := Lib.hid k2; have Q2 := Lib.hid q2; have F2 := Lib.hid f2
    have HS2 := Lib.hid (KS.out w2 (fun x hx hn => f2.turn.block x hx hn))
    have RB := Lib.hid (HP.out.rbk HBs.out f2 (Below.refl _ _))
    have HB2 : Hid (Below B w w2) := Lib.hid ((HBs.out.mono HP.out.size).trans (f2.below (HP.out.below HBs.out).bk.geP (HP.out.below HBs.out).size))
    clear hp2 k2 q2 f2
    refine hK.out _ _ HS2.out (fun hHeld2 => ?_)
    clear hK K hHeld
    have hHeld := hHeld2
    clear hHeld2
    try simp only [Act.put, List.getElem_toArray, List.getElem_cons_zero, List.getElem_cons_succ, List.setIfInBounds_toArray, List.set_cons_zero, List.set_cons_succ]
    refine wpAnyH_ready (rs := [15]) (by kernel_rfl) (by simp) ?_
    refine AllReadyH.cons rfl (fun K hK => ?_) AllReadyH.nil
    refine step_wp rfl ?_
    go_simp
    refine (radd_any B w2 (HTT.out w2 HB2.out) r v Z2 s (Rf.enB c t) (idB_len c) (by rw [HP.out.e2]; exact HP.out.ok2) RB.out).mono ?_
    rintro e w4 hp4
    obtain ⟨v4, Z4, rfl, k4, q4, f4⟩ := rb_eff hp4
    have PB := Lib.hid (HP.out.both HBs.out K2.out (Q2.out.trans (by rw [HP.out.e1, HPQ.out.1])) F2.out (Below.refl _ _) k4 (q4.trans (by rw [HP.out.e2, HPQ.out.2])) f4 okP.out okQ.out)
    have HS4 := Lib.hid (KS4.out w2 w4 HS2.out (fun x hx hn => f4.turn.block x hx hn))
    clear hp4 k4 q4 f4
    refine hK.out _ _ HS4.out (fun hHeld2 => ?_)
    clear hK K hHeld
    have hHeld := hHeld2
    clear hHeld2
    try simp only [Act.put, List.getElem_toArray, List.getElem_cons_zero, List.getElem_cons_succ, List.setIfInBounds_toArray, List.set_cons_zero, List.set_cons_succ]
    refine wpAnyH_take (i := 16) (v := ?_) rfl (by kernel_rfl) (by kernel_rfl) (by kernel_rfl) (fun _ _ _ h => h) (Or.inl ⟨by rfl, ?k016⟩) hHeld ?_
    case k016 =>
      intro wS hSw
      have z1 : wS.cell? ⟨w.heap.size, 1, none⟩ = some (.string ⟨s.toArray⟩) := cell_of_heap hSw.1
      have z2 : wS.cell? ⟨w.heap.size, 2, none⟩ = some (.string ⟨u.toArray⟩) := cell_of_heap hSw.1
      have z4 : wS.cell? ⟨w.heap.size, 4, none⟩ = some (.int .i64 t) := cell_of_heap hSw.1
      have z5 : wS.cell? ⟨w.heap.size, 5, none⟩ = some (.int .i64 n) := cell_of_heap hSw.1
      go_simp
      try with_reducible rfl
    try simp only [Act.put, List.getElem_toArray, List.getElem_cons_zero, List.getElem_cons_succ, List.setIfInBounds_toArray, List.set_cons_zero, List.set_cons_succ]
    refine wpAnyH_take (i := 17) (v := ?_) rfl (by kernel_rfl) (by kernel_rfl) (by kernel_rfl) (fun _ _ _ h => h) (Or.inl ⟨by rfl, ?k017⟩) hHeld ?_
    case k017 =>
      intro wS hSw
      have z1 : wS.cell? ⟨w.heap.size, 1, none⟩ = some (.string ⟨s.toArray⟩) := cell_of_heap hSw.1
      have z2 : wS.cell? ⟨w.heap.size, 2, none⟩ = some (.string ⟨u.toArray⟩) := cell_of_heap hSw.1
      have z4 : wS.cell? ⟨w.heap.size, 4, none⟩ = some (.int .i64 t) := cell_of_heap hSw.1
      have z5 : wS.cell? ⟨w.heap.size, 5, none⟩ = some (.int .i64 n) := cell_of_heap hSw.1
      go_simp
      try with_reducible rfl
    try simp only [Act.put, List.getElem_toArray, List.getElem_cons_zero, List.getElem_cons_succ, List.setIfInBounds_toArray, List.set_cons_zero, List.set_cons_succ]
    refine wpAnyH_done (by kernel_rfl) ?_ _
    clear hHeld
    try simp only [Act.put, List.getElem_toArray, List.getElem_cons_zero, List.getElem_cons_succ, List.setIfInBounds_toArray, List.set_cons_zero, List.set_cons_succ]
    go_wp2
    go_ret
    have hpq := HPQ.out
    exact ⟨by rw [hpq.1, hpq.2, HP.out.e1, HP.out.e2]; rfl, _, _, _, PB.out.1, PB.out.2⟩
  by_cases h1 : kind = 1
  · have hPQ : PP = backB K1 s n ∧ QQ = backB K2 s n := by rw [HPP.out, HQQ.out, opB, opB, if_neg h0, if_neg h0, if_pos h1, if_pos h1]; exact ⟨rfl, rfl⟩
    have HPQ := Lib.hid hPQ
    clear hPQ
    subst h1
    have HBs : Hid (Below w.heap.size w W.drew) := Lib.hid HBW.out.drew
    have HSW : Hid (W.drew.heap[w.heap.size]? = some (.cells (opC 1 s u c t n) 39)) := Lib.hid HQ0.out
    have KS : Hid (∀ w2 : World, (∀ x, x < W.drew.heap.size → x ∉ pbB g b Z1 → w2.heap[x]? = W.drew.heap[x]?) → w2.heap[w.heap.size]? = some (.cells (opC 1 s u c t n) 39)) := Lib.hid (fun w2 hx => (hx _ (lt_of_heap HSW.out) (fun hc => Nat.lt_irrefl _ (HP.out.bk.ltP _ hc))).trans HSW.out)
    have KS4 : Hid (∀ w2 w4 : World, w2.heap[w.heap.size]? = some (.cells (opC 1 s u c t n) 39) → (∀ x, x < w2.heap.size → x ∉ rbB r v Z2 → w4.heap[x]? = w2.heap[x]?) → w4.heap[w.heap.size]? = some (.cells (opC 1 s u c t n) 39)) := Lib.hid (fun w2 w4 hq hx => (hx _ (lt_of_heap hq) (fun hc => Nat.lt_irrefl _ (HP.out.rb.lt _ hc))).trans hq)
    go_upto_region 6 with (fail)
    rw [← HW.out]
    clear z0 z3
    refine wp_region_held_drew (S := (fun w' : World => w'.heap[w.heap.size]? = some (.cells (opC 1 s u c t n) 39))) (by kernel_rfl) HSW.out (fun hHeld => ?_)
    refine wpAnyH_take (i := 0) (v := ?_) rfl (by kernel_rfl) (by kernel_rfl) (by kernel_rfl) (fun _ _ _ h => h) (Or.inl ⟨by rfl, ?k10⟩) hHeld ?_
    case k10 =>
      intro wS hSw
      have z1 : wS.cell? ⟨w.heap.size, 1, none⟩ = some (.string ⟨s.toArray⟩) := cell_of_heap hSw
      have z2 : wS.cell? ⟨w.heap.size, 2, none⟩ = some (.string ⟨u.toArray⟩) := cell_of_heap hSw
      have z4 : wS.cell? ⟨w.heap.size, 4, none⟩ = some (.int .i64 t) := cell_of_heap hSw
      have z5 : wS.cell? ⟨w.heap.size, 5, none⟩ = some (.int .i64 n) := cell_of_heap hSw
      go_simp
      try with_reducible rfl
    try simp only [Act.put, List.getElem_toArray, List.getElem_cons_zero, List.getElem_cons_succ, List.setIfInBounds_toArray, List.set_cons_zero, List.set_cons_succ]
    refine wpAnyH_take (i := 1) (v := ?_) rfl (by kernel_rfl) (by kernel_rfl) (by kernel_rfl) (fun _ _ _ h => h) (Or.inl ⟨by rfl, ?k11⟩) hHeld ?_
    case k11 =>
      intro wS hSw
      have z1 : wS.cell? ⟨w.heap.size, 1, none⟩ = some (.string ⟨s.toArray⟩) := cell_of_heap hSw
      have z2 : wS.cell? ⟨w.heap.size, 2, none⟩ = some (.string ⟨u.toArray⟩) := cell_of_heap hSw
      have z4 : wS.cell? ⟨w.heap.size, 4, none⟩ = some (.int .i64 t) := cell_of_heap hSw
      have z5 : wS.cell? ⟨w.heap.size, 5, none⟩ = some (.int .i64 n) := cell_of_heap hSw
      go_simp
      try with_reducible rfl
    try simp only [Act.put, List.getElem_toArray, List.getElem_cons_zero, List.getElem_cons_succ, List.setIfInBounds_toArray, List.set_cons_zero, List.set_cons_succ]
    refine wpAnyH_take (i := 2) (v := ?_) rfl (by kernel_rfl) (by kernel_rfl) (by kernel_rfl) (fun _ _ _ h => h) (Or.inl ⟨by rfl, ?k12⟩) hHeld ?_
    case k12 =>
      intro wS hSw
      have z1 : wS.cell? ⟨w.heap.size, 1, none⟩ = some (.string ⟨s.toArray⟩) := cell_of_heap hSw
      have z2 : wS.cell? ⟨w.heap.size, 2, none⟩ = some (.string ⟨u.toArray⟩) := cell_of_heap hSw
      have z4 : wS.cell? ⟨w.heap.size, 4, none⟩ = some (.int .i64 t) := cell_of_heap hSw
      have z5 : wS.cell? ⟨w.heap.size, 5, none⟩ = some (.int .i64 n) := cell_of_heap hSw
      go_simp
      try with_reducible rfl
    try simp only [Act.put, List.getElem_toArray, List.getElem_cons_zero, List.getElem_cons_succ, List.setIfInBounds_toArray, List.set_cons_zero, List.set_cons_succ]
    refine wpAnyH_take (i := 3) (v := ?_) rfl (by kernel_rfl) (by kernel_rfl) (by kernel_rfl) (fun _ _ _ h => h) (Or.inl ⟨by rfl, ?k13⟩) hHeld ?_
    case k13 =>
      intro wS hSw
      have z1 : wS.cell? ⟨w.heap.size, 1, none⟩ = some (.string ⟨s.toArray⟩) := cell_of_heap hSw
      have z2 : wS.cell? ⟨w.heap.size, 2, none⟩ = some (.string ⟨u.toArray⟩) := cell_of_heap hSw
      have z4 : wS.cell? ⟨w.heap.size, 4, none⟩ = some (.int .i64 t) := cell_of_heap hSw
      have z5 : wS.cell? ⟨w.heap.size, 5, none⟩ = some (.int .i64 n) := cell_of_heap hSw
      go_simp
      try with_reducible rfl
    try simp only [Act.put, List.getElem_toArray, List.getElem_cons_zero, List.getElem_cons_succ, List.setIfInBounds_toArray, List.set_cons_zero, List.set_cons_succ]
    refine wpAnyH_take (i := 4) (v := ?_) rfl (by kernel_rfl) (by kernel_rfl) (by kernel_rfl) (fun _ _ _ h => h) (Or.inl ⟨by rfl, ?k14⟩) hHeld ?_
    case k14 =>
      intro wS hSw
      have z1 : wS.cell? ⟨w.heap.size, 1, none⟩ = some (.string ⟨s.toArray⟩) := cell_of_heap hSw
      have z2 : wS.cell? ⟨w.heap.size, 2, none⟩ = some (.string ⟨u.toArray⟩) := cell_of_heap hSw
      have z4 : wS.cell? ⟨w.heap.size, 4, none⟩ = some (.int .i64 t) := cell_of_heap hSw
      have z5 : wS.cell? ⟨w.heap.size, 5, none⟩ = some (.int .i64 n) := cell_of_heap hSw
      go_simp
      try with_reducible rfl
    try simp only [Act.put, List.getElem_toArray, List.getElem_cons_zero, List.getElem_cons_succ, List.setIfInBounds_toArray, List.set_cons_zero, List.set_cons_succ]
    refine wpAnyH_take (i := 6) (v := ?_) rfl (by kernel_rfl) (by kernel_rfl) (by kernel_rfl) (fun _ _ _ h => h) (Or.inl ⟨by rfl, ?k15⟩) hHeld ?_
    case k15 =>
      intro wS hSw
      have z1 : wS.cell? ⟨w.heap.size, 1, none⟩ = some (.string ⟨s.toArray⟩) := cell_of_heap hSw
      have z2 : wS.cell? ⟨w.heap.size, 2, none⟩ = some (.string ⟨u.toArray⟩) := cell_of_heap hSw
      have z4 : wS.cell? ⟨w.heap.size, 4, none⟩ = some (.int .i64 t) := cell_of_heap hSw
      have z5 : wS.cell? ⟨w.heap.size, 5, none⟩ = some (.int .i64 n) := cell_of_heap hSw
      go_simp
      try with_reducible rfl
    try simp only [Act.put, List.getElem_toArray, List.getElem_cons_zero, List.getElem_cons_succ, List.setIfInBounds_toArray, List.set_cons_zero, List.set_cons_succ]
    refine wpAnyH_take (i := 7) (v := ?_) rfl (by kernel_rfl) (by kernel_rfl) (by kernel_rfl) (fun _ _ _ h => h) (Or.inl ⟨by rfl, ?k16⟩) hHeld ?_
    case k16 =>
      intro wS hSw
      have z1 : wS.cell? ⟨w.heap.size, 1, none⟩ = some (.string ⟨s.toArray⟩) := cell_of_heap hSw
      have z2 : wS.cell? ⟨w.heap.size, 2, none⟩ = some (.string ⟨u.toArray⟩) := cell_of_heap hSw
      have z4 : wS.cell? ⟨w.heap.size, 4, none⟩ = some (.int .i64 t) := cell_of_heap hSw
      have z5 : wS.cell? ⟨w.heap.size, 5, none⟩ = some (.int .i64 n) := cell_of_heap hSw
      go_simp
      try with_reducible rfl
    try simp only [Act.put, List.getElem_toArray, List.getElem_cons_zero, List.getElem_cons_succ, List.setIfInBounds_toArray, List.set_cons_zero, List.set_cons_succ]
    refine wpAnyH_take (i := 8) (v := ?_) rfl (by kernel_rfl) (by kernel_rfl) (by kernel_rfl) (fun _ _ _ h => h) (Or.inl ⟨by rfl, ?k17⟩) hHeld ?_
    case k17 =>
      intro wS hSw
      have z1 : wS.cell? ⟨w.heap.size, 1, none⟩ = some (.string ⟨s.toArray⟩) := cell_of_heap hSw
      have z2 : wS.cell? ⟨w.heap.size, 2, none⟩ = some (.string ⟨u.toArray⟩) := cell_of_heap hSw
      have z4 : wS.cell? ⟨w.heap.size, 4, none⟩ = some (.int .i64 t) := cell_of_heap hSw
      have z5 : wS.cell? ⟨w.heap.size, 5, none⟩ = some (.int .i64 n) := cell_of_heap hSw
      go_simp
      try with_reducible rfl
    try simp only [Act.put, List.getElem_toArray, List.getElem_cons_zero, List.getElem_cons_succ, List.setIfInBounds_toArray, List.set_cons_zero, List.set_cons_succ]
    refine wpAnyH_take (i := 9) (v := ?_) rfl (by kernel_rfl) (by kernel_rfl) (by kernel_rfl) (fun _ _ _ h => h) (Or.inl ⟨by rfl, ?k18⟩) hHeld ?_
    case k18 =>
      intro wS hSw
      have z1 : wS.cell? ⟨w.heap.size, 1, none⟩ = some (.string ⟨s.toArray⟩) := cell_of_heap hSw
      have z2 : wS.cell? ⟨w.heap.size, 2, none⟩ = some (.string ⟨u.toArray⟩) := cell_of_heap hSw
      have z4 : wS.cell? ⟨w.heap.size, 4, none⟩ = some (.int .i64 t) := cell_of_heap hSw
      have z5 : wS.cell? ⟨w.heap.size, 5, none⟩ = some (.int .i64 n) := cell_of_heap hSw
      go_simp
      try with_reducible rfl
    try simp only [Act.put, List.getElem_toArray, List.getElem_cons_zero, List.getElem_cons_succ, List.setIfInBounds_toArray, List.set_cons_zero, List.set_cons_succ]
    refine wpAnyH_take (i := 10) (v := ?_) rfl (by kernel_rfl) (by kernel_rfl) (by kernel_rfl) (fun _ _ _ h => h) (Or.inl ⟨by rfl, ?k19⟩) hHeld ?_
    case k19 =>
      intro wS hSw
      have z1 : wS.cell? ⟨w.heap.size, 1, none⟩ = some (.string ⟨s.toArray⟩) := cell_of_heap hSw
      have z2 : wS.cell? ⟨w.heap.size, 2, none⟩ = some (.string ⟨u.toArray⟩) := cell_of_heap hSw
      have z4 : wS.cell? ⟨w.heap.size, 4, none⟩ = some (.int .i64 t) := cell_of_heap hSw
      have z5 : wS.cell? ⟨w.heap.size, 5, none⟩ = some (.int .i64 n) := cell_of_heap hSw
      go_simp
      try with_reducible rfl
    try simp only [Act.put, List.getElem_toArray, List.getElem_cons_zero, List.getElem_cons_succ, List.setIfInBounds_toArray, List.set_cons_zero, List.set_cons_succ]
    refine wpAnyH_ready (rs := [5]) (by kernel_rfl) (by simp) ?_
    refine AllReadyH.cons rfl (fun K hK => ?_) AllReadyH.nil
    refine step_wp rfl ?_
    go_simp
    refine (back_any B _ g b Z1 ⟨s.toArray⟩ n HSL.out (book_all (HP.out.below HBs.out).bk) (by rw [HP.out.e1]; exact HP.out.ok)).mono ?_
    rintro e w2 hp2
    obtain ⟨Z1n, rfl, k2, q2, f2⟩ := bk_eff (HP.out.below HBs.out).bk hp2
    have K2 := Lib.hid k2; have Q2 := Lib.hid q2; have F2 := Lib.hid f2
    have HS2 := Lib.hid (KS.out w2 (fun x hx hn => f2.turn.block x hx hn))
    have RB := Lib.hid (HP.out.rbk HBs.out f2 (Below.refl _ _))
    have HB2 : Hid (Below B w w2) := Lib.hid ((HBs.out.mono HP.out.size).trans (f2.below (HP.out.below HBs.out).bk.geP (HP.out.below HBs.out).size))
    clear hp2 k2 q2 f2
    refine hK.out _ _ HS2.out (fun hHeld2 => ?_)
    clear hK K hHeld
    have hHeld := hHeld2
    clear hHeld2
    try simp only [Act.put, List.getElem_toArray, List.getElem_cons_zero, List.getElem_cons_succ, List.setIfInBounds_toArray, List.set_cons_zero, List.set_cons_succ]
    refine wpAnyH_ready (rs := [11]) (by kernel_rfl) (by simp) ?_
    refine AllReadyH.cons rfl (fun K hK => ?_) AllReadyH.nil
    refine step_wp rfl ?_
    go_simp
    refine (rback_any B w2 r v Z2 s n (by rw [HP.out.e2]; exact HP.out.ok2) RB.out).mono ?_
    rintro e w4 hp4
    obtain ⟨v4, Z4, rfl, k4, q4, f4⟩ := rb_eff hp4
    have PB := Lib.hid (HP.out.both HBs.out K2.out (Q2.out.trans (by rw [HP.out.e1, HPQ.out.1])) F2.out (Below.refl _ _) k4 (q4.trans (by rw [HP.out.e2, HPQ.out.2])) f4 okP.out okQ.out)
    have HS4 := Lib.hid (KS4.out w2 w4 HS2.out (fun x hx hn => f4.turn.block x hx hn))
    clear hp4 k4 q4 f4
    refine hK.out _ _ HS4.out (fun hHeld2 => ?_)
    clear hK K hHeld
    have hHeld := hHeld2
    clear hHeld2
    try simp only [Act.put, List.getElem_toArray, List.getElem_cons_zero, List.getElem_cons_succ, List.setIfInBounds_toArray, List.set_cons_zero, List.set_cons_succ]
    refine wpAnyH_take (i := 12) (v := ?_) rfl (by kernel_rfl) (by kernel_rfl) (by kernel_rfl) (fun _ _ _ h => h) (Or.inl ⟨by rfl, ?k112⟩) hHeld ?_
    case k112 =>
      intro wS hSw
      have z1 : wS.cell? ⟨w.heap.size, 1, none⟩ = some (.string ⟨s.toArray⟩) := cell_of_heap hSw
      have z2 : wS.cell? ⟨w.heap.size, 2, none⟩ = some (.string ⟨u.toArray⟩) := cell_of_heap hSw
      have z4 : wS.cell? ⟨w.heap.size, 4, none⟩ = some (.int .i64 t) := cell_of_heap hSw
      have z5 : wS.cell? ⟨w.heap.size, 5, none⟩ = some (.int .i64 n) := cell_of_heap hSw
      go_simp
      try with_reducible rfl
    try simp only [Act.put, List.getElem_toArray, List.getElem_cons_zero, List.getElem_cons_succ, List.setIfInBounds_toArray, List.set_cons_zero, List.set_cons_succ]
    refine wpAnyH_take (i := 13) (v := ?_) rfl (by kernel_rfl) (by kernel_rfl) (by kernel_rfl) (fun _ _ _ h => h) (Or.inl ⟨by rfl, ?k113⟩) hHeld ?_
    case k113 =>
      intro wS hSw
      have z1 : wS.cell? ⟨w.heap.size, 1, none⟩ = some (.string ⟨s.toArray⟩) := cell_of_heap hSw
      have z2 : wS.cell? ⟨w.heap.size, 2, none⟩ = some (.string ⟨u.toArray⟩) := cell_of_heap hSw
      have z4 : wS.cell? ⟨w.heap.size, 4, none⟩ = some (.int .i64 t) := cell_of_heap hSw
      have z5 : wS.cell? ⟨w.heap.size, 5, none⟩ = some (.int .i64 n) := cell_of_heap hSw
      go_simp
      try with_reducible rfl
    try simp only [Act.put, List.getElem_toArray, List.getElem_cons_zero, List.getElem_cons_succ, List.setIfInBounds_toArray, List.set_cons_zero, List.set_cons_succ]
    refine wpAnyH_done (by kernel_rfl) ?_ _
    clear hHeld
    try simp only [Act.put, List.getElem_toArray, List.getElem_cons_zero, List.getElem_cons_succ, List.setIfInBounds_toArray, List.set_cons_zero, List.set_cons_succ]
    go_wp2
    go_ret
    have hpq := HPQ.out
    exact ⟨by rw [hpq.1, hpq.2, HP.out.e1, HP.out.e2]; rfl, _, _, _, PB.out.1, PB.out.2⟩
  by_cases h2 : kind = 2
  · have hPQ : PP = copyB K1 s u ∧ QQ = copyB K2 s u := by rw [HPP.out, HQQ.out, opB, opB, if_neg h0, if_neg h0, if_neg h1, if_neg h1, if_pos h2, if_pos h2]; exact ⟨rfl, rfl⟩
    have HPQ := Lib.hid hPQ
    clear hPQ
    subst h2
    have HBs : Hid (Below w.heap.size w W.drew) := Lib.hid HBW.out.drew
    have HSW : Hid (W.drew.heap[w.heap.size]? = some (.cells (opC 2 s u c t n) 39)) := Lib.hid HQ0.out
    have KS : Hid (∀ w2 : World, (∀ x, x < W.drew.heap.size → x ∉ pbB g b Z1 → w2.heap[x]? = W.drew.heap[x]?) → w2.heap[w.heap.size]? = some (.cells (opC 2 s u c t n) 39)) := Lib.hid (fun w2 hx => (hx _ (lt_of_heap HSW.out) (fun hc => Nat.lt_irrefl _ (HP.out.bk.ltP _ hc))).trans HSW.out)
    have KS4 : Hid (∀ w2 w4 : World, w2.heap[w.heap.size]? = some (.cells (opC 2 s u c t n) 39) → (∀ x, x < w2.heap.size → x ∉ rbB r v Z2 → w4.heap[x]? = w2.heap[x]?) → w4.heap[w.heap.size]? = some (.cells (opC 2 s u c t n) 39)) := Lib.hid (fun w2 w4 hq hx => (hx _ (lt_of_heap hq) (fun hc => Nat.lt_irrefl _ (HP.out.rb.lt _ hc))).trans hq)
    go_upto_region 8 with (fail)
    rw [← HW.out]
    clear z0 z3
    refine wp_region_held_drew (S := (fun w' : World => w'.heap[w.heap.size]? = some (.cells (opC 2 s u c t n) 39))) (by kernel_rfl) HSW.out (fun hHeld => ?_)
    refine wpAnyH_take (i := 0) (v := ?_) rfl (by kernel_rfl) (by kernel_rfl) (by kernel_rfl) (fun _ _ _ h => h) (Or.inl ⟨by rfl, ?k20⟩) hHeld ?_
    case k20 =>
      intro wS hSw
      have z1 : wS.cell? ⟨w.heap.size, 1, none⟩ = some (.string ⟨s.toArray⟩) := cell_of_heap hSw
      have z2 : wS.cell? ⟨w.heap.size, 2, none⟩ = some (.string ⟨u.toArray⟩) := cell_of_heap hSw
      have z4 : wS.cell? ⟨w.heap.size, 4, none⟩ = some (.int .i64 t) := cell_of_heap hSw
      have z5 : wS.cell? ⟨w.heap.size, 5, none⟩ = some (.int .i64 n) := cell_of_heap hSw
      go_simp
      try with_reducible rfl
    try simp only [Act.put, List.getElem_toArray, List.getElem_cons_zero, List.getElem_cons_succ, List.setIfInBounds_toArray, List.set_cons_zero, List.set_cons_succ]
    refine wpAnyH_take (i := 1) (v := ?_) rfl (by kernel_rfl) (by kernel_rfl) (by kernel_rfl) (fun _ _ _ h => h) (Or.inl ⟨by rfl, ?k21⟩) hHeld ?_
    case k21 =>
      intro wS hSw
      have z1 : wS.cell? ⟨w.heap.size, 1, none⟩ = some (.string ⟨s.toArray⟩) := cell_of_heap hSw
      have z2 : wS.cell? ⟨w.heap.size, 2, none⟩ = some (.string ⟨u.toArray⟩) := cell_of_heap hSw
      have z4 : wS.cell? ⟨w.heap.size, 4, none⟩ = some (.int .i64 t) := cell_of_heap hSw
      have z5 : wS.cell? ⟨w.heap.size, 5, none⟩ = some (.int .i64 n) := cell_of_heap hSw
      go_simp
      try with_reducible rfl
    try simp only [Act.put, List.getElem_toArray, List.getElem_cons_zero, List.getElem_cons_succ, List.setIfInBounds_toArray, List.set_cons_zero, List.set_cons_succ]
    refine wpAnyH_take (i := 2) (v := ?_) rfl (by kernel_rfl) (by kernel_rfl) (by kernel_rfl) (fun _ _ _ h => h) (Or.inl ⟨by rfl, ?k22⟩) hHeld ?_
    case k22 =>
      intro wS hSw
      have z1 : wS.cell? ⟨w.heap.size, 1, none⟩ = some (.string ⟨s.toArray⟩) := cell_of_heap hSw
      have z2 : wS.cell? ⟨w.heap.size, 2, none⟩ = some (.string ⟨u.toArray⟩) := cell_of_heap hSw
      have z4 : wS.cell? ⟨w.heap.size, 4, none⟩ = some (.int .i64 t) := cell_of_heap hSw
      have z5 : wS.cell? ⟨w.heap.size, 5, none⟩ = some (.int .i64 n) := cell_of_heap hSw
      go_simp
      try with_reducible rfl
    try simp only [Act.put, List.getElem_toArray, List.getElem_cons_zero, List.getElem_cons_succ, List.setIfInBounds_toArray, List.set_cons_zero, List.set_cons_succ]
    refine wpAnyH_take (i := 3) (v := ?_) rfl (by kernel_rfl) (by kernel_rfl) (by kernel_rfl) (fun _ _ _ h => h) (Or.inl ⟨by rfl, ?k23⟩) hHeld ?_
    case k23 =>
      intro wS hSw
      have z1 : wS.cell? ⟨w.heap.size, 1, none⟩ = some (.string ⟨s.toArray⟩) := cell_of_heap hSw
      have z2 : wS.cell? ⟨w.heap.size, 2, none⟩ = some (.string ⟨u.toArray⟩) := cell_of_heap hSw
      have z4 : wS.cell? ⟨w.heap.size, 4, none⟩ = some (.int .i64 t) := cell_of_heap hSw
      have z5 : wS.cell? ⟨w.heap.size, 5, none⟩ = some (.int .i64 n) := cell_of_heap hSw
      go_simp
      try with_reducible rfl
    try simp only [Act.put, List.getElem_toArray, List.getElem_cons_zero, List.getElem_cons_succ, List.setIfInBounds_toArray, List.set_cons_zero, List.set_cons_succ]
    refine wpAnyH_take (i := 4) (v := ?_) rfl (by kernel_rfl) (by kernel_rfl) (by kernel_rfl) (fun _ _ _ h => h) (Or.inl ⟨by rfl, ?k24⟩) hHeld ?_
    case k24 =>
      intro wS hSw
      have z1 : wS.cell? ⟨w.heap.size, 1, none⟩ = some (.string ⟨s.toArray⟩) := cell_of_heap hSw
      have z2 : wS.cell? ⟨w.heap.size, 2, none⟩ = some (.string ⟨u.toArray⟩) := cell_of_heap hSw
      have z4 : wS.cell? ⟨w.heap.size, 4, none⟩ = some (.int .i64 t) := cell_of_heap hSw
      have z5 : wS.cell? ⟨w.heap.size, 5, none⟩ = some (.int .i64 n) := cell_of_heap hSw
      go_simp
      try with_reducible rfl
    try simp only [Act.put, List.getElem_toArray, List.getElem_cons_zero, List.getElem_cons_succ, List.setIfInBounds_toArray, List.set_cons_zero, List.set_cons_succ]
    refine wpAnyH_take (i := 6) (v := ?_) rfl (by kernel_rfl) (by kernel_rfl) (by kernel_rfl) (fun _ _ _ h => h) (Or.inl ⟨by rfl, ?k25⟩) hHeld ?_
    case k25 =>
      intro wS hSw
      have z1 : wS.cell? ⟨w.heap.size, 1, none⟩ = some (.string ⟨s.toArray⟩) := cell_of_heap hSw
      have z2 : wS.cell? ⟨w.heap.size, 2, none⟩ = some (.string ⟨u.toArray⟩) := cell_of_heap hSw
      have z4 : wS.cell? ⟨w.heap.size, 4, none⟩ = some (.int .i64 t) := cell_of_heap hSw
      have z5 : wS.cell? ⟨w.heap.size, 5, none⟩ = some (.int .i64 n) := cell_of_heap hSw
      go_simp
      try with_reducible rfl
    try simp only [Act.put, List.getElem_toArray, List.getElem_cons_zero, List.getElem_cons_succ, List.setIfInBounds_toArray, List.set_cons_zero, List.set_cons_succ]
    refine wpAnyH_take (i := 7) (v := ?_) rfl (by kernel_rfl) (by kernel_rfl) (by kernel_rfl) (fun _ _ _ h => h) (Or.inl ⟨by rfl, ?k26⟩) hHeld ?_
    case k26 =>
      intro wS hSw
      have z1 : wS.cell? ⟨w.heap.size, 1, none⟩ = some (.string ⟨s.toArray⟩) := cell_of_heap hSw
      have z2 : wS.cell? ⟨w.heap.size, 2, none⟩ = some (.string ⟨u.toArray⟩) := cell_of_heap hSw
      have z4 : wS.cell? ⟨w.heap.size, 4, none⟩ = some (.int .i64 t) := cell_of_heap hSw
      have z5 : wS.cell? ⟨w.heap.size, 5, none⟩ = some (.int .i64 n) := cell_of_heap hSw
      go_simp
      try with_reducible rfl
    try simp only [Act.put, List.getElem_toArray, List.getElem_cons_zero, List.getElem_cons_succ, List.setIfInBounds_toArray, List.set_cons_zero, List.set_cons_succ]
    refine wpAnyH_take (i := 8) (v := ?_) rfl (by kernel_rfl) (by kernel_rfl) (by kernel_rfl) (fun _ _ _ h => h) (Or.inl ⟨by rfl, ?k27⟩) hHeld ?_
    case k27 =>
      intro wS hSw
      have z1 : wS.cell? ⟨w.heap.size, 1, none⟩ = some (.string ⟨s.toArray⟩) := cell_of_heap hSw
      have z2 : wS.cell? ⟨w.heap.size, 2, none⟩ = some (.string ⟨u.toArray⟩) := cell_of_heap hSw
      have z4 : wS.cell? ⟨w.heap.size, 4, none⟩ = some (.int .i64 t) := cell_of_heap hSw
      have z5 : wS.cell? ⟨w.heap.size, 5, none⟩ = some (.int .i64 n) := cell_of_heap hSw
      go_simp
      try with_reducible rfl
    try simp only [Act.put, List.getElem_toArray, List.getElem_cons_zero, List.getElem_cons_succ, List.setIfInBounds_toArray, List.set_cons_zero, List.set_cons_succ]
    refine wpAnyH_take (i := 9) (v := ?_) rfl (by kernel_rfl) (by kernel_rfl) (by kernel_rfl) (fun _ _ _ h => h) (Or.inl ⟨by rfl, ?k28⟩) hHeld ?_
    case k28 =>
      intro wS hSw
      have z1 : wS.cell? ⟨w.heap.size, 1, none⟩ = some (.string ⟨s.toArray⟩) := cell_of_heap hSw
      have z2 : wS.cell? ⟨w.heap.size, 2, none⟩ = some (.string ⟨u.toArray⟩) := cell_of_heap hSw
      have z4 : wS.cell? ⟨w.heap.size, 4, none⟩ = some (.int .i64 t) := cell_of_heap hSw
      have z5 : wS.cell? ⟨w.heap.size, 5, none⟩ = some (.int .i64 n) := cell_of_heap hSw
      go_simp
      try with_reducible rfl
    try simp only [Act.put, List.getElem_toArray, List.getElem_cons_zero, List.getElem_cons_succ, List.setIfInBounds_toArray, List.set_cons_zero, List.set_cons_succ]
    refine wpAnyH_take (i := 10) (v := ?_) rfl (by kernel_rfl) (by kernel_rfl) (by kernel_rfl) (fun _ _ _ h => h) (Or.inl ⟨by rfl, ?k29⟩) hHeld ?_
    case k29 =>
      intro wS hSw
      have z1 : wS.cell? ⟨w.heap.size, 1, none⟩ = some (.string ⟨s.toArray⟩) := cell_of_heap hSw
      have z2 : wS.cell? ⟨w.heap.size, 2, none⟩ = some (.string ⟨u.toArray⟩) := cell_of_heap hSw
      have z4 : wS.cell? ⟨w.heap.size, 4, none⟩ = some (.int .i64 t) := cell_of_heap hSw
      have z5 : wS.cell? ⟨w.heap.size, 5, none⟩ = some (.int .i64 n) := cell_of_heap hSw
      go_simp
      try with_reducible rfl
    try simp only [Act.put, List.getElem_toArray, List.getElem_cons_zero, List.getElem_cons_succ, List.setIfInBounds_toArray, List.set_cons_zero, List.set_cons_succ]
    refine wpAnyH_ready (rs := [5]) (by kernel_rfl) (by simp) ?_
    refine AllReadyH.cons rfl (fun K hK => ?_) AllReadyH.nil
    refine step_wp rfl ?_
    go_simp
    refine (copy_any B _ g b Z1 ⟨s.toArray⟩ ⟨u.toArray⟩ HSL.out HUL.out (book_all (HP.out.below HBs.out).bk) (by rw [HP.out.e1]; exact HP.out.ok)).mono ?_
    rintro e w2 hp2
    obtain ⟨Z1n, rfl, k2, q2, f2⟩ := bk_eff (HP.out.below HBs.out).bk hp2
    have K2 := Lib.hid k2; have Q2 := Lib.hid q2; have F2 := Lib.hid f2
    have HS2 := Lib.hid (KS.out w2 (fun x hx hn => f2.turn.block x hx hn))
    have RB := Lib.hid (HP.out.rbk HBs.out f2 (Below.refl _ _))
    have HB2 : Hid (Below B w w2) := Lib.hid ((HBs.out.mono HP.out.size).trans (f2.below (HP.out.below HBs.out).bk.geP (HP.out.below HBs.out).size))
    clear hp2 k2 q2 f2
    refine hK.out _ _ HS2.out (fun hHeld2 => ?_)
    clear hK K hHeld
    have hHeld := hHeld2
    clear hHeld2
    try simp only [Act.put, List.getElem_toArray, List.getElem_cons_zero, List.getElem_cons_succ, List.setIfInBounds_toArray, List.set_cons_zero, List.set_cons_succ]
    refine wpAnyH_ready (rs := [11]) (by kernel_rfl) (by simp) ?_
    refine AllReadyH.cons rfl (fun K hK => ?_) AllReadyH.nil
    refine step_wp rfl ?_
    go_simp
    refine (rcopy_any B w2 (HTT.out w2 HB2.out) r v Z2 s u (by rw [HP.out.e2]; exact HP.out.ok2) RB.out).mono ?_
    rintro e w4 hp4
    obtain ⟨v4, Z4, rfl, k4, q4, f4⟩ := rb_eff hp4
    have PB := Lib.hid (HP.out.both HBs.out K2.out (Q2.out.trans (by rw [HP.out.e1, HPQ.out.1])) F2.out (Below.refl _ _) k4 (q4.trans (by rw [HP.out.e2, HPQ.out.2])) f4 okP.out okQ.out)
    have HS4 := Lib.hid (KS4.out w2 w4 HS2.out (fun x hx hn => f4.turn.block x hx hn))
    clear hp4 k4 q4 f4
    refine hK.out _ _ HS4.out (fun hHeld2 => ?_)
    clear hK K hHeld
    have hHeld := hHeld2
    clear hHeld2
    try simp only [Act.put, List.getElem_toArray, List.getElem_cons_zero, List.getElem_cons_succ, List.setIfInBounds_toArray, List.set_cons_zero, List.set_cons_succ]
    refine wpAnyH_take (i := 12) (v := ?_) rfl (by kernel_rfl) (by kernel_rfl) (by kernel_rfl) (fun _ _ _ h => h) (Or.inl ⟨by rfl, ?k212⟩) hHeld ?_
    case k212 =>
      intro wS hSw
      have z1 : wS.cell? ⟨w.heap.size, 1, none⟩ = some (.string ⟨s.toArray⟩) := cell_of_heap hSw
      have z2 : wS.cell? ⟨w.heap.size, 2, none⟩ = some (.string ⟨u.toArray⟩) := cell_of_heap hSw
      have z4 : wS.cell? ⟨w.heap.size, 4, none⟩ = some (.int .i64 t) := cell_of_heap hSw
      have z5 : wS.cell? ⟨w.heap.size, 5, none⟩ = some (.int .i64 n) := cell_of_heap hSw
      go_simp
      try with_reducible rfl
    try simp only [Act.put, List.getElem_toArray, List.getElem_cons_zero, List.getElem_cons_succ, List.setIfInBounds_toArray, List.set_cons_zero, List.set_cons_succ]
    refine wpAnyH_take (i := 13) (v := ?_) rfl (by kernel_rfl) (by kernel_rfl) (by kernel_rfl) (fun _ _ _ h => h) (Or.inl ⟨by rfl, ?k213⟩) hHeld ?_
    case k213 =>
      intro wS hSw
      have z1 : wS.cell? ⟨w.heap.size, 1, none⟩ = some (.string ⟨s.toArray⟩) := cell_of_heap hSw
      have z2 : wS.cell? ⟨w.heap.size, 2, none⟩ = some (.string ⟨u.toArray⟩) := cell_of_heap hSw
      have z4 : wS.cell? ⟨w.heap.size, 4, none⟩ = some (.int .i64 t) := cell_of_heap hSw
      have z5 : wS.cell? ⟨w.heap.size, 5, none⟩ = some (.int .i64 n) := cell_of_heap hSw
      go_simp
      try with_reducible rfl
    try simp only [Act.put, List.getElem_toArray, List.getElem_cons_zero, List.getElem_cons_succ, List.setIfInBounds_toArray, List.set_cons_zero, List.set_cons_succ]
    refine wpAnyH_done (by kernel_rfl) ?_ _
    clear hHeld
    try simp only [Act.put, List.getElem_toArray, List.getElem_cons_zero, List.getElem_cons_succ, List.setIfInBounds_toArray, List.set_cons_zero, List.set_cons_succ]
    go_wp2
    go_ret
    have hpq := HPQ.out
    exact ⟨by rw [hpq.1, hpq.2, HP.out.e1, HP.out.e2]; rfl, _, _, _, PB.out.1, PB.out.2⟩
  by_cases h3 : kind = 3
  · have hPQ : PP = dropB K1 s ∧ QQ = dropB K2 s := by rw [HPP.out, HQQ.out, opB, opB, if_neg h0, if_neg h0, if_neg h1, if_neg h1, if_neg h2, if_neg h2, if_pos h3, if_pos h3]; exact ⟨rfl, rfl⟩
    have HPQ := Lib.hid hPQ
    clear hPQ
    subst h3
    have HBs : Hid (Below w.heap.size w W.drew) := Lib.hid HBW.out.drew
    have HSW : Hid (W.drew.heap[w.heap.size]? = some (.cells (opC 3 s u c t n) 39)) := Lib.hid HQ0.out
    have KS : Hid (∀ w2 : World, (∀ x, x < W.drew.heap.size → x ∉ pbB g b Z1 → w2.heap[x]? = W.drew.heap[x]?) → w2.heap[w.heap.size]? = some (.cells (opC 3 s u c t n) 39)) := Lib.hid (fun w2 hx => (hx _ (lt_of_heap HSW.out) (fun hc => Nat.lt_irrefl _ (HP.out.bk.ltP _ hc))).trans HSW.out)
    have KS4 : Hid (∀ w2 w4 : World, w2.heap[w.heap.size]? = some (.cells (opC 3 s u c t n) 39) → (∀ x, x < w2.heap.size → x ∉ rbB r v Z2 → w4.heap[x]? = w2.heap[x]?) → w4.heap[w.heap.size]? = some (.cells (opC 3 s u c t n) 39)) := Lib.hid (fun w2 w4 hq hx => (hx _ (lt_of_heap hq) (fun hc => Nat.lt_irrefl _ (HP.out.rb.lt _ hc))).trans hq)
    go_upto_region 10 with (fail)
    rw [← HW.out]
    clear z0 z3
    refine wp_region_held_drew (S := (fun w' : World => w'.heap[w.heap.size]? = some (.cells (opC 3 s u c t n) 39))) (by kernel_rfl) HSW.out (fun hHeld => ?_)
    refine wpAnyH_take (i := 0) (v := ?_) rfl (by kernel_rfl) (by kernel_rfl) (by kernel_rfl) (fun _ _ _ h => h) (Or.inl ⟨by rfl, ?k30⟩) hHeld ?_
    case k30 =>
      intro wS hSw
      have z1 : wS.cell? ⟨w.heap.size, 1, none⟩ = some (.string ⟨s.toArray⟩) := cell_of_heap hSw
      have z2 : wS.cell? ⟨w.heap.size, 2, none⟩ = some (.string ⟨u.toArray⟩) := cell_of_heap hSw
      have z4 : wS.cell? ⟨w.heap.size, 4, none⟩ = some (.int .i64 t) := cell_of_heap hSw
      have z5 : wS.cell? ⟨w.heap.size, 5, none⟩ = some (.int .i64 n) := cell_of_heap hSw
      go_simp
      try with_reducible rfl
    try simp only [Act.put, List.getElem_toArray, List.getElem_cons_zero, List.getElem_cons_succ, List.setIfInBounds_toArray, List.set_cons_zero, List.set_cons_succ]
    refine wpAnyH_take (i := 1) (v := ?_) rfl (by kernel_rfl) (by kernel_rfl) (by kernel_rfl) (fun _ _ _ h => h) (Or.inl ⟨by rfl, ?k31⟩) hHeld ?_
    case k31 =>
      intro wS hSw
      have z1 : wS.cell? ⟨w.heap.size, 1, none⟩ = some (.string ⟨s.toArray⟩) := cell_of_heap hSw
      have z2 : wS.cell? ⟨w.heap.size, 2, none⟩ = some (.string ⟨u.toArray⟩) := cell_of_heap hSw
      have z4 : wS.cell? ⟨w.heap.size, 4, none⟩ = some (.int .i64 t) := cell_of_heap hSw
      have z5 : wS.cell? ⟨w.heap.size, 5, none⟩ = some (.int .i64 n) := cell_of_heap hSw
      go_simp
      try with_reducible rfl
    try simp only [Act.put, List.getElem_toArray, List.getElem_cons_zero, List.getElem_cons_succ, List.setIfInBounds_toArray, List.set_cons_zero, List.set_cons_succ]
    refine wpAnyH_take (i := 2) (v := ?_) rfl (by kernel_rfl) (by kernel_rfl) (by kernel_rfl) (fun _ _ _ h => h) (Or.inl ⟨by rfl, ?k32⟩) hHeld ?_
    case k32 =>
      intro wS hSw
      have z1 : wS.cell? ⟨w.heap.size, 1, none⟩ = some (.string ⟨s.toArray⟩) := cell_of_heap hSw
      have z2 : wS.cell? ⟨w.heap.size, 2, none⟩ = some (.string ⟨u.toArray⟩) := cell_of_heap hSw
      have z4 : wS.cell? ⟨w.heap.size, 4, none⟩ = some (.int .i64 t) := cell_of_heap hSw
      have z5 : wS.cell? ⟨w.heap.size, 5, none⟩ = some (.int .i64 n) := cell_of_heap hSw
      go_simp
      try with_reducible rfl
    try simp only [Act.put, List.getElem_toArray, List.getElem_cons_zero, List.getElem_cons_succ, List.setIfInBounds_toArray, List.set_cons_zero, List.set_cons_succ]
    refine wpAnyH_take (i := 4) (v := ?_) rfl (by kernel_rfl) (by kernel_rfl) (by kernel_rfl) (fun _ _ _ h => h) (Or.inl ⟨by rfl, ?k33⟩) hHeld ?_
    case k33 =>
      intro wS hSw
      have z1 : wS.cell? ⟨w.heap.size, 1, none⟩ = some (.string ⟨s.toArray⟩) := cell_of_heap hSw
      have z2 : wS.cell? ⟨w.heap.size, 2, none⟩ = some (.string ⟨u.toArray⟩) := cell_of_heap hSw
      have z4 : wS.cell? ⟨w.heap.size, 4, none⟩ = some (.int .i64 t) := cell_of_heap hSw
      have z5 : wS.cell? ⟨w.heap.size, 5, none⟩ = some (.int .i64 n) := cell_of_heap hSw
      go_simp
      try with_reducible rfl
    try simp only [Act.put, List.getElem_toArray, List.getElem_cons_zero, List.getElem_cons_succ, List.setIfInBounds_toArray, List.set_cons_zero, List.set_cons_succ]
    refine wpAnyH_take (i := 5) (v := ?_) rfl (by kernel_rfl) (by kernel_rfl) (by kernel_rfl) (fun _ _ _ h => h) (Or.inl ⟨by rfl, ?k34⟩) hHeld ?_
    case k34 =>
      intro wS hSw
      have z1 : wS.cell? ⟨w.heap.size, 1, none⟩ = some (.string ⟨s.toArray⟩) := cell_of_heap hSw
      have z2 : wS.cell? ⟨w.heap.size, 2, none⟩ = some (.string ⟨u.toArray⟩) := cell_of_heap hSw
      have z4 : wS.cell? ⟨w.heap.size, 4, none⟩ = some (.int .i64 t) := cell_of_heap hSw
      have z5 : wS.cell? ⟨w.heap.size, 5, none⟩ = some (.int .i64 n) := cell_of_heap hSw
      go_simp
      try with_reducible rfl
    try simp only [Act.put, List.getElem_toArray, List.getElem_cons_zero, List.getElem_cons_succ, List.setIfInBounds_toArray, List.set_cons_zero, List.set_cons_succ]
    refine wpAnyH_take (i := 6) (v := ?_) rfl (by kernel_rfl) (by kernel_rfl) (by kernel_rfl) (fun _ _ _ h => h) (Or.inl ⟨by rfl, ?k35⟩) hHeld ?_
    case k35 =>
      intro wS hSw
      have z1 : wS.cell? ⟨w.heap.size, 1, none⟩ = some (.string ⟨s.toArray⟩) := cell_of_heap hSw
      have z2 : wS.cell? ⟨w.heap.size, 2, none⟩ = some (.string ⟨u.toArray⟩) := cell_of_heap hSw
      have z4 : wS.cell? ⟨w.heap.size, 4, none⟩ = some (.int .i64 t) := cell_of_heap hSw
      have z5 : wS.cell? ⟨w.heap.size, 5, none⟩ = some (.int .i64 n) := cell_of_heap hSw
      go_simp
      try with_reducible rfl
    try simp only [Act.put, List.getElem_toArray, List.getElem_cons_zero, List.getElem_cons_succ, List.setIfInBounds_toArray, List.set_cons_zero, List.set_cons_succ]
    refine wpAnyH_ready (rs := [3]) (by kernel_rfl) (by simp) ?_
    refine AllReadyH.cons rfl (fun K hK => ?_) AllReadyH.nil
    refine step_wp rfl ?_
    go_simp
    refine (drop_any B _ g b Z1 ⟨s.toArray⟩ HSL.out (book_all (HP.out.below HBs.out).bk) (by rw [HP.out.e1]; exact HP.out.ok)).mono ?_
    rintro e w2 hp2
    obtain ⟨Z1n, rfl, k2, q2, f2⟩ := bk_eff (HP.out.below HBs.out).bk hp2
    have K2 := Lib.hid k2; have Q2 := Lib.hid q2; have F2 := Lib.hid f2
    have HS2 := Lib.hid (KS.out w2 (fun x hx hn => f2.turn.block x hx hn))
    have RB := Lib.hid (HP.out.rbk HBs.out f2 (Below.refl _ _))
    have HB2 : Hid (Below B w w2) := Lib.hid ((HBs.out.mono HP.out.size).trans (f2.below (HP.out.below HBs.out).bk.geP (HP.out.below HBs.out).size))
    clear hp2 k2 q2 f2
    refine hK.out _ _ HS2.out (fun hHeld2 => ?_)
    clear hK K hHeld
    have hHeld := hHeld2
    clear hHeld2
    try simp only [Act.put, List.getElem_toArray, List.getElem_cons_zero, List.getElem_cons_succ, List.setIfInBounds_toArray, List.set_cons_zero, List.set_cons_succ]
    refine wpAnyH_ready (rs := [7]) (by kernel_rfl) (by simp) ?_
    refine AllReadyH.cons rfl (fun K hK => ?_) AllReadyH.nil
    refine step_wp rfl ?_
    go_simp
    refine (rdrop_any B w2 r v Z2 s (by have := HP.out.ok2.size; rw [← HP.out.e2, plain_length] at this; exact this) RB.out).mono ?_
    rintro e w4 hp4
    obtain ⟨v4, Z4, rfl, k4, q4, f4⟩ := rb_eff hp4
    have PB := Lib.hid (HP.out.both HBs.out K2.out (Q2.out.trans (by rw [HP.out.e1, HPQ.out.1])) F2.out (Below.refl _ _) k4 (q4.trans (by rw [HP.out.e2, HPQ.out.2])) f4 okP.out okQ.out)
    have HS4 := Lib.hid (KS4.out w2 w4 HS2.out (fun x hx hn => f4.turn.block x hx hn))
    clear hp4 k4 q4 f4
    refine hK.out _ _ HS4.out (fun hHeld2 => ?_)
    clear hK K hHeld
    have hHeld := hHeld2
    clear hHeld2
    try simp only [Act.put, List.getElem_toArray, List.getElem_cons_zero, List.getElem_cons_succ, List.setIfInBounds_toArray, List.set_cons_zero, List.set_cons_succ]
    refine wpAnyH_take (i := 8) (v := ?_) rfl (by kernel_rfl) (by kernel_rfl) (by kernel_rfl) (fun _ _ _ h => h) (Or.inl ⟨by rfl, ?k38⟩) hHeld ?_
    case k38 =>
      intro wS hSw
      have z1 : wS.cell? ⟨w.heap.size, 1, none⟩ = some (.string ⟨s.toArray⟩) := cell_of_heap hSw
      have z2 : wS.cell? ⟨w.heap.size, 2, none⟩ = some (.string ⟨u.toArray⟩) := cell_of_heap hSw
      have z4 : wS.cell? ⟨w.heap.size, 4, none⟩ = some (.int .i64 t) := cell_of_heap hSw
      have z5 : wS.cell? ⟨w.heap.size, 5, none⟩ = some (.int .i64 n) := cell_of_heap hSw
      go_simp
      try with_reducible rfl
    try simp only [Act.put, List.getElem_toArray, List.getElem_cons_zero, List.getElem_cons_succ, List.setIfInBounds_toArray, List.set_cons_zero, List.set_cons_succ]
    refine wpAnyH_take (i := 9) (v := ?_) rfl (by kernel_rfl) (by kernel_rfl) (by kernel_rfl) (fun _ _ _ h => h) (Or.inl ⟨by rfl, ?k39⟩) hHeld ?_
    case k39 =>
      intro wS hSw
      have z1 : wS.cell? ⟨w.heap.size, 1, none⟩ = some (.string ⟨s.toArray⟩) := cell_of_heap hSw
      have z2 : wS.cell? ⟨w.heap.size, 2, none⟩ = some (.string ⟨u.toArray⟩) := cell_of_heap hSw
      have z4 : wS.cell? ⟨w.heap.size, 4, none⟩ = some (.int .i64 t) := cell_of_heap hSw
      have z5 : wS.cell? ⟨w.heap.size, 5, none⟩ = some (.int .i64 n) := cell_of_heap hSw
      go_simp
      try with_reducible rfl
    try simp only [Act.put, List.getElem_toArray, List.getElem_cons_zero, List.getElem_cons_succ, List.setIfInBounds_toArray, List.set_cons_zero, List.set_cons_succ]
    refine wpAnyH_done (by kernel_rfl) ?_ _
    clear hHeld
    try simp only [Act.put, List.getElem_toArray, List.getElem_cons_zero, List.getElem_cons_succ, List.setIfInBounds_toArray, List.set_cons_zero, List.set_cons_succ]
    go_wp2
    go_ret
    have hpq := HPQ.out
    exact ⟨by rw [hpq.1, hpq.2, HP.out.e1, HP.out.e2]; rfl, _, _, _, PB.out.1, PB.out.2⟩
  · have hPQ : PP = (0, K1) ∧ QQ = (0, K2) := by rw [HPP.out, HQQ.out, opB, opB, if_neg h0, if_neg h0, if_neg h1, if_neg h1, if_neg h2, if_neg h2, if_neg h3, if_neg h3]; exact ⟨rfl, rfl⟩
    have HPQ := Lib.hid hPQ
    clear hPQ
    go_wp2
    rw [← HW.out]
    go_ret
    rw [HPQ.out.1, HPQ.out.2]
    exact ⟨rfl, _, _, _, HP.out.below HBW.out, Eff.of_below HBW.out⟩
end Go.Proofs.YtkeegnhjemhblaaGreatDoor.Rb
