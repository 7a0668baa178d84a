import Derived.Test.YthcjjekkjbidlaaDoorZPNmPaths
set_option linter.unusedSimpArgs false
set_option linter.unusedVariables false
/-
  Steps of a walk over variables of many cells: written whole, loaded whole, looked up in an index.
-/
namespace Go.Proofs.YthcjjekkjbidlaaDoor.St
open Go.RowKit Go.Maps Go.WideMaps Go.Proofs.YthcjjekkjbidlaaDoor.Rf

section
variable {P : Program} {ops : Array Oper} {rest : List Oper} {o : Oper} {a : Act} {w : World} {Q : Exit → Act → World → Prop}
/-- A fresh variable is written whole. -/
theorem wpList_store_new {old : Array Value} {T : TypeId} {p : Nat} (hp : p = w.heap.size) (hgd : o.guard = none) (ty : TypeId) (x y : Operand) (ho : o.op = .store ty x y)
    (cs : Array Value) (hx : a.eval x = .pointer (some ⟨p, 0, none⟩)) (hy : a.eval y = .agg cs) (hi : (P.info? ty).map (·.size) = some cs.size) (hold : old.size = cs.size) (h1 : cs.all (·.oneCell') = true)
    (h : ∀ w2 : World, w2.heap[p]? = some (.cells cs T) → Below p w w2 → w2.heap.size = p + 1 → wpList P ops Q rest (a.put o.dst undef) w2) :
    wpList P ops Q (o :: rest) a (w.alloc (.cells old T)) := by
  subst hp
  refine wpList_store_row hgd ty x y ho w.heap.size cs hx hy T old (MapKept.heap_alloc w _).1 hi hold h1 ?_
  obtain ⟨a1, a2⟩ := store_new w T old cs
  exact h _ a1 a2 (by rw [setRow_size, one_size])
/-- A variable is written whole. -/
theorem wpList_store_at {old : Array Value} {T : TypeId} {g : Nat} (hg : w.heap[g]? = some (.cells old T)) (hgd : o.guard = none) (ty : TypeId) (x y : Operand) (ho : o.op = .store ty x y)
    (cs : Array Value) (hx : a.eval x = .pointer (some ⟨g, 0, none⟩)) (hy : a.eval y = .agg cs) (hi : (P.info? ty).map (·.size) = some cs.size) (hold : old.size = cs.size) (h1 : cs.all (·.oneCell') = true)
    (h : ∀ w2 : World, w2.heap[g]? = some (.cells cs T) → Turn [g] w w2 → w2.heap.size = w.heap.size → wpList P ops Q rest (a.put o.dst undef) w2) :
    wpList P ops Q (o :: rest) a w := by
  refine wpList_store_row hgd ty x y ho g cs hx hy T old hg hi hold h1 ?_
  exact h _ (setRow_heap _ _ _ _ _ _ hg) ⟨rfl, rfl, rfl, by simp [World.setRow], fun k _ hk => setRow_other _ _ _ _ (by simpa using hk)⟩ (setRow_size _ _ _)
end

section
variable {ops : Array Oper} {rest : List Oper} {o : Oper} {a : Act} {w : World} {Q : Exit → Act → World → Prop} {B g b : Nat} {L : List SE}
theorem wpList_look (h : IndexAt B w g b L) (hgd : o.guard = none) (m x : Operand) (ho : o.op = .lookup 104 m x true) (hm : a.eval m = .map (some b)) (S : ByteArray) (hx : a.eval x = .string S) (hS : S.size ≤ maxLen)
    (k : wpList Tryd.prog ops Q rest (a.put o.dst (.tuple #[enV ((getL S.data.toList L).getD zeroS), .bool (getL S.data.toList L).isSome])) w) : wpList Tryd.prog ops Q (o :: rest) a w :=
  wpList_plain hgd fun _ hK => by
    unfold Oper.wp
    simp [execOp, ho, hm, hx, h.look S hS, Result.andThen]
    exact hK _ _ k
end

/-! ### Get -/
def getV (p : List UInt8) (L : List SE) : SE := (getL p L).getD zeroS
def getE (p : List UInt8) (L : List SE) : Int := if (getL p L).isSome then 0 else 6

/-- The facts that a variable for an entry asks for. -/
structure EnOk (e : SE) : Prop where
  info : (Tryd.prog.info? 65).map (·.size) = some e.cells.toArray.size
  infoL : (Tryd.prog.info? 65).map (·.size) = some e.cells.length
  z : 38 = e.cells.toArray.size
  one : e.cells.toArray.all (·.oneCell') = true
theorem SE.Fits.en {e : SE} (h : e.Fits) : EnOk e :=
  ⟨infoEn h.id, by rw [cells_size h.id]; kernel_rfl, by rw [List.size_toArray, cells_size h.id], cells_all e⟩

set_option maxHeartbeats 4000000 in
set_option maxRecDepth 100000 in
theorem get_any (B : Nat) (w : World) (g b : Nat) (L : List SE) (S : ByteArray) (hS : S.size ≤ maxLen) (h : IndexAt B w g b L) :
    Calls Tryd.prog 53 #[ptr g, .string S] w fun e w' => e = .returned (.tuple #[enV (getV S.data.toList L), .int .i64 (getE S.data.toList L)]) ∧ Below w.heap.size w w' := by
  have c0 : w.cell? ⟨g, 0, none⟩ = some (.map (some b)) := cell_of_heap h.book
  have hgl := h.lt_g
  have LK : Hid (∀ W : World, Below w.heap.size w W → IndexAt B W g b L) := Lib.hid (fun W hb => h.below hb)
  have ZOK := Lib.hid zero_fits.en
  have hfit := h.fits
  clear h
  unfold ptr getV getE
  cases hg : getL S.data.toList L with
  | none =>
    have HG := Lib.hid hg
    clear hg hfit
    go_enter Tryd.func53, Tryd.ntmps53
    go_wp2_with (first
      | (refine wpList_look (LK.out _ ((Below.refl _ _).alloc (Nat.le_refl _) _)) rfl _ _ rfl rfl S rfl hS ?_; rw [HG.out])
      | (refine wpList_store_new (by first | rfl | rw [one_size]) rfl _ _ _ rfl zeroS.cells.toArray rfl rfl ZOK.out.info ZOK.out.z ZOK.out.one ?_
         intro w2 hq2 hb2 hs2
         have hq1 : w2.heap[w.heap.size]? = some (.cells zeroS.cells.toArray 65) := (hb2.block _ (Nat.lt_succ_self _)).trans (MapKept.heap_alloc w _).1
         have HB := Lib.hid (((Below.refl w.heap.size w).alloc (Nat.le_refl _) _).trans (hb2.mono (Nat.le_succ _)))
         have HQ1 := Lib.hid hq1
         clear hq2 hb2 hs2 hq1)
      | (refine wpList_store_at HQ1.out rfl _ _ _ rfl zeroS.cells.toArray rfl rfl ZOK.out.info rfl ZOK.out.one ?_
         intro w3 hq3 ht3 hs3
         have HQ3 := Lib.hid hq3; have HT3 := Lib.hid ht3
         clear hq3 ht3 hs3))
    have hld := run_loadVar_row (P := Tryd.prog) w3 w.heap.size _ 65 zeroS.cells.toArray _ _ HQ3.out Tryd.underlying65 rfl ZOK.out.info
    refine bodyPost_ret (v := .tuple #[enV zeroS, .int .i64 6]) ?_ rfl ?_
    · rw [results_cell_tmp (fn := Tryd.f53) rfl]
      show ((asAddr (.pointer (some ⟨w.heap.size, 0, none⟩))).run Tryd.prog _).andThen _ = _
      simp only [asAddr, Sem.run_pure, Result.andThen_ok, hld]
      rfl
    · exact ⟨rfl, HB.out.trans (HT3.out.below (by simp) HB.out.size)⟩
  | some en =>
    have HG := Lib.hid hg
    have EOK := Lib.hid (hfit en (getL_path hg).2).en
    clear hg hfit
    go_enter Tryd.func53, Tryd.ntmps53
    go_wp2_with (first
      | (refine wpList_look (LK.out _ ((Below.refl _ _).alloc (Nat.le_refl _) _)) rfl _ _ rfl rfl S rfl hS ?_; rw [HG.out])
      | (refine wpList_store_new (by first | rfl | rw [one_size]) rfl _ _ _ rfl en.cells.toArray rfl rfl EOK.out.info EOK.out.z EOK.out.one ?_
         intro w2 hq2 hb2 hs2
         have hq1 : w2.heap[w.heap.size]? = some (.cells zeroS.cells.toArray 65) := (hb2.block _ (Nat.lt_succ_self _)).trans (MapKept.heap_alloc w _).1
         have HB := Lib.hid (((Below.refl w.heap.size w).alloc (Nat.le_refl _) _).trans (hb2.mono (Nat.le_succ _)))
         have HQ1 := Lib.hid hq1; have HQ2 := Lib.hid hq2
         clear hq2 hb2 hs2 hq1)
      | (refine wpList_load_mid rfl _ _ rfl (w.heap.size + 1) 0 rfl en.cells _ (range_block HQ2.out) Tryd.underlying65 rfl EOK.out.infoL ?_)
      | (refine wpList_store_at HQ1.out rfl _ _ _ rfl en.cells.toArray rfl rfl EOK.out.info EOK.out.z EOK.out.one ?_
         intro w3 hq3 ht3 hs3
         have HQ3 := Lib.hid hq3; have HT3 := Lib.hid ht3
         clear hq3 ht3 hs3))
    have hld := run_loadVar_row (P := Tryd.prog) w3 w.heap.size _ 65 en.cells.toArray _ _ HQ3.out Tryd.underlying65 rfl EOK.out.info
    refine bodyPost_ret (v := .tuple #[enV en, .int .i64 0]) ?_ rfl ?_
    · rw [results_cell_tmp (fn := Tryd.f53) rfl]
      show ((asAddr (.pointer (some ⟨w.heap.size, 0, none⟩))).run Tryd.prog _).andThen _ = _
      simp only [asAddr, Sem.run_pure, Result.andThen_ok, hld]
      rfl
    · exact ⟨rfl, HB.out.trans (HT3.out.below (by simp) HB.out.size)⟩
end Go.Proofs.YthcjjekkjbidlaaDoor.St
