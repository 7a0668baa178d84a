import Derived.Test.YtnkapojbijbbaaaGreatDoorZPSrHapIs
import Derived.Test.YtnkapojbijbbaaaGreatDoorZPStIn
import Derived.Test.YtnkapojbijbbaaaGreatDoorZPRtPut
import Derived.Test.YtnkapojbijbbaaaGreatDoorZPStEncode
set_option linter.unusedSimpArgs false
set_option linter.unusedVariables false
namespace Go.Proofs.YtnkapojbijbbaaaGreatDoor.Sr
open Go.RowKit Go.Maps Go.WideMaps Rf Go.Proofs.YtnkapojbijbbaaaGreatDoor.Nm St
theorem goodF_of {B : Nat} {w : World} {r : Nat} {T : Tr} {k : Nat} (h : TreeAt B w r T) (g : Good k T) : GoodF k T.bare := by
 have hm : ∀ {p : TE → Prop}, (∀ e ∈ T.L, p (bare e)) → ∀ e ∈ T.bare.L, p e := by
  intro p hp e he
  obtain ⟨x, hx, rfl⟩ := List.mem_map.1 (show e ∈ T.L.map bare from he)
  exact hp x hx
 refine ⟨?_, ?_, hm ?_, hm g.deep, hm g.names, hm g.att, hm g.data, g.most, ?_⟩
 · show (T.L.map bare).Pairwise _
   rw [List.pairwise_map]; exact h.srt
 · obtain ⟨e, he, _⟩ := h.root
   exact ⟨bare e, by show getT [] (T.L.map bare) = _; rw [getT_bare, he]; rfl⟩
 · intro e he n s hn
   obtain ⟨u, hu, h1, h2⟩ := h.par e he n s hn
   exact ⟨bare u, List.mem_map.2 ⟨u, hu, rfl⟩, h1, (h.kind u hu).2 h2⟩
 · show (T.L.map bare).length ≤ _
   rw [List.length_map]; exact g.len
end Go.Proofs.YtnkapojbijbbaaaGreatDoor.Sr
namespace Go.Proofs.YtnkapojbijbbaaaGreatDoor.Sr
open Go.RowKit Go.Maps Go.WideMaps Rf Go.Proofs.YtnkapojbijbbaaaGreatDoor.Nm St
section
variable {B : Nat} {w w' : World} {r : Nat} {v : Value} {R : List RN} {F : Tr}
theorem RTree.head (h : RTree B w r v R F) {c m q : Nat} (hq : w'.heap[r]? = some (.cells #[v, .int .i64 (c : Int), .int .u64 (m : Int), .int .i64 (q : Int)] RtT)) (hk : ∀ b, b ≠ r → w'.heap[b]? = w.heap[b]?) (hs : w.heap.size ≤ w'.heap.size) :
 RTree B w' r v R { F with clock := c, most := m, reads := q } := by
 refine ⟨hq, rowS_kept h.row (fun b hb _ => hk b (h.off b hb)), h.off, h.base, fun n hn => ⟨?_, ?_⟩, h.apart, h.is⟩
 · exact (h.node n hn).1.kept (fun b hb => hk b (h.apart b (robL_mem hn (List.mem_append_left _ hb))).2.1)
 · exact (h.node n hn).2.kept hs (fun b hb => hk b (h.apart b (robL_mem hn (List.mem_append_right _ hb))).2.1)
theorem RTree.clocked (h : RTree B w r v R F) (c : Nat) : RTree B (w.setCell ⟨r, 1, none⟩ (.int .i64 (c : Int))) r v R { F with clock := c } :=
 h.head (c := c) (m := F.most) (q := F.reads) (by rw [setCell_heap _ _ _ _ _ _ h.book]; rfl) (fun _ hb => Below.heap_setCell _ _ _ _ hb) (by rw [World.size_setCell]; exact Nat.le_refl _)
theorem RTree.mosted (h : RTree B w r v R F) (m : Nat) : RTree B (w.setCell ⟨r, 2, none⟩ (.int .u64 (m : Int))) r v R { F with most := m } :=
 h.head (c := F.clock) (m := m) (q := F.reads) (by rw [setCell_heap _ _ _ _ _ _ h.book]; rfl) (fun _ hb => Below.heap_setCell _ _ _ _ hb) (by rw [World.size_setCell]; exact Nat.le_refl _)
theorem rcells_set {n n' : RN} {j : Nat} {u : Value} (hc : n'.cells = n.cells.set j u) (hj : j < 11) : ∀ {R : List RN} {i : Nat}, R[i]? = some n → (rcells R).set (i * 11 + j) u = rcells (R.set i n')
 | [], i, h => by cases h
 | y :: t, 0, h => by
   obtain rfl := Option.some.inj h
   rw [rcells, List.flatMap_cons, List.set_append, if_pos (by rw [rn_len]; omega), Nat.zero_mul, Nat.zero_add, ← hc]; rfl
 | y :: t, i + 1, h => by
   have ih := rcells_set hc hj (R := t) (i := i) h
   rw [rcells, List.flatMap_cons, List.set_append, if_neg (by rw [rn_len]; omega), rn_len, show (i + 1) * 11 + j - 11 = i * 11 + j by omega, ← rcells, ih]; rfl
theorem row_cell {B : Nat} {w : World} {g n cap : Nat} {T : TypeId} {s : Nat} {xs : List Value} (h : w.ownsRow B T s (.slice (some ⟨g, 0, none⟩) n cap) n xs) {k : Nat} (hk : k < n * s) (u : Value) :
 (w.setCell ⟨g, k, none⟩ u).ownsRow B T s (.slice (some ⟨g, 0, none⟩) n cap) n (xs.set k u) ∧ w.frozen? ⟨g, k, none⟩ = false ∧ ∃ x, w.cell? ⟨g, k, none⟩ = some x := by
 obtain ⟨h1, ⟨hc, _⟩ | ⟨g', cap', cur, hv, a1, a2, a3, a4, a5, a6⟩⟩ := h
 · cases hc
 · injection hv with e1 e2 e3
   injection e1 with e1
   injection e1 with e1
   subst e1 e3
   refine ⟨⟨by rw [List.length_set]; exact h1, .inr ⟨g, cap, cur.setIfInBounds k u, rfl, a1, setCell_heap _ _ _ _ _ _ a2, a3, a4, by rw [Array.size_setIfInBounds]; exact a5, ?_⟩⟩, frozen_of_heap a2, ?_⟩
   · rw [Array.toList_setIfInBounds, List.take_set, a6]
   · have hs : k < cur.size := by rw [a5]; exact Nat.lt_of_lt_of_le hk (Nat.mul_le_mul_right _ a3)
     exact ⟨cur[k], by rw [cell_of_heap a2]; exact Array.getElem?_eq_getElem hs⟩
theorem RTree.setNode {g cap i : Nat} {n : RN} (h : RTree B w r (.slice (some ⟨g, 0, none⟩) R.length cap) R F) (hn : R[i]? = some n) (n' : RN) (ho : w'.ownsRow B RnT 11 (.slice (some ⟨g, 0, none⟩) R.length cap) R.length (rcells (R.set i n'))) (hk : ∀ b, b ≠ g → w'.heap[b]? = w.heap[b]?) (hs : w.heap.size ≤ w'.heap.size)
 (hnm : n'.nm = n.nm ∧ n'.nv = n.nv) (hx : XsAt w' n'.xv n'.at_.xs) (hxa : ∀ b ∈ xob n'.at_.xs n'.xv, B ≤ b ∧ b ≠ r ∧ b ≠ g) : RTree B w' r (.slice (some ⟨g, 0, none⟩) R.length cap) (R.set i n') { F with L := F.L.set i n'.te } := by
 have hog : ∀ b, b ∈ ob (.slice (some ⟨g, 0, none⟩) R.length cap) ↔ b = g := fun b => by simp [ob, Value.ownBlock, eq_comm]
 have hgr : g ≠ r := h.off g ((hog g).2 rfl)
 have hnn := List.mem_of_getElem? hn
 have hrow : ∀ b ∈ robL R, w'.heap[b]? = w.heap[b]? := fun b hb => hk b (fun e => (h.apart b hb).2.2 ((hog b).2 e))
 refine ⟨(hk r (Ne.symm hgr)).trans h.book, by rw [List.length_set]; exact ho, h.off, h.base, fun m hm => ?_, fun b hb => ?_, by rw [h.is, List.map_set]⟩
 · rcases List.mem_or_eq_of_mem_set hm with hm | rfl
   · exact ⟨(h.node m hm).1.kept (fun b hb => hrow b (robL_mem hm (List.mem_append_left _ hb))), (h.node m hm).2.kept hs (fun b hb => hrow b (robL_mem hm (List.mem_append_right _ hb)))⟩
   · refine ⟨?_, hx⟩
     rw [hnm.1, hnm.2]
     exact (h.node n hnn).1.kept (fun b hb => hrow b (robL_mem hnn (List.mem_append_left _ hb)))
 · obtain ⟨m, hm, hb2⟩ := List.mem_flatMap.1 hb
   clear hb
   rcases List.mem_or_eq_of_mem_set hm with hm | rfl
   · exact h.apart b (robL_mem hm hb2)
   · rcases List.mem_append.1 hb2 with hb | hb
     · rw [hnm.2] at hb; exact h.apart b (robL_mem hnn (List.mem_append_left _ hb))
     · exact ⟨(hxa b hb).1, (hxa b hb).2.1, fun e => (hxa b hb).2.2 ((hog b).1 e)⟩
theorem set_mem_rob {i : Nat} {n n' : RN} {b : Nat} (hn : R[i]? = some n) (hnv : n'.nv = n.nv) (h : b ∈ robL (R.set i n')) : b ∈ robL R ∨ b ∈ xob n'.at_.xs n'.xv := by
 obtain ⟨m, hm, hb⟩ := List.mem_flatMap.1 h
 clear h
 rcases List.mem_or_eq_of_mem_set hm with hm | rfl
 · exact .inl (robL_mem hm hb)
 · rcases List.mem_append.1 hb with hb | hb
   · rw [hnv] at hb; exact .inl (robL_mem (List.mem_of_getElem? hn) (List.mem_append_left _ hb))
   · exact .inr hb
theorem RTree.ticked {g cap i : Nat} {n : RN} (h : RTree B w r (.slice (some ⟨g, 0, none⟩) R.length cap) R F) (hn : R[i]? = some n) (c : Int) :
 RTree B (w.setCell ⟨g, i * 11 + 10, none⟩ (.int .i64 c)) r (.slice (some ⟨g, 0, none⟩) R.length cap) (R.set i { n with tick := c }) { F with L := F.L.set i { n.te with tick := c } } ∧ w.frozen? ⟨g, i * 11 + 10, none⟩ = false ∧ (∃ x, w.cell? ⟨g, i * 11 + 10, none⟩ = some x) ∧ robL (R.set i { n with tick := c }) = robL R := by
 have hi := (List.getElem?_eq_some_iff.1 hn).1
 obtain ⟨h1, h2, h3⟩ := row_cell h.row (k := i * 11 + 10) (by omega) (.int .i64 c)
 rw [rcells_set (n' := { n with tick := c }) rfl (by omega) hn] at h1
 have hnn := List.mem_of_getElem? hn
 have hg : ∀ b, b ≠ g → (w.setCell ⟨g, i * 11 + 10, none⟩ (.int .i64 c)).heap[b]? = w.heap[b]? := fun b hb => Below.heap_setCell _ _ _ _ hb
 have hap : ∀ b ∈ xob n.at_.xs n.xv, B ≤ b ∧ b ≠ r ∧ b ≠ g := fun b hb => by
  have := h.apart b (robL_mem hnn (List.mem_append_right _ hb))
  exact ⟨this.1, this.2.1, fun e => this.2.2 (by rw [e]; simp [ob, Value.ownBlock])⟩
 refine ⟨?_, h2, h3, ?_⟩
 · exact h.setNode hn { n with tick := c } h1 hg (by rw [World.size_setCell]; exact Nat.le_refl _) ⟨rfl, rfl⟩ ((h.node n hnn).2.kept (by rw [World.size_setCell]; exact Nat.le_refl _) (fun b hb => hg b (hap b hb).2.2)) hap
 · rw [robL, robL]
   obtain ⟨hlt, he⟩ := List.getElem?_eq_some_iff.1 hn
   rw [List.set_eq_take_append_cons_drop, if_pos hlt]
   conv => rhs; rw [← List.take_append_drop i R, List.drop_eq_getElem_cons hlt, he]
   simp [List.flatMap_append, List.flatMap_cons, robN]
theorem RTree.dataed {g cap i : Nat} {n : RN} (h : RTree B w r (.slice (some ⟨g, 0, none⟩) R.length cap) R F) (hn : R[i]? = some n) (d : List UInt8) :
 RTree B (w.setCell ⟨g, i * 11 + 8, none⟩ (.string ⟨d.toArray⟩)) r (.slice (some ⟨g, 0, none⟩) R.length cap) (R.set i { n with data := d }) { F with L := F.L.set i { n.te with data := d } } ∧ w.frozen? ⟨g, i * 11 + 8, none⟩ = false ∧ (∃ x, w.cell? ⟨g, i * 11 + 8, none⟩ = some x) ∧ robL (R.set i { n with data := d }) = robL R := by
 have hi := (List.getElem?_eq_some_iff.1 hn).1
 obtain ⟨h1, h2, h3⟩ := row_cell h.row (k := i * 11 + 8) (by omega) (.string ⟨d.toArray⟩)
 rw [rcells_set (n' := { n with data := d }) rfl (by omega) hn] at h1
 have hnn := List.mem_of_getElem? hn
 have hg : ∀ b, b ≠ g → (w.setCell ⟨g, i * 11 + 8, none⟩ (.string ⟨d.toArray⟩)).heap[b]? = w.heap[b]? := fun b hb => Below.heap_setCell _ _ _ _ hb
 have hap : ∀ b ∈ xob n.at_.xs n.xv, B ≤ b ∧ b ≠ r ∧ b ≠ g := fun b hb => by
  have := h.apart b (robL_mem hnn (List.mem_append_right _ hb))
  exact ⟨this.1, this.2.1, fun e => this.2.2 (by rw [e]; simp [ob, Value.ownBlock])⟩
 refine ⟨?_, h2, h3, ?_⟩
 · exact h.setNode hn { n with data := d } h1 hg (by rw [World.size_setCell]; exact Nat.le_refl _) ⟨rfl, rfl⟩ ((h.node n hnn).2.kept (by rw [World.size_setCell]; exact Nat.le_refl _) (fun b hb => hg b (hap b hb).2.2)) hap
 · rw [robL, robL]
   obtain ⟨hlt, he⟩ := List.getElem?_eq_some_iff.1 hn
   rw [List.set_eq_take_append_cons_drop, if_pos hlt]
   conv => rhs; rw [← List.take_append_drop i R, List.drop_eq_getElem_cons hlt, he]
   simp [List.flatMap_append, List.flatMap_cons, robN]
end
section
variable {L : List TE}
theorem set_map (hs : SrtT L) {i : Nat} {e e' : TE} (he : L[i]? = some e) (f : TE → TE) (hf : f e = e') (hid : ∀ x ∈ L, x.nm ≠ e.nm → f x = x) : L.set i e' = L.map f := by
 obtain ⟨hi, rfl⟩ := List.getElem?_eq_some_iff.1 he
 refine List.ext_getElem? (fun j => ?_)
 rw [List.getElem?_set, List.getElem?_map]
 by_cases hj : i = j
 · subst hj; rw [if_pos rfl, if_pos hi, List.getElem?_eq_getElem hi, Option.map_some, hf]
 · rw [if_neg hj]
   by_cases hjl : j < L.length
   · rw [List.getElem?_eq_getElem hjl, Option.map_some, hid _ (List.getElem_mem hjl)]
     intro hn
     rcases Nat.lt_or_gt_of_ne hj with hlt | hgt
     · exact ahd_ne (List.pairwise_iff_getElem.1 hs i j hi hjl hlt) hn.symm
     · exact ahd_ne (List.pairwise_iff_getElem.1 hs j i hjl hi hgt) hn
   · rw [List.getElem?_eq_none (by omega)]; rfl
theorem set_tick (hs : SrtT L) {i : Nat} {e : TE} (he : L[i]? = some e) (c : Int) : L.set i { e with tick := c } = tickN [e.nm] c L :=
 set_map hs he _ (by simp) (fun x _ hx => by simp [hx])
theorem set_upd (hs : SrtT L) {i : Nat} {e e' : TE} (he : L[i]? = some e) (hn : e'.nm = e.nm) : L.set i e' = updN e' L :=
 set_map hs he _ (by rw [if_pos hn.symm]) (fun x _ hx => by rw [if_neg (by rw [hn]; exact hx)])
theorem tickN_two (a b : PN) (c : Int) (L : List TE) : tickN [a, b] c L = tickN [b] c (tickN [a] c L) := by
 rw [tickN, tickN, tickN, List.map_map]
 refine List.map_congr_left (fun x _ => ?_)
 show (if x.nm ∈ [a, b] then ({ x with tick := c } : TE) else x) = (if (if x.nm ∈ [a] then ({ x with tick := c } : TE) else x).nm ∈ [b] then ({ (if x.nm ∈ [a] then ({ x with tick := c } : TE) else x) with tick := c } : TE) else (if x.nm ∈ [a] then ({ x with tick := c } : TE) else x))
 by_cases h1 : x.nm = a
 · rw [if_pos (by simp [h1]), if_pos (show x.nm ∈ [a] by simp [h1])]
   split <;> rfl
 · rw [if_neg (show ¬ x.nm ∈ [a] by simp [h1])]
   by_cases h2 : x.nm = b
   · rw [if_pos (by simp [h2]), if_pos (by simp [h2])]
   · rw [if_neg (by simp [h1, h2]), if_neg (by simp [h2])]
theorem tickN_ins {e : TE} {c : Int} : ∀ {L : List TE}, (∀ x ∈ L, x.nm ≠ e.nm) → tickN [e.nm] c (insT e L) = insT { e with tick := c } L
 | [], _ => by simp [insT, tickN]
 | y :: r, h => by
   have hr : tickN [e.nm] c r = r := by
    rw [tickN]
    conv => rhs; rw [← List.map_id r]
    exact List.map_congr_left (fun x hx => by simp [h x (List.mem_cons_of_mem _ hx)])
   have hy : y.nm ≠ e.nm := h y (by simp)
   rw [insT, insT]
   by_cases ha : ahd e.nm y.nm = true
   · rw [if_pos ha, if_pos ha]
     rw [tickN, List.map_cons, List.map_cons, ← tickN, hr]
     simp [hy]
   · rw [if_neg ha, if_neg ha, tickN, List.map_cons, ← tickN, tickN_ins (fun x hx => h x (List.mem_cons_of_mem _ hx))]
     simp [hy]
end
end Go.Proofs.YtnkapojbijbbaaaGreatDoor.Sr
