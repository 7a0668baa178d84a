import Derived.Test.YtkdkifciajfpnaaDoorZPSrHnPlain
import Derived.Test.YtkdkifciajfpnaaDoorZPSrVw
set_option linter.unusedSimpArgs false
set_option linter.unusedVariables false
/-
  Trees that are equal but for where they lie: what a step answers and makes of them is equal too.
-/
namespace Go.Proofs.YtkdkifciajfpnaaDoor.Sr
open Go.RowKit Go.Maps Go.WideMaps Go.Proofs.YtkdkifciajfpnaaDoor.Rf Go.Proofs.YtkdkifciajfpnaaDoor.Nm Go.Proofs.YtkdkifciajfpnaaDoor.St

/-- A node without where it lies. -/
def bare (e : TE) : TE := { e with p := 0, m := none, xv := .slice none 0 0 }
def Tr.bare (T : Tr) : Tr := { T with L := T.L.map Sr.bare }
section
variable {L : List TE} {T : Tr}
theorem getT_bare (n : PN) (L : List TE) : getT n (L.map bare) = (getT n L).map bare := by
  rw [getT, getT, List.find?_map]; rfl
theorem kids_bare (n : PN) (L : List TE) : (kidsT (L.map bare) n).length = (kidsT L n).length := by
  rw [kidsT, kidsT, List.length_filterMap_eq_countP, List.length_filterMap_eq_countP, List.countP_map]
  congr 1
  funext e
  show (kidOf n (bare e)).isSome = (kidOf n e).isSome
  rw [Bool.eq_iff_iff, Option.isSome_iff_exists, Option.isSome_iff_exists]
  constructor
  · rintro ⟨k, hk⟩; exact ⟨(k.1, e.p), kidOf_some.2 ⟨(kidOf_some.1 hk).1, rfl⟩⟩
  · rintro ⟨k, hk⟩; exact ⟨(k.1, 0), kidOf_some.2 ⟨(kidOf_some.1 hk).1, rfl⟩⟩
theorem abvE_bare (l : PN) (L : List TE) : abvE l (L.map bare) = abvE l L := by
  rw [abvE, abvE, getT_bare]
  cases getT l.dropLast L <;> rfl
theorem deepN_bare (n : PN) (L : List TE) : deepN (L.map bare) n = deepN L n := by
  rw [deepN, deepN, subT, subT, List.filter_map, List.foldr_map]; rfl
theorem addE_bare (p d : List UInt8) (A : XA) (T : Tr) : addE p d A T.bare = addE p d A T := by
  simp only [addE, Tr.bare, getT_bare, Option.isSome_map, abvE_bare, kids_bare]
theorem writeE_bare (p d : List UInt8) (T : Tr) : writeE p d T.bare = writeE p d T := by
  simp only [writeE, Tr.bare, getT_bare]
  cases getT (splitL p) T.L <;> rfl
theorem attrE_bare (p : List UInt8) (A : XA) (T : Tr) : attrE p A T.bare = attrE p A T := by
  simp only [attrE, Tr.bare, getT_bare]
  cases getT (splitL p) T.L <;> rfl
theorem xattrE_bare (p s t : List UInt8) (T : Tr) : xattrE p s t T.bare = xattrE p s t T := by
  simp only [xattrE, Tr.bare, getT_bare]
  cases getT (splitL p) T.L <;> rfl
theorem clearE_bare (p s : List UInt8) (T : Tr) : clearE p s T.bare = clearE p s T := by
  simp only [clearE, Tr.bare, getT_bare]
  cases getT (splitL p) T.L <;> rfl
theorem moveE_bare (p q : List UInt8) (T : Tr) : moveE p q T.bare = moveE p q T := by
  simp only [moveE, Tr.bare, getT_bare, Option.isSome_map, abvE_bare, kids_bare, deepN_bare]
  cases getT (splitL p) T.L <;> rfl
theorem dropE_bare (p : List UInt8) (T : Tr) : dropE p T.bare = dropE p T := by
  simp only [dropE, Tr.bare, getT_bare]
  cases getT (splitL p) T.L <;> rfl
theorem readE_bare (p : List UInt8) (T : Tr) : readE p T.bare.L = readE p T.L := by
  simp only [readE, Tr.bare, getT_bare]
  cases getT (splitL p) T.L <;> rfl
theorem runE_bare (x : Stp) (T : Tr) : runE x T.bare = runE x T := by
  simp only [runE, addE_bare, writeE_bare, attrE_bare, xattrE_bare, clearE_bare, moveE_bare, dropE_bare, readE_bare]

/-! ### what a step makes of it -/
def tickN (ns : List PN) (c : Int) (L : List TE) : List TE := L.map fun x => if x.nm ∈ ns then { x with tick := c } else x
def updN (e' : TE) (L : List TE) : List TE := L.map fun x => if x.nm = e'.nm then e' else x
theorem tick_bare (ho : (ownL L).Nodup) (hs : SrtT L) (us : List TE) (hu : ∀ u ∈ us, u ∈ L) (c : Int) : (tickT (us.map TE.p) c L).map bare = tickN (us.map TE.nm) c (L.map bare) := by
  rw [tickT_map, tickN, List.map_map, List.map_map]
  refine List.map_congr_left (fun x hx => ?_)
  show bare (if x.p ∈ us.map TE.p then _ else x) = if x.nm ∈ us.map TE.nm then _ else _
  have h : x.p ∈ us.map TE.p ↔ x.nm ∈ us.map TE.nm := by
    rw [List.mem_map, List.mem_map]
    constructor
    · rintro ⟨u, hu', h⟩; exact ⟨u, hu', by rw [flat_inj ho (hu u hu') hx (x := u.p) (by simp [ownE]) (by rw [h]; simp [ownE])]⟩
    · rintro ⟨u, hu', h⟩; exact ⟨u, hu', by rw [srtT_inj hs (hu u hu') hx h]⟩
  by_cases hp : x.p ∈ us.map TE.p
  · rw [if_pos hp, if_pos (h.1 hp)]; rfl
  · rw [if_neg hp, if_neg (fun hn => hp (h.2 hn))]
theorem ins_bare (e : TE) : ∀ L : List TE, (insT e L).map bare = insT (bare e) (L.map bare)
  | [] => rfl
  | y :: r => by
    rw [insT, List.map_cons, insT]
    show _ = if ahd e.nm y.nm then _ else _
    by_cases h : ahd e.nm y.nm = true
    · rw [if_pos h, if_pos h]; rfl
    · rw [if_neg h, if_neg h, List.map_cons, ins_bare e r]
theorem sort_bare : ∀ L : List TE, (sortT L).map bare = sortT (L.map bare)
  | [] => rfl
  | y :: r => by
    show (insT y (sortT r)).map bare = insT (bare y) (sortT (r.map bare))
    rw [ins_bare, sort_bare r]
theorem move_bare (a b : PN) (L : List TE) : (moveT a b L).map bare = moveT a b (L.map bare) := by
  rw [moveT, moveT, sort_bare, List.map_map, List.map_map]; rfl
theorem drop_bare (l : PN) (L : List TE) : (dropT l L).map bare = dropT l (L.map bare) := by
  rw [dropT, dropT, List.filter_map]; rfl
theorem upd_bare (ho : (ownL L).Nodup) (hs : SrtT L) {n n' : TE} (hn : n ∈ L) (hp : n'.p = n.p) (hm : n'.nm = n.nm) : (updT n' L).map bare = updN (bare n') (L.map bare) := by
  rw [updT, updN, List.map_map, List.map_map]
  refine List.map_congr_left (fun x hx => ?_)
  show bare (if x.p = n'.p then n' else x) = if x.nm = n'.nm then bare n' else bare x
  have h : x.p = n'.p ↔ x.nm = n'.nm := by
    rw [hp, hm]
    constructor
    · intro h; rw [flat_inj ho hx hn (x := x.p) (by simp [ownE]) (by rw [h]; simp [ownE])]
    · intro h; rw [srtT_inj hs hx hn h]
  by_cases hc : x.p = n'.p
  · rw [if_pos hc, if_pos (h.1 hc)]
  · rw [if_neg hc, if_neg (fun hn => hc (h.2 hn))]
def addN (p d : List UInt8) (A : XA) (F : Tr) : Tr :=
  { F with clock := F.clock + 1, most := F.most + 1, L := tickN [splitL p, (splitL p).dropLast] ((F.clock + 1 : Nat) : Int) (insT ⟨splitL p, F.most + 1, 0, A, d, 0, none, .slice none 0 0⟩ F.L) }
def setN (p : List UInt8) (g : TE → TE) (F : Tr) : Tr :=
  match getT (splitL p) F.L with
  | none => F
  | some n => { F with clock := F.clock + 1, L := tickN [splitL p] ((F.clock + 1 : Nat) : Int) (updN (g n) F.L) }
def moveN (p q : List UInt8) (F : Tr) : Tr := { F with clock := F.clock + 1, L := tickN [(splitL p).dropLast, (splitL q).dropLast] ((F.clock + 1 : Nat) : Int) (moveT (splitL p) (splitL q) F.L) }
def dropN (p : List UInt8) (F : Tr) : Tr := { F with clock := F.clock + 1, L := tickN [(splitL p).dropLast] ((F.clock + 1 : Nat) : Int) (dropT (splitL p) F.L) }
def runN (x : Stp) (F : Tr) : Tr :=
  if runE x F ≠ 0 then F
  else if x.kind = 0 then addN x.path [] (asFold x.A) F
  else if x.kind = 1 then addN x.path x.more (asFile x.A) F
  else if x.kind = 2 then addN x.path [] (asLink x.more x.A) F
  else if x.kind = 3 then setN x.path (fun n => { n with data := x.more }) F
  else if x.kind = 4 then setN x.path (fun n => { n with at_ := asOf x.A n }) F
  else if x.kind = 5 then setN x.path (fun n => { n with at_ := xattrA x.A.target x.more n.at_ }) F
  else if x.kind = 6 then setN x.path (fun n => { n with at_ := clearA x.A.target n.at_ }) F
  else if x.kind = 7 then moveN x.path x.more F
  else if x.kind = 8 then dropN x.path F
  else if x.kind = 9 then { F with reads := F.reads + 1 }
  else F
end
section
variable {B B' : Nat} {w w' : World} {r : Nat} {T T' : Tr}
theorem tree_tick {qs : List Nat} {c : Int} {L : List TE} (h : TreeAt B w r T) (hL : T.L = tickT qs c L) : (ownL L).Nodup ∧ SrtT L := by
  refine ⟨?_, srt_unticks (qs := qs) (c := c) (by rw [← hL]; exact h.srt)⟩
  have := h.own_nod
  rw [hL, own_tickT] at this; exact this
theorem bare_add {p d : List UInt8} {A : XA} (h : AddIs p d A T T') (hT' : TreeAt B w' r T') : T'.bare = addN p d A T.bare := by
  obtain ⟨n, u, hu, hun, hn, hi, ha, hd, ht, rfl⟩ := h
  obtain ⟨ho, hs⟩ := tree_tick hT' rfl
  have hk := tick_bare ho hs [n, u] (by
    intro x hx
    rcases List.mem_cons.1 hx with rfl | hx
    · exact mem_insT.2 (.inl rfl)
    · obtain rfl := List.mem_singleton.1 hx
      exact mem_insT.2 (.inr hu)) ((T.clock + 1 : Nat) : Int)
  have hb : bare n = ⟨splitL p, T.most + 1, 0, A, d, 0, none, .slice none 0 0⟩ := by
    rw [bare, hn, hi, ha, hd, ht]
  rw [ins_bare, hb] at hk
  simp only [List.map_cons, List.map_nil, hn, hun] at hk
  show Tr.mk (((tickT [n.p, u.p] _ _).map Sr.bare)) _ _ _ = _
  rw [hk]; rfl
theorem bare_set {p : List UInt8} {g g' : TE → TE} (hg : ∀ n, bare (g' n) = g (bare n)) (hp : ∀ n, (g' n).p = n.p ∧ (g' n).nm = n.nm) {n : TE} (hn : getT (splitL p) T.L = some n) (hT' : TreeAt B w' r T') (hT : TreeAt B' w r T)
    (he : T' = { T with clock := T.clock + 1, L := tickT [n.p] ((T.clock + 1 : Nat) : Int) (updT (g' n) T.L) }) : T'.bare = setN p g T.bare := by
  subst he
  obtain ⟨ho, hs⟩ := tree_tick hT' rfl
  obtain ⟨hm, hnm⟩ := getT_nm hn
  have h1 : g' n ∈ updT (g' n) T.L := List.mem_map.2 ⟨n, hm, by rw [if_pos (hp n).1.symm]⟩
  have hk := tick_bare ho hs [g' n] (by
    intro x hx
    obtain rfl := List.mem_singleton.1 hx
    exact h1) ((T.clock + 1 : Nat) : Int)
  rw [upd_bare hT.own_nod hT.srt hm (hp n).1 (hp n).2, hg] at hk
  simp only [List.map_cons, List.map_nil, (hp n).1, (hp n).2, hnm] at hk
  have hgb : getT (splitL p) T.bare.L = some (bare n) := by
    show getT (splitL p) (T.L.map bare) = _
    rw [getT_bare, hn]; rfl
  rw [setN, hgb]
  show Tr.mk (((tickT [n.p] _ _).map Sr.bare)) _ _ _ = _
  rw [hk]; rfl
theorem bare_move {p q : List UInt8} (h0 : moveE p q T = 0) (hT : TreeAt B w r T) (hT' : TreeAt B' w' r (moveTr p q T)) : (moveTr p q T).bare = moveN p q T.bare := by
  obtain ⟨n, u, d, sa, sb, F⟩ := move_facts hT h0
  rw [F.tr] at hT' ⊢
  obtain ⟨ho, hs⟩ := tree_tick hT' rfl
  have hin : ∀ y ∈ T.L, ¬ (u.nm ++ [sa]) <+: y.nm → y ∈ moveT (u.nm ++ [sa]) (d.nm ++ [sb]) T.L := fun y hy hpre => moveT_mem.2 ⟨y, hy, by rw [renE, renP_out hpre]⟩
  have hu3 : ¬ (u.nm ++ [sa]) <+: u.nm := fun h => by have := h.length_le; rw [List.length_append, List.length_singleton] at this; omega
  have hk := tick_bare ho hs [u, d] (by
    intro x hx
    rcases List.mem_cons.1 hx with rfl | hx
    · exact hin _ F.hu hu3
    · obtain rfl := List.mem_singleton.1 hx
      exact hin _ F.ok.dmem F.ok.off0) ((T.clock + 1 : Nat) : Int)
  rw [move_bare] at hk
  simp only [List.map_cons, List.map_nil] at hk
  rw [moveN, F.hp, F.hq, List.dropLast_concat, List.dropLast_concat]
  show Tr.mk (((tickT [u.p, d.p] _ _).map Sr.bare)) _ _ _ = _
  rw [hk]; rfl
theorem bare_drop {p : List UInt8} (h0 : dropE p T = 0) (hT : TreeAt B w r T) (hT' : TreeAt B' w' r (dropTr p T)) : (dropTr p T).bare = dropN p T.bare := by
  have h := h0
  rw [dropE] at h
  split at h
  · cases h
  · cases hg : getT (splitL p) T.L with
    | none => rw [hg] at h; cases h
    | some n =>
      rw [hg] at h
      dsimp only at h
      split at h
      · cases h
      · next hpn =>
        obtain ⟨hn, hnm⟩ := getT_nm hg
        obtain ⟨u, _, sl, hu, hnu, hun, _, hgu, _⟩ := hT.up hn (by rw [hnm]; exact hpn)
        rw [hnm] at hun hgu hnu
        rw [dropTr, if_pos h0, hgu] at hT' ⊢
        dsimp only at hT' ⊢
        obtain ⟨ho, hs⟩ := tree_tick hT' rfl
        have hk := tick_bare ho hs [u] (by
          intro x hx
          obtain rfl := List.mem_singleton.1 hx
          refine dropT_mem.2 ⟨hu, fun hpre => ?_⟩
          have := hpre.length_le
          rw [hnu, List.length_append, List.length_singleton] at this
          omega) ((T.clock + 1 : Nat) : Int)
        rw [drop_bare] at hk
        simp only [List.map_cons, List.map_nil, hun] at hk
        rw [dropN]
        show Tr.mk (((tickT [u.p] _ _).map Sr.bare)) _ _ _ = _
        rw [hk]; rfl
theorem bare_run {x : Stp} (h : RunIs x T T') (hT : TreeAt B w r T) (hT' : TreeAt B' w' r T') : T'.bare = runN x T.bare := by
  unfold RunIs at h
  rw [runN, runE_bare]
  by_cases h0 : runE x T ≠ 0
  · rw [if_pos h0] at h ⊢; rw [h]
  rw [if_neg h0] at h ⊢
  have h00 : runE x T = 0 := Classical.not_not.1 h0
  rw [runE] at h00
  by_cases k0 : x.kind = 0
  · rw [if_pos k0] at h ⊢; exact bare_add h hT'
  rw [if_neg k0] at h h00 ⊢
  by_cases k1 : x.kind = 1
  · rw [if_pos k1] at h ⊢; exact bare_add h hT'
  rw [if_neg k1] at h h00 ⊢
  by_cases k2 : x.kind = 2
  · rw [if_pos k2] at h ⊢; exact bare_add h hT'
  rw [if_neg k2] at h h00 ⊢
  by_cases k3 : x.kind = 3
  · rw [if_pos k3] at h h00 ⊢
    have hw := h00
    rw [writeE] at hw
    cases hg : getT (splitL x.path) T.L with
    | none =>
      rw [hg] at hw
      split at hw
      · cases hw
      · split at hw <;> cases hw
    | some n =>
      rw [writeT, if_pos h00, hg] at h
      exact bare_set (g' := fun n => { n with data := x.more }) (fun n => rfl) (fun n => ⟨rfl, rfl⟩) hg hT' hT h
  rw [if_neg k3] at h h00 ⊢
  by_cases k4 : x.kind = 4
  · rw [if_pos k4] at h ⊢
    obtain ⟨n, xv, hg, h⟩ := h
    exact bare_set (g' := fun n => { n with at_ := asOf x.A n, xv := xv }) (fun n => rfl) (fun n => ⟨rfl, rfl⟩) hg hT' hT h
  rw [if_neg k4] at h h00 ⊢
  by_cases k5 : x.kind = 5
  · rw [if_pos k5] at h ⊢
    obtain ⟨n, xv, hg, h⟩ := h
    exact bare_set (g' := fun n => { n with at_ := xattrA x.A.target x.more n.at_, xv := xv }) (fun n => rfl) (fun n => ⟨rfl, rfl⟩) hg hT' hT h
  rw [if_neg k5] at h h00 ⊢
  by_cases k6 : x.kind = 6
  · rw [if_pos k6] at h ⊢
    obtain ⟨n, xv, hg, h⟩ := h
    exact bare_set (g' := fun n => { n with at_ := clearA x.A.target n.at_, xv := xv }) (fun n => rfl) (fun n => ⟨rfl, rfl⟩) hg hT' hT h
  rw [if_neg k6] at h h00 ⊢
  by_cases k7 : x.kind = 7
  · rw [if_pos k7] at h h00 ⊢
    subst h; exact bare_move h00 hT hT'
  rw [if_neg k7] at h h00 ⊢
  by_cases k8 : x.kind = 8
  · rw [if_pos k8] at h h00 ⊢
    subst h; exact bare_drop h00 hT hT'
  rw [if_neg k8] at h h00 ⊢
  by_cases k9 : x.kind = 9
  · rw [if_pos k9] at h ⊢; rw [h]; rfl
  rw [if_neg k9] at h ⊢; rw [h]
end
end Go.Proofs.YtkdkifciajfpnaaDoor.Sr
/-
  A tree's twin without a walk: the copies of nodes, in whatever order they were made.
-/
namespace Go.Proofs.YtkdkifciajfpnaaDoor.Sr
open Go.RowKit Go.Maps Go.WideMaps Go.Proofs.YtkdkifciajfpnaaDoor.Rf Go.Proofs.YtkdkifciajfpnaaDoor.Nm Go.Proofs.YtkdkifciajfpnaaDoor.St

abbrev Rise (M : MV Nat) : Prop := M.Pairwise fun a b => lt a.1 b.1 = true
/-- What lies of one node, among nodes in no order. -/
structure NodeW (w : World) (L : List TE) (e : TE) : Prop where
  cells : w.heap[e.p]? = some (.cells e.cells.toArray NdT)
  kids : ∀ b, e.m = some b → ∃ M : MV Nat, Rise M ∧ w.ownsMap Tryd.prog 9 Rv b 1000000 (toD ptr M) ∧ ∀ k, k ∈ M ↔ ∃ x ∈ L, x.nm = e.nm ++ [k.1] ∧ x.p = k.2
  xs : XsAt w e.xv e.at_.xs
theorem NodeW.kept {w w' : World} {L : List TE} {e : TE} (h : NodeW w L e) (hs : w.heap.size ≤ w'.heap.size) (hb : ∀ b ∈ ownE e ++ xob e.at_.xs e.xv, w'.heap[b]? = w.heap[b]?) : NodeW w' L e := by
  refine ⟨(hb _ (by simp [ownE])).trans h.cells, fun b hm => ?_, h.xs.kept hs (fun b hx => hb b (by simp [hx]))⟩
  obtain ⟨M, h1, h2, h3⟩ := h.kids b hm
  exact ⟨M, h1, ownsMap_block h2 (hb b (by simp [ownE, hm])), h3⟩
theorem NodeW.lt {w : World} {L : List TE} {e : TE} (h : NodeW w L e) : ∀ b ∈ ownE e ++ xob e.at_.xs e.xv, b < w.heap.size := by
  intro b hb
  rcases List.mem_append.1 hb with hb | hb
  · rw [ownE, List.mem_cons] at hb
    rcases hb with rfl | hb
    · exact lt_of_heap h.cells
    · obtain ⟨M, _, h2, _⟩ := h.kids b (by simpa using hb)
      exact h2.lt
  · exact h.xs.lt b hb
theorem NodeW.wide {w : World} {L L' : List TE} {c : TE} (h : NodeW w L c) (hL : ∀ x s, x.nm = c.nm ++ [s] → (x ∈ L' ↔ x ∈ L)) : NodeW w L' c := by
  refine ⟨h.cells, fun b hm => ?_, h.xs⟩
  obtain ⟨M, h1, h2, h3⟩ := h.kids b hm
  refine ⟨M, h1, h2, fun k => (h3 k).trans ?_⟩
  constructor
  · rintro ⟨x, hx, h4, h5⟩; exact ⟨x, (hL x _ h4).2 hx, h4, h5⟩
  · rintro ⟨x, hx, h4, h5⟩; exact ⟨x, (hL x _ h4).1 hx, h4, h5⟩
/-- Nodes that lie for themselves, behind a place. -/
structure Lies (C0 : Nat) (w : World) (C : List TE) : Prop where
  node : ∀ c ∈ C, NodeW w C c
  nod : (ownL C).Nodup
  xoff : ∀ b ∈ xobL C, b ∉ ownL C
  fresh : ∀ b ∈ ownL C ++ xobL C, C0 ≤ b
  kind : ∀ c ∈ C, (c.at_.node = 2 ↔ c.m ≠ none)
theorem blk_mem {C : List TE} {c : TE} (hc : c ∈ C) {b : Nat} (hb : b ∈ ownE c ++ xob c.at_.xs c.xv) : b ∈ ownL C ++ xobL C := by
  rcases List.mem_append.1 hb with hb | hb
  · exact List.mem_append_left _ (List.mem_flatMap.2 ⟨c, hc, hb⟩)
  · exact List.mem_append_right _ (List.mem_flatMap.2 ⟨c, hc, hb⟩)
theorem Lies.lt {C0 : Nat} {w : World} {C : List TE} (h : Lies C0 w C) : ∀ b ∈ ownL C ++ xobL C, b < w.heap.size := by
  intro b hb
  rcases List.mem_append.1 hb with hb | hb
  · obtain ⟨e, he, hx⟩ := List.mem_flatMap.1 hb
    exact (h.node e he).lt b (by simp [hx])
  · obtain ⟨e, he, hx⟩ := List.mem_flatMap.1 hb
    exact (h.node e he).lt b (by simp [hx])
theorem Lies.kept {C0 : Nat} {w w' : World} {C : List TE} (h : Lies C0 w C) (hs : w.heap.size ≤ w'.heap.size) (hb : ∀ b ∈ ownL C ++ xobL C, w'.heap[b]? = w.heap[b]?) : Lies C0 w' C :=
  ⟨fun c hc => (h.node c hc).kept hs (fun b hx => hb b (blk_mem hc hx)), h.nod, h.xoff, h.fresh, h.kind⟩
theorem Lies.below {C0 : Nat} {w w' : World} {C : List TE} (h : Lies C0 w C) (hb : Below w.heap.size w w') : Lies C0 w' C := h.kept hb.size (fun b hx => hb.block b (h.lt b hx))
theorem Lies.nil (C0 : Nat) (w : World) : Lies C0 w [] := ⟨by simp, by simp [ownL], by simp [xobL], by simp [ownL, xobL], by simp⟩
/-- Two such lots, of which neither holds a child of the other's. -/
theorem Lies.append {C0 : Nat} {w w1 : World} {C D : List TE} (h : Lies C0 w D) (hC : Lies w.heap.size w1 C) (hb : Below w.heap.size w w1) (h0 : C0 ≤ w.heap.size)
    (h1 : ∀ c ∈ C, ∀ x ∈ D, ∀ s, x.nm ≠ c.nm ++ [s]) (h2 : ∀ c ∈ D, ∀ x ∈ C, ∀ s, x.nm ≠ c.nm ++ [s]) : Lies C0 w1 (C ++ D) := by
  have hd := h.below hb
  have ho : ownL (C ++ D) = ownL C ++ ownL D := List.flatMap_append
  have hx : xobL (C ++ D) = xobL C ++ xobL D := List.flatMap_append
  have lo : ∀ b ∈ ownL D ++ xobL D, b < w.heap.size := h.lt
  refine ⟨fun c hc => ?_, ?_, ?_, ?_, fun c hc => ?_⟩
  · rcases List.mem_append.1 hc with hc | hc
    · refine (hC.node c hc).wide (fun x s hn => ?_)
      rw [List.mem_append]
      exact ⟨fun hx => hx.elim id (fun hx => absurd hn (h1 c hc x hx s)), .inl⟩
    · refine (hd.node c hc).wide (fun x s hn => ?_)
      rw [List.mem_append]
      exact ⟨fun hx => hx.elim (fun hx => absurd hn (h2 c hc x hx s)) id, .inr⟩
  · rw [ho, List.nodup_append]
    refine ⟨hC.nod, h.nod, fun a ha b hb' hab => ?_⟩
    have e1 := hC.fresh a (List.mem_append_left _ ha)
    have e2 := lo b (List.mem_append_left _ hb')
    omega
  · intro b hb'
    rw [hx, List.mem_append] at hb'
    rw [ho, List.mem_append]
    rintro (hc | hc)
    · rcases hb' with hb' | hb'
      · exact hC.xoff b hb' hc
      · have e1 := hC.fresh b (List.mem_append_left _ hc)
        have e2 := lo b (List.mem_append_right _ hb')
        omega
    · rcases hb' with hb' | hb'
      · have e1 := hC.fresh b (List.mem_append_right _ hb')
        have e2 := lo b (List.mem_append_left _ hc)
        omega
      · exact h.xoff b hb' hc
  · intro b hb'
    rw [ho, hx] at hb'
    simp only [List.mem_append] at hb'
    rcases hb' with (hb' | hb') | (hb' | hb')
    · exact Nat.le_trans h0 (hC.fresh b (List.mem_append_left _ hb'))
    · exact h.fresh b (List.mem_append_left _ hb')
    · exact Nat.le_trans h0 (hC.fresh b (List.mem_append_right _ hb'))
    · exact h.fresh b (List.mem_append_right _ hb')
  · rcases List.mem_append.1 hc with hc | hc
    · exact hC.kind c hc
    · exact h.kind c hc
theorem nodup_inj {α β : Type} {f : α → β} : ∀ {l : List α}, (l.map f).Nodup → ∀ {x y : α}, x ∈ l → y ∈ l → f x = f y → x = y
  | [], _, _, _, h, _, _ => by cases h
  | a :: r, hn, x, y, hx, hy, he => by
    rw [List.map_cons, List.nodup_cons] at hn
    rcases List.mem_cons.1 hx with hxa | hx <;> rcases List.mem_cons.1 hy with hya | hy
    · rw [hxa, hya]
    · exact absurd (List.mem_map.2 ⟨y, hy, by rw [← he, hxa]⟩) hn.1
    · exact absurd (List.mem_map.2 ⟨x, hx, by rw [he, hya]⟩) hn.1
    · exact nodup_inj hn.2 hx hy he
theorem nm_bare (L : List TE) : (L.map bare).map TE.nm = L.map TE.nm := by rw [List.map_map]; rfl
theorem srt_nodup {L : List TE} (h : SrtT L) : (L.map TE.nm).Nodup := by
  rw [List.nodup_iff_pairwise_ne, List.pairwise_map]
  exact List.Pairwise.imp (fun h => ahd_ne h) h
/-- The copy of a node and of all below it. -/
structure TwF (C0 : Nat) (w : World) (T : Tr) (n : PN) (p : Nat) (C : List TE) : Prop where
  perm : (C.map bare).Perm ((subT T.L n).map bare)
  root : ∃ c ∈ C, c.nm = n ∧ c.p = p
  lies : Lies C0 w C
theorem TwF.names {C0 : Nat} {w : World} {T : Tr} {n : PN} {p : Nat} {C : List TE} (h : TwF C0 w T n p C) {x : TE} (hx : x ∈ C) : ∃ t, x.nm = n ++ t := by
  have h1 := h.perm.mem_iff.1 (List.mem_map.2 ⟨x, hx, rfl⟩)
  obtain ⟨y, hy, hyx⟩ := List.mem_map.1 h1
  obtain ⟨_, t, ht⟩ := subT_mem.1 hy
  have : (bare y).nm = (bare x).nm := by rw [hyx]
  exact ⟨t, (show x.nm = y.nm from this.symm).trans ht⟩
theorem TwF.nodup {C0 : Nat} {w : World} {T : Tr} {n : PN} {p : Nat} {C : List TE} (h : TwF C0 w T n p C) (hs : SrtT T.L) : (C.map TE.nm).Nodup := by
  have h1 := h.perm.map TE.nm
  rw [nm_bare, nm_bare] at h1
  exact h1.nodup_iff.2 (srt_nodup (subT_srt hs n))
/-- The copies so far. -/
structure TwL (C0 : Nat) (w : World) (T : Tr) (n : PN) (ks : List (List UInt8)) (M : MV Nat) (D : List TE) : Prop where
  perm : (D.map bare).Perm (ks.flatMap fun k => (subT T.L (n ++ [k])).map bare)
  nodup : ks.Nodup
  rise : Rise M
  mem : ∀ k, k ∈ M ↔ ∃ x ∈ D, x.nm = n ++ [k.1] ∧ x.p = k.2
  lies : Lies C0 w D
theorem TwL.nil (C0 : Nat) (w : World) (T : Tr) (n : PN) : TwL C0 w T n [] [] [] := ⟨by simp, by simp, by simp, by simp, Lies.nil C0 w⟩
theorem TwL.below {C0 : Nat} {w w' : World} {T : Tr} {n : PN} {ks : List (List UInt8)} {M : MV Nat} {D : List TE} (h : TwL C0 w T n ks M D) (hb : Below w.heap.size w w') : TwL C0 w' T n ks M D := ⟨h.perm, h.nodup, h.rise, h.mem, h.lies.below hb⟩
theorem TwL.kept {C0 : Nat} {w w' : World} {T : Tr} {n : PN} {ks : List (List UInt8)} {M : MV Nat} {D : List TE} (h : TwL C0 w T n ks M D) (hs : w.heap.size ≤ w'.heap.size) (hb : ∀ b, C0 ≤ b → b < w.heap.size → w'.heap[b]? = w.heap[b]?) : TwL C0 w' T n ks M D :=
  ⟨h.perm, h.nodup, h.rise, h.mem, h.lies.kept hs (fun b hx => hb b (h.lies.fresh b hx) (h.lies.lt b hx))⟩
theorem TwL.names {C0 : Nat} {w : World} {T : Tr} {n : PN} {ks : List (List UInt8)} {M : MV Nat} {D : List TE} (h : TwL C0 w T n ks M D) {x : TE} (hx : x ∈ D) : ∃ k ∈ ks, ∃ t, x.nm = n ++ (k :: t) := by
  have h1 := h.perm.mem_iff.1 (List.mem_map.2 ⟨x, hx, rfl⟩)
  obtain ⟨k, hk, h2⟩ := List.mem_flatMap.1 h1
  obtain ⟨y, hy, hyx⟩ := List.mem_map.1 h2
  obtain ⟨_, t, ht⟩ := subT_mem.1 hy
  have : (bare y).nm = (bare x).nm := by rw [hyx]
  exact ⟨k, hk, t, by rw [(show x.nm = y.nm from this.symm), ht, List.append_assoc]; rfl⟩
theorem TwL.step {C0 : Nat} {w w1 : World} {T : Tr} {n : PN} {ks : List (List UInt8)} {M : MV Nat} {D C : List TE} {k : List UInt8} {p : Nat} (h : TwL C0 w T n ks M D) (hC : TwF w.heap.size w1 T (n ++ [k]) p C) (hb : Below w.heap.size w w1)
    (h0 : C0 ≤ w.heap.size) (hk : k ∉ ks) (hs : SrtT T.L) : TwL C0 w1 T n (k :: ks) (putM M k p) (C ++ D) := by
  have cn : ∀ x ∈ C, ∃ t, x.nm = n ++ (k :: t) := fun x hx => by
    obtain ⟨t, ht⟩ := hC.names hx
    exact ⟨t, by rw [ht, List.append_assoc]; rfl⟩
  obtain ⟨c0, hc0, hcn, hcp⟩ := hC.root
  refine ⟨?_, List.nodup_cons.2 ⟨hk, h.nodup⟩, put_rise h.rise k p, fun k' => ?_, ?_⟩
  · rw [List.map_append, List.flatMap_cons]
    exact hC.perm.append h.perm
  · rw [mem_put]
    constructor
    · rintro (rfl | ⟨hm, _⟩)
      · exact ⟨c0, List.mem_append_left _ hc0, hcn, hcp⟩
      · obtain ⟨x, hx, h1, h2⟩ := (h.mem k').1 hm
        exact ⟨x, List.mem_append_right _ hx, h1, h2⟩
    · rintro ⟨x, hx, h1, h2⟩
      rcases List.mem_append.1 hx with hx | hx
      · obtain ⟨t, ht⟩ := cn x hx
        have h3 := List.append_cancel_left (h1.symm.trans ht)
        injection h3 with h3 h4
        have hxc : x = c0 := nodup_inj (hC.nodup hs) hx hc0 (by rw [h1, hcn, h3])
        left
        rw [hxc, hcp] at h2
        exact Prod.ext h3 h2.symm
      · obtain ⟨k2, hk2, t, ht⟩ := h.names hx
        have h3 := List.append_cancel_left (h1.symm.trans ht)
        injection h3 with h3 h4
        exact .inr ⟨(h.mem k').2 ⟨x, hx, h1, h2⟩, fun he => hk (by rw [← he, h3]; exact hk2)⟩
  · refine h.lies.append hC.lies hb h0 (fun c hc x hx s hn => ?_) (fun c hc x hx s hn => ?_)
    · obtain ⟨t, ht⟩ := cn c hc
      obtain ⟨k2, hk2, t2, ht2⟩ := h.names hx
      rw [ht2, ht, List.append_assoc] at hn
      have h3 := List.append_cancel_left hn
      injection h3 with h3 _
      exact hk (by rw [← h3]; exact hk2)
    · obtain ⟨t, ht⟩ := cn x hx
      obtain ⟨k2, hk2, t2, ht2⟩ := h.names hc
      rw [ht2, ht, List.append_assoc] at hn
      have h3 := List.append_cancel_left hn
      injection h3 with h3 _
      exact hk (by rw [h3]; exact hk2)
theorem nodup_le {α : Type} [DecidableEq α] : ∀ {l m : List α}, l.Nodup → (∀ x ∈ l, x ∈ m) → l.length ≤ m.length
  | [], _, _, _ => Nat.zero_le _
  | a :: r, m, hn, h => by
    have ha := h a (List.mem_cons_self ..)
    have h1 : r.length ≤ (m.erase a).length := nodup_le (List.nodup_cons.1 hn).2 (fun x hx => (List.mem_erase_of_ne (fun e => (List.nodup_cons.1 hn).1 (by rw [← e]; exact hx))).2 (h x (List.mem_cons_of_mem _ hx)))
    rw [List.length_erase_of_mem ha] at h1
    have := List.length_pos_of_mem ha
    rw [List.length_cons]; omega
theorem TwL.len {C0 : Nat} {w : World} {T : Tr} {n : PN} {ks : List (List UInt8)} {M : MV Nat} {D : List TE} (h : TwL C0 w T n ks M D) {N : MV Nat} (hk : ∀ k ∈ ks, k ∈ N.map (·.1)) : M.length ≤ N.length := by
  have h1 : (M.map (·.1)).Nodup := by
    rw [List.nodup_iff_pairwise_ne, List.pairwise_map]
    exact h.rise.imp (fun h => lt_ne h)
  have h2 := nodup_le h1 (m := N.map (·.1)) (fun x hx => by
    obtain ⟨k, hkm, rfl⟩ := List.mem_map.1 hx
    obtain ⟨y, hy, h3, _⟩ := (h.mem k).1 hkm
    obtain ⟨k2, hk2, t, ht⟩ := h.names hy
    have h4 := List.append_cancel_left (h3.symm.trans ht)
    injection h4 with h4 _
    rw [h4]; exact hk k2 hk2)
  rw [List.length_map, List.length_map] at h2
  exact h2
theorem getM_has {M : MV Nat} {k : List UInt8} : (getM M k).isSome = true ↔ k ∈ M.map (·.1) := by
  rw [getM, Option.isSome_map, List.find?_isSome, List.mem_map]
  constructor
  · rintro ⟨x, hx, h⟩; exact ⟨x, hx, by simpa using h⟩
  · rintro ⟨x, hx, h⟩; exact ⟨x, hx, by simpa using h⟩
theorem bare_nm {a b : TE} (h : bare a = bare b) : a.nm = b.nm := show (bare a).nm = (bare b).nm by rw [h]
theorem bare_at {a b : TE} (h : bare a = bare b) : a.at_ = b.at_ := show (bare a).at_ = (bare b).at_ by rw [h]
/-- A node's copy over those of all below it. -/
theorem TwL.done {C0 w0 : Nat} {w : World} {T : Tr} {e : TE} {ks : List (List UInt8)} {M : MV Nat} {D : List TE} (h : TwL C0 w T e.nm ks M D) (he : e ∈ T.L) (hs : SrtT T.L) (hp : ParT T.L) (hks : ∀ k, (getM (kidsT T.L e.nm) k).isSome = true ↔ k ∈ ks)
    {c0 : TE} (hb : bare c0 = bare e) (hcell : w.heap[c0.p]? = some (.cells c0.cells.toArray NdT)) (hm : ∀ mb, c0.m = some mb → w.ownsMap Tryd.prog 9 Rv mb 1000000 (toD ptr M)) (hx : XsAt w c0.xv c0.at_.xs)
    (hnd : (ownE c0).Nodup) (hxo : ∀ b ∈ xob c0.at_.xs c0.xv, b ∉ ownE c0) (hlt : ∀ b ∈ ownE c0 ++ xob c0.at_.xs c0.xv, w0 ≤ b ∧ b < C0) (h0 : w0 ≤ C0) (hk : c0.at_.node = 2 ↔ c0.m ≠ none) : TwF w0 w T e.nm c0.p (c0 :: D) := by
  have hn := bare_nm hb
  have dn : ∀ x ∈ D, ∀ s, c0.nm ≠ x.nm ++ [s] := fun x hx s hc => by
    obtain ⟨k, _, t, ht⟩ := h.names hx
    have := congrArg List.length hc
    rw [hn, ht, List.length_append, List.length_append, List.length_cons] at this
    omega
  have c0n : ∀ s, c0.nm ≠ c0.nm ++ [s] := fun s hc => by
    have := congrArg List.length hc
    rw [List.length_append, List.length_singleton] at this
    omega
  have ho : ownL (c0 :: D) = ownE c0 ++ ownL D := List.flatMap_cons
  have hxb : xobL (c0 :: D) = xob c0.at_.xs c0.xv ++ xobL D := List.flatMap_cons
  have lt1 : ∀ b ∈ ownE c0, b < C0 := fun b hb => (hlt b (List.mem_append_left _ hb)).2
  have lt2 : ∀ b ∈ xob c0.at_.xs c0.xv, b < C0 := fun b hb => (hlt b (List.mem_append_right _ hb)).2
  have ge1 : ∀ b ∈ ownL D, C0 ≤ b := fun b hb => h.lies.fresh b (List.mem_append_left _ hb)
  have ge2 : ∀ b ∈ xobL D, C0 ≤ b := fun b hb => h.lies.fresh b (List.mem_append_right _ hb)
  refine ⟨?_, ⟨c0, List.mem_cons_self .., hn, rfl⟩, ⟨fun c hc => ?_, ?_, ?_, ?_, fun c hc => ?_⟩⟩
  · rw [subT_unfold hs hp he, List.map_cons, List.map_cons, hb, List.map_flatMap]
    refine (h.perm.trans ?_).cons _
    have e1 : ((kidsT T.L e.nm).flatMap fun a => (subT T.L (e.nm ++ [a.1])).map bare) = ((kidsT T.L e.nm).map (·.1)).flatMap fun k => (subT T.L (e.nm ++ [k])).map bare := by rw [List.flatMap_map]
    rw [e1]
    refine List.Perm.flatMap_right _ ?_
    refine (List.perm_ext_iff_of_nodup h.nodup ?_).2 (fun k => ?_)
    · rw [List.nodup_iff_pairwise_ne, List.pairwise_map]
      exact (kidsT_srt hs e.nm).imp (fun h => lt_ne h)
    · rw [← hks k, getM_has]
  · rcases List.mem_cons.1 hc with rfl | hc
    · refine ⟨hcell, fun b hbm => ⟨M, h.rise, hm b hbm, fun k => (h.mem k).trans ?_⟩, hx⟩
      rw [← hn]
      constructor
      · rintro ⟨x, hx, h1, h2⟩; exact ⟨x, List.mem_cons_of_mem _ hx, h1, h2⟩
      · rintro ⟨x, hx, h1, h2⟩
        rcases List.mem_cons.1 hx with rfl | hx
        · exact absurd h1 (c0n _)
        · exact ⟨x, hx, h1, h2⟩
    · refine (h.lies.node c hc).wide (fun x s hxn => ?_)
      rw [List.mem_cons]
      exact ⟨fun hx => hx.elim (fun hx => absurd (by rw [← hx]; exact hxn) (dn c hc s)) id, .inr⟩
  · rw [ho, List.nodup_append]
    refine ⟨hnd, h.lies.nod, fun a ha b hb' hab => ?_⟩
    have := lt1 a ha
    have := ge1 b hb'
    omega
  · intro b hb'
    rw [hxb, List.mem_append] at hb'
    rw [ho, List.mem_append]
    rintro (hc | hc)
    · rcases hb' with hb' | hb'
      · exact hxo b hb' hc
      · have := lt1 b hc
        have := ge2 b hb'
        omega
    · rcases hb' with hb' | hb'
      · have := lt2 b hb'
        have := ge1 b hc
        omega
      · exact h.lies.xoff b hb' hc
  · intro b hb'
    rw [ho, hxb] at hb'
    simp only [List.mem_append] at hb'
    rcases hb' with (hb' | hb') | (hb' | hb')
    · exact (hlt b (List.mem_append_left _ hb')).1
    · exact Nat.le_trans h0 (ge1 b hb')
    · exact (hlt b (List.mem_append_right _ hb')).1
    · exact Nat.le_trans h0 (ge2 b hb')
  · rcases List.mem_cons.1 hc with rfl | hc
    · exact hk
    · exact h.lies.kind c hc
theorem no_kids {B : Nat} {w : World} {r : Nat} {T : Tr} (h : TreeAt B w r T) {e : TE} (he : e ∈ T.L) (hm : e.m = none) (k : List UInt8) : (getM (kidsT T.L e.nm) k).isSome = true ↔ k ∈ ([] : List (List UInt8)) := by
  have h0 : kidsT T.L e.nm = [] := by
    rw [List.eq_nil_iff_forall_not_mem]
    intro k hk
    obtain ⟨x, hx, h1, _⟩ := kidsT_mem.1 hk
    obtain ⟨u, hu, h2, h3⟩ := h.par x hx _ _ h1
    rw [srtT_inj h.srt hu he h2] at h3
    exact h3 hm
  rw [h0]; simp [getM]
/-- The whole tree's copy. -/
theorem TwF.tree {B B2 C0 : Nat} {w w1 : World} {r r2 p : Nat} {T : Tr} {C : List TE} (hT : TreeAt B w r T) (h : TwF C0 w1 T [] p C) (hr : w1.heap[r2]? = some (.cells #[ptr p, .int .i64 (T.clock : Int), .int .u64 (T.most : Int), .int .i64 (T.reads : Int)] TrT))
    (hr2 : r2 ∉ ownL C ++ xobL C) (h0 : B2 ≤ C0) (h2 : B2 ≤ r2) : TreeAt B2 w1 r2 { T with L := sortT C } ∧ ({ T with L := sortT C } : Tr).bare = T.bare ∧ ∀ b ∈ ownL (sortT C) ++ xobL (sortT C), b ∈ ownL C ++ xobL C := by
  have hnm := h.nodup hT.srt
  have hss : SrtT (sortT C) := sortT_srt (by
    rw [List.nodup_iff_pairwise_ne, List.pairwise_map] at hnm; exact hnm)
  have hpm := sortT_perm C
  have hpo : (ownL (sortT C)).Perm (ownL C) := hpm.flatMap_right ownE
  have hpx : (xobL (sortT C)).Perm (xobL C) := hpm.flatMap_right _
  have hmem : ∀ x, x ∈ sortT C ↔ x ∈ C := fun x => hpm.mem_iff
  have hperm := h.perm
  rw [subT_root] at hperm
  have toT : ∀ c ∈ C, ∃ y ∈ T.L, bare y = bare c := fun c hc => List.mem_map.1 (hperm.mem_iff.1 (List.mem_map.2 ⟨c, hc, rfl⟩))
  have toC : ∀ y ∈ T.L, ∃ c ∈ C, bare c = bare y := fun y hy => List.mem_map.1 (hperm.mem_iff.2 (List.mem_map.2 ⟨y, hy, rfl⟩))
  obtain ⟨c0, hc0, hc0n, hc0p⟩ := h.root
  refine ⟨⟨⟨c0, ?_, by rw [hc0p]; exact hr⟩, fun c hc => ?_, ?_, ?_, ?_, hss, ?_, fun c hc => h.lies.kind c ((hmem c).1 hc)⟩, ?_, ?_⟩
  · rw [← hc0n]; exact getT_of hss ((hmem c0).2 hc0)
  · have hn := h.lies.node c ((hmem c).1 hc)
    refine ⟨hn.cells, fun b hb => ?_, hn.xs⟩
    obtain ⟨M, h1, h3, h4⟩ := hn.kids b hb
    have : kidsT (sortT C) c.nm = M := kids_is hss h1 (fun k => (h4 k).trans (by
      constructor
      · rintro ⟨x, hx, h⟩; exact ⟨x, (hmem x).2 hx, h⟩
      · rintro ⟨x, hx, h⟩; exact ⟨x, (hmem x).1 hx, h⟩))
    show w1.ownsMap _ _ _ _ _ (toD ptr (kidsT (sortT C) c.nm))
    rw [this]; exact h3
  · rw [List.nodup_cons]
    exact ⟨fun hc => hr2 (List.mem_append_left _ (hpo.mem_iff.1 hc)), hpo.nodup_iff.2 h.lies.nod⟩
  · intro b hb hc
    have hb := hpx.mem_iff.1 hb
    rcases List.mem_cons.1 hc with rfl | hc
    · exact hr2 (List.mem_append_right _ hb)
    · exact h.lies.xoff b hb (hpo.mem_iff.1 hc)
  · intro b hb
    rcases List.mem_cons.1 hb with rfl | hb
    · exact h2
    · refine Nat.le_trans h0 (h.lies.fresh b ?_)
      rcases List.mem_append.1 hb with hb | hb
      · exact List.mem_append_left _ (hpo.mem_iff.1 hb)
      · exact List.mem_append_right _ (hpx.mem_iff.1 hb)
  · intro c hc n s hn
    obtain ⟨y, hy, hyc⟩ := toT c ((hmem c).1 hc)
    obtain ⟨u, hu, h3, h4⟩ := hT.par y hy n s ((bare_nm hyc).trans hn)
    obtain ⟨u2, hu2, hb2⟩ := toC u hu
    refine ⟨u2, (hmem u2).2 hu2, (bare_nm hb2).trans h3, (h.lies.kind u2 hu2).1 ?_⟩
    rw [bare_at hb2]
    exact (hT.kind u hu).2 h4
  · show Tr.mk ((sortT C).map bare) _ _ _ = Tr.mk (T.L.map bare) _ _ _
    have : (sortT C).map bare = T.L.map bare := by
      refine srt_ext ?_ ?_ (fun x => ((hpm.map bare).trans hperm).mem_iff)
      · rw [SrtT, List.pairwise_map]; exact hss
      · rw [SrtT, List.pairwise_map]; exact hT.srt
    rw [this]
  · intro b hb
    rcases List.mem_append.1 hb with hb | hb
    · exact List.mem_append_left _ (hpo.mem_iff.1 hb)
    · exact List.mem_append_right _ (hpx.mem_iff.1 hb)
end Go.Proofs.YtkdkifciajfpnaaDoor.Sr
/-
  How a node's twin keeps its things.
-/
namespace Go.Proofs.YtkdkifciajfpnaaDoor.Sr
open Go.RowKit Go.Maps Go.WideMaps Go.Proofs.YtkdkifciajfpnaaDoor.Rf Go.Proofs.YtkdkifciajfpnaaDoor.Nm Go.Proofs.YtkdkifciajfpnaaDoor.St

structure TwI (w : World) (T : Tr) (e : TE) (q mb it : Nat) (v4 : Value) (ws : World) (left : Lit → Bool) (ks : List (List UInt8)) (M : MV Nat) (D : List TE) : Prop where
  tl : TwL (it + 1) ws T e.nm ks M D
  map : ws.ownsMap Tryd.prog 9 Rv mb 1000000 (toD ptr M)
  cells : ws.heap[q]? = some (.cells (TE.cells { e with p := q, m := some mb, xv := v4 }).toArray NdT)
  xs : XsAt ws v4 e.at_.xs
  ks1 : ∀ k ∈ ks, (getM (kidsT T.L e.nm) k).isSome = true
  ks2 : ∀ k, (getM (kidsT T.L e.nm) k).isSome = true → left (.string k) = false → k ∈ ks
  ks3 : ∀ k ∈ ks, left (.string k) = false
  bel : Below w.heap.size w ws
  q0 : w.heap.size ≤ q
  q1 : q < mb
  q2 : mb < it
  q3 : it < ws.heap.size
  xb : ∀ b ∈ xob e.at_.xs v4, w.heap.size ≤ b ∧ b < it ∧ b ≠ q ∧ b ≠ mb
theorem TwI.round {w : World} {T : Tr} {e : TE} {q mb it : Nat} {v4 : Value} {ws w2 w3 w4 : World} {left : Lit → Bool} {ks : List (List UInt8)} {M : MV Nat} {D C : List TE} {k : List UInt8} {p : Nat} (h : TwI w T e q mb it v4 ws left ks M D)
    (hg : ws.grownBy w2 (some it)) (hz : w2.heap.size = ws.heap.size) (hC : TwF w2.heap.size w3 T (e.nm ++ [k]) p C) (hb : Below w2.heap.size w2 w3) (hlk : left (.string k) = true) (hkk : (getM (kidsT T.L e.nm) k).isSome = true) (hs : SrtT T.L)
    (ht : Turn [mb] w3 w4) (hm : w4.ownsMap Tryd.prog 9 Rv mb 1000000 (toD ptr (putM M k p))) :
    TwI w T e q mb it v4 w4 (fun z => left z && !z.sameKey (.string k)) (k :: ks) (putM M k p) (C ++ D) := by
  have q1 := h.q1; have q2 := h.q2; have q3 := h.q3; have q0 := h.q0
  have z3 := hb.size; have z4 := ht.size
  have s1 : ∀ b, b < ws.heap.size → b ≠ it → b ≠ mb → w4.heap[b]? = ws.heap[b]? := fun b h1 h2 h3 =>
    (ht.block b (by omega) (by simpa using h3)).trans ((hb.block b (by omega)).trans (hg.block b h1 (fun e => by injection e with e; omega)))
  refine ⟨?_, hm, (s1 q (by omega) (by omega) (by omega)).trans h.cells, h.xs.kept (by omega) (fun b hb' => ?_), ?_, ?_, ?_, ?_, q0, q1, q2, by omega, h.xb⟩
  · have t2 : TwL (it + 1) w2 T e.nm ks M D := h.tl.kept (by omega) (fun b h1 h2 => hg.block b h2 (fun e => by injection e with e; omega))
    have t3 := t2.step hC hb (by omega) (fun hk => by rw [h.ks3 k hk] at hlk; cases hlk) hs
    exact t3.kept ht.size (fun b h1 h2 => ht.block b h2 (by simp; omega))
  · obtain ⟨_, h2, _, h4⟩ := h.xb b hb'
    exact s1 b (by omega) (by omega) h4
  · intro k' hk'
    rcases List.mem_cons.1 hk' with rfl | hk'
    · exact hkk
    · exact h.ks1 k' hk'
  · intro k' hk' hl
    simp only [Bool.and_eq_false_iff, Bool.not_eq_false', sameKey_string, beq_iff_eq] at hl
    rcases hl with hl | rfl
    · exact List.mem_cons_of_mem _ (h.ks2 k' hk' hl)
    · exact List.mem_cons_self ..
  · intro k' hk'
    simp only [Bool.and_eq_false_iff, Bool.not_eq_false', sameKey_string, beq_iff_eq]
    rcases List.mem_cons.1 hk' with rfl | hk'
    · exact .inr rfl
    · exact .inl (h.ks3 k' hk')
  · have b2 : Below w.heap.size w w2 := h.bel.grown hg h.bel.size (fun y hy => by obtain rfl := Option.some.inj hy; omega)
    have b3 := b2.trans (hb.mono (by omega))
    exact b3.trans (ht.below (fun x hx => by obtain rfl := List.mem_singleton.1 hx; omega) (by omega))
theorem TwI.pl {w : World} {T : Tr} {e : TE} {q mb it : Nat} {v4 : Value} {ws w2 w3 : World} {left : Lit → Bool} {ks : List (List UInt8)} {M : MV Nat} {D C : List TE} {k : List UInt8} {p : Nat} (h : TwI w T e q mb it v4 ws left ks M D)
    (hg : ws.grownBy w2 (some it)) (hz : w2.heap.size = ws.heap.size) (hC : TwF w2.heap.size w3 T (e.nm ++ [k]) p C) (hb : Below w2.heap.size w2 w3) (hlk : left (.string k) = true) (hkk : (getM (kidsT T.L e.nm) k).isSome = true) (hs : SrtT T.L)
    (hl : (kidsT T.L e.nm).length ≤ 1000000) : (putM M k p).length ≤ 1000000 := by
  have q3 := h.q3
  have t2 : TwL (it + 1) w2 T e.nm ks M D := h.tl.kept (by omega) (fun b h1 h2 => hg.block b h2 (fun e => by injection e with e; omega))
  have t3 := t2.step hC hb (by omega) (fun hk => by rw [h.ks3 k hk] at hlk; cases hlk) hs
  refine Nat.le_trans (t3.len (N := kidsT T.L e.nm) (fun k' hk' => getM_has.1 ?_)) hl
  rcases List.mem_cons.1 hk' with rfl | hk'
  · exact hkk
  · exact h.ks1 k' hk'
theorem TwI.fin {w : World} {T : Tr} {e : TE} {q mb it : Nat} {v4 : Value} {ws : World} {left : Lit → Bool} {ks : List (List UInt8)} {M : MV Nat} {D : List TE} (h : TwI w T e q mb it v4 ws left ks M D) (hl : ∀ kl, left kl = false) (he : e ∈ T.L) (hs : SrtT T.L) (hp : ParT T.L)
    (hk : e.at_.node = 2) : TwF w.heap.size ws T e.nm q ({ e with p := q, m := some mb, xv := v4 } :: D) := by
  have q1 := h.q1; have q2 := h.q2; have q3 := h.q3; have q0 := h.q0
  refine h.tl.done (w0 := w.heap.size) (c0 := { e with p := q, m := some mb, xv := v4 }) he hs hp (fun k => ⟨fun hk => h.ks2 k hk (hl _), h.ks1 k⟩) rfl h.cells (fun b hb => ?_) h.xs ?_ ?_ ?_ (by omega) ⟨fun _ => by simp, fun _ => hk⟩
  · obtain rfl := Option.some.inj hb; exact h.map
  · simp [ownE]; omega
  · intro b hb
    obtain ⟨_, _, h3, h4⟩ := h.xb b hb
    simp [ownE]; exact ⟨h3, h4⟩
  · intro b hb
    rcases List.mem_append.1 hb with hb | hb
    · simp [ownE] at hb; omega
    · obtain ⟨h1, h2, _⟩ := h.xb b hb; omega
theorem tw_leaf {B : Nat} {w ws : World} {r : Nat} {T : Tr} {e : TE} {q : Nat} {v4 : Value} (hT : TreeAt B w r T) (he : e ∈ T.L) (hm : e.m = none) (hc : ws.heap[q]? = some (.cells (TE.cells { e with p := q, xv := v4 }).toArray NdT)) (hx : XsAt ws v4 e.at_.xs)
    (q0 : w.heap.size ≤ q) (hlt : q < ws.heap.size) (xb : ∀ b ∈ xob e.at_.xs v4, w.heap.size ≤ b ∧ b < ws.heap.size ∧ b ≠ q) : TwF w.heap.size ws T e.nm q [{ e with p := q, xv := v4 }] := by
  refine (TwL.nil ws.heap.size ws T e.nm).done (w0 := w.heap.size) (c0 := { e with p := q, xv := v4 }) he hT.srt hT.parT (no_kids hT he hm) rfl hc (fun b hb => ?_) hx ?_ ?_ ?_ (by omega) (hT.kind e he)
  · rw [show ({ e with p := q, xv := v4 } : TE).m = none from hm] at hb; cases hb
  · simp [ownE, hm]
  · intro b hb
    obtain ⟨_, _, h3⟩ := xb b hb
    simp [ownE, hm]; exact h3
  · intro b hb
    rcases List.mem_append.1 hb with hb | hb
    · simp [ownE, hm] at hb; omega
    · obtain ⟨h1, h2, _⟩ := xb b hb; omega
end Go.Proofs.YtkdkifciajfpnaaDoor.Sr
