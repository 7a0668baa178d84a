import Derived.Test.YthcjjekkjbidlaaDoorZPSrCheck
import Derived.Test.YthcjjekkjbidlaaDoorZPSrPlain
set_option linter.unusedSimpArgs false
set_option linter.unusedVariables false
/-
  A node more in a tree that lies in memory.
-/
namespace Go.Proofs.YthcjjekkjbidlaaDoor.Sr
open Go.RowKit Go.Maps Go.WideMaps Go.Proofs.YthcjjekkjbidlaaDoor.Rf Go.Proofs.YthcjjekkjbidlaaDoor.Nm Go.Proofs.YthcjjekkjbidlaaDoor.St

theorem getT_ins_other {e : TE} {n : PN} (hn : e.nm ≠ n) : ∀ L : List TE, getT n (insT e L) = getT n L
  | [] => by simp [insT, getT, hn]
  | y :: r => by
    rw [insT]; split
    · rw [getT, List.find?_cons, decide_eq_false hn]; rfl
    · have ih := getT_ins_other hn r
      rw [getT, List.find?_cons, getT, List.find?_cons]
      cases decide (y.nm = n)
      · exact ih
      · rfl
theorem own_ins (e : TE) (L : List TE) : (ownL (insT e L)).Perm (ownE e ++ ownL L) := (insT_perm e L).flatMap_right ownE
theorem xob_ins {e : TE} {L : List TE} {b : Nat} : b ∈ xobL (insT e L) ↔ b ∈ xob e.at_.xs e.xv ∨ b ∈ xobL L := by
  rw [xobL, List.mem_flatMap, xobL, List.mem_flatMap]
  constructor
  · rintro ⟨x, hx, hb⟩
    rcases mem_insT.1 hx with rfl | hx
    · exact .inl hb
    · exact .inr ⟨x, hx, hb⟩
  · rintro (hb | ⟨x, hx, hb⟩)
    · exact ⟨e, mem_insT.2 (.inl rfl), hb⟩
    · exact ⟨x, mem_insT.2 (.inr hx), hb⟩
/-- A name laid into a folder's map. -/
theorem kid_store {w : World} {b : Nat} {m : MV Nat} (h : w.ownsMap Tryd.prog 9 Rv b 1000000 (toD ptr m)) (s : List UInt8) (hs : s.length ≤ maxLen) (p : Nat) (hl : (putM m s p).length ≤ 1000000) :
    ∃ w', (Instr.mapUpdate 94 (.map (some b)) (.string ⟨s.toArray⟩) (ptr p)).run Tryd.prog w = .ok () w' ∧ w'.ownsMap Tryd.prog 9 Rv b 1000000 (toD ptr (putM m s p)) ∧ Turn [b] w w' := by
  obtain ⟨w', hrun, hown, ht⟩ := h.store law Tryd.underlying94 (by decide) (val := ptr p) (keyK ⟨s.toArray⟩ hs) rfl
  have t := ht.grown
  have hT : Turn [b] w w' := ⟨t.os, t.tape, t.output, t.size, fun k hk hx => t.block k hk (by simpa using hx)⟩
  have e1 : (⟨s.toArray⟩ : ByteArray).data.toList = s := by simp
  rw [e1, toD_put] at hown
  exact ⟨w', hrun, map_tight hown hl, hT⟩
/-- A new node, laid into its folder's map. -/
theorem TreeAt.ins {B : Nat} {w w' : World} {r : Nat} {T : Tr} (h : TreeAt B w r T) {n u : TE} {ns : PN} {s : List UInt8} {ub : Nat} (hn : n.nm = ns ++ [s]) (hno : getT n.nm T.L = none)
    (hu : u ∈ T.L) (hun : u.nm = ns) (hub : u.m = some ub) (hkind : n.at_.node = 2 ↔ n.m ≠ none)
    (hc : w'.heap[n.p]? = some (.cells n.cells.toArray NdT)) (hm : ∀ b, n.m = some b → w'.ownsMap Tryd.prog 9 Rv b 1000000 (toD ptr ([] : MV Nat))) (hxs : XsAt w' n.xv n.at_.xs)
    (hmap : w'.ownsMap Tryd.prog 9 Rv ub 1000000 (toD ptr (putM (kidsT T.L ns) s n.p)))
    (hoth : ∀ b ∈ r :: (ownL T.L ++ xobL T.L), b ≠ ub → w'.heap[b]? = w.heap[b]?) (hs : w.heap.size ≤ w'.heap.size)
    (hnew : ∀ b ∈ ownE n ++ xob n.at_.xs n.xv, w.heap.size ≤ b) (hnd : (ownE n).Nodup) (hxo : ∀ b ∈ xob n.at_.xs n.xv, b ∉ ownE n) (hB : B ≤ w.heap.size) :
    TreeAt B w' r { T with L := insT n T.L } := by
  have hfree := getT_none.1 hno
  have hlt : ∀ b ∈ r :: (ownL T.L ++ xobL T.L), b < w.heap.size := h.lt
  have hubo : ub ∈ ownL T.L := ownL_mem2 hu hub
  have hne : ∀ x ∈ T.L, x ≠ u → ∀ b ∈ ownE x ++ xob x.at_.xs x.xv, b ≠ ub := by
    intro x hx hxu b hb hbe
    subst hbe
    rcases List.mem_append.1 hb with hb | hb
    · exact hxu (flat_inj h.own_nod hx hu hb (by simp [ownE, hub]))
    · exact h.xoff _ (List.mem_flatMap.2 ⟨x, hx, hb⟩) (List.mem_cons_of_mem _ hubo)
  have hin : ∀ x ∈ T.L, ∀ b ∈ ownE x ++ xob x.at_.xs x.xv, b ∈ r :: (ownL T.L ++ xobL T.L) := by
    intro x hx b hb
    rw [List.mem_cons, List.mem_append]
    rcases List.mem_append.1 hb with hb | hb
    · exact .inr (.inl (List.mem_flatMap.2 ⟨x, hx, hb⟩))
    · exact .inr (.inr (List.mem_flatMap.2 ⟨x, hx, hb⟩))
  have hup : u.p ≠ ub := by
    have hnd := own_nodE h.own_nod hu
    rw [ownE, List.nodup_cons] at hnd
    rintro he
    exact hnd.1 (by rw [he, hub]; simp)
  have huxo : ∀ b ∈ xob u.at_.xs u.xv, b ≠ ub := fun b hb he => h.xoff b (List.mem_flatMap.2 ⟨u, hu, hb⟩) (by rw [he]; exact List.mem_cons_of_mem _ hubo)
  refine ⟨?_, fun x hx => ?_, ?_, fun b hb => ?_, fun b hb => ?_, insT_srt h.srt hfree, fun x hx n' s' hxn => ?_, fun x hx => ?_⟩
  · obtain ⟨e0, h1, h2⟩ := h.root
    refine ⟨e0, by rw [getT_ins_other (by rw [hn]; simp)]; exact h1, (hoth r (by simp) ?_).trans h2⟩
    rintro rfl; exact h.r_own hubo
  · rcases mem_insT.1 hx with rfl | hx
    · refine ⟨hc, fun b hb => ?_, hxs⟩
      have hk : kidsT (insT x T.L) x.nm = [] := by
        rw [List.eq_nil_iff_forall_not_mem]
        intro k hk
        obtain ⟨y, hy, h1, _⟩ := kidsT_mem.1 hk
        rcases mem_insT.1 hy with rfl | hy
        · have := congrArg List.length h1; simp at this
        · obtain ⟨v, hv, h2, _⟩ := h.par y hy _ _ h1
          exact hfree v hv h2
      rw [hk]; exact hm b hb
    · by_cases hxu : x = u
      · subst hxu
        refine ⟨(hoth _ (hin x hx _ (by simp [ownE])) hup).trans (h.node x hx).cells, fun b hb => ?_, (h.node x hx).xs.kept hs (fun b hb => hoth b (hin x hx b (by simp [hb])) (huxo b hb))⟩
        obtain rfl := Option.some.inj (hub.symm.trans hb)
        rw [hun, kids_put hn h.srt hfree]
        exact hmap
      · have := (h.node x hx).kept hs (fun b hb => hoth b (hin x hx b hb) (hne x hx hxu b hb))
        refine ⟨this.cells, fun b hb => ?_, this.xs⟩
        rw [kids_put_other (fun s' he => hxu ?_)]
        · exact this.kids b hb
        · rw [hn] at he
          have := (List.append_inj' he rfl).1
          exact srtT_inj h.srt hx hu (by rw [hun, this])
  · show (r :: ownL (insT n T.L)).Nodup
    have hp : (r :: ownL (insT n T.L)).Perm (r :: (ownE n ++ ownL T.L)) := (own_ins n T.L).cons r
    rw [hp.nodup_iff, List.nodup_cons, List.nodup_append]
    refine ⟨fun hr => ?_, hnd, h.own_nod, fun a ha b hb hab => ?_⟩
    · rcases List.mem_append.1 hr with hr | hr
      · have := hnew r (by simp [hr]); have := hlt r (by simp); omega
      · exact h.r_own hr
    · subst hab
      have := hnew a (by simp [ha]); have := hlt a (by simp [hb]); omega
  · show b ∉ r :: ownL (insT n T.L)
    intro hbo
    rw [List.mem_cons, (own_ins n T.L).mem_iff, List.mem_append] at hbo
    rcases xob_ins.1 hb with hb | hb
    · have := hnew b (by simp [hb])
      rcases hbo with rfl | hbo | hbo
      · have := hlt b (by simp); omega
      · exact hxo b hb hbo
      · have := hlt b (by simp [hbo]); omega
    · have := hlt b (by simp [hb])
      rcases hbo with hbo | hbo | hbo
      · exact h.xoff b hb (by simp [hbo])
      · have := hnew b (by simp [hbo]); omega
      · exact h.xoff b hb (by simp [hbo])
  · rw [List.mem_cons, List.mem_append] at hb
    rcases hb with rfl | hb | hb
    · exact h.base _ (by simp)
    · have hb : b ∈ ownL (insT n T.L) := hb
      rw [(own_ins n T.L).mem_iff, List.mem_append] at hb
      rcases hb with hb | hb
      · exact Nat.le_trans hB (hnew b (by simp [hb]))
      · exact h.base b (by simp [hb])
    · rcases xob_ins.1 hb with hb | hb
      · exact Nat.le_trans hB (hnew b (by simp [hb]))
      · exact h.base b (by simp [hb])
  · rcases mem_insT.1 hx with rfl | hx
    · rw [hn] at hxn
      have := (List.append_inj' hxn rfl).1
      exact ⟨u, mem_insT.2 (.inr hu), hun.trans this, by rw [hub]; simp⟩
    · obtain ⟨v, hv, h1, h2⟩ := h.par x hx n' s' hxn
      exact ⟨v, mem_insT.2 (.inr hv), h1, h2⟩
  · rcases mem_insT.1 hx with rfl | hx
    · exact hkind
    · exact h.kind x hx
end Go.Proofs.YthcjjekkjbidlaaDoor.Sr
/-
  A node with all beneath it: the piece of the list that it is.
-/
namespace Go.Proofs.YthcjjekkjbidlaaDoor.Sr
open Go.RowKit Go.Proofs.YthcjjekkjbidlaaDoor.Rf Go.Proofs.YthcjjekkjbidlaaDoor.Nm Go.Proofs.YthcjjekkjbidlaaDoor.St

/-- A node, and all beneath it. -/
def subT (L : List TE) (n : PN) : List TE := L.filter fun e => n.isPrefixOf e.nm
theorem subT_mem {L : List TE} {n : PN} {e : TE} : e ∈ subT L n ↔ e ∈ L ∧ ∃ t, e.nm = n ++ t := by
  rw [subT, List.mem_filter, List.isPrefixOf_iff_prefix]
  constructor
  · rintro ⟨h, t, ht⟩; exact ⟨h, t, ht.symm⟩
  · rintro ⟨h, t, ht⟩; exact ⟨h, t, ht.symm⟩
/-- Each node's folder is there. -/
def ParT (L : List TE) : Prop := ∀ e ∈ L, ∀ n s, e.nm = n ++ [s] → ∃ u ∈ L, u.nm = n
theorem ParT.pre {L : List TE} (h : ParT L) : ∀ (t : PN) {n : PN} {e : TE}, e ∈ L → e.nm = n ++ t → ∃ u ∈ L, u.nm = n := by
  intro t
  generalize hk : t.length = k
  induction k generalizing t with
  | zero =>
    intro n e he hn
    obtain rfl := List.length_eq_zero_iff.1 hk
    exact ⟨e, he, by simpa using hn⟩
  | succ k ih =>
    intro n e he hn
    have hne : t ≠ [] := by rintro rfl; cases hk
    obtain ⟨a, s, rfl⟩ : ∃ a s, t = a ++ [s] := ⟨t.dropLast, t.getLast hne, (List.dropLast_concat_getLast hne).symm⟩
    obtain ⟨u, hu, h1⟩ := h e he (n ++ a) s (by rw [hn, List.append_assoc])
    exact ih a (by simpa using hk) hu h1
end Go.Proofs.YthcjjekkjbidlaaDoor.Sr
