import Derived.Test.YthcjjekkjbidlaaDoorZPStStep
set_option linter.unusedSimpArgs false
set_option linter.unusedVariables false
/-
  Steps of a region that draws its order, over variables of many cells.
-/
namespace Go.Proofs.YthcjjekkjbidlaaDoor.St
open Go.RowKit Go.Maps Go.WideMaps Go.Proofs.YthcjjekkjbidlaaDoor.Rf

section
variable {P : Program} {ops : Array Oper} {o : Oper} {a : Act} {w : World} {K : Act → World → Prop} {Q : Exit → Act → World → Prop} {E : Prop}
theorem step_wp (hgd : o.guard = none) (h : Oper.wp P o a w K Q) : if Region.wanted o (yielded ops a.tmps) = true then Oper.wp P o a w K Q else E := by
  have hw : Region.wanted o (yielded ops a.tmps) = true := by simp [Region.wanted, hgd]
  rw [if_pos hw]
  exact h
theorem wp_store_new {old : Array Value} {T : TypeId} {p : Nat} (hp : p = w.heap.size) (ty : TypeId) (x y : Operand) (ho : o.op = .store ty x y)
    (cs : Array Value) (hx : a.eval x = .pointer (some ⟨p, 0, none⟩)) (hy : a.eval y = .agg cs) (hi : (P.info? ty).map (·.size) = some cs.size) (hold : old.size = cs.size) (h1 : cs.all (·.oneCell') = true)
    (h : ∀ w2 : World, w2.heap[p]? = some (.cells cs T) → Below p w w2 → w2.heap.size = p + 1 → K (a.put o.dst undef) w2) :
    o.wp P a (w.alloc (.cells old T)) K Q := by
  subst hp
  refine wp_store_row ty x y ho w.heap.size cs hx hy T old (MapKept.heap_alloc w _).1 hi hold h1 ?_
  obtain ⟨a1, a2⟩ := store_new w T old cs
  exact h _ a1 a2 (by rw [setRow_size, one_size])
end

/-- An entry laid into an index's map. -/
theorem IndexAt.store {B : Nat} {w : World} {g b : Nat} {L : List SE} (h : IndexAt B w g b L) {e : SE} (he : e.Fits) (hl : (insL e L).length ≤ 65536) :
    ∃ w', (Instr.mapUpdate 104 (.map (some b)) (.string ⟨e.path.toArray⟩) (enV e)).run Tryd.prog w = .ok () w' ∧ IndexAt B w' g b (insL e L) ∧ Turn [b] w w' := by
  obtain ⟨w', hrun, hown, ht⟩ := h.map.store law Tryd.underlying104 (by decide) (val := enV e) (keyK ⟨e.path.toArray⟩ (by show e.path.length ≤ _; have := he.path; unfold maxLen; omega)) rfl
  have t := ht.grown
  have hT : Turn [b] w w' := ⟨t.os, t.tape, t.output, t.size, fun k hk hx => t.block k hk (by simpa using hx)⟩
  refine ⟨w', hrun, ⟨(hT.block _ h.lt_g (by simpa using h.gb)).trans h.book, ?_, h.gb, h.baseg, h.baseb, insL_srt e h.srt, fun x hx => ?_, hl⟩, hT⟩
  · have e1 : (⟨e.path.toArray⟩ : ByteArray).data.toList = e.path := by simp
    rw [e1, toD_put enV (toZ L) e.path e, toZ_put h.srt] at hown
    exact map_tight hown (by rw [toZ_length]; omega)
  · rcases mem_insL hx with rfl | hx
    · exact he
    · exact h.fits x hx
end Go.Proofs.YthcjjekkjbidlaaDoor.St
