import Derived.Test.YthcjjekkjbidlaaDoorZPStStep
import Derived.Test.YthcjjekkjbidlaaDoorZPNmPaths
import Derived.Laws.Shifts
import Derived.Laws.Closers25b
import Derived.Lib.ConvBytes
import Derived.Laws.Bits64
import Derived.Laws.Bits64b
import Derived.Test.YthcjjekkjbidlaaDoorZPRowKit
import Derived.Lib.UnsafeStr
import Derived.Laws.BitsAllLaws
set_option linter.unusedSimpArgs false
set_option linter.unusedVariables false
/-
  Steps of a region that draws its order, over variables of many cells.
-/
namespace Go.Proofs.YthcjjekkjbidlaaDoor.St
open Go.RowKit Go.Maps Go.WideMaps Go.Proofs.YthcjjekkjbidlaaDoor.Rf

section
variable {P : Program} {ops : Array Oper} {o : Oper} {a : Act} {w : World} {K : Act → World → Prop} {Q : Exit → Act → World → Prop} {E : Prop}
theorem step_wp (hgd : o.guard = none) (h : Oper.wp P o a w K Q) : if Region.wanted o (yielded ops a.tmps) = true then Oper.wp P o a w K Q else E := by
  have hw : Region.wanted o (yielded ops a.tmps) = true := by simp [Region.wanted, hgd]
  rw [if_pos hw]
  exact h
theorem wp_store_new {old : Array Value} {T : TypeId} {p : Nat} (hp : p = w.heap.size) (ty : TypeId) (x y : Operand) (ho : o.op = .store ty x y)
    (cs : Array Value) (hx : a.eval x = .pointer (some ⟨p, 0, none⟩)) (hy : a.eval y = .agg cs) (hi : (P.info? ty).map (·.size) = some cs.size) (hold : old.size = cs.size) (h1 : cs.all (·.oneCell') = true)
    (h : ∀ w2 : World, w2.heap[p]? = some (.cells cs T) → Below p w w2 → w2.heap.size = p + 1 → K (a.put o.dst undef) w2) :
    o.wp P a (w.alloc (.cells old T)) K Q := by
  subst hp
  refine wp_store_row ty x y ho w.heap.size cs hx hy T old (MapKept.heap_alloc w _).1 hi hold h1 ?_
  obtain ⟨a1, a2⟩ := store_new w T old cs
  exact h _ a1 a2 (by rw [setRow_size, one_size])
theorem wp_store_at {old : Array Value} {T : TypeId} {g : Nat} (hg : w.heap[g]? = some (.cells old T)) (ty : TypeId) (x y : Operand) (ho : o.op = .store ty x y)
    (cs : Array Value) (hx : a.eval x = .pointer (some ⟨g, 0, none⟩)) (hy : a.eval y = .agg cs) (hi : (P.info? ty).map (·.size) = some cs.size) (hold : old.size = cs.size) (h1 : cs.all (·.oneCell') = true)
    (h : ∀ w2 : World, w2.heap[g]? = some (.cells cs T) → Turn [g] w w2 → w2.heap.size = w.heap.size → K (a.put o.dst undef) w2) :
    o.wp P a w K Q := by
  refine wp_store_row ty x y ho g cs hx hy T old hg hi hold h1 ?_
  exact h _ (setRow_heap _ _ _ _ _ _ hg) ⟨rfl, rfl, rfl, by simp [World.setRow], fun k _ hk => setRow_other _ _ _ _ (by simpa using hk)⟩ (setRow_size _ _ _)
end

/-- An entry laid into an index's map. -/
theorem IndexAt.store {B : Nat} {w : World} {g b : Nat} {L : List SE} (h : IndexAt B w g b L) {e : SE} (he : e.Fits) (hl : (insL e L).length ≤ 65536) :
    ∃ w', (Instr.mapUpdate 104 (.map (some b)) (.string ⟨e.path.toArray⟩) (enV e)).run Tryd.prog w = .ok () w' ∧ IndexAt B w' g b (insL e L) ∧ Turn [b] w w' := by
  obtain ⟨w', hrun, hown, ht⟩ := h.map.store law Tryd.underlying104 (by decide) (val := enV e) (keyK ⟨e.path.toArray⟩ (by show e.path.length ≤ _; have := he.path; unfold maxLen; omega)) rfl
  have t := ht.grown
  have hT : Turn [b] w w' := ⟨t.os, t.tape, t.output, t.size, fun k hk hx => t.block k hk (by simpa using hx)⟩
  refine ⟨w', hrun, ⟨(hT.block _ h.lt_g (by simpa using h.gb)).trans h.book, ?_, h.gb, h.baseg, h.baseb, insL_srt e h.srt, fun x hx => ?_, hl⟩, hT⟩
  · have e1 : (⟨e.path.toArray⟩ : ByteArray).data.toList = e.path := by simp
    rw [e1, toD_put enV (toZ L) e.path e, toZ_put h.srt] at hown
    exact map_tight hown (by rw [toZ_length]; omega)
  · rcases mem_insL hx with rfl | hx
    · exact he
    · exact h.fits x hx
end Go.Proofs.YthcjjekkjbidlaaDoor.St
/-
  The contracts of Drop and Fresh.
-/
namespace Go.Proofs.YthcjjekkjbidlaaDoor.St
open Go.RowKit Go.Maps Go.WideMaps Go.Proofs.YthcjjekkjbidlaaDoor.Rf

theorem IndexAt.delete {B : Nat} {w w' : World} {g b : Nat} {L : List SE} (h : IndexAt B w g b L) {p : List UInt8} (hown : w'.ownsMap Tryd.prog 9 Rv b 1000000 ((toD enV (toZ L)).del (.string p))) (ht : Turn [b] w w') : IndexAt B w' g b (remL p L) := by
  rw [toD_del, toZ_del p h.srt] at hown
  have hs := remL_sub p L
  exact ⟨(ht.block _ h.lt_g (by simpa using h.gb)).trans h.book, hown, h.gb, h.baseg, h.baseb, remL_srt h.srt, fun x hx => h.fits x (hs.mem hx), Nat.le_trans hs.length_le h.len⟩

set_option maxHeartbeats 4000000 in
set_option maxRecDepth 100000 in
theorem drop_any (B : Nat) (w : World) (g b : Nat) (L : List SE) (S : ByteArray) (hS : S.size ≤ maxLen) (h : IndexAt B w g b L) :
    Calls Tryd.prog 31 #[ptr g, .string S] w fun e w' => e = .returned (.int .i64 (getE S.data.toList L)) ∧ IndexAt B w' g b (remL S.data.toList L) ∧ Turn [b] w w' := by
  have GT := Lib.hid (get_any B w g b L S hS h)
  have VOK := Lib.hid (h.fitsGet S.data.toList).en
  have H := Lib.hid h
  unfold ptr getE getV at *
  obtain ⟨V, hV⟩ : ∃ V, V = (getL S.data.toList L).getD zeroS := ⟨_, rfl⟩
  rw [← hV] at GT VOK
  clear hV h
  cases hg : getL S.data.toList L with
  | none =>
    rw [hg] at GT
    have HRN := Lib.hid (remL_none hg)
    clear hg
    go_enter Tryd.func31, Tryd.ntmps31
    go_wp2_with fail
    refine GT.out.mono ?_
    rintro e w1 ⟨rfl, hb1⟩
    have HB1 := Lib.hid hb1
    clear hb1 GT
    go_wp2_with (first
      | (refine wpList_store_new (by first | rfl | rw [one_size]) rfl _ _ _ rfl V.cells.toArray rfl rfl VOK.out.info VOK.out.z VOK.out.one ?_
         intro w2 hq2 hb2 hs2
         have HB2 := Lib.hid (HB1.out.trans (hb2.mono HB1.out.size))
         clear hq2 hb2 hs2))
    go_ret
    rw [HRN.out]
    exact ⟨rfl, H.out.below HB2.out, Turn.of_below HB2.out⟩
  | some en =>
    rw [hg] at GT
    clear hg
    go_enter Tryd.func31, Tryd.ntmps31
    go_wp2_with fail
    refine GT.out.mono ?_
    rintro e w1 ⟨rfl, hb1⟩
    have HB1 := Lib.hid hb1
    clear hb1 GT
    go_wp2_with (first
      | (refine wpList_store_new (by first | rfl | rw [one_size]) rfl _ _ _ rfl V.cells.toArray rfl rfl VOK.out.info VOK.out.z VOK.out.one ?_
         intro w2 hq2 hb2 hs2
         have HB2 := Lib.hid (HB1.out.trans (hb2.mono HB1.out.size))
         have H2 := Lib.hid (H.out.below HB2.out)
         have c2 : w2.cell? ⟨g, 0, none⟩ = some (.map (some b)) := cell_of_heap H2.out.book
         have HM := Lib.hid H2.out.map
         clear hq2 hb2 hs2)
      | (at_delete
         refine wpList_delete_own _ rfl _ _ 104 9 rfl 65 law Tryd.underlying104 _ b 1000000 _ rfl HM.out _ _ rfl (keyK S hS) ?_
         intro w3 hown3 hturn3
         have HO := Lib.hid hown3; have HT := Lib.hid hturn3
         clear hown3 hturn3))
    go_ret
    have t := HT.out.grown
    have hT : Turn [b] w2 w3 := ⟨t.os, t.tape, t.output, t.size, fun k hk hx => t.block k hk (by simpa using hx)⟩
    exact ⟨rfl, H2.out.delete HO.out hT, (Turn.of_below HB2.out : Turn [b] w w2).trans hT (fun y hy => .inl hy)⟩

end Go.Proofs.YthcjjekkjbidlaaDoor.St
/-
  The contracts of Put and PutText.
-/
namespace Go.Proofs.YthcjjekkjbidlaaDoor.Rf
open Go.RowKit Go.Maps

theorem cat_list (S : ByteArray) (l : List UInt8) : S ++ ⟨l.toArray⟩ = (⟨(S.data.toList ++ l).toArray⟩ : ByteArray) := by
  congr 1
end Go.Proofs.YthcjjekkjbidlaaDoor.Rf
/-
  The contracts of the reader at any bytes: short, Uint, Take, Text, End.
-/
namespace Go.Proofs.YthcjjekkjbidlaaDoor.Rd
open Go.RowKit Go.Maps Go.WideMaps Go.Proofs.YthcjjekkjbidlaaDoor.Rf

theorem ba_ext {A B : ByteArray} (h : A.data.toList = B.data.toList) : A = B := by
  cases A; cases B
  congr 1
  exact Array.toList_inj.1 h
theorem ba_mk (s : ByteArray) : (⟨s.data.toList.toArray⟩ : ByteArray) = s := ba_ext (by simp)
theorem one_size (w : World) (A : Obj) : (w.alloc A).heap.size = w.heap.size + 1 := by show (w.heap.push _).size = _; simp

end Go.Proofs.YthcjjekkjbidlaaDoor.Rd
/-
  The contracts of the reader at any bytes: Uint, Take, Text, End.
-/
namespace Go.Proofs.YthcjjekkjbidlaaDoor.Rd
open Go.RowKit Go.Maps Go.WideMaps Go.Proofs.YthcjjekkjbidlaaDoor.Rf

/-- What is left behind a short number. -/
def shR (L : List UInt8) : List UInt8 := match rd0 L with | some p => L.drop p.2 | none => L
def tkR (n : Nat) (L : List UInt8) : List UInt8 := if n ≤ L.length then L.drop n else L
/-- A text with its length ahead: the text and what is left. -/
def txt (most : Nat) (L : List UInt8) : Option (List UInt8 × List UInt8) :=
  match rd0 L with
  | none => none
  | some p => if p.1 ≤ most ∧ p.1 ≤ L.length - p.2 then some ((L.drop p.2).take p.1, (L.drop p.2).drop p.1) else none
def txR (most : Nat) (L : List UInt8) : List UInt8 := match txt most L with | some p => p.2 | none => L
end Go.Proofs.YthcjjekkjbidlaaDoor.Rd
