import Derived.Test.YthcjjekkjbidlaaDoorZPSrHonPlain
import Derived.Test.YthcjjekkjbidlaaDoorZPSrHapp
import Derived.Test.YthcjjekkjbidlaaDoorZPStSet
import Derived.Test.YthcjjekkjbidlaaDoorZPStIn
set_option linter.unusedSimpArgs false
set_option linter.unusedVariables false
/-
  How the law of StatixHonest keeps its things: the tree, the index, the bytes, the numbers.
-/
namespace Go.Proofs.YthcjjekkjbidlaaDoor.Sr
open Go.RowKit Go.Maps Go.WideMaps Go.Proofs.YthcjjekkjbidlaaDoor.Rf Go.Proofs.YthcjjekkjbidlaaDoor.Nm Go.Proofs.YthcjjekkjbidlaaDoor.St

def strD (l : List UInt8) : Value := .string ⟨l.toArray⟩
def nodK (x : Nat × Int) : Value := .agg (.string ⟨#[]⟩ :: (zeroA.cells (.slice none 0 0) ++ [.string ⟨#[]⟩, .int .u64 (x.1 : Int), .int .i64 x.2])).toArray
structure LawSt (B : Nat) (w : World) (r : Nat) (T : Tr) (g b : Nat) (X : List SE) (db : Nat) (D : MV (List UInt8)) (kb : Nat) (K : MV (Nat × Int)) : Prop where
  tree : TreeAt B w r T
  idx : IndexAt B w g b X
  dat : w.ownsMap Tryd.prog 9 Rv db 1000000 (toD strD D)
  kep : w.ownsMap Tryd.prog 9 Rv kb 1000000 (toD nodK K)
  off : ∀ x ∈ r :: (ownL T.L ++ xobL T.L), x ≠ g ∧ x ≠ b ∧ x ≠ db ∧ x ≠ kb
  ne : g ≠ db ∧ g ≠ kb ∧ b ≠ db ∧ b ≠ kb ∧ db ≠ kb
  base : B ≤ db ∧ B ≤ kb
section
variable {B : Nat} {w w' : World} {r : Nat} {T : Tr} {g b : Nat} {X : List SE} {db : Nat} {D : MV (List UInt8)} {kb : Nat} {K : MV (Nat × Int)}
theorem LawSt.size (h : LawSt B w r T g b X db D kb K) : B ≤ w.heap.size := Nat.le_trans h.idx.baseg (Nat.le_of_lt h.idx.lt_g)
theorem LawSt.below (h : LawSt B w r T g b X db D kb K) (hb : Below w.heap.size w w') : LawSt B w' r T g b X db D kb K :=
  ⟨h.tree.below hb, h.idx.below hb, ownsMap_block h.dat (hb.block _ h.dat.lt), ownsMap_block h.kep (hb.block _ h.kep.lt), h.off, h.ne, h.base⟩
theorem LawSt.turnT (h : LawSt B w r T g b X db D kb K) {T' : Tr} {Y : List Nat} (ht : TreeAt B w' r T') (hu : Turn Y w w') (hY : ∀ y ∈ Y, y ∈ r :: (ownL T.L ++ xobL T.L)) (ho : ∀ x ∈ ownL T'.L ++ xobL T'.L, x ∈ ownL T.L ++ xobL T.L ∨ w.heap.size ≤ x) : LawSt B w' r T' g b X db D kb K := by
  have hg : g ∉ Y := fun hy => (h.off g (hY g hy)).1 rfl
  have hb : b ∉ Y := fun hy => (h.off b (hY b hy)).2.1 rfl
  have hd : db ∉ Y := fun hy => (h.off db (hY db hy)).2.2.1 rfl
  have hk : kb ∉ Y := fun hy => (h.off kb (hY kb hy)).2.2.2 rfl
  refine ⟨ht, h.idx.kept (hu.block g h.idx.lt_g hg) (hu.block b h.idx.lt_b hb), ownsMap_block h.dat (hu.block _ h.dat.lt hd), ownsMap_block h.kep (hu.block _ h.kep.lt hk), fun x hx => ?_, h.ne, h.base⟩
  rw [List.mem_cons] at hx
  rcases hx with rfl | hx
  · exact h.off _ (by simp)
  · rcases ho x hx with h1 | h1
    · exact h.off x (List.mem_cons_of_mem _ h1)
    · have := h.idx.lt_g; have := h.idx.lt_b; have := h.dat.lt; have := h.kep.lt
      omega
theorem LawSt.call (h : LawSt B w r T g b X db D kb K) {T' : Tr} (hc : CallT B w r T w' T') : LawSt B w' r T' g b X db D kb K :=
  h.turnT hc.tree hc.turn (fun y hy => by
    rw [List.mem_cons] at hy ⊢
    exact hy.imp id (fun h => List.mem_append_left _ h)) hc.own
theorem LawSt.read (h : LawSt B w r T g b X db D kb K) {n : Nat} (ht : TreeAt B w' r { T with reads := n }) (hu : Turn [r] w w') : LawSt B w' r { T with reads := n } g b X db D kb K :=
  h.turnT ht hu (fun y hy => by rw [List.mem_singleton] at hy; rw [hy]; simp) (fun _ h => .inl h)
theorem LawSt.set (h : LawSt B w r T g b X db D kb K) {X' : List SE} (hi : IndexAt B w' g b X') (hu : Turn [b] w w') : LawSt B w' r T g b X' db D kb K :=
  ⟨h.tree.turn hu (fun x hx hb => (h.off x hx).2.1 (by simpa using hb)), hi, ownsMap_block h.dat (hu.block _ h.dat.lt (by have := h.ne.2.2.1; simp; exact Ne.symm this)), ownsMap_block h.kep (hu.block _ h.kep.lt (by have := h.ne.2.2.2.1; simp; exact Ne.symm this)), h.off, h.ne, h.base⟩
theorem LawSt.putD (h : LawSt B w r T g b X db D kb K) {D' : MV (List UInt8)} (hd : w'.ownsMap Tryd.prog 9 Rv db 1000000 (toD strD D')) (hu : Turn [db] w w') : LawSt B w' r T g b X db D' kb K :=
  ⟨h.tree.turn hu (fun x hx hb => (h.off x hx).2.2.1 (by simpa using hb)), h.idx.kept (hu.block _ h.idx.lt_g (by have := h.ne.1; simpa using this)) (hu.block _ h.idx.lt_b (by have := h.ne.2.2.1; simpa using this)), hd, ownsMap_block h.kep (hu.block _ h.kep.lt (by have := h.ne.2.2.2.2; simp; exact Ne.symm this)), h.off, h.ne, h.base⟩
theorem LawSt.putK (h : LawSt B w r T g b X db D kb K) {K' : MV (Nat × Int)} (hk : w'.ownsMap Tryd.prog 9 Rv kb 1000000 (toD nodK K')) (hu : Turn [kb] w w') : LawSt B w' r T g b X db D kb K' :=
  ⟨h.tree.turn hu (fun x hx hb => (h.off x hx).2.2.2 (by simpa using hb)), h.idx.kept (hu.block _ h.idx.lt_g (by have := h.ne.2.1; simpa using this)) (hu.block _ h.idx.lt_b (by have := h.ne.2.2.2.1; simpa using this)), ownsMap_block h.dat (hu.block _ h.dat.lt (by have := h.ne.2.2.2.2; simpa using this)), hk, h.off, h.ne, h.base⟩
end
/-- Laid into a map by a text's key. -/
theorem map_store {α : Type} {enc : α → Value} {t e : TypeId} (hT : Tryd.prog.underlying t = some (.map 9 e)) {w : World} {b : Nat} {m : MV α} (h : w.ownsMap Tryd.prog 9 Rv b 1000000 (toD enc m)) (s : List UInt8) (hs : s.length ≤ maxLen) (v : α) (hl : (putM m s v).length ≤ 1000000) :
    ∃ w', (Instr.mapUpdate t (.map (some b)) (.string ⟨s.toArray⟩) (enc v)).run Tryd.prog w = .ok () w' ∧ w'.ownsMap Tryd.prog 9 Rv b 1000000 (toD enc (putM m s v)) ∧ Turn [b] w w' := by
  obtain ⟨w', hrun, hown, ht⟩ := h.store law hT (by decide) (val := enc v) (keyK ⟨s.toArray⟩ hs) rfl
  have t := ht.grown
  have hU : Turn [b] w w' := ⟨t.os, t.tape, t.output, t.size, fun k hk hx => t.block k hk (by simpa using hx)⟩
  have e1 : (⟨s.toArray⟩ : ByteArray).data.toList = s := by simp
  rw [e1, toD_put] at hown
  exact ⟨w', hrun, map_tight hown hl, hU⟩
theorem putM_len {α : Type} (m : MV α) (s : List UInt8) (v : α) : (putM m s v).length ≤ m.length + 1 := by
  rw [(put_perm s v m).length_eq, List.length_cons]
  have : (delM m s).length ≤ m.length := List.length_filter_le _ _
  omega
end Go.Proofs.YthcjjekkjbidlaaDoor.Sr
