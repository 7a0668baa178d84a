import Derived.Test.YthcjjekkjbidlaaDoorZPStStrs
import Derived.Test.YthcjjekkjbidlaaDoorZPStHeld
import Derived.Test.YthcjjekkjbidlaaDoorProg
import Derived.Shelf.Lay
import Derived.Shelf.SlIter.Nil
import Derived.Shelf.SortM.Plain
import Derived.Shelf.SortM.SortNone
import Derived.RangeFuncStops
import Derived.Ground.GgzProg
import Derived.Ground.SlgmProg
import Derived.Test.YthcjjekkjbidlaaDoorZPSrAdd
import Derived.Test.YthcjjekkjbidlaaDoorZPSrIns
set_option linter.unusedSimpArgs false
set_option linter.unusedVariables false
/-
  The contract of the program's All.
-/
namespace Go.Proofs.YthcjjekkjbidlaaDoor.St
open Go.RowKit Go.Maps Go.WideMaps Go.Proofs.YthcjjekkjbidlaaDoor.Rf Go.Proofs.YthcjjekkjbidlaaDoor.Rd

theorem strKeys_toD {α : Type} (enc : α → Value) (m : MV α) : strKeys (toD enc m) = m.map (·.1) := by
  show (m.map fun p => ((Lit.string p.1, DataW.held (enc p.2)) : Lit × DataW Value)).map (fun p => strOf p.1) = _
  rw [List.map_map]; rfl
end Go.Proofs.YthcjjekkjbidlaaDoor.St
/-
  Rows of n cells an element: append, a row of one; the rows that a tree's Value is.
-/
namespace Go.Proofs.YthcjjekkjbidlaaDoor.Sr
open Go.RowKit Go.Maps Go.WideMaps Go.Proofs.YthcjjekkjbidlaaDoor.Rf Go.Proofs.YthcjjekkjbidlaaDoor.Nm Go.Proofs.YthcjjekkjbidlaaDoor.St

section
variable {P : Program}
theorem wp_appendN (size : Nat) (hpos : 0 < size) {o : Oper} {a : Act} {w : World} {K : Act → World → Prop} {Q : Exit → Act → World → Prop} (s x : Operand) (t : TypeId) (ho : o.op = .call { callee := .builtin .append, args := #[s, x], argTypes := #[t, t] })
    (base : Nat) (e : TypeId) (i : TypeInfo) (z : Value) (bytes : Nat) (ht : P.underlying t = some (.slice e)) (hi : P.info? e = some i) (hz : i.zero = some z)
    (hsize : i.size = size) (hby : i.bytes = bytes) (hzs : z.cells.size = size) (v : Value) (n : Nat) (xs : List Value) (hs : a.eval s = v) (hown : w.ownsRow base e size v n xs)
    (ad : Addr) (m c : Nat) (cs : List Value) (hxv : a.eval x = .slice (some ad) m c) (hx : ∀ j u, cs[j]? = some u → w.cell? (ad.add j) = some u) (hl : cs.length = m * size) (h1 : ∀ u ∈ cs, u.oneCell' = true) (h63 : n + m ≤ maxLen) (hbytes : (n + m) * bytes ≤ 140737488355328) (hbase : base ≤ w.heap.size)
    (h : ∀ v' w', w'.ownsRow base e size v' (n + m) (xs ++ cs) → w.grownBy w' v.ownBlock → (v'.ownBlock = v.ownBlock ∨ v'.ownBlock = some w.heap.size) → K (a.put o.dst v') w') : o.wp P a w K Q := by
  obtain ⟨v', w', hr, h2, h3, _, h4⟩ := run_append_own_at (P := P) w base t o.type e i z size bytes ht hi hz hsize hby hzs hpos v n xs hown ad m c cs hl hx h1 h63 hbytes hbase
  unfold Oper.wp execOp
  simp only [ho, resolve, invoke, builtin, Sem.run_bind, Sem.run_pure, Result.andThen_ok, List.map_toArray, List.map_cons, List.map_nil, hs, hxv, hr]
  exact h v' w' h2 h3 h4
theorem run_buildOneN (size : Nat) (hp0 : 0 < size) (hp1 : ¬ 16777216 < size) (w : World) (t e : TypeId) (i : TypeInfo) (z : Value) (cs : List Value) (ht : P.underlying t = some (.slice e)) (hi : P.info? e = some i) (hz : i.zero = some z) (hs : i.size = size) (hl : cs.length = size) :
    (Instr.buildSlice t 1 #[(0, .agg cs.toArray)]).run P w = .ok (.slice (some ⟨w.heap.size, 0, none⟩) 1 1) (w.alloc (.cells cs.toArray e)) := by
  simp [Instr.buildSlice, run_underlying ht, sizeOf, typeInfo, hi, hs, zeroValue, hz, Instr.fill, Value.cells, hl]
  rw [if_neg hp1, if_neg (by omega), fold_set cs 0 _ (by simp [hl])]
  simp [newRow, Result.andThen]
theorem wp_oneN (size : Nat) (hp0 : 0 < size) (hp1 : ¬ 16777216 < size) {o : Oper} {a : Act} {w : World} {K : Act → World → Prop} {Q : Exit → Act → World → Prop} (t e : TypeId) (x : Operand) (cs : List Value) (i : TypeInfo) (z : Value) (ho : o.op = .buildSlice t 1 #[(0, x)]) (hx : a.eval x = .agg cs.toArray)
    (ht : P.underlying t = some (.slice e)) (hi : P.info? e = some i) (hz : i.zero = some z) (hs : i.size = size) (hl : cs.length = size)
    (h : K (a.put o.dst (.slice (some ⟨w.heap.size, 0, none⟩) 1 1)) (w.alloc (.cells cs.toArray e))) : o.wp P a w K Q := by
  have hrun := run_buildOneN size hp0 hp1 w t e i z cs ht hi hz hs hl
  unfold Oper.wp
  have hp : (#[(0, x)] : Array (Nat × Operand)).map (fun p => (p.1, a.eval p.2)) = #[(0, .agg cs.toArray)] := by simp [hx]
  simp [execOp, ho, hx, hrun, Result.andThen]
  exact h
end

/-- A node's path. -/
def pathN (n : PN) : List UInt8 := if pathOf n = [] then [47] else pathOf n
/-- The eleven cells of a row of Value. -/
def vcells (e : TE) (xv : Value) : List Value := .string ⟨(pathN e.nm).toArray⟩ :: (e.at_.cells xv ++ [.string ⟨e.data.toArray⟩, .int .u64 (e.ino : Int), .int .i64 e.tick])
def vrows (R : List (TE × Value)) : List Value := R.flatMap fun p => vcells p.1 p.2
theorem vcells_len (e : TE) (xv : Value) : (vcells e xv).length = 11 := rfl
theorem vrows_append (A B : List (TE × Value)) : vrows (A ++ B) = vrows A ++ vrows B := by rw [vrows, List.flatMap_append]; rfl
abbrev VnT : TypeId := 70
def zeroVn : Value := .agg (.string ⟨#[]⟩ :: (zeroA.cells (.slice none 0 0) ++ [.string ⟨#[]⟩, .int .u64 0, .int .i64 0])).toArray
theorem infoVn : (Tryd.prog.info? VnT).map (fun i => (i.zero, i.size, i.bytes)) = some (some zeroVn, 11, 112) := by kernel_rfl
end Go.Proofs.YthcjjekkjbidlaaDoor.Sr
/-
  The sorted names of a folder (and of a node that is none).
-/
namespace Go.Proofs.YthcjjekkjbidlaaDoor.Sr
open Go.RowKit Go.Maps Go.WideMaps Go.Proofs.YthcjjekkjbidlaaDoor.Rf Go.Proofs.YthcjjekkjbidlaaDoor.Nm Go.Proofs.YthcjjekkjbidlaaDoor.St

abbrev MkT : TypeId := 94
theorem kid_names {L : List TE} (hs : SrtT L) (n : PN) {ss : List (List UInt8)} (h : ss.Perm (strKeys (toD ptr (kidsT L n)))) : ss.mergeSort (fun x y => decide (x ≤ y)) = (kidsT L n).map (·.1) := by
  rw [strKeys_toD] at h
  rw [mergeSort_of_perm h]
  refine List.mergeSort_of_pairwise ?_
  rw [List.pairwise_map]
  refine (kidsT_srt hs n).imp (fun {a b} hab => ?_)
  rw [decide_eq_true_iff]
  exact List.le_of_lt (lt_iff.1 hab)
def KeysPost (W : World) (K : List (List UInt8)) (x : Ending) (w' : World) : Prop :=
  ∃ v, x = .returned v ∧ w'.ownsRow W.heap.size 9 1 v K.length (K.map sv) ∧ Below W.heap.size W w'
theorem kids_sorted {B : Nat} {w : World} {r : Nat} {T : Tr} (h : TreeAt B w r T) {e : TE} (he : e ∈ T.L) (hl : (kidsT T.L e.nm).length ≤ 1000000) :
    Calls Tryd.prog 58 #[.func (.func 73) #[] #[.pointer (some ⟨w.heap.size, 0, none⟩)]] (w.alloc (.cells #[mapV e.m] MkT)) (KeysPost (w.alloc (.cells #[mapV e.m] MkT)) ((kidsT T.L e.nm).map (·.1))) := by
  cases hm : e.m with
  | some b =>
    have SK := Tryd.sortedKeysT b 1000000 _ _ w ((h.node e he).kids b hm) (by rw [toD_size]; unfold maxLen; omega) (by rw [toD_size]; omega)
    refine SK.mono ?_
    rintro x w' ⟨v, ss, rfl, hp, ho, _, hb⟩
    have hk := kid_names h.srt e.nm hp
    have hlen : ss.length = (kidsT T.L e.nm).length := by
      have := congrArg List.length hk
      rw [List.length_mergeSort, List.length_map] at this; exact this
    rw [hk, hlen] at ho
    refine ⟨v, rfl, ?_, hb⟩
    rw [List.length_map]
    exact ho
  | none =>
    have hk : kidsT T.L e.nm = [] := by
      rw [List.eq_nil_iff_forall_not_mem]
      intro k hk
      obtain ⟨x, hx, h1, _⟩ := kidsT_mem.1 hk
      obtain ⟨u, hu, h2, h3⟩ := h.par x hx _ _ h1
      rw [srtT_inj h.srt hu he h2] at h3
      exact h3 hm
    rw [hk]
    refine (Tryd.sortedNilT w).mono ?_
    rintro x w' ⟨v, ss, rfl, rfl, ho, _, hb⟩
    rw [List.mergeSort_nil] at ho
    exact ⟨v, rfl, ho, hb⟩
end Go.Proofs.YthcjjekkjbidlaaDoor.Sr
