import Derived.Test.YthcjjekkjbidlaaDoorProg
import Derived.WalkKit
import Derived.Test.YthcjjekkjbidlaaDoorZPSrHnPlain
import Derived.Test.YthcjjekkjbidlaaDoorZPSrNames18
import Derived.Test.YthcjjekkjbidlaaDoorZPSrSame2
import Derived.Test.YthcjjekkjbidlaaDoorZPSrWhPlain
import Derived.Test.YthcjjekkjbidlaaDoorZPSrRun18
set_option linter.unusedSimpArgs false
set_option linter.unusedVariables false
/-
  Regions and blocks, taken out of a code.
-/
namespace Go.Proofs.YthcjjekkjbidlaaDoor.Sr
def findR (n : Nat) : Code → Option Code
  | .region id ops d => if id = n then some (.region id ops d) else none
  | .seq a b => match findR n a with
    | some c => some c
    | none => findR n b
  | .block _ c => findR n c
  | .cond _ a b => match findR n a with
    | some c => some c
    | none => findR n b
  | .loop c => findR n c
  | _ => none
def findB (n : Nat) : Code → Option Code
  | .seq a b => match findB n a with
    | some c => some c
    | none => findB n b
  | .block k c => if k == n then some (.block k c) else findB n c
  | .cond _ a b => match findB n a with
    | some c => some c
    | none => findB n b
  | .loop c => findB n c
  | _ => none
end Go.Proofs.YthcjjekkjbidlaaDoor.Sr
/-
  SourceHonest's code in pieces; a row of what a tree tells, read.
-/
namespace Go.Proofs.YthcjjekkjbidlaaDoor.Sr
open Go.RowKit Go.Maps Go.WideMaps Go.Proofs.YthcjjekkjbidlaaDoor.Rf Go.Proofs.YthcjjekkjbidlaaDoor.Nm Go.Proofs.YthcjjekkjbidlaaDoor.St

noncomputable def hnR (n : Nat) : Code := (Tryd.f7.body.bind (findR n)).getD .skip
noncomputable def hnB (n : Nat) : Code := (Tryd.f7.body.bind (findB n)).getD .skip
/-- A variable that holds a node. -/
def NodeVar (w : World) (q : Nat) (e : TE) (xv : Value) : Prop := w.heap[q]? = some (.cells (vcells e xv).toArray VnT)
theorem NodeVar.below {w w' : World} {q : Nat} {e : TE} {xv : Value} (h : NodeVar w q e xv) (hb : Below w.heap.size w w') : NodeVar w' q e xv := (hb.block _ (lt_of_heap h)).trans h
theorem NodeVar.cells {w : World} {q : Nat} {e : TE} {xv : Value} (h : NodeVar w q e xv) : w.cell? ⟨q, 0, none⟩ = some (.string ⟨(pathN e.nm).toArray⟩) ∧ w.cell? ⟨q, 1, none⟩ = some (.int .u8 (e.at_.node : Int)) ∧ w.cell? ⟨q, 9, none⟩ = some (.int .u64 (e.ino : Int)) ∧ w.cell? ⟨q, 10, none⟩ = some (.int .i64 e.tick) :=
  ⟨cell_of_heap h, cell_of_heap h, cell_of_heap h, cell_of_heap h⟩
/-- A row's cells. -/
theorem told_row {C : Nat} {w : World} {a : Option Addr} {n c : Nat} {R : List (TE × Value)} (h : OutAt C w (.slice a n c) R) {i : Nat} {p : TE × Value} (hp : R[i]? = some p) : ∃ g, a = some ⟨g, 0, none⟩ ∧ g < w.heap.size ∧ ∀ w', Below w.heap.size w w' → w'.rangeAt g (i * 11) (vcells p.1 p.2) := by
  have hi := (List.getElem?_eq_some_iff.1 hp).1
  obtain ⟨g, cap, hrv, hg, _, _, hrc⟩ := rowS_form h.row (by omega)
  injection hrv with e1 _ _
  exact ⟨g, e1, hg, fun w' hb j u hj => (hb.cell (p := ⟨g, i * 11 + j, none⟩) hg).trans (hrc _ _ (vrows_at hp hj))⟩
theorem range_row {w : World} {g o : Nat} {e : TE} {xv : Value} (h : w.rangeAt g o (vcells e xv)) : w.cell? ⟨g, o, none⟩ = some (.string ⟨(pathN e.nm).toArray⟩) ∧ w.cell? ⟨g, o + 9, none⟩ = some (.int .u64 (e.ino : Int)) ∧ w.cell? ⟨g, o + 10, none⟩ = some (.int .i64 e.tick) :=
  ⟨h 0 _ rfl, h 9 _ rfl, h 10 _ rfl⟩
theorem told_xs {C : Nat} {w : World} {v : Value} {R : List (TE × Value)} (h : OutAt C w v R) {i : Nat} {p : TE × Value} (hp : R[i]? = some p) (hl : ∀ x ∈ p.1.at_.xs, x.1.length ≤ maxLen ∧ x.2.length ≤ maxLen) : XsAt w p.2 p.1.at_.xs := (xs_of_own (h.xrow p (List.mem_of_getElem? hp)) hl).1
/-- names, of what a tree told. -/
theorem names_told {C k : Nat} {w : World} {v : Value} {R : List (TE × Value)} {T : Tr} (hO : OutAt C w v R) (hM : R.map (·.1) = T.L) (G : Good k T) (hk : k ≤ 1000) {e : TE} (he : e ∈ T.L) :
    Calls Tryd.prog 36 #[v, .string ⟨(pathN e.nm).toArray⟩] w fun z w' => ∃ v', z = .returned v' ∧ PathAt w.heap.size w' v' (namesT T.L e.nm) ∧ Below w.heap.size w w' := by
  have hl : R.length = T.L.length := by have := congrArg List.length hM; rw [List.length_map] at this; exact this
  have hpn : ∀ x ∈ T.L, (pathN x.nm).length ≤ 1000000 := fun x hx => by
    have := ((G.fine (by omega)).names x hx).1
    rw [pathN]; split
    · decide
    · exact this
  have hR : ∀ p ∈ R, p.1 ∈ T.L := fun p hp => by rw [← hM]; exact List.mem_map.2 ⟨p, hp, rfl⟩
  have hK : namK (pathOf e.nm) R = namesT T.L e.nm := by
    rw [namesT_paths (G.names e he) (fun x hx => G.names x hx), ← hM, List.filterMap_map]; rfl
  rw [← hK]
  exact names18_any C w v R hO (by have := G.len; omega) e.nm (G.names e he) (fun p hp => hpn _ (hR p hp)) (hpn e he)
end Go.Proofs.YthcjjekkjbidlaaDoor.Sr
/-
  SourceWhole's code in pieces.
-/
namespace Go.Proofs.YthcjjekkjbidlaaDoor.Sr
open Go.RowKit Go.Maps Go.WideMaps Go.Proofs.YthcjjekkjbidlaaDoor.Rf Go.Proofs.YthcjjekkjbidlaaDoor.Nm Go.Proofs.YthcjjekkjbidlaaDoor.St

noncomputable def whR (n : Nat) : Code := (Tryd.f6.body.bind (findR n)).getD .skip
noncomputable def whB (n : Nat) : Code := (Tryd.f6.body.bind (findB n)).getD .skip
theorem xs_below {w w' : World} {v : Value} {xs : Xs} (h : XsAt w v xs) (hb : Below w.heap.size w w') : XsAt w' v xs := h.kept hb.size (fun b hx => hb.block b (h.lt b hx))
theorem attr_lens {A : XA} (h : chkA A = true) : ∀ x ∈ A.xs, x.1.length ≤ maxLen ∧ x.2.length ≤ maxLen := by
  simp only [chkA, Bool.and_eq_true] at h
  have h2 := h.2.2.2.2.2
  generalize A.xs = xs at h2
  generalize ([] : List UInt8) = l at h2
  induction xs generalizing l with
  | nil => intro x hx; cases hx
  | cons y r ih =>
    simp only [xsFine, Bool.and_eq_true, decide_eq_true_eq] at h2
    intro x hx
    rcases List.mem_cons.1 hx with rfl | hx
    · have := (chk_le h2.1).1
      unfold maxLen; omega
    · exact ih _ h2.2.2.2 x hx
/-- What stat and List say of a path that a node has. -/
theorem at_path {k : Nat} {T : Tr} (G : Good k T) (hs : SrtT T.L) {e : TE} (he : e ∈ T.L) : findE (pathN e.nm) T.L = 0 ∧ statN (pathN e.nm) T.L = statT e T.L ∧ listE (pathN e.nm) T.L = (if e.at_.node ≠ 2 then 11 else 0) ∧ (e.at_.node = 2 → listN (pathN e.nm) T.L = namesT T.L e.nm) ∧ (e.at_.node ≠ 2 → listN (pathN e.nm) T.L = []) := by
  obtain ⟨h1, h2⟩ := G.split he
  have h3 := getT_of hs he
  have h4 : listE (pathN e.nm) T.L = (if e.at_.node ≠ 2 then 11 else 0) := by rw [listE, if_neg (by rw [h1]; simp), h2, h3]
  refine ⟨by rw [findE, if_pos h1, h2, h3]; rfl, by rw [statN, findN, if_pos h1, h2, h3], h4, fun hn => ?_, fun hn => ?_⟩
  · have h5 : listE (pathN e.nm) T.L = 0 := by rw [h4, if_neg (by simp [hn])]
    rw [listN, if_pos h5, h2]
  · have h5 : listE (pathN e.nm) T.L = 11 := by rw [h4, if_pos hn]
    rw [listN, if_neg (by rw [h5]; decide)]
end Go.Proofs.YthcjjekkjbidlaaDoor.Sr
/-
  What an argument that is a list of steps holds.
-/
namespace Go.Proofs.YthcjjekkjbidlaaDoor.Sr
open Go.RowKit Go.Maps Go.WideMaps Go.Proofs.YthcjjekkjbidlaaDoor.Rf Go.Proofs.YthcjjekkjbidlaaDoor.Nm Go.Proofs.YthcjjekkjbidlaaDoor.St

def Stp.At (w : World) (b o : Nat) (x : Stp) : Prop := ∀ (j : Nat) v, x.cells[j]? = some v → w.cell? ⟨b, o + j, none⟩ = some v
def StpsAt (w : World) (v : Value) (l : List Stp) : Prop :=
  ∃ a cap, v = .slice a l.length cap ∧ l.length ≤ maxLen ∧ (l ≠ [] → ∃ b o, a = some ⟨b, o, none⟩ ∧ b < w.heap.size ∧ ∀ (i : Nat) x, l[i]? = some x → x.At w b (o + i * 11)) ∧ ∀ x ∈ l, x.Fits w
theorem Stp.Fits.below {w w' : World} {x : Stp} (h : x.Fits w) (hb : Below w.heap.size w w') : x.Fits w' :=
  ⟨h.path, h.more, h.target, h.xs.kept hb.size (fun b hx => hb.block b (h.xs.lt b hx)), h.xl⟩
end Go.Proofs.YthcjjekkjbidlaaDoor.Sr
/-
  How SourceWhole keeps its things.
-/
namespace Go.Proofs.YthcjjekkjbidlaaDoor.Sr
open Go.RowKit Go.Maps Go.WideMaps Go.Proofs.YthcjjekkjbidlaaDoor.Rf Go.Proofs.YthcjjekkjbidlaaDoor.Nm Go.Proofs.YthcjjekkjbidlaaDoor.St

structure WhSt (B : Nat) (w : World) (r : Nat) (T : Tr) (k : Nat) : Prop where
  tree : TreeAt B w r T
  good : Good k T
  reads : T.reads ≤ k
  clk : T.clock ≤ k
section
variable {B C : Nat} {w w' : World} {r k : Nat} {T T' : Tr} {v0 : Value} {R0 : List (TE × Value)}
theorem WhSt.below (h : WhSt B w r T k) (hb : Below w.heap.size w w') : WhSt B w' r T k := ⟨h.tree.below hb, h.good, h.reads, h.clk⟩
theorem own_base {B' : Nat} (h : TreeAt B' w r T) : ∀ x ∈ r :: ownL T.L, B' ≤ x := fun x hx => h.base x (by
  rw [List.mem_cons] at hx ⊢
  exact hx.imp id (fun h => List.mem_append_left _ h))
theorem WhSt.run (h : WhSt B w r T k) {x : Stp} {e : Ending} (hp : RunP B w r T x e w') (hB : B ≤ w.heap.size) : e = .returned (.int .i64 (runE x T)) ∧ ∃ T', WhSt B w' r T' (k + 1) ∧ Below B w w' := by
  obtain ⟨he, T', htr, htu, _, hch, hri⟩ := hp
  have hF := hri.facts h.tree
  have hG := ChT.good h.tree hch h.good
  refine ⟨he, T', ⟨htr, ⟨hG.deep, hG.names, hG.att, hG.data, hG.ino, hG.inos, hG.tick, hG.clock, hG.most, hG.len⟩, ?_, ?_⟩, htu.below (own_base h.tree) hB⟩
  · rw [hF.reads]; have := h.reads; split <;> omega
  · have := h.clk
    cases hc : chgd x T with
    | true => have := hF.yes hc; omega
    | false => have := (hF.no hc).2; omega
/-- A tree and what it told a while ago. -/
structure MvSt (B C : Nat) (w : World) (r : Nat) (T : Tr) (v0 : Value) (R0 : List (TE × Value)) : Prop where
  tree : TreeAt B w r T
  out : OutAt C w v0 R0
  sep : ∀ x ∈ r :: (ownL T.L ++ xobL T.L), x ∉ ob v0 ++ R0.flatMap (fun p => ob p.2)
theorem MvSt.below (h : MvSt B C w r T v0 R0) (hb : Below w.heap.size w w') : MvSt B C w' r T v0 R0 := ⟨h.tree.below hb, h.out.below hb, h.sep⟩
theorem MvSt.told {B' : Nat} (hT : TreeAt B' w r T) (ho : OutAt w.heap.size w' v0 R0) (hb : Below w.heap.size w w') : MvSt B' w.heap.size w' r T v0 R0 := ⟨hT.below hb, ho, told_apart hT ho⟩
theorem MvSt.call (h : MvSt B C w r T v0 R0) (hc : CallT B w r T w' T') (hB : B ≤ w.heap.size) : MvSt B C w' r T' v0 R0 ∧ Below B w w' := by
  refine ⟨⟨hc.tree, h.out.kept (fun b hb hl => hc.turn.block b hl (fun hx => h.sep b ?_ hb)), fun x hx hb => ?_⟩, hc.turn.below (own_base h.tree) hB⟩
  · rw [List.mem_cons] at hx ⊢
    exact hx.imp id (fun h => List.mem_append_left _ h)
  · have hlt := (h.out.lt x hb).2
    rcases List.mem_cons.1 hx with rfl | hx
    · exact h.sep x (List.mem_cons_self ..) hb
    · rcases hc.own x hx with h1 | h1
      · exact h.sep x (List.mem_cons_of_mem _ h1) hb
      · omega
/-- How many entries the first k nodes have. -/
def alN (L : List TE) (k : Nat) : Nat := ((L.take k).map fun e => (namesT L e.nm).length).sum
theorem alN_succ {L : List TE} {i : Nat} {e : TE} (he : L[i]? = some e) : alN L (i + 1) = alN L i + (namesT L e.nm).length := by
  rw [alN, List.take_add_one, he, Option.toList_some, List.map_append, List.sum_append]; simp [alN]
theorem alN_le (L : List TE) (i : Nat) : alN L i ≤ (L.map fun e => (namesT L e.nm).length).sum := by
  have h : (L.map fun e => (namesT L e.nm).length).sum = alN L i + ((L.drop i).map fun e => (namesT L e.nm).length).sum := by
    rw [alN, ← List.sum_append, ← List.map_append, List.take_append_drop]
  omega
theorem alN_all (h : TreeAt B w r T) : alN T.L T.L.length + 1 = T.L.length := by
  obtain ⟨e, he, _⟩ := h.root
  obtain ⟨h1, h2⟩ := getT_nm he
  rw [alN, List.take_length]
  exact sum_names h.srt h.parT ⟨e, h1, h2⟩
theorem alN_61 (h : TreeAt B w r T) (i : Nat) : alN T.L i ≤ T.L.length := by
  obtain ⟨e, he, _⟩ := h.root
  obtain ⟨h1, h2⟩ := getT_nm he
  have := alN_le T.L i
  have := sum_names h.srt h.parT ⟨e, h1, h2⟩
  omega
end
end Go.Proofs.YthcjjekkjbidlaaDoor.Sr
/-
  SourceWhole's walk: the steps.
-/
namespace Go.Proofs.YthcjjekkjbidlaaDoor.Sr
open Go.RowKit Go.Maps Go.WideMaps Go.Proofs.YthcjjekkjbidlaaDoor.Rf Go.Proofs.YthcjjekkjbidlaaDoor.Nm Go.Proofs.YthcjjekkjbidlaaDoor.St
set_option linter.unusedSimpArgs false in
set_option maxHeartbeats 40000000 in
set_option maxRecDepth 100000 in
theorem wh_b0 {Q : Exit → Act → World → Prop} (u1 u2 u3 u4 u5 u6 u9 u10 u11 u12 u13 u14 u15 u16 u17 u18 u19 u20 u21 u22 u23 u24 u25 u26 u27 u28 u29 u30 u31 u32 u33 u34 u35 u36 u37 u38 u39 u40 u41 u42 u43 u44 u45 u46 u47 u48 u49 u50 u51 u52 u53 u54 u55 u56 u57 u58 u59 u60 u61 u62 u63 u64 u65 u66 u67 u68 u69 u70 u71 u72 u73 u74 u75 u76 u77 u78 u79 u80 u81 u82 u83 u84 u85 u86 u87 u88 u89 u90 u91 u92 u93 u94 u95 u96 u97 u98 u99 u100 u101 u102 u103 u104 u105 u106 u107 u108 u109 u110 u111 u112 u113 u114 u115 u116 u117 u118 u119 u120 u121 u122 u123 u124 u125 u126 u127 u128 u129 u130 u131 u132 u133 u134 u135 u136 u137 u138 u139 u140 u141 u142 u143 u144 u145 u146 u147 u148 u149 u150 u151 u152 u153 u154 u155 u156 u157 u158 u159 u160 u161 u162 u163 u164 u165 u166 u167 u168 u169 u170 u171 u172 u173 u174 u175 u176 u177 u178 u179 u180 u181 u182 u183 u184 u185 u186 u187 u188 u189 u190 u191 u192 u193 u194 u195 u196 u197 u198 u199 u200 u201 u202 u203 u204 u205 : Value) {r cap : Nat} {a : Option Addr} {l : List Stp} {w wr : World} {T0 : Tr}
    (hP : ∀ c (a a' : Act) w, a.defers = a'.defers → Q (.panic c) a w → Q (.panic c) a' w) (hlm : l.length ≤ 9223372036854775807) (HC : Hid (l ≠ [] → ∃ b o, a = some ⟨b, o, none⟩ ∧ b < w.heap.size ∧ ∀ (i : Nat) x, l[i]? = some x → x.At w b (o + i * 11))) (HF : Hid (∀ x ∈ l, x.Fits w)) (HST : Hid (WhSt w.heap.size wr r T0 0)) (HLW0 : Hid (Below w.heap.size w wr))
    (HK : ∀ (t8 t22 t23 t24 t25 t26 t27 t28 t29 t30 t31 t32 t33 t34 t35 t36 t37 : Value) (w' : World), (∃ (i : Nat) (T : Tr), i ≤ 60 ∧ WhSt w.heap.size w' r T i ∧ Below w.heap.size w w') → Q .normal ⟨#[.slice a l.length cap, u1, u2, u3, u4, u5, u6, .pointer (some ⟨r, 0, none⟩), t8, u9, u10, u11, u12, u13, u14, u15, u16, u17, u18, u19, u20, u21, t22, t23, t24, t25, t26, t27, t28, t29, t30, t31, t32, t33, t34, t35, t36, t37, u38, u39, u40, u41, u42, u43, u44, u45, u46, u47, u48, u49, u50, u51, u52, u53, u54, u55, u56, u57, u58, u59, u60, u61, u62, u63, u64, u65, u66, u67, u68, u69, u70, u71, u72, u73, u74, u75, u76, u77, u78, u79, u80, u81, u82, u83, u84, u85, u86, u87, u88, u89, u90, u91, u92, u93, u94, u95, u96, u97, u98, u99, u100, u101, u102, u103, u104, u105, u106, u107, u108, u109, u110, u111, u112, u113, u114, u115, u116, u117, u118, u119, u120, u121, u122, u123, u124, u125, u126, u127, u128, u129, u130, u131, u132, u133, u134, u135, u136, u137, u138, u139, u140, u141, u142, u143, u144, u145, u146, u147, u148, u149, u150, u151, u152, u153, u154, u155, u156, u157, u158, u159, u160, u161, u162, u163, u164, u165, u166, u167, u168, u169, u170, u171, u172, u173, u174, u175, u176, u177, u178, u179, u180, u181, u182, u183, u184, u185, u186, u187, u188, u189, u190, u191, u192, u193, u194, u195, u196, u197, u198, u199, u200, u201, u202, u203, u204, u205], []⟩ w') :
    Code.wp Tryd.prog (whB 0) Q ⟨#[.slice a l.length cap, u1, u2, u3, u4, u5, u6, .pointer (some ⟨r, 0, none⟩), .int .i64 0, u9, u10, u11, u12, u13, u14, u15, u16, u17, u18, u19, u20, u21, u22, u23, u24, u25, u26, u27, u28, u29, u30, u31, u32, u33, u34, u35, u36, u37, u38, u39, u40, u41, u42, u43, u44, u45, u46, u47, u48, u49, u50, u51, u52, u53, u54, u55, u56, u57, u58, u59, u60, u61, u62, u63, u64, u65, u66, u67, u68, u69, u70, u71, u72, u73, u74, u75, u76, u77, u78, u79, u80, u81, u82, u83, u84, u85, u86, u87, u88, u89, u90, u91, u92, u93, u94, u95, u96, u97, u98, u99, u100, u101, u102, u103, u104, u105, u106, u107, u108, u109, u110, u111, u112, u113, u114, u115, u116, u117, u118, u119, u120, u121, u122, u123, u124, u125, u126, u127, u128, u129, u130, u131, u132, u133, u134, u135, u136, u137, u138, u139, u140, u141, u142, u143, u144, u145, u146, u147, u148, u149, u150, u151, u152, u153, u154, u155, u156, u157, u158, u159, u160, u161, u162, u163, u164, u165, u166, u167, u168, u169, u170, u171, u172, u173, u174, u175, u176, u177, u178, u179, u180, u181, u182, u183, u184, u185, u186, u187, u188, u189, u190, u191, u192, u193, u194, u195, u196, u197, u198, u199, u200, u201, u202, u203, u204, u205], []⟩ wr := by
  have HKH := Lib.hid HK
  clear HK
  conv => arg 2; whnf
  go_wp2
  go_loopw [8] (fun v8 ws => ∃ i : Nat, i ≤ l.length ∧ i ≤ 60 ∧ v8 = .int .i64 (i : Int) ∧ ∃ T : Tr, Hid (WhSt w.heap.size ws r T i) ∧ Hid (Below w.heap.size w ws)) (fun v8 _ => l.length - (RowKit.intOf v8).toNat)
  case atStart => exact ⟨0, by omega, by omega, rfl, T0, HST, HLW0⟩
  case round =>
    rename World => ws
    clear HST HLW0
    obtain ⟨i, hi, hi60, rfl, T, HS, HLW⟩ := hrel
    by_cases hil : (i : Int) < (l.length : Int)
    · by_cases hi6 : (i : Int) < 60
      · have hi2 : i < l.length := by omega
        obtain ⟨x, hx⟩ : ∃ x, l[i]? = some x := ⟨_, List.getElem?_eq_getElem hi2⟩
        obtain ⟨ba, oa, rfl, hba, hca⟩ := HC.out (fun h => by rw [h] at hi2; cases hi2)
        have hfx := HF.out x (List.mem_of_getElem? hx)
        have hrg : ws.rangeAt ba (oa + i * 11) x.cells := fun j u hj => (HLW.out.cell (p := ⟨ba, oa + i * 11 + j, none⟩) hba).trans (hca i x hx j u hj)
        have HRG := Lib.hid hrg
        have RU := run18_any w.heap.size ws r T x (hfx.below HLW.out) i (by omega) HS.out.good (by have := HS.out.reads; omega) HLW.out.size HS.out.tree
        unfold ptr at RU
        have RU := Lib.hid RU
        clear hx hca hfx hrg
        obtain ⟨XC, hXC⟩ : ∃ XC, XC = x.cells := ⟨_, rfl⟩
        rw [← hXC] at HRG RU
        have HXE := Lib.hid hXC
        clear hXC
        have HIX : Hid ((Tryd.prog.info? 80).map (·.size) = some XC.toArray.size) := Lib.hid (by rw [HXE.out]; exact infoStp x)
        go_wp2_with (first
          | (refine wpList_load_mid rfl _ _ rfl ba (oa + i * 11) rfl XC _ HRG.out Tryd.underlying80 rfl HIX.out ?_)
          | fail)
        refine RU.out.mono ?_
        rintro ex w4 hpost
        obtain ⟨rfl, T', hrun, hlow⟩ := HS.out.run hpost HLW.out.size
        have HR := Lib.hid hrun
        have HL4 := Lib.hid (HLW.out.trans (hlow.mono (Nat.le_refl _)))
        clear hpost hrun hlow RU HRG HIX
        go_wp2
        go_roundw
        case rel => exact ⟨i + 1, by omega, by omega, by go_num, T', HR, HL4⟩
        case measure => simp [RowKit.intOf]; omega
      · go_wp2
        exact HKH.out _ _ _ _ _ _ _ _ _ _ _ _ _ _ _ _ _ _ ⟨i, T, hi60, HS.out, HLW.out⟩
    · go_wp2
      exact HKH.out _ _ _ _ _ _ _ _ _ _ _ _ _ _ _ _ _ _ ⟨i, T, hi60, HS.out, HLW.out⟩
end Go.Proofs.YthcjjekkjbidlaaDoor.Sr
