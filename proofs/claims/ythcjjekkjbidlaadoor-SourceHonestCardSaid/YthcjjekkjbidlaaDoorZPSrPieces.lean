import Derived.Test.YthcjjekkjbidlaaDoorProg
import Derived.WalkKit
import Derived.Test.YthcjjekkjbidlaaDoorZPSrHonPlain
import Derived.Test.YthcjjekkjbidlaaDoorZPSrNames18
import Derived.Test.YthcjjekkjbidlaaDoorZPSrSame2
set_option linter.unusedSimpArgs false
set_option linter.unusedVariables false
/-
  Regions and blocks, taken out of a code.
-/
namespace Go.Proofs.YthcjjekkjbidlaaDoor.Sr
def findR (n : Nat) : Code → Option Code
  | .region id ops d => if id = n then some (.region id ops d) else none
  | .seq a b => match findR n a with
    | some c => some c
    | none => findR n b
  | .block _ c => findR n c
  | .cond _ a b => match findR n a with
    | some c => some c
    | none => findR n b
  | .loop c => findR n c
  | _ => none
def findB (n : Nat) : Code → Option Code
  | .seq a b => match findB n a with
    | some c => some c
    | none => findB n b
  | .block k c => if k == n then some (.block k c) else findB n c
  | .cond _ a b => match findB n a with
    | some c => some c
    | none => findB n b
  | .loop c => findB n c
  | _ => none
end Go.Proofs.YthcjjekkjbidlaaDoor.Sr
/-
  SourceHonest's code in pieces; a row of what a tree tells, read.
-/
namespace Go.Proofs.YthcjjekkjbidlaaDoor.Sr
open Go.RowKit Go.Maps Go.WideMaps Go.Proofs.YthcjjekkjbidlaaDoor.Rf Go.Proofs.YthcjjekkjbidlaaDoor.Nm Go.Proofs.YthcjjekkjbidlaaDoor.St

noncomputable def hnR (n : Nat) : Code := (Tryd.f7.body.bind (findR n)).getD .skip
noncomputable def hnB (n : Nat) : Code := (Tryd.f7.body.bind (findB n)).getD .skip
/-- A variable that holds a node. -/
def NodeVar (w : World) (q : Nat) (e : TE) (xv : Value) : Prop := w.heap[q]? = some (.cells (vcells e xv).toArray VnT)
theorem NodeVar.below {w w' : World} {q : Nat} {e : TE} {xv : Value} (h : NodeVar w q e xv) (hb : Below w.heap.size w w') : NodeVar w' q e xv := (hb.block _ (lt_of_heap h)).trans h
theorem NodeVar.cells {w : World} {q : Nat} {e : TE} {xv : Value} (h : NodeVar w q e xv) : w.cell? ⟨q, 0, none⟩ = some (.string ⟨(pathN e.nm).toArray⟩) ∧ w.cell? ⟨q, 1, none⟩ = some (.int .u8 (e.at_.node : Int)) ∧ w.cell? ⟨q, 9, none⟩ = some (.int .u64 (e.ino : Int)) ∧ w.cell? ⟨q, 10, none⟩ = some (.int .i64 e.tick) :=
  ⟨cell_of_heap h, cell_of_heap h, cell_of_heap h, cell_of_heap h⟩
/-- A row's cells. -/
theorem told_row {C : Nat} {w : World} {a : Option Addr} {n c : Nat} {R : List (TE × Value)} (h : OutAt C w (.slice a n c) R) {i : Nat} {p : TE × Value} (hp : R[i]? = some p) : ∃ g, a = some ⟨g, 0, none⟩ ∧ g < w.heap.size ∧ ∀ w', Below w.heap.size w w' → w'.rangeAt g (i * 11) (vcells p.1 p.2) := by
  have hi := (List.getElem?_eq_some_iff.1 hp).1
  obtain ⟨g, cap, hrv, hg, _, _, hrc⟩ := rowS_form h.row (by omega)
  injection hrv with e1 _ _
  exact ⟨g, e1, hg, fun w' hb j u hj => (hb.cell (p := ⟨g, i * 11 + j, none⟩) hg).trans (hrc _ _ (vrows_at hp hj))⟩
theorem range_row {w : World} {g o : Nat} {e : TE} {xv : Value} (h : w.rangeAt g o (vcells e xv)) : w.cell? ⟨g, o, none⟩ = some (.string ⟨(pathN e.nm).toArray⟩) ∧ w.cell? ⟨g, o + 9, none⟩ = some (.int .u64 (e.ino : Int)) ∧ w.cell? ⟨g, o + 10, none⟩ = some (.int .i64 e.tick) :=
  ⟨h 0 _ rfl, h 9 _ rfl, h 10 _ rfl⟩
theorem told_xs {C : Nat} {w : World} {v : Value} {R : List (TE × Value)} (h : OutAt C w v R) {i : Nat} {p : TE × Value} (hp : R[i]? = some p) (hl : ∀ x ∈ p.1.at_.xs, x.1.length ≤ maxLen ∧ x.2.length ≤ maxLen) : XsAt w p.2 p.1.at_.xs := (xs_of_own (h.xrow p (List.mem_of_getElem? hp)) hl).1
/-- The place of a number in a list of nodes, so far. -/
def OldK (L : List TE) (i m : Nat) (o : Int) : Prop := (o = -1 ∧ ∀ (j : Nat) x, j < m → L[j]? = some x → x.ino ≠ i) ∨ ∃ (j : Nat) (x : TE), o = (j : Int) ∧ L[j]? = some x ∧ x.ino = i
theorem OldK.start (L : List TE) (i : Nat) : OldK L i 0 (-1) := .inl ⟨rfl, fun _ _ h => by omega⟩
theorem OldK.skip {L : List TE} {i m : Nat} {o : Int} (h : OldK L i m o) {x : TE} (hx : L[m]? = some x) (hn : x.ino ≠ i) : OldK L i (m + 1) o := by
  rcases h with ⟨h1, h2⟩ | h
  · refine .inl ⟨h1, fun j y hj hy => ?_⟩
    by_cases hjm : j = m
    · subst hjm; rw [hx] at hy; obtain rfl := Option.some.inj hy; exact hn
    · exact h2 j y (by omega) hy
  · exact .inr h
theorem OldK.hit {L : List TE} {i m : Nat} {x : TE} (hx : L[m]? = some x) (hn : x.ino = i) : OldK L i (m + 1) (m : Int) := .inr ⟨m, x, rfl, hx, hn⟩
/-- names, of what a tree told. -/
theorem names_told {C k : Nat} {w : World} {v : Value} {R : List (TE × Value)} {T : Tr} (hO : OutAt C w v R) (hM : R.map (·.1) = T.L) (G : Good k T) (hk : k ≤ 1000) {e : TE} (he : e ∈ T.L) :
    Calls Tryd.prog 36 #[v, .string ⟨(pathN e.nm).toArray⟩] w fun z w' => ∃ v', z = .returned v' ∧ PathAt w.heap.size w' v' (namesT T.L e.nm) ∧ Below w.heap.size w w' := by
  have hl : R.length = T.L.length := by have := congrArg List.length hM; rw [List.length_map] at this; exact this
  have hpn : ∀ x ∈ T.L, (pathN x.nm).length ≤ 1000000 := fun x hx => by
    have := ((G.fine (by omega)).names x hx).1
    rw [pathN]; split
    · decide
    · exact this
  have hR : ∀ p ∈ R, p.1 ∈ T.L := fun p hp => by rw [← hM]; exact List.mem_map.2 ⟨p, hp, rfl⟩
  have hK : namK (pathOf e.nm) R = namesT T.L e.nm := by
    rw [namesT_paths (G.names e he) (fun x hx => G.names x hx), ← hM, List.filterMap_map]; rfl
  rw [← hK]
  exact names18_any C w v R hO (by have := G.len; omega) e.nm (G.names e he) (fun p hp => hpn _ (hR p hp)) (hpn e he)
end Go.Proofs.YthcjjekkjbidlaaDoor.Sr
/-
  SourceHonest's walk: is the step a change?
-/
namespace Go.Proofs.YthcjjekkjbidlaaDoor.Sr
open Go.RowKit Go.Maps Go.WideMaps Go.Proofs.YthcjjekkjbidlaaDoor.Rf Go.Proofs.YthcjjekkjbidlaaDoor.Nm Go.Proofs.YthcjjekkjbidlaaDoor.St
set_option linter.unusedSimpArgs false in
set_option maxHeartbeats 40000000 in
set_option maxRecDepth 100000 in
theorem hn13 {Q : Exit → Act → World → Prop} (u1 u2 u3 u4 u5 u7 u8 u10 u11 u12 u13 u14 u15 u16 u17 u18 u19 u20 u21 u22 u23 u24 u25 u26 u27 u28 u29 u30 u31 u32 u33 u34 u35 u36 u37 u38 u39 u40 u41 u42 u43 u44 u45 u46 u47 u48 u49 u50 u51 u52 u53 u54 u55 u56 u57 u58 u59 u60 u61 u62 u63 u64 u65 u66 u67 u68 u69 u70 u71 u72 u73 u74 u75 u76 u77 u78 u79 u80 u81 u82 u83 u84 u85 u86 u87 u88 u89 u90 u91 u92 u93 u94 u95 u96 u97 u98 u99 u100 u101 u102 u103 u104 u105 u106 u107 u108 u109 u110 u111 u112 u113 u114 u115 u116 u117 u118 u119 u120 u121 u122 u123 u124 u125 u126 u127 u128 u129 u130 u131 u132 u133 u134 u135 u136 u137 u138 u139 u140 u141 u142 u143 u144 u145 u146 u147 u148 u149 u150 u151 u152 u153 u154 u155 u156 u157 u158 u159 u160 u161 u162 u163 u164 u165 u166 u167 u168 u169 u170 u171 u172 u173 u174 u175 u176 u177 u178 u179 u180 u181 u182 u183 u184 u185 u186 u187 u188 u189 u190 u191 u192 u193 u194 u195 u196 u197 u198 u199 u200 u201 u202 u203 u204 u205 u206 u207 u208 u209 u210 u211 u212 u213 u214 u215 u216 u217 u218 u219 u220 u221 u222 u223 u224 u225 u226 u227 u228 u229 u230 u231 u232 u233 u234 u235 u236 u237 u238 u239 u240 u241 u242 u243 u244 u245 u246 u247 u248 u249 u250 u251 u252 u253 : Value) {ba oa n cap i : Nat} {E kd : Int} {ch : Bool} {w5 : World}
    (hP : ∀ c (a a' : Act) w, a.defers = a'.defers → Q (.panic c) a w → Q (.panic c) a' w) (hin : i < n) (hlm : n ≤ 9223372036854775807) (hch : Hid (ch = (decide (E = 0) && (decide (0 ≤ kd) && decide (kd ≤ 8))))) (kx : w5.cell? ⟨ba, oa + i * 11, none⟩ = some (.int .i64 kd))
    (HK : ∀ (t43 t44 t45 t46 t47 t48 t49 t50 t51 t52 t53 t54 t55 t56 t57 t58 t59 t60 t61 t62 : Value) (w' : World), w5 = w' → Q .normal ⟨#[.slice (some ⟨ba, oa, none⟩) n cap, u1, u2, u3, u4, u5, .int .i64 (i : Int), u7, u8, .int .i64 E, u10, .bool ch, u12, u13, u14, u15, u16, u17, u18, u19, u20, u21, u22, u23, u24, u25, u26, u27, u28, u29, u30, u31, u32, u33, u34, u35, u36, u37, u38, u39, u40, u41, u42, t43, t44, t45, t46, t47, t48, t49, t50, t51, t52, t53, t54, t55, t56, t57, t58, t59, t60, t61, t62, u63, u64, u65, u66, u67, u68, u69, u70, u71, u72, u73, u74, u75, u76, u77, u78, u79, u80, u81, u82, u83, u84, u85, u86, u87, u88, u89, u90, u91, u92, u93, u94, u95, u96, u97, u98, u99, u100, u101, u102, u103, u104, u105, u106, u107, u108, u109, u110, u111, u112, u113, u114, u115, u116, u117, u118, u119, u120, u121, u122, u123, u124, u125, u126, u127, u128, u129, u130, u131, u132, u133, u134, u135, u136, u137, u138, u139, u140, u141, u142, u143, u144, u145, u146, u147, u148, u149, u150, u151, u152, u153, u154, u155, u156, u157, u158, u159, u160, u161, u162, u163, u164, u165, u166, u167, u168, u169, u170, u171, u172, u173, u174, u175, u176, u177, u178, u179, u180, u181, u182, u183, u184, u185, u186, u187, u188, u189, u190, u191, u192, u193, u194, u195, u196, u197, u198, u199, u200, u201, u202, u203, u204, u205, u206, u207, u208, u209, u210, u211, u212, u213, u214, u215, u216, u217, u218, u219, u220, u221, u222, u223, u224, u225, u226, u227, u228, u229, u230, u231, u232, u233, u234, u235, u236, u237, u238, u239, u240, u241, u242, u243, u244, u245, u246, u247, u248, u249, u250, u251, u252, u253], []⟩ w') :
    Code.wp Tryd.prog (hnR 13) Q ⟨#[.slice (some ⟨ba, oa, none⟩) n cap, u1, u2, u3, u4, u5, .int .i64 (i : Int), u7, u8, .int .i64 E, u10, u11, u12, u13, u14, u15, u16, u17, u18, u19, u20, u21, u22, u23, u24, u25, u26, u27, u28, u29, u30, u31, u32, u33, u34, u35, u36, u37, u38, u39, u40, u41, u42, u43, u44, u45, u46, u47, u48, u49, u50, u51, u52, u53, u54, u55, u56, u57, u58, u59, u60, u61, u62, u63, u64, u65, u66, u67, u68, u69, u70, u71, u72, u73, u74, u75, u76, u77, u78, u79, u80, u81, u82, u83, u84, u85, u86, u87, u88, u89, u90, u91, u92, u93, u94, u95, u96, u97, u98, u99, u100, u101, u102, u103, u104, u105, u106, u107, u108, u109, u110, u111, u112, u113, u114, u115, u116, u117, u118, u119, u120, u121, u122, u123, u124, u125, u126, u127, u128, u129, u130, u131, u132, u133, u134, u135, u136, u137, u138, u139, u140, u141, u142, u143, u144, u145, u146, u147, u148, u149, u150, u151, u152, u153, u154, u155, u156, u157, u158, u159, u160, u161, u162, u163, u164, u165, u166, u167, u168, u169, u170, u171, u172, u173, u174, u175, u176, u177, u178, u179, u180, u181, u182, u183, u184, u185, u186, u187, u188, u189, u190, u191, u192, u193, u194, u195, u196, u197, u198, u199, u200, u201, u202, u203, u204, u205, u206, u207, u208, u209, u210, u211, u212, u213, u214, u215, u216, u217, u218, u219, u220, u221, u222, u223, u224, u225, u226, u227, u228, u229, u230, u231, u232, u233, u234, u235, u236, u237, u238, u239, u240, u241, u242, u243, u244, u245, u246, u247, u248, u249, u250, u251, u252, u253], []⟩ w5 := by
  have HKH := Lib.hid HK
  clear HK
  conv => arg 2; whnf
  have hil : (i : Int) < (n : Int) := by omega
  by_cases e0 : E = 0
  · by_cases k0 : 0 ≤ kd
    · by_cases k8 : kd ≤ 8
      · have hc : ch = true := by rw [hch.out, decide_eq_true e0, decide_eq_true k0, decide_eq_true k8]; rfl
        subst hc e0
        go_wp2
        exact HKH.out _ _ _ _ _ _ _ _ _ _ _ _ _ _ _ _ _ _ _ _ _ rfl
      · have hc : ch = false := by rw [hch.out, decide_eq_false k8, Bool.and_false, Bool.and_false]
        subst hc e0
        go_wp2
        exact HKH.out _ _ _ _ _ _ _ _ _ _ _ _ _ _ _ _ _ _ _ _ _ rfl
    · have hc : ch = false := by rw [hch.out, decide_eq_false k0, Bool.false_and, Bool.and_false]
      subst hc e0
      go_wp2
      exact HKH.out _ _ _ _ _ _ _ _ _ _ _ _ _ _ _ _ _ _ _ _ _ rfl
  · have hc : ch = false := by rw [hch.out, decide_eq_false e0, Bool.false_and]
    have hb : (E == 0) = false := by rw [beq_eq_false_iff_ne]; exact e0
    subst hc
    go_wp2
    exact HKH.out _ _ _ _ _ _ _ _ _ _ _ _ _ _ _ _ _ _ _ _ _ rfl
end Go.Proofs.YthcjjekkjbidlaaDoor.Sr
