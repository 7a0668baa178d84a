import Derived.Test.YtpbhkaokgpacoaaGreatDoorZStRunsKit
import Derived.Deep.QuietTactic
import Derived.BigQuiet
set_option linter.unusedSimpArgs false
set_option linter.unusedVariables false
/-
  The law: the entries but those of some paths are dropped.
-/
namespace Go.Proofs.YtpbhkaokgpacoaaGreatDoor.St
open Go.RowKit Go.Maps Go.WideMaps Go.Proofs.YtpbhkaokgpacoaaGreatDoor.Rf Go.Proofs.YtpbhkaokgpacoaaGreatDoor.Rd

def markL : List UInt8 := [109, 97, 114, 107]
theorem infoStr : (Tryz.prog.info? 9).map (fun i => (i.zero, i.size, i.bytes)) = some (some (.string ByteArray.empty), 1, 16) := by kernel_rfl
/-- A row of texts of the law's own. -/
abbrev OwnT (w : World) (B : Nat) (v : Value) (ps : List (List UInt8)) : Prop := w.ownsRow B 9 1 v ps.length (ps.map fun p => Value.string ⟨p.toArray⟩)
theorem own_empty (w : World) : OwnT (w.alloc (.cells #[] 9)) w.heap.size (.slice (some ⟨w.heap.size, 0, none⟩) 0 0) [] :=
  ⟨by simp, .inr ⟨w.heap.size, 0, #[], rfl, Nat.le_refl _, (MapKept.heap_alloc w _).1, Nat.le_refl _, Nat.zero_le _, rfl, rfl⟩⟩
theorem str_one (ps : List (List UInt8)) : ∀ u ∈ ps.map (fun p => Value.string ⟨p.toArray⟩), u.oneCell' = true := by
  intro u hu; obtain ⟨p, _, rfl⟩ := List.mem_map.1 hu; rfl
theorem wpList_append_T {ops : Array Oper} {rest : List Oper} {o : Oper} {a : Act} {w : World} {Q : Exit → Act → World → Prop} {B : Nat} (hgd : o.guard = none) (s y : Operand) (ho : o.op = .call { callee := .builtin .append, args := #[s, y], argTypes := #[34, 34] })
    (v src : Value) (xs ps : List (List UInt8)) (hs : a.eval s = v) (hy : a.eval y = src) (hown : OwnT w B v xs) (hsrc : StrsAt w src ps) (hz : ∀ n cap, src = .slice none n cap → cap = 0) (hn : (xs.length + ps.length) * 16 ≤ 140737488355328) (hB : B ≤ w.heap.size)
    (h : ∀ v' w', OwnT w' B v' (xs ++ ps) → w.grownBy w' v.ownBlock → wpList Tryz.prog ops Q rest (a.put o.dst v') w') : wpList Tryz.prog ops Q (o :: rest) a w :=
  wpList_plain hgd fun _ hK => by
    obtain ⟨i0, hi0, hz0, hz1, hz2⟩ := info_parts infoStr
    have hz3 : (Value.string ByteArray.empty).cells.size = 1 := rfl
    obtain ⟨pa, pcap, rfl, p1, p2, p3⟩ := hsrc
    have hmap : (xs ++ ps).map (fun p => Value.string ⟨p.toArray⟩) = xs.map (fun p => Value.string ⟨p.toArray⟩) ++ ps.map (fun p => Value.string ⟨p.toArray⟩) := List.map_append
    have key : ∃ v' w', (Builtin.append_ #[34, 34] o.type #[v, .slice pa ps.length pcap]).run Tryz.prog w = .ok v' w' ∧ OwnT w' B v' (xs ++ ps) ∧ w.grownBy w' v.ownBlock := by
      cases pa with
      | none =>
        have hp : ps = [] := by
          cases ps with
          | nil => rfl
          | cons p r => obtain ⟨b, o, e, _⟩ := p3 (by simp); cases e
        subst hp
        have hc := hz _ _ rfl
        subst hc
        refine ⟨v, w, run_append_owned_none (P := Tryz.prog) (w := w) B 34 o.type 9 i0 1 Tryz.underlying34 hi0 v _ _ hown, by simpa using hown, ⟨rfl, rfl, rfl, Nat.le_refl _, fun _ _ _ => rfl⟩⟩
      | some ad =>
        obtain ⟨v', w', h1, h2, h3, _, _⟩ := run_append_own_at (P := Tryz.prog) w B 34 o.type 9 i0 _ 1 16 Tryz.underlying34 hi0 hz0 hz1 hz2 hz3 (by decide) v xs.length _ hown ad ps.length pcap (ps.map fun p => Value.string ⟨p.toArray⟩) (by simp) (fun j u hu => by
          rw [List.getElem?_map] at hu
          obtain ⟨p, hp, rfl⟩ := Option.map_eq_some_iff.1 hu
          obtain ⟨b, o, e, _, hc⟩ := p3 (fun e => by rw [e] at hp; simp at hp)
          have e2 := Option.some.inj e
          subst e2
          rw [Addr.add_lit]
          exact hc j p hp) (str_one ps) (by unfold maxLen; omega) (by omega) hB
        exact ⟨v', w', h1, by rw [OwnT, List.length_append, hmap]; exact h2, h3⟩
    obtain ⟨v', w', hr, h2, h3⟩ := key
    unfold Oper.wp execOp
    simp only [ho, resolve, invoke, builtin, Sem.run_bind, Sem.run_pure, Result.andThen_ok, List.map_toArray, List.map_cons, List.map_nil, hs, hy, hr]
    exact hK _ _ (h v' w' h2 h3)
/-- The law's own row of paths, the mark behind it. -/
def GpAt (gp : Nat) (ps : List (List UInt8)) (W : World) : Prop := gp < W.heap.size ∧ ∀ (j : Nat) p, (ps ++ [markL])[j]? = some p → W.cell? ⟨gp, j, none⟩ = some (.string ⟨p.toArray⟩)
theorem GpAt.turn {gp : Nat} {ps : List (List UInt8)} {W W' : World} {X : List Nat} (h : GpAt gp ps W) (hT : Turn X W W') (hX : gp ∉ X) : GpAt gp ps W' :=
  ⟨Nat.lt_of_lt_of_le h.1 hT.size, fun j p hp => (World.cell?_of_block (a := ⟨gp, j, none⟩) (hT.block gp h.1 hX)).trans (h.2 j p hp)⟩
theorem rxTurn {B : Nat} {w w' : World} {r : Nat} {v : Value} {n : Int} {L : List SE} {e : Ending} (h : RxPost B w r v n L e w') : Turn (r :: ob v) w w' := by obtain ⟨_, _, _, h, _⟩ := h; exact h

set_option linter.unusedSimpArgs false in
set_option maxHeartbeats 40000000 in
set_option maxRecDepth 100000 in
theorem t104 {Q : Exit → Act → World → Prop} (u1 u2 u8 u9 u10 u11 u12 u13 u14 u15 u16 u17 u18 u19 u20 u21 u22 u23 u24 u25 u26 u27 u28 u29 u30 u31 u32 u33 u34 u35 u36 u37 u38 u39 u40 u41 u42 u43 u44 u45 u46 u47 u48 u49 u50 u51 u52 u53 u54 u55 u56 u57 u58 u59 u60 u61 u62 u63 u64 u65 u66 u67 u68 u69 u70 u71 u72 u73 u74 u75 u76 u77 u78 u79 u80 u81 u82 u83 u84 u85 u86 u87 u88 u89 u90 u91 u92 u93 u94 u95 u96 u97 u98 u99 u100 u101 u102 u103 u104 u105 u106 u107 u108 u109 u110 u111 u112 u113 u114 u115 u116 u117 u118 u119 u120 u121 u122 u123 u124 u125 u126 u127 u128 u129 u130 u131 u132 u133 u134 u135 u136 u137 u138 u139 u140 u141 u142 u143 u144 u145 u146 u147 u148 u149 u150 u151 u152 u153 u154 u155 u156 u157 u158 u159 u160 u161 u162 u163 u164 u165 u166 u167 u168 u169 u170 u171 u172 u173 u174 u175 u176 u177 u178 u179 u180 u181 u182 u183 u184 u185 u186 u187 u188 u189 u190 u191 u192 u193 u194 u195 u196 u197 u198 u199 u200 u201 u202 u203 u204 u205 u206 u207 u208 u209 u210 u211 u212 u213 u214 u215 u216 u217 u218 u219 u220 u221 u222 u223 u224 u225 u226 u227 u228 u229 u230 u231 u232 u233 u234 u235 u236 u237 u238 u239 u240 u241 u242 u243 u244 u245 u246 u247 u248 u249 u250 u251 u252 u253 u254 u255 u256 u257 u258 u259 u260 u261 u262 u263 u264 u265 u266 u267 u268 u269 u270 u271 u272 u273 u274 u275 u276 u277 u278 u279 u280 u281 u282 u283 u284 u285 u286 u287 u288 u289 u290 : Value) (w : World) (c xa ma q : Nat) (it : It) (g b r : Nat) (v : Value) (L : List SE) (g' b' r' : Nat) (v' : Value) (L' : List SE) (W : World) (l : List StpX) (lc i ab ao : Nat) (x : StpX)
    (hP : ∀ c (a a' : Act) w, a.defers = a'.defers → Q (.panic c) a w → Q (.panic c) a' w) (hS : StpSt w c xa ma q it g b r v L L g' b' r' v' L' W) (hi : i < l.length) (hll : l.length ≤ 2 ^ 63 - 1) (hat : ∀ W' : World, Below w.heap.size w W' → x.At W' ab (ao + i * 10)) (hab : ab < w.heap.size) (hxf : x.Fits w)
    (HK : ∀ (t2 t8 t9 t10 t11 t12 t106 t107 t108 t109 t110 t111 t112 t113 t114 t115 t116 t117 t118 t119 t120 t121 t122 t123 t124 t125 t126 t127 t128 t129 t130 t131 t132 t133 t134 t135 t136 t137 t138 t139 t140 t141 t142 t143 t144 t145 t146 t147 t148 t149 t150 t151 t152 t153 t154 t155 t156 t157 t158 t159 t160 t161 t162 t163 t164 t165 t166 t167 t168 t169 t170 t171 t172 t173 : Value) (b2 : Nat) (v2 : Value) (w' : World), StpSt w c xa ma q it g b2 r v2 (keepL x.ps L) (keepL x.ps L) g' b' r' v' L' w' → Q .normal ⟨#[.slice (some ⟨ab, ao, none⟩) l.length lc, u1, t2, .pointer (some ⟨xa, 0, none⟩), .pointer (some ⟨ma, 0, none⟩), .int .i64 (i : Int), .int .i64 (c : Int), .pointer (some ⟨q, 0, none⟩), t8, t9, t10, t11, t12, u13, u14, u15, u16, u17, u18, u19, u20, u21, u22, u23, u24, u25, u26, u27, u28, u29, u30, u31, u32, u33, u34, u35, u36, u37, u38, u39, u40, u41, u42, u43, u44, u45, u46, u47, u48, u49, u50, u51, u52, u53, u54, u55, u56, u57, u58, u59, u60, u61, u62, u63, u64, u65, u66, u67, u68, u69, u70, u71, u72, u73, u74, u75, u76, u77, u78, u79, u80, u81, u82, u83, u84, u85, u86, u87, u88, u89, u90, u91, u92, u93, u94, u95, u96, u97, u98, u99, u100, u101, u102, u103, u104, u105, t106, t107, t108, t109, t110, t111, t112, t113, t114, t115, t116, t117, t118, t119, t120, t121, t122, t123, t124, t125, t126, t127, t128, t129, t130, t131, t132, t133, t134, t135, t136, t137, t138, t139, t140, t141, t142, t143, t144, t145, t146, t147, t148, t149, t150, t151, t152, t153, t154, t155, t156, t157, t158, t159, t160, t161, t162, t163, t164, t165, t166, t167, t168, t169, t170, t171, t172, t173, u174, u175, u176, u177, u178, u179, u180, u181, u182, u183, u184, u185, u186, u187, u188, u189, u190, u191, u192, u193, u194, u195, u196, u197, u198, u199, u200, u201, u202, u203, u204, u205, u206, u207, u208, u209, u210, u211, u212, u213, u214, u215, u216, u217, u218, u219, u220, u221, u222, u223, u224, u225, u226, u227, u228, u229, u230, u231, u232, u233, u234, u235, u236, u237, u238, u239, u240, u241, u242, u243, u244, u245, u246, u247, u248, u249, u250, u251, u252, u253, u254, u255, u256, u257, u258, u259, u260, u261, u262, u263, u264, u265, u266, u267, u268, u269, u270, u271, u272, u273, u274, u275, u276, u277, u278, u279, u280, u281, u282, u283, u284, u285, u286, u287, u288, u289, u290], []⟩ w') :
    Code.wp Tryz.prog (thenF 104) Q ⟨#[.slice (some ⟨ab, ao, none⟩) l.length lc, u1, u2, .pointer (some ⟨xa, 0, none⟩), .pointer (some ⟨ma, 0, none⟩), .int .i64 (i : Int), .int .i64 (c : Int), .pointer (some ⟨q, 0, none⟩), u8, u9, u10, u11, u12, u13, u14, u15, u16, u17, u18, u19, u20, u21, u22, u23, u24, u25, u26, u27, u28, u29, u30, u31, u32, u33, u34, u35, u36, u37, u38, u39, u40, u41, u42, u43, u44, u45, u46, u47, u48, u49, u50, u51, u52, u53, u54, u55, u56, u57, u58, u59, u60, u61, u62, u63, u64, u65, u66, u67, u68, u69, u70, u71, u72, u73, u74, u75, u76, u77, u78, u79, u80, u81, u82, u83, u84, u85, u86, u87, u88, u89, u90, u91, u92, u93, u94, u95, u96, u97, u98, u99, u100, u101, u102, u103, u104, u105, u106, u107, u108, u109, u110, u111, u112, u113, u114, u115, u116, u117, u118, u119, u120, u121, u122, u123, u124, u125, u126, u127, u128, u129, u130, u131, u132, u133, u134, u135, u136, u137, u138, u139, u140, u141, u142, u143, u144, u145, u146, u147, u148, u149, u150, u151, u152, u153, u154, u155, u156, u157, u158, u159, u160, u161, u162, u163, u164, u165, u166, u167, u168, u169, u170, u171, u172, u173, u174, u175, u176, u177, u178, u179, u180, u181, u182, u183, u184, u185, u186, u187, u188, u189, u190, u191, u192, u193, u194, u195, u196, u197, u198, u199, u200, u201, u202, u203, u204, u205, u206, u207, u208, u209, u210, u211, u212, u213, u214, u215, u216, u217, u218, u219, u220, u221, u222, u223, u224, u225, u226, u227, u228, u229, u230, u231, u232, u233, u234, u235, u236, u237, u238, u239, u240, u241, u242, u243, u244, u245, u246, u247, u248, u249, u250, u251, u252, u253, u254, u255, u256, u257, u258, u259, u260, u261, u262, u263, u264, u265, u266, u267, u268, u269, u270, u271, u272, u273, u274, u275, u276, u277, u278, u279, u280, u281, u282, u283, u284, u285, u286, u287, u288, u289, u290], []⟩ W := by
  have hST := Lib.hid hS
  have hc2 : (c : Int) < 2 := by have := hS.run.hc; omega
  have hi2 : (i : Int) < (l.length : Int) := by omega
  obtain ⟨pa, pc, hpv, hpl, hpm, hpc⟩ := hxf.pv
  have HPS := Lib.hid hxf.ps
  have hps := hxf.ps
  have HAT := Lib.hid hat
  have HPV := Lib.hid (hxf.pv.below (hS.run.be))
  have HPZ := Lib.hid hxf.pz
  have hpcell : ∀ W' : World, Below w.heap.size w W' → W'.cell? ⟨ab, ao + i * 10 + 9, none⟩ = some (.slice pa x.ps.length pc) := fun W' hb => by
    have := hat W' hb 9 x.pv rfl
    rw [this, hpv]
  have HPC := Lib.hid hpcell
  have k0 := hpcell W hS.run.be
  have habW : ab < W.heap.size := Nat.lt_of_lt_of_le hab hS.run.be.size
  have HPV0 := Lib.hid hxf.pv
  rw [hpv] at HPV HPV0 HPZ
  have HPW := Lib.hid hpc
  unfold maxLen at hpl
  clear hS hat hxf hpcell hpm hpc hpv
  conv => arg 2; whnf
  go_wp2_with (first
    | (refine wpList_append_T rfl (.tmp 112) (.tmp 117) rfl (.slice (some ⟨W.heap.size, 0, none⟩) 0 0) (.slice pa x.ps.length pc) [] x.ps rfl rfl (own_empty W) (HPV.out.below ((Below.refl _ _).alloc (Nat.le_refl _) _)) HPZ.out (by simp; omega) (by rw [one_size]; omega) ?_
       intro vq w3 ho3 hg3
       have HO3 := Lib.hid ho3
       have HB3 : Hid (Below W.heap.size W w3) := Lib.hid (((Below.refl W.heap.size W).alloc (Nat.le_refl _) (.cells #[] 9)).grown hg3 (by rw [one_size]; omega) (fun k hk => by
         have : k = W.heap.size := by simpa [Value.ownBlock, eq_comm] using hk
         omega))
       clear ho3 hg3)
    | (refine wpList_append_T rfl (.tmp 118) (.tmp 119) rfl vq (.slice (some ⟨w3.heap.size, 0, none⟩) 1 1) ([] ++ x.ps) [markL] rfl rfl (row_kept HO3.out (fun y _ hl => Below.heap_alloc _ _ _ hl)) ⟨_, _, rfl, by decide, by simp [markL, maxLen], fun _ => ⟨w3.heap.size, 0, rfl, by rw [one_size]; omega, fun j p hp => by
         match j, hp with
         | 0, hp => simp at hp; subst hp; rw [Nat.zero_add, cell_of_heap (MapKept.heap_alloc w3 _).1]; rfl⟩⟩ (fun n cap e => by cases e) (by simp; omega) (by rw [one_size]; have := HB3.out.size; omega) ?_
       intro vr w5 ho5 hg5
       have HB5 : Hid (Below W.heap.size W w5) := Lib.hid ((HB3.out.alloc HB3.out.size (.cells #[.string ⟨markL.toArray⟩] 9)).grown hg5 (by rw [one_size]; have := HB3.out.size; omega) (fun k hk => row_ge HO3.out k (by simp [ob, hk])))
       obtain ⟨gp, cap, rfl, hgl, hgB, hcap, hcell⟩ := rowS_form ho5 (by simp)
       have hln : ([] ++ x.ps ++ [markL] : List (List UInt8)).length = x.ps.length + 1 := by simp
       rw [hln] at hcap
       have HGL := Lib.hid hgl; have HGB := Lib.hid hgB; have HCAP := Lib.hid hcap
       have HCE : Hid (∀ (j : Nat) p, (x.ps ++ [markL])[j]? = some p → w5.cell? ⟨gp, j, none⟩ = some (.string ⟨p.toArray⟩)) := Lib.hid (fun j p hp => hcell j _ (by rw [List.getElem?_map, List.nil_append, hp]; rfl))
       have hc5 : x.ps.length ≤ cap := by omega
       simp only [hln]
       have ST5 := Lib.hid (hST.out.below HB5.out)
       have kx := ST5.out.bs.cx
       clear ho5 hg5 hcell hln hgl hgB hcap))
  have HV5 : StrsAt w5 (.slice (some ⟨gp, 0, none⟩) x.ps.length cap) x.ps := by
    obtain ⟨_, _, _, s1, s2, _⟩ := HPV.out
    exact ⟨_, _, rfl, s1, s2, fun _ => ⟨gp, 0, rfl, HGL.out, fun j p hp => by rw [Nat.zero_add]; exact HCE.out j p (by rw [List.getElem?_append_left (List.getElem?_eq_some_iff.1 hp).1]; exact hp)⟩⟩
  have KP := Lib.hid (keep_any w.heap.size w5 g b L _ x.ps HV5 ST5.out.run.cur.ix)
  have GPD : Hid (∀ W1 W2 : World, Turn (r :: ob v) W1 W2 → GpAt gp x.ps W1 → GpAt gp x.ps W2) := Lib.hid (fun W1 W2 ht hg => hg.turn ht (fun hy => by
    have := (hST.out.run.cur.lt gp (by simp only [own, List.mem_append]; exact .inr hy)).2
    have := HGB.out
    have := HB3.out.size
    omega))
  have GPK := GPD
  have GP5 : Hid (GpAt gp x.ps w5) := Lib.hid ⟨HGL.out, HCE.out⟩
  have HGN : Hid (gp ≠ g) := Lib.hid (fun e => by have := (hST.out.run.cur.lt g (by simp [own])).2; have := HGB.out; have := HB3.out.size; omega)
  unfold ptr at KP
  clear HV5 kx k0
  refine KP.out.mono ?_
  rintro ex w6 ⟨b6, rfl, hi6, ht6, hb6⟩
  have ST6 := Lib.hid (ST5.out.idx ht6 (by simp) hi6 (.inr hb6) (keepL_may ST5.out.run.cur.mL))
  have GP6 : Hid (GpAt gp x.ps w6) := Lib.hid (GP5.out.turn ht6 (by simpa using HGN.out))
  have CR : Hid (∀ W' : World, StpSt w c xa ma q it g b6 r v (keepL x.ps L) L g' b' r' v' L' W' → Calls Tryz.prog 17 #[.pointer (some ⟨r, 0, none⟩), .slice pa x.ps.length pc] W' (RxPost w.heap.size W' r v ((L.length : Int) - ((keepL x.ps L).length : Int)) (keepL x.ps L))) := Lib.hid (fun W' h => ref_keep w.heap.size W' r v L (.slice pa x.ps.length pc) x.ps (HPV0.out.below h.run.be) h.run.cur.rf)
  have F25 : Hid (∀ (W' : World) (v2 : Value) (M2 : List SE), StpSt w c xa ma q it g b6 r v2 (keepL x.ps L) M2 g' b' r' v' L' W' → GpAt gp x.ps W' → W'.cell? ⟨ma, c, none⟩ = some (.pointer (some ⟨r, 0, none⟩)) ∧ W'.cell? ⟨ab, ao + i * 10 + 9, none⟩ = some (.slice pa x.ps.length pc) ∧ W'.cell? ⟨gp, x.ps.length, none⟩ = some (.string ⟨markL.toArray⟩)) := Lib.hid (fun W' v2 M2 h hg => ⟨h.bs.cm, HPC.out W' h.run.be, hg.2 _ _ (by simp)⟩)
  obtain ⟨kl, hkl⟩ : ∃ kl, kl = keepL x.ps L := ⟨_, rfl⟩
  rw [← hkl] at HK ST6
  simp only [← hkl] at CR F25
  have HKL2 := Lib.hid hkl
  clear hi6 ht6 hb6 KP hkl
  have hk1 : (x.ps.length : Int) + 1 ≤ (cap : Int) := by have := HCAP.out; omega
  rw [show ((keepL x.ps L).length : Int) = (kl.length : Int) by rw [HKL2.out]]
  go_wp2
  have m1 : IntKind.i64.wrap ((x.ps.length : Int) + 1) = (x.ps.length : Int) + 1 := by rw [IntKind.wrap_i64]; omega
  have m4 : (x.ps.length : Int) < (x.ps.length : Int) + 1 := by omega
  have m2 : (0 : Int) ≤ (x.ps.length : Int) + 1 := by omega
  have m3 : ((x.ps.length : Int) + 1).toNat = x.ps.length + 1 := by omega
  refine wp_region_held_drew (S := (fun w' : World => w'.cell? ⟨ma, c, none⟩ = some (.pointer (some ⟨r, 0, none⟩)) ∧ w'.cell? ⟨ab, ao + i * 10 + 9, none⟩ = some (.slice pa x.ps.length pc) ∧ w'.cell? ⟨gp, x.ps.length, none⟩ = some (.string ⟨markL.toArray⟩))) (by kernel_rfl) (F25.out _ _ _ ST6.out.drew GP6.out) (fun hHeld => ?_)
  refine wpAnyH_take (i := 0) (v := ?_) rfl (by kernel_rfl) (by kernel_rfl) (by kernel_rfl) (fun _ _ _ h => hP _ _ _ _ (by rfl) h) (Or.inl ⟨by rfl, ?rk0⟩) hHeld ?_
  case rk0 =>
    intro wS hSw
    obtain ⟨k0, k1, k2⟩ := hSw
    go_simp
    try with_reducible rfl
  try simp only [Act.put, List.getElem_toArray, List.getElem_cons_zero, List.getElem_cons_succ, List.setIfInBounds_toArray, List.set_cons_zero, List.set_cons_succ]
  refine wpAnyH_take (i := 1) (v := ?_) rfl (by kernel_rfl) (by kernel_rfl) (by kernel_rfl) (fun _ _ _ h => hP _ _ _ _ (by rfl) h) (Or.inl ⟨by rfl, ?rk1⟩) hHeld ?_
  case rk1 =>
    intro wS hSw
    obtain ⟨k0, k1, k2⟩ := hSw
    go_simp
    try with_reducible rfl
  try simp only [Act.put, List.getElem_toArray, List.getElem_cons_zero, List.getElem_cons_succ, List.setIfInBounds_toArray, List.set_cons_zero, List.set_cons_succ]
  refine wpAnyH_take (i := 2) (v := ?_) rfl (by kernel_rfl) (by kernel_rfl) (by kernel_rfl) (fun _ _ _ h => hP _ _ _ _ (by rfl) h) (Or.inl ⟨by rfl, ?rk2⟩) hHeld ?_
  case rk2 =>
    intro wS hSw
    obtain ⟨k0, k1, k2⟩ := hSw
    go_simp
    try with_reducible rfl
  try simp only [Act.put, List.getElem_toArray, List.getElem_cons_zero, List.getElem_cons_succ, List.setIfInBounds_toArray, List.set_cons_zero, List.set_cons_succ]
  refine wpAnyH_take (i := 3) (v := ?_) rfl (by kernel_rfl) (by kernel_rfl) (by kernel_rfl) (fun _ _ _ h => hP _ _ _ _ (by rfl) h) (Or.inl ⟨by rfl, ?rk3⟩) hHeld ?_
  case rk3 =>
    intro wS hSw
    obtain ⟨k0, k1, k2⟩ := hSw
    go_simp
    try with_reducible rfl
  try simp only [Act.put, List.getElem_toArray, List.getElem_cons_zero, List.getElem_cons_succ, List.setIfInBounds_toArray, List.set_cons_zero, List.set_cons_succ]
  refine wpAnyH_take (i := 4) (v := ?_) rfl (by kernel_rfl) (by kernel_rfl) (by kernel_rfl) (fun _ _ _ h => hP _ _ _ _ (by rfl) h) (Or.inl ⟨by rfl, ?rk4⟩) hHeld ?_
  case rk4 =>
    intro wS hSw
    obtain ⟨k0, k1, k2⟩ := hSw
    go_simp
    try with_reducible rfl
  try simp only [Act.put, List.getElem_toArray, List.getElem_cons_zero, List.getElem_cons_succ, List.setIfInBounds_toArray, List.set_cons_zero, List.set_cons_succ]
  refine wpAnyH_take (i := 5) (v := ?_) rfl (by kernel_rfl) (by kernel_rfl) (by kernel_rfl) (fun _ _ _ h => hP _ _ _ _ (by rfl) h) (Or.inl ⟨by rfl, ?rk5⟩) hHeld ?_
  case rk5 =>
    intro wS hSw
    obtain ⟨k0, k1, k2⟩ := hSw
    go_simp
    try with_reducible rfl
  try simp only [Act.put, List.getElem_toArray, List.getElem_cons_zero, List.getElem_cons_succ, List.setIfInBounds_toArray, List.set_cons_zero, List.set_cons_succ]
  refine wpAnyH_take (i := 6) (v := ?_) rfl (by kernel_rfl) (by kernel_rfl) (by kernel_rfl) (fun _ _ _ h => hP _ _ _ _ (by rfl) h) (Or.inl ⟨by rfl, ?rk6⟩) hHeld ?_
  case rk6 =>
    intro wS hSw
    obtain ⟨k0, k1, k2⟩ := hSw
    go_simp
    try with_reducible rfl
  try simp only [Act.put, List.getElem_toArray, List.getElem_cons_zero, List.getElem_cons_succ, List.setIfInBounds_toArray, List.set_cons_zero, List.set_cons_succ]
  refine wpAnyH_take (i := 7) (v := ?_) rfl (by kernel_rfl) (by kernel_rfl) (by kernel_rfl) (fun _ _ _ h => hP _ _ _ _ (by rfl) h) (Or.inl ⟨by rfl, ?rk7⟩) hHeld ?_
  case rk7 =>
    intro wS hSw
    obtain ⟨k0, k1, k2⟩ := hSw
    go_simp
    try with_reducible rfl
  try simp only [Act.put, List.getElem_toArray, List.getElem_cons_zero, List.getElem_cons_succ, List.setIfInBounds_toArray, List.set_cons_zero, List.set_cons_succ]
  refine wpAnyH_take (i := 8) (v := ?_) rfl (by kernel_rfl) (by kernel_rfl) (by kernel_rfl) (fun _ _ _ h => hP _ _ _ _ (by rfl) h) (Or.inl ⟨by rfl, ?rk8⟩) hHeld ?_
  case rk8 =>
    intro wS hSw
    obtain ⟨k0, k1, k2⟩ := hSw
    go_simp
    try with_reducible rfl
  try simp only [Act.put, List.getElem_toArray, List.getElem_cons_zero, List.getElem_cons_succ, List.setIfInBounds_toArray, List.set_cons_zero, List.set_cons_succ]
  refine wpAnyH_ready (rs := [9]) (by kernel_rfl) (by simp) ?_
  refine AllReadyH.cons rfl (fun K hK => ?_) AllReadyH.nil
  go_simp
  refine (CR.out _ ST6.out.drew).mono ?_
  rintro ex w7 hp7
  obtain ⟨v7, rfl, st7⟩ := ST6.out.drew.ref hp7
  have ST7 := Lib.hid st7
  have HG7 := Lib.hid (GPK.out _ _ (rxTurn hp7) GP6.out)
  have hS7 := F25.out w7 _ _ ST7.out HG7.out
  clear st7 hp7
  go_wp2_with fail
  refine hK.out _ _ hS7 (fun hHeld2 => ?_)
  clear hK K hHeld
  have hHeld := hHeld2
  clear hHeld2
  try simp only [Act.put, List.getElem_toArray, List.getElem_cons_zero, List.getElem_cons_succ, List.setIfInBounds_toArray, List.set_cons_zero, List.set_cons_succ]
  refine wpAnyH_take (i := 10) (v := ?_) rfl (by kernel_rfl) (by kernel_rfl) (by kernel_rfl) (fun _ _ _ h => hP _ _ _ _ (by rfl) h) (Or.inl ⟨by rfl, ?rk10⟩) hHeld ?_
  case rk10 =>
    intro wS hSw
    obtain ⟨k0, k1, k2⟩ := hSw
    go_simp
    try with_reducible rfl
  try simp only [Act.put, List.getElem_toArray, List.getElem_cons_zero, List.getElem_cons_succ, List.setIfInBounds_toArray, List.set_cons_zero, List.set_cons_succ]
  refine wpAnyH_take (i := 11) (v := ?_) rfl (by kernel_rfl) (by kernel_rfl) (by kernel_rfl) (fun _ _ _ h => hP _ _ _ _ (by rfl) h) (Or.inl ⟨by rfl, ?rk11⟩) hHeld ?_
  case rk11 =>
    intro wS hSw
    obtain ⟨k0, k1, k2⟩ := hSw
    go_simp
    try with_reducible rfl
  try simp only [Act.put, List.getElem_toArray, List.getElem_cons_zero, List.getElem_cons_succ, List.setIfInBounds_toArray, List.set_cons_zero, List.set_cons_succ]
  refine wpAnyH_take (i := 12) (v := ?_) rfl (by kernel_rfl) (by kernel_rfl) (by kernel_rfl) (fun _ _ _ h => hP _ _ _ _ (by rfl) h) (Or.inl ⟨by rfl, ?rk12⟩) hHeld ?_
  case rk12 =>
    intro wS hSw
    obtain ⟨k0, k1, k2⟩ := hSw
    go_simp
    try with_reducible rfl
  try simp only [Act.put, List.getElem_toArray, List.getElem_cons_zero, List.getElem_cons_succ, List.setIfInBounds_toArray, List.set_cons_zero, List.set_cons_succ]
  refine wpAnyH_take (i := 13) (v := ?_) rfl (by kernel_rfl) (by kernel_rfl) (by kernel_rfl) (fun _ _ _ h => hP _ _ _ _ (by rfl) h) (Or.inl ⟨by rfl, ?rk13⟩) hHeld ?_
  case rk13 =>
    intro wS hSw
    obtain ⟨k0, k1, k2⟩ := hSw
    go_simp
    try with_reducible rfl
  try simp only [Act.put, List.getElem_toArray, List.getElem_cons_zero, List.getElem_cons_succ, List.setIfInBounds_toArray, List.set_cons_zero, List.set_cons_succ]
  refine wpAnyH_take (i := 14) (v := ?_) rfl (by kernel_rfl) (by kernel_rfl) (by kernel_rfl) (fun _ _ _ h => hP _ _ _ _ (by rfl) h) (Or.inl ⟨by rfl, ?rk14⟩) hHeld ?_
  case rk14 =>
    intro wS hSw
    obtain ⟨k0, k1, k2⟩ := hSw
    go_simp
    try with_reducible rfl
  try simp only [Act.put, List.getElem_toArray, List.getElem_cons_zero, List.getElem_cons_succ, List.setIfInBounds_toArray, List.set_cons_zero, List.set_cons_succ]
  refine wpAnyH_take (i := 15) (v := ?_) rfl (by kernel_rfl) (by kernel_rfl) (by kernel_rfl) (fun _ _ _ h => hP _ _ _ _ (by rfl) h) (Or.inl ⟨by rfl, ?rk15⟩) hHeld ?_
  case rk15 =>
    intro wS hSw
    obtain ⟨k0, k1, k2⟩ := hSw
    go_simp
    try with_reducible rfl
  try simp only [Act.put, List.getElem_toArray, List.getElem_cons_zero, List.getElem_cons_succ, List.setIfInBounds_toArray, List.set_cons_zero, List.set_cons_succ]
  refine wpAnyH_take (i := 16) (v := ?_) rfl (by kernel_rfl) (by kernel_rfl) (by kernel_rfl) (fun _ _ _ h => hP _ _ _ _ (by rfl) h) (Or.inl ⟨by rfl, ?rk16⟩) hHeld ?_
  case rk16 =>
    intro wS hSw
    obtain ⟨k0, k1, k2⟩ := hSw
    go_simp
    try with_reducible rfl
  try simp only [Act.put, List.getElem_toArray, List.getElem_cons_zero, List.getElem_cons_succ, List.setIfInBounds_toArray, List.set_cons_zero, List.set_cons_succ]
  refine wpAnyH_take (i := 17) (v := ?_) rfl (by kernel_rfl) (by kernel_rfl) (by kernel_rfl) (fun _ _ _ h => hP _ _ _ _ (by rfl) h) (Or.inl ⟨by rfl, ?rk17⟩) hHeld ?_
  case rk17 =>
    intro wS hSw
    obtain ⟨k0, k1, k2⟩ := hSw
    go_simp
    try with_reducible rfl
  try simp only [Act.put, List.getElem_toArray, List.getElem_cons_zero, List.getElem_cons_succ, List.setIfInBounds_toArray, List.set_cons_zero, List.set_cons_succ]
  refine wpAnyH_take (i := 18) (v := ?_) rfl (by kernel_rfl) (by kernel_rfl) (by kernel_rfl) (fun _ _ _ h => hP _ _ _ _ (by rfl) h) (Or.inl ⟨by rfl, ?rk18⟩) hHeld ?_
  case rk18 =>
    intro wS hSw
    obtain ⟨k0, k1, k2⟩ := hSw
    go_simp
    try with_reducible rfl
  try simp only [Act.put, List.getElem_toArray, List.getElem_cons_zero, List.getElem_cons_succ, List.setIfInBounds_toArray, List.set_cons_zero, List.set_cons_succ]
  refine wpAnyH_take (i := 19) (v := ?_) rfl (by kernel_rfl) (by kernel_rfl) (by kernel_rfl) (fun _ _ _ h => hP _ _ _ _ (by rfl) h) (Or.inl ⟨by rfl, ?rk19⟩) hHeld ?_
  case rk19 =>
    intro wS hSw
    obtain ⟨k0, k1, k2⟩ := hSw
    go_simp
    try with_reducible rfl
  try simp only [Act.put, List.getElem_toArray, List.getElem_cons_zero, List.getElem_cons_succ, List.setIfInBounds_toArray, List.set_cons_zero, List.set_cons_succ]
  refine wpAnyH_take (i := 20) (v := ?_) rfl (by kernel_rfl) (by kernel_rfl) (by kernel_rfl) (fun _ _ _ h => hP _ _ _ _ (by rfl) h) (Or.inl ⟨by rfl, ?rk20⟩) hHeld ?_
  case rk20 =>
    intro wS hSw
    obtain ⟨k0, k1, k2⟩ := hSw
    go_simp
    try with_reducible rfl
  try simp only [Act.put, List.getElem_toArray, List.getElem_cons_zero, List.getElem_cons_succ, List.setIfInBounds_toArray, List.set_cons_zero, List.set_cons_succ]
  refine wpAnyH_take (i := 21) (v := ?_) rfl (by kernel_rfl) (by kernel_rfl) (by kernel_rfl) (fun _ _ _ h => hP _ _ _ _ (by rfl) h) (Or.inl ⟨by rfl, ?rk21⟩) hHeld ?_
  case rk21 =>
    intro wS hSw
    obtain ⟨k0, k1, k2⟩ := hSw
    go_simp
    try with_reducible rfl
  try simp only [Act.put, List.getElem_toArray, List.getElem_cons_zero, List.getElem_cons_succ, List.setIfInBounds_toArray, List.set_cons_zero, List.set_cons_succ]
  refine wpAnyH_take (i := 22) (v := ?_) rfl (by kernel_rfl) (by kernel_rfl) (by kernel_rfl) (fun _ _ _ h => hP _ _ _ _ (by rfl) h) (Or.inl ⟨by rfl, ?rk22⟩) hHeld ?_
  case rk22 =>
    intro wS hSw
    obtain ⟨k0, k1, k2⟩ := hSw
    go_simp
    try with_reducible rfl
  try simp only [Act.put, List.getElem_toArray, List.getElem_cons_zero, List.getElem_cons_succ, List.setIfInBounds_toArray, List.set_cons_zero, List.set_cons_succ]
  refine wpAnyH_take (i := 23) (v := .bool false) rfl (by kernel_rfl) (by kernel_rfl) (by kernel_rfl) (fun _ _ _ h => hP _ _ _ _ (by rfl) h) (Or.inl ⟨by rfl, ?rk23⟩) hHeld ?_
  case rk23 =>
    intro wS hSw
    clear hSw hHeld
    go_simp
    try rfl
  try simp only [Act.put, List.getElem_toArray, List.getElem_cons_zero, List.getElem_cons_succ, List.setIfInBounds_toArray, List.set_cons_zero, List.set_cons_succ]
  refine wpAnyH_take (i := 24) (v := ?_) rfl (by kernel_rfl) (by kernel_rfl) (by kernel_rfl) (fun _ _ _ h => hP _ _ _ _ (by rfl) h) (Or.inl ⟨by rfl, ?rk24⟩) hHeld ?_
  case rk24 =>
    intro wS hSw
    obtain ⟨k0, k1, k2⟩ := hSw
    go_simp
    try with_reducible rfl
  try simp only [Act.put, List.getElem_toArray, List.getElem_cons_zero, List.getElem_cons_succ, List.setIfInBounds_toArray, List.set_cons_zero, List.set_cons_succ]
  refine wpAnyH_done (by kernel_rfl) ?_ _
  clear hHeld
  try simp only [Act.put, List.getElem_toArray, List.getElem_cons_zero, List.getElem_cons_succ, List.setIfInBounds_toArray, List.set_cons_zero, List.set_cons_succ]
  clear hS7
  clear m1 m2 m3 m4
  go_wp2
  go_loopw [12] (fun v12 wr => ∃ j : Nat, j ≤ x.ps.length ∧ v12 = .int .i64 j ∧ Hid (StpSt w c xa ma q it g b6 r v7 kl kl g' b' r' v' L' wr) ∧ Hid (GpAt gp x.ps wr)) (fun v12 _ => x.ps.length - (RowKit.intOf v12).toNat)
  case atStart => exact ⟨0, by omega, rfl, ST7, HG7⟩
  case round =>
    obtain ⟨j, hj, rfl, STR, HGR⟩ := hrel
    have kp := HPC.out wr STR.out.run.be
    by_cases hjl : (j : Int) < (x.ps.length : Int)
    · have hj2 : j < x.ps.length := by omega
      obtain ⟨p, hp⟩ : ∃ p, x.ps[j]? = some p := ⟨_, List.getElem?_eq_getElem hj2⟩
      obtain ⟨pb, po, hpa, hpb, hpcc⟩ := HPW.out (fun e => by rw [e] at hj2; cases hj2)
      subst hpa
      have kq : wr.cell? ⟨pb, po + j, none⟩ = some (.string ⟨p.toArray⟩) := (STR.out.run.be.cell (p := ⟨pb, po + j, none⟩) hpb).trans (hpcc j p hp)
      have kg : wr.cell? ⟨gp, j, none⟩ = some (.string ⟨p.toArray⟩) := HGR.out.2 j p (by rw [List.getElem?_append_left (List.getElem?_eq_some_iff.1 hp).1]; exact hp)
      clear hpcc hp
      go_wp2
      go_quiet (fail)
      go_wp2
      go_roundw
      case rel => exact ⟨j + 1, by omega, by go_num, Lib.hid (STR.out.below (below_drewN _ _)), Lib.hid (HGR.out.turn (Turn.of_below (X := []) (below_drewN _ _)) (by simp))⟩
      case measure => simp [RowKit.intOf]; omega
    · obtain rfl : j = x.ps.length := by omega
      go_wp2
      exact HK _ _ _ _ _ _ _ _ _ _ _ _ _ _ _ _ _ _ _ _ _ _ _ _ _ _ _ _ _ _ _ _ _ _ _ _ _ _ _ _ _ _ _ _ _ _ _ _ _ _ _ _ _ _ _ _ _ _ _ _ _ _ _ _ _ _ _ _ _ _ _ _ _ _ b6 v7 wr STR.out
end Go.Proofs.YtpbhkaokgpacoaaGreatDoor.St
