import Derived.Test.YtpbhkaokgpacoaaGreatDoorZStRunsKit
set_option linter.unusedSimpArgs false
set_option linter.unusedVariables false
/-
  The law: an index is read back from its bytes.
-/
namespace Go.Proofs.YtpbhkaokgpacoaaGreatDoor.St
open Go.RowKit Go.Maps Go.WideMaps Go.Proofs.YtpbhkaokgpacoaaGreatDoor.Rf Go.Proofs.YtpbhkaokgpacoaaGreatDoor.Rd

def other : List UInt8 := [47, 111, 116, 104, 101, 114]
def otherE : SE := ⟨other, 1, 0, 1, 0, 1, List.replicate 32 0⟩
theorem other_fits : otherE.Fits := ⟨by decide, by decide, by decide, by decide, by decide, by decide, by decide⟩
theorem b40 : Tryz.prog.built 40 [(0, .int .u8 1), (2, .int .u64 1)] = some #[.int .u8 1, .int .i64 0, .int .u64 1, .int .i64 0] := by kernel_rfl
theorem b44 : Tryz.prog.built 44 [(0, .string ⟨other.toArray⟩), (1, .agg #[.int .u8 1, .int .i64 0, .int .u64 1, .int .i64 0]), (2, .int .u8 1)] = some otherE.cells.toArray := by kernel_rfl
theorem wpList_b40 {ops : Array Oper} {rest : List Oper} {o : Oper} {a : Act} {w : World} {Q : Exit → Act → World → Prop} (hgd : o.guard = none) (ho : o.op = .build 40 #[(0, .const (.int .u8 1)), (2, .const (.int .u64 1))])
    (h : wpList Tryz.prog ops Q rest (a.put o.dst (.agg #[.int .u8 1, .int .i64 0, .int .u64 1, .int .i64 0])) w) : wpList Tryz.prog ops Q (o :: rest) a w :=
  wpList_plain hgd fun _ hK => by
    have hc := run_build (P := Tryz.prog) w 40 #[(0, .int .u8 1), (2, .int .u64 1)] _ b40
    unfold Oper.wp execOp
    simp only [ho, List.map_toArray, List.map_cons, List.map_nil, Act.eval, Sem.run_bind, hc, Result.andThen_ok]
    exact hK _ _ h
theorem wpList_b44 {ops : Array Oper} {rest : List Oper} {o : Oper} {a : Act} {w : World} {Q : Exit → Act → World → Prop} (hgd : o.guard = none) (x0 x1 x2 : Operand) (ho : o.op = .build 44 #[(0, x0), (1, x1), (2, x2)])
    (h0 : a.eval x0 = .string ⟨other.toArray⟩) (h1 : a.eval x1 = .agg #[.int .u8 1, .int .i64 0, .int .u64 1, .int .i64 0]) (h2 : a.eval x2 = .int .u8 1)
    (h : wpList Tryz.prog ops Q rest (a.put o.dst (enV otherE)) w) : wpList Tryz.prog ops Q (o :: rest) a w :=
  wpList_plain hgd fun _ hK => by
    have hc := run_build (P := Tryz.prog) w 44 #[(0, .string ⟨other.toArray⟩), (1, .agg #[.int .u8 1, .int .i64 0, .int .u64 1, .int .i64 0]), (2, .int .u8 1)] _ b44
    unfold Oper.wp execOp
    simp only [ho, List.map_toArray, List.map_cons, List.map_nil, h0, h1, h2, Sem.run_bind, hc, Result.andThen_ok]
    exact hK _ _ h

set_option linter.unusedSimpArgs false in
set_option maxHeartbeats 40000000 in
set_option maxRecDepth 100000 in
theorem t174 {Q : Exit → Act → World → Prop} (u0 u1 u2 u5 u8 u9 u10 u11 u12 u13 u14 u15 u16 u17 u18 u19 u20 u21 u22 u23 u24 u25 u26 u27 u28 u29 u30 u31 u32 u33 u34 u35 u36 u37 u38 u39 u40 u41 u42 u43 u44 u45 u46 u47 u48 u49 u50 u51 u52 u53 u54 u55 u56 u57 u58 u59 u60 u61 u62 u63 u64 u65 u66 u67 u68 u69 u70 u71 u72 u73 u74 u75 u76 u77 u78 u79 u80 u81 u82 u83 u84 u85 u86 u87 u88 u89 u90 u91 u92 u93 u94 u95 u96 u97 u98 u99 u100 u101 u102 u103 u104 u105 u106 u107 u108 u109 u110 u111 u112 u113 u114 u115 u116 u117 u118 u119 u120 u121 u122 u123 u124 u125 u126 u127 u128 u129 u130 u131 u132 u133 u134 u135 u136 u137 u138 u139 u140 u141 u142 u143 u144 u145 u146 u147 u148 u149 u150 u151 u152 u153 u154 u155 u156 u157 u158 u159 u160 u161 u162 u163 u164 u165 u166 u167 u168 u169 u170 u171 u172 u173 u174 u175 u176 u177 u178 u179 u180 u181 u182 u183 u184 u185 u186 u187 u188 u189 u190 u191 u192 u193 u194 u195 u196 u197 u198 u199 u200 u201 u202 u203 u204 u205 u206 u207 u208 u209 u210 u211 u212 u213 u214 u215 u216 u217 u218 u219 u220 u221 u222 u223 u224 u225 u226 u227 u228 u229 u230 u231 u232 u233 u234 u235 u236 u237 u238 u239 u240 u241 u242 u243 u244 u245 u246 u247 u248 u249 u250 u251 u252 u253 u254 u255 u256 u257 u258 u259 u260 u261 u262 u263 u264 u265 u266 u267 u268 u269 u270 u271 u272 u273 u274 u275 u276 u277 u278 u279 u280 u281 u282 u283 u284 u285 u286 u287 u288 u289 u290 : Value) (w : World) (c xa ma q : Nat) (it : It) (g b r : Nat) (v : Value) (L : List SE) (g' b' r' : Nat) (v' : Value) (L' : List SE) (W : World)
    (hS : StpSt w c xa ma q it g b r v L L g' b' r' v' L' W)
    (HK : ∀ (t13 t14 t15 t16 t176 t177 t178 t179 t180 t181 t182 t183 t184 t185 t186 t187 t188 t189 t190 t191 t192 t193 t194 t195 t196 t197 t198 t199 t200 t201 t202 t203 t204 t205 t206 : Value) (g2 b2 : Nat) (w' : World), StpSt w c xa ma q it g2 b2 r v L L g' b' r' v' L' w' → Q .normal ⟨#[u0, u1, u2, .pointer (some ⟨xa, 0, none⟩), .pointer (some ⟨ma, 0, none⟩), u5, .int .i64 (c : Int), .pointer (some ⟨q, 0, none⟩), u8, u9, u10, u11, u12, t13, t14, t15, t16, u17, u18, u19, u20, u21, u22, u23, u24, u25, u26, u27, u28, u29, u30, u31, u32, u33, u34, u35, u36, u37, u38, u39, u40, u41, u42, u43, u44, u45, u46, u47, u48, u49, u50, u51, u52, u53, u54, u55, u56, u57, u58, u59, u60, u61, u62, u63, u64, u65, u66, u67, u68, u69, u70, u71, u72, u73, u74, u75, u76, u77, u78, u79, u80, u81, u82, u83, u84, u85, u86, u87, u88, u89, u90, u91, u92, u93, u94, u95, u96, u97, u98, u99, u100, u101, u102, u103, u104, u105, u106, u107, u108, u109, u110, u111, u112, u113, u114, u115, u116, u117, u118, u119, u120, u121, u122, u123, u124, u125, u126, u127, u128, u129, u130, u131, u132, u133, u134, u135, u136, u137, u138, u139, u140, u141, u142, u143, u144, u145, u146, u147, u148, u149, u150, u151, u152, u153, u154, u155, u156, u157, u158, u159, u160, u161, u162, u163, u164, u165, u166, u167, u168, u169, u170, u171, u172, u173, u174, u175, t176, t177, t178, t179, t180, t181, t182, t183, t184, t185, t186, t187, t188, t189, t190, t191, t192, t193, t194, t195, t196, t197, t198, t199, t200, t201, t202, t203, t204, t205, t206, u207, u208, u209, u210, u211, u212, u213, u214, u215, u216, u217, u218, u219, u220, u221, u222, u223, u224, u225, u226, u227, u228, u229, u230, u231, u232, u233, u234, u235, u236, u237, u238, u239, u240, u241, u242, u243, u244, u245, u246, u247, u248, u249, u250, u251, u252, u253, u254, u255, u256, u257, u258, u259, u260, u261, u262, u263, u264, u265, u266, u267, u268, u269, u270, u271, u272, u273, u274, u275, u276, u277, u278, u279, u280, u281, u282, u283, u284, u285, u286, u287, u288, u289, u290], []⟩ w') :
    Code.wp Tryz.prog (thenF 174) Q ⟨#[u0, u1, u2, .pointer (some ⟨xa, 0, none⟩), .pointer (some ⟨ma, 0, none⟩), u5, .int .i64 (c : Int), .pointer (some ⟨q, 0, none⟩), u8, u9, u10, u11, u12, u13, u14, u15, u16, u17, u18, u19, u20, u21, u22, u23, u24, u25, u26, u27, u28, u29, u30, u31, u32, u33, u34, u35, u36, u37, u38, u39, u40, u41, u42, u43, u44, u45, u46, u47, u48, u49, u50, u51, u52, u53, u54, u55, u56, u57, u58, u59, u60, u61, u62, u63, u64, u65, u66, u67, u68, u69, u70, u71, u72, u73, u74, u75, u76, u77, u78, u79, u80, u81, u82, u83, u84, u85, u86, u87, u88, u89, u90, u91, u92, u93, u94, u95, u96, u97, u98, u99, u100, u101, u102, u103, u104, u105, u106, u107, u108, u109, u110, u111, u112, u113, u114, u115, u116, u117, u118, u119, u120, u121, u122, u123, u124, u125, u126, u127, u128, u129, u130, u131, u132, u133, u134, u135, u136, u137, u138, u139, u140, u141, u142, u143, u144, u145, u146, u147, u148, u149, u150, u151, u152, u153, u154, u155, u156, u157, u158, u159, u160, u161, u162, u163, u164, u165, u166, u167, u168, u169, u170, u171, u172, u173, u174, u175, u176, u177, u178, u179, u180, u181, u182, u183, u184, u185, u186, u187, u188, u189, u190, u191, u192, u193, u194, u195, u196, u197, u198, u199, u200, u201, u202, u203, u204, u205, u206, u207, u208, u209, u210, u211, u212, u213, u214, u215, u216, u217, u218, u219, u220, u221, u222, u223, u224, u225, u226, u227, u228, u229, u230, u231, u232, u233, u234, u235, u236, u237, u238, u239, u240, u241, u242, u243, u244, u245, u246, u247, u248, u249, u250, u251, u252, u253, u254, u255, u256, u257, u258, u259, u260, u261, u262, u263, u264, u265, u266, u267, u268, u269, u270, u271, u272, u273, u274, u275, u276, u277, u278, u279, u280, u281, u282, u283, u284, u285, u286, u287, u288, u289, u290], []⟩ W := by
  have hST := Lib.hid hS
  have hc2 : (c : Int) < 2 := by have := hS.run.hc; omega
  have hc3 : c < 2 := hS.run.hc
  have EC := Lib.hid (encode_any w.heap.size W g b L hS.run.cur.ix hS.run.cur.mL)
  have HXL := Lib.hid (encX_len hS.run.cur.ix.fits hS.run.cur.mL hS.run.cur.ix.len)
  have HDE := Lib.hid (dec_enc hS.run.cur.ix.srt hS.run.cur.ix.fits hS.run.cur.mL hS.run.cur.ix.len)
  have k0 := hS.bs.cx
  clear hS
  unfold ptr at EC
  conv => arg 2; whnf
  go_wp2_with fail
  refine EC.out.mono ?_
  rintro ex w1 ⟨rfl, hb1⟩
  have ST1 := Lib.hid (hST.out.below hb1)
  have DC := decode_any w1 (encX L) (by have := HXL.out; omega)
  rw [HDE.out] at DC
  have DC := Lib.hid DC
  clear hb1 EC k0
  go_wp2_with fail
  refine DC.out.mono ?_
  rintro ex w2 ⟨g2, b2, rfl, hi2, hb2⟩
  have ST2 := Lib.hid (ST1.out.below hb2)
  have HI2 := Lib.hid (hi2.mono ST1.out.run.be.size)
  have HGE : Hid (w1.heap.size ≤ g2 ∧ w1.heap.size ≤ b2) := Lib.hid ⟨hi2.baseg, hi2.baseb⟩
  have k0 := ST2.out.bs.cx
  have SO := Lib.hid (set_any w.heap.size w2 g b L otherE other_fits ST2.out.run.cur.ix)
  unfold ptr at *
  clear hi2 hb2 DC
  go_wp2_with (first
    | (refine wpList_b40 rfl rfl ?_)
    | (refine wpList_b44 rfl _ _ _ rfl rfl rfl rfl ?_))
  refine SO.out.mono ?_
  rintro ex w3 ⟨rfl, hi3, ht3⟩
  have hm3 : ∀ x ∈ (setX otherE L).2, mayN x = 0 := setX_may ST2.out.run.cur.mL
  have ST3 := Lib.hid (ST2.out.idx ht3 (by simp) hi3 (.inl rfl) hm3)
  have hlt : ∀ x ∈ own g b r v, x < w1.heap.size := fun x hx => (ST1.out.run.cur.lt x hx).2
  have hlt' : ∀ x ∈ own g' b' r' v', x < w1.heap.size := fun x hx => (ST1.out.run.oth.lt x hx).2
  have hge := HGE.out
  have HI3 := Lib.hid (HI2.out.kept (ht3.block _ HI2.out.lt_g (by simp; have := hlt b (by simp [own]); omega)) (ht3.block _ HI2.out.lt_b (by simp; have := hlt b (by simp [own]); omega)))
  have HN : Hid (∀ x, x = g2 ∨ x = b2 → x ∉ r :: ob v ∧ x ∉ own g' b' r' v' ∧ x ∉ xa :: ma :: [q]) := Lib.hid (fun x hx => by
    have hx1 : w1.heap.size ≤ x := by rcases hx with e | e <;> omega
    have a1 := ST1.out.run.xs.lt; have a2 := ST1.out.run.ms.lt; have a3 := lt_of_heap ST1.out.iq
    refine ⟨fun hy => ?_, fun hy => ?_, fun hy => ?_⟩
    · have := hlt x (by simp only [own, List.mem_append]; exact .inr hy); omega
    · have := hlt' x hy; omega
    · simp at hy; omega)
  have hxc : w3.cell? ⟨xa, c, none⟩ = some (.pointer (some ⟨g, 0, none⟩)) := ST3.out.bs.cx
  have hxf : w3.frozen? ⟨xa, c, none⟩ = false := by obtain ⟨X, x1, _⟩ := ST3.out.run.xs; exact frozen_of_heap x1
  have HQN : Hid (xa ≠ q) := Lib.hid (fun e => by
    obtain ⟨X, x1, _⟩ := ST3.out.run.xs
    have x2 := ST3.out.iq
    rw [e] at x1
    rw [ItAt, x1] at x2
    injection x2 with x2
    injection x2 with _ x3 _
    exact absurd x3 (by decide))
  clear hi3 ht3 hm3 hlt hlt' hge k0 SO
  go_wp2
  exact HK _ _ _ _ _ _ _ _ _ _ _ _ _ _ _ _ _ _ _ _ _ _ _ _ _ _ _ _ _ _ _ _ _ _ _ g2 b2 _ ⟨ST3.out.run.lay HI3.out ST2.out.run.cur.mL HN.out, (Below.heap_setCell _ _ _ _ (fun e => HQN.out e.symm)).trans ST3.out.iq⟩
end Go.Proofs.YtpbhkaokgpacoaaGreatDoor.St
