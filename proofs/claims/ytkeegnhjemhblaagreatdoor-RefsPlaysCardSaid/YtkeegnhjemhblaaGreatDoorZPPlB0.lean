import Derived.Test.YtkeegnhjemhblaaGreatDoorZPPlKit
import Derived.Test.YtkeegnhjemhblaaGreatDoorRows
import Derived.Test.YtkeegnhjemhblaaGreatDoorZPRbEnd
import Derived.Lib.LaidU8
import Derived.MakeChecks
set_option linter.unusedSimpArgs false
set_option linter.unusedVariables false
/-
  RefsPlays' first loop.
-/
set_option linter.unusedSimpArgs false
namespace Go.Proofs.YtkeegnhjemhblaaGreatDoor.Rb
open Go.RowKit Go.Maps Go.WideMaps Go.Proofs.YtkeegnhjemhblaaGreatDoor.Rf
set_option linter.unusedSimpArgs false in
set_option maxHeartbeats 40000000 in
set_option maxRecDepth 100000 in
theorem pl_b0 {Q : Exit → Act → World → Prop} (u1 u2 u3 u4 u8 u9 u10 u11 u12 u13 u14 u15 u16 u17 u18 u19 u20 u21 u22 u23 u24 u25 u26 u27 u28 u29 u30 u31 u32 u33 u34 u35 u36 u37 u38 u39 u40 u41 u42 u43 u44 u45 u46 u47 u48 u49 u50 u51 u52 u53 u54 u55 u56 u57 u58 u59 u60 u61 u62 u63 u64 u65 u66 u67 u68 u69 u70 u71 u72 u73 u74 u75 u76 u77 u78 u79 u80 u81 u82 u83 u84 u85 u86 u87 u88 u89 u90 u91 u92 u93 u94 u95 u96 u97 u98 u99 u100 u101 u102 u103 u104 u105 u106 : Value) {g b r cap : Nat} {a : Option Addr} {l : List OpX} {w wr : World} {K0 : BK} {Z10 : BM} {v0 : Value} {Z20 : BM}
    (hP : ∀ c (a a' : Act) w, a.defers = a'.defers → Q (.panic c) a w → Q (.panic c) a' w) (hlm : l.length ≤ 9223372036854775807) (HL : Hid (OpsAt w (.slice a l.length cap) l)) (HTB : Hid (∀ W, Below w.heap.size w W → Nm.Tabs W)) (H00 : Hid (Pair w.heap.size wr g b Z10 r v0 Z20 K0 K0)) (HB0 : Hid (Below w.heap.size w wr))
    (HK : ∀ (t4 t7 t15 t16 t17 t18 t19 t20 t21 t22 t23 t24 t25 t26 t27 t28 t29 t30 t31 t32 t33 t34 t35 t36 t37 t38 t39 t40 t41 t42 t43 : Value) (w' : World), (∃ (K : BK) (Z1 : BM) (v : Value) (Z2 : BM), Pair w.heap.size w' g b Z1 r v Z2 K K ∧ Below w.heap.size w w') → Q .normal ⟨#[.slice a l.length cap, u1, u2, u3, t4, .pointer (some ⟨g, 0, none⟩), .pointer (some ⟨r, 0, none⟩), t7, u8, u9, u10, u11, u12, u13, u14, t15, t16, t17, t18, t19, t20, t21, t22, t23, t24, t25, t26, t27, t28, t29, t30, t31, t32, t33, t34, t35, t36, t37, t38, t39, t40, t41, t42, t43, u44, u45, u46, u47, u48, u49, u50, u51, u52, u53, u54, u55, u56, u57, u58, u59, u60, u61, u62, u63, u64, u65, u66, u67, u68, u69, u70, u71, u72, u73, u74, u75, u76, u77, u78, u79, u80, u81, u82, u83, u84, u85, u86, u87, u88, u89, u90, u91, u92, u93, u94, u95, u96, u97, u98, u99, u100, u101, u102, u103, u104, u105, u106], []⟩ w') :
    Code.wp Tryz.prog (plB 0) Q ⟨#[.slice a l.length cap, u1, u2, u3, u4, .pointer (some ⟨g, 0, none⟩), .pointer (some ⟨r, 0, none⟩), .int .i64 0, u8, u9, u10, u11, u12, u13, u14, u15, u16, u17, u18, u19, u20, u21, u22, u23, u24, u25, u26, u27, u28, u29, u30, u31, u32, u33, u34, u35, u36, u37, u38, u39, u40, u41, u42, u43, u44, u45, u46, u47, u48, u49, u50, u51, u52, u53, u54, u55, u56, u57, u58, u59, u60, u61, u62, u63, u64, u65, u66, u67, u68, u69, u70, u71, u72, u73, u74, u75, u76, u77, u78, u79, u80, u81, u82, u83, u84, u85, u86, u87, u88, u89, u90, u91, u92, u93, u94, u95, u96, u97, u98, u99, u100, u101, u102, u103, u104, u105, u106], []⟩ wr := by
  have HKH := Lib.hid HK
  clear HK
  conv => arg 2; whnf
  go_wp2
  go_loopw [7] (fun u7 wr => ∃ (i : Nat) (K : BK) (Z1 : BM) (v : Value) (Z2 : BM), i ≤ l.length ∧ i ≤ 60 ∧ u7 = .int .i64 (i : Int) ∧ Hid (Pair w.heap.size wr g b Z1 r v Z2 K K) ∧ Hid (Below w.heap.size w wr)) (fun u7 _ => l.length - (RowKit.intOf u7).toNat)
  case atStart => exact ⟨0, K0, Z10, v0, Z20, by omega, by omega, rfl, H00, HB0⟩
  case round =>
    clear H00 HB0
    obtain ⟨i, K, Z1, v, Z2, hi, hi60, rfl, HPR, HB⟩ := hrel
    obtain ⟨wo, hwo⟩ : ∃ wo, wo = wr := ⟨_, rfl⟩
    subst hwo
    by_cases hil : (i : Int) < (l.length : Int)
    · by_cases hi6 : (i : Int) < 60
      · skip
        obtain ⟨kind, t, n, c, s, u, b2, o2, hsl, hul, rfl, hb2, hrg⟩ := ops_get HL.out (i := i) (by omega)
        have HRG := Lib.hid (hrg wo HB.out)
        have HRA := Lib.hid hrg; have HSL := Lib.hid hsl
        have hi0 : (0 : Int) ≤ (i : Int) := by omega
        have HT3 : Hid (∀ W, Below w.heap.size wo W → Nm.Tabs W) := Lib.hid (fun W hw => HTB.out W (HB.out.trans hw))
        have HST := Lib.hid (step_any HPR.out HT3.out kind t n c s u hsl hul)
        clear hrg hsl hul
        unfold ptr at *
        go_wp2_with (first
          | (refine wpList_load_mid rfl _ _ rfl b2 (o2 + i * 6) rfl (opC kind s u c t n).toList _ HRG.out Tryz.underlying39 rfl (infoOp kind t n c s u) ?_)
          | fail)
        refine HST.out.mono ?_
        rintro e w3 ⟨he, Z1n, vn, Z2n, hp, hf⟩
        rw [beq_self_eq_true] at he
        subst he
        have HB3 : Hid (Below w.heap.size w w3) := Lib.hid (HB.out.trans (hf.below HPR.out.ge HPR.out.size))
        have HP3 := Lib.hid hp
        have k1 : w3.cell? ⟨b2, o2 + i * 6 + 1, none⟩ = some (.string ⟨s.toArray⟩) := HRA.out w3 HB3.out 1 _ rfl
        have CS := Lib.hid (same_any hp.bk hp.rb hp.e1 hp.e2 hp.ok s HSL.out)
        clear hp hf HST
        unfold ptr at *
        go_wp2_with fail
        refine CS.out.mono ?_
        rintro e w4 ⟨rfl, hb4⟩
        have HB4 : Hid (Below w.heap.size w w4) := Lib.hid (HB3.out.trans (hb4.mono HB3.out.size))
        have HP4 := Lib.hid (HP3.out.below hb4)
        clear hb4 CS
        go_wp2
        go_roundw
        case rel => exact ⟨i + 1, _, _, _, _, by omega, by omega, by go_num, HP4, HB4⟩
        case measure => simp [RowKit.intOf]; omega
      · go_wp2
        exact HKH.out _ _ _ _ _ _ _ _ _ _ _ _ _ _ _ _ _ _ _ _ _ _ _ _ _ _ _ _ _ _ _ _ ⟨K, Z1, v, Z2, HPR.out, HB.out⟩
    · go_wp2
      exact HKH.out _ _ _ _ _ _ _ _ _ _ _ _ _ _ _ _ _ _ _ _ _ _ _ _ _ _ _ _ _ _ _ _ ⟨K, Z1, v, Z2, HPR.out, HB.out⟩
end Go.Proofs.YtkeegnhjemhblaaGreatDoor.Rb
/-
  RefsPlays' second loop.
-/
set_option linter.unusedSimpArgs false
namespace Go.Proofs.YtkeegnhjemhblaaGreatDoor.Rb
open Go.RowKit Go.Maps Go.WideMaps Go.Proofs.YtkeegnhjemhblaaGreatDoor.Rf
set_option linter.unusedSimpArgs false in
set_option maxHeartbeats 40000000 in
set_option maxRecDepth 100000 in
theorem pl_b2 {Q : Exit → Act → World → Prop} (u0 u2 u3 u4 u7 u11 u12 u13 u14 u15 u16 u17 u18 u19 u20 u21 u22 u23 u24 u25 u26 u27 u28 u29 u30 u31 u32 u33 u34 u35 u36 u37 u38 u39 u40 u41 u42 u43 u44 u45 u46 u47 u48 u49 u50 u51 u52 u53 u54 u55 u56 u57 u58 u59 u60 u61 u62 u63 u64 u65 u66 u67 u68 u69 u70 u71 u72 u73 u74 u75 u76 u77 u78 u79 u80 u81 u82 u83 u84 u85 u86 u87 u88 u89 u90 u91 u92 u93 u94 u95 u96 u97 u98 u99 u100 u101 u102 u103 u104 u105 u106 : Value) {g b r g2 b2 r3 cap : Nat} {a : Option Addr} {l : List OpX} {w wr : World} {K Kb : BK} {Z1 : BM} {v : Value} {Z2 : BM} {Y1 : BM} {y : Value} {Y2 : BM}
    (hP : ∀ c (a a' : Act) w, a.defers = a'.defers → Q (.panic c) a w → Q (.panic c) a' w) (hlm : l.length ≤ 9223372036854775807) (HL : Hid (OpsAt w (.slice a l.length cap) l)) (HTB : Hid (∀ W, Below w.heap.size w W → Nm.Tabs W)) (H00 : Hid (Two w.heap.size wr g b Z1 r v Z2 K g2 b2 Y1 r3 y Y2 Kb)) (HB0 : Hid (Below w.heap.size w wr))
    (HK : ∀ (t4 t10 t48 t49 t50 t51 t52 t53 t54 t55 t56 t57 t58 t59 t60 t61 t62 t63 t64 t65 t66 t67 t68 t69 t70 t71 t72 t73 t74 t75 t76 t77 : Value) (w' : World), (∃ (Kb : BK) (Y1 : BM) (y : Value) (Y2 : BM), Two w.heap.size w' g b Z1 r v Z2 K g2 b2 Y1 r3 y Y2 Kb ∧ Below w.heap.size w w') → Q .normal ⟨#[u0, .slice a l.length cap, u2, u3, t4, .pointer (some ⟨g, 0, none⟩), .pointer (some ⟨r, 0, none⟩), u7, .pointer (some ⟨g2, 0, none⟩), .pointer (some ⟨r3, 0, none⟩), t10, u11, u12, u13, u14, u15, u16, u17, u18, u19, u20, u21, u22, u23, u24, u25, u26, u27, u28, u29, u30, u31, u32, u33, u34, u35, u36, u37, u38, u39, u40, u41, u42, u43, u44, u45, u46, u47, t48, t49, t50, t51, t52, t53, t54, t55, t56, t57, t58, t59, t60, t61, t62, t63, t64, t65, t66, t67, t68, t69, t70, t71, t72, t73, t74, t75, t76, t77, u78, u79, u80, u81, u82, u83, u84, u85, u86, u87, u88, u89, u90, u91, u92, u93, u94, u95, u96, u97, u98, u99, u100, u101, u102, u103, u104, u105, u106], []⟩ w') :
    Code.wp Tryz.prog (plB 2) Q ⟨#[u0, .slice a l.length cap, u2, u3, u4, .pointer (some ⟨g, 0, none⟩), .pointer (some ⟨r, 0, none⟩), u7, .pointer (some ⟨g2, 0, none⟩), .pointer (some ⟨r3, 0, none⟩), .int .i64 0, u11, u12, u13, u14, u15, u16, u17, u18, u19, u20, u21, u22, u23, u24, u25, u26, u27, u28, u29, u30, u31, u32, u33, u34, u35, u36, u37, u38, u39, u40, u41, u42, u43, u44, u45, u46, u47, u48, u49, u50, u51, u52, u53, u54, u55, u56, u57, u58, u59, u60, u61, u62, u63, u64, u65, u66, u67, u68, u69, u70, u71, u72, u73, u74, u75, u76, u77, u78, u79, u80, u81, u82, u83, u84, u85, u86, u87, u88, u89, u90, u91, u92, u93, u94, u95, u96, u97, u98, u99, u100, u101, u102, u103, u104, u105, u106], []⟩ wr := by
  have HKH := Lib.hid HK
  clear HK
  conv => arg 2; whnf
  go_wp2
  go_loopw [10] (fun u10 wr => ∃ (i : Nat) (Kb : BK) (Y1 : BM) (y : Value) (Y2 : BM), i ≤ l.length ∧ i ≤ 60 ∧ u10 = .int .i64 (i : Int) ∧ Hid (Two w.heap.size wr g b Z1 r v Z2 K g2 b2 Y1 r3 y Y2 Kb) ∧ Hid (Below w.heap.size w wr)) (fun u10 _ => l.length - (RowKit.intOf u10).toNat)
  case atStart => exact ⟨0, Kb, Y1, y, Y2, by omega, by omega, rfl, H00, HB0⟩
  case round =>
    clear H00 HB0
    obtain ⟨i, Kb, Y1, y, Y2, hi, hi60, rfl, HTW, HB⟩ := hrel
    obtain ⟨wo, hwo⟩ : ∃ wo, wo = wr := ⟨_, rfl⟩
    subst hwo
    by_cases hil : (i : Int) < (l.length : Int)
    · by_cases hi6 : (i : Int) < 60
      · skip
        obtain ⟨kind, t, n, c, s, u, b4, o4, hsl, hul, rfl, hb4, hrg⟩ := ops_get HL.out (i := i) (by omega)
        have HRG := Lib.hid (hrg wo HB.out)
        have HRA := Lib.hid hrg; have HSL := Lib.hid hsl
        have hi0 : (0 : Int) ≤ (i : Int) := by omega
        have HT3 : Hid (∀ W, Below w.heap.size wo W → Nm.Tabs W) := Lib.hid (fun W hw => HTB.out W (HB.out.trans hw))
        have HST := Lib.hid (step_any HTW.out.p2 HT3.out kind t n c s u hsl hul)
        clear hrg hsl hul
        unfold ptr at *
        go_wp2_with (first
          | (refine wpList_load_mid rfl _ _ rfl b4 (o4 + i * 6) rfl (opC kind s u c t n).toList _ HRG.out Tryz.underlying39 rfl (infoOp kind t n c s u) ?_)
          | fail)
        refine HST.out.mono ?_
        rintro e w5 ⟨he, Z1n, vn, Z2n, hp, hf⟩
        rw [beq_self_eq_true] at he
        subst he
        have HB5 : Hid (Below w.heap.size w w5) := Lib.hid (HB.out.trans (hf.below HTW.out.p2.ge HTW.out.p2.size))
        have HT5 := Lib.hid (HTW.out.swap.step hp hf).swap
        have CS := Lib.hid (same_any HT5.out.p1.bk HT5.out.p1.rb HT5.out.p1.e1 HT5.out.p1.e2 HT5.out.p1.ok [109, 97, 105, 110] (by decide))
        clear hp hf HST
        unfold ptr at *
        go_wp2_with fail
        refine CS.out.mono ?_
        rintro e w6 ⟨rfl, hb6⟩
        have HB6 : Hid (Below w.heap.size w w6) := Lib.hid (HB5.out.trans (hb6.mono HB5.out.size))
        have HT6 := Lib.hid (HT5.out.below hb6)
        have CS2 := Lib.hid (same_any HT6.out.p2.bk HT6.out.p2.rb HT6.out.p2.e1 HT6.out.p2.e2 HT6.out.p2.ok [109, 97, 105, 110] (by decide))
        clear hb6 CS
        unfold ptr at *
        go_wp2_with fail
        refine CS2.out.mono ?_
        rintro e w7 ⟨rfl, hb7⟩
        have HB7 : Hid (Below w.heap.size w w7) := Lib.hid (HB6.out.trans (hb7.mono HB6.out.size))
        have HT7 := Lib.hid (HT6.out.below hb7)
        clear hb7 CS2
        go_wp2
        go_roundw
        case rel => exact ⟨i + 1, _, _, _, _, by omega, by omega, by go_num, HT7, HB7⟩
        case measure => simp [RowKit.intOf]; omega
      · go_wp2
        exact HKH.out _ _ _ _ _ _ _ _ _ _ _ _ _ _ _ _ _ _ _ _ _ _ _ _ _ _ _ _ _ _ _ _ _ ⟨Kb, Y1, y, Y2, HTW.out, HB.out⟩
    · go_wp2
      exact HKH.out _ _ _ _ _ _ _ _ _ _ _ _ _ _ _ _ _ _ _ _ _ _ _ _ _ _ _ _ _ _ _ _ _ ⟨Kb, Y1, y, Y2, HTW.out, HB.out⟩
end Go.Proofs.YtkeegnhjemhblaaGreatDoor.Rb
/-
  RefsPlays' third loop.
-/
set_option linter.unusedSimpArgs false
namespace Go.Proofs.YtkeegnhjemhblaaGreatDoor.Rb
open Go.RowKit Go.Maps Go.WideMaps Go.Proofs.YtkeegnhjemhblaaGreatDoor.Rf
set_option linter.unusedSimpArgs false in
set_option maxHeartbeats 40000000 in
set_option maxRecDepth 100000 in
theorem pl_b4 {Q : Exit → Act → World → Prop} (u0 u2 u3 u4 u7 u8 u9 u10 u12 u13 u14 u15 u16 u17 u18 u19 u20 u21 u22 u23 u24 u25 u26 u27 u28 u29 u30 u31 u32 u33 u34 u35 u36 u37 u38 u39 u40 u41 u42 u43 u44 u45 u46 u47 u48 u49 u50 u51 u52 u53 u54 u55 u56 u57 u58 u59 u60 u61 u62 u63 u64 u65 u66 u67 u68 u69 u70 u71 u72 u73 u74 u75 u76 u77 u78 u79 u80 u81 u82 u83 u84 u85 u86 u87 u88 u89 u90 u91 u92 u93 u94 u95 u96 u97 u98 u99 u100 u101 u102 u103 u104 u105 u106 : Value) {g b r g2 b2 r3 cap : Nat} {a : Option Addr} {l : List OpX} {w wr : World} {K Kb : BK} {Z1 : BM} {v : Value} {Z2 : BM} {Y1 : BM} {y : Value} {Y2 : BM}
    (hP : ∀ c (a a' : Act) w, a.defers = a'.defers → Q (.panic c) a w → Q (.panic c) a' w) (hlm : l.length ≤ 9223372036854775807) (HL : Hid (OpsAt w (.slice a l.length cap) l)) (HTB : Hid (∀ W, Below w.heap.size w W → Nm.Tabs W)) (H00 : Hid (Two w.heap.size wr g b Z1 r v Z2 K g2 b2 Y1 r3 y Y2 Kb)) (HB0 : Hid (Below w.heap.size w wr))
    (HK : ∀ (t4 t11 t78 t79 t80 t81 t82 t83 t84 t85 t86 t87 t88 t89 t90 t91 t92 t93 t94 t95 : Value) (w' : World), (∃ (K : BK) (Z1 : BM) (v : Value) (Z2 : BM), Two w.heap.size w' g b Z1 r v Z2 K g2 b2 Y1 r3 y Y2 Kb ∧ Below w.heap.size w w') → Q .normal ⟨#[u0, .slice a l.length cap, u2, u3, t4, .pointer (some ⟨g, 0, none⟩), .pointer (some ⟨r, 0, none⟩), u7, u8, u9, u10, t11, u12, u13, u14, u15, u16, u17, u18, u19, u20, u21, u22, u23, u24, u25, u26, u27, u28, u29, u30, u31, u32, u33, u34, u35, u36, u37, u38, u39, u40, u41, u42, u43, u44, u45, u46, u47, u48, u49, u50, u51, u52, u53, u54, u55, u56, u57, u58, u59, u60, u61, u62, u63, u64, u65, u66, u67, u68, u69, u70, u71, u72, u73, u74, u75, u76, u77, t78, t79, t80, t81, t82, t83, t84, t85, t86, t87, t88, t89, t90, t91, t92, t93, t94, t95, u96, u97, u98, u99, u100, u101, u102, u103, u104, u105, u106], []⟩ w') :
    Code.wp Tryz.prog (plB 4) Q ⟨#[u0, .slice a l.length cap, u2, u3, u4, .pointer (some ⟨g, 0, none⟩), .pointer (some ⟨r, 0, none⟩), u7, u8, u9, u10, .int .i64 0, u12, u13, u14, u15, u16, u17, u18, u19, u20, u21, u22, u23, u24, u25, u26, u27, u28, u29, u30, u31, u32, u33, u34, u35, u36, u37, u38, u39, u40, u41, u42, u43, u44, u45, u46, u47, u48, u49, u50, u51, u52, u53, u54, u55, u56, u57, u58, u59, u60, u61, u62, u63, u64, u65, u66, u67, u68, u69, u70, u71, u72, u73, u74, u75, u76, u77, u78, u79, u80, u81, u82, u83, u84, u85, u86, u87, u88, u89, u90, u91, u92, u93, u94, u95, u96, u97, u98, u99, u100, u101, u102, u103, u104, u105, u106], []⟩ wr := by
  have HKH := Lib.hid HK
  clear HK
  conv => arg 2; whnf
  go_wp2
  go_loopw [11] (fun u11 wr => ∃ (i : Nat) (K : BK) (Z1 : BM) (v : Value) (Z2 : BM), i ≤ l.length ∧ i ≤ 60 ∧ u11 = .int .i64 (i : Int) ∧ Hid (Two w.heap.size wr g b Z1 r v Z2 K g2 b2 Y1 r3 y Y2 Kb) ∧ Hid (Below w.heap.size w wr)) (fun u11 _ => l.length - (RowKit.intOf u11).toNat)
  case atStart => exact ⟨0, K, Z1, v, Z2, by omega, by omega, rfl, H00, HB0⟩
  case round =>
    clear H00 HB0
    obtain ⟨i, K, Z1, v, Z2, hi, hi60, rfl, HTW, HB⟩ := hrel
    obtain ⟨wo, hwo⟩ : ∃ wo, wo = wr := ⟨_, rfl⟩
    subst hwo
    by_cases hil : (i : Int) < (l.length : Int)
    · by_cases hi6 : (i : Int) < 60
      · skip
        obtain ⟨kind, t, n, c, s, u, b4, o4, hsl, hul, rfl, hb4, hrg⟩ := ops_get HL.out (i := i) (by omega)
        have HRG := Lib.hid (hrg wo HB.out)
        have HRA := Lib.hid hrg; have HSL := Lib.hid hsl
        have hi0 : (0 : Int) ≤ (i : Int) := by omega
        have HT3 : Hid (∀ W, Below w.heap.size wo W → Nm.Tabs W) := Lib.hid (fun W hw => HTB.out W (HB.out.trans hw))
        have HST := Lib.hid (step_any HTW.out.p1 HT3.out kind t n c s u hsl hul)
        clear hrg hsl hul
        unfold ptr at *
        go_wp2_with (first
          | (refine wpList_load_mid rfl _ _ rfl b4 (o4 + i * 6) rfl (opC kind s u c t n).toList _ HRG.out Tryz.underlying39 rfl (infoOp kind t n c s u) ?_)
          | fail)
        refine HST.out.mono ?_
        rintro e w5 ⟨he, Z1n, vn, Z2n, hp, hf⟩
        rw [beq_self_eq_true] at he
        subst he
        have HB5 : Hid (Below w.heap.size w w5) := Lib.hid (HB.out.trans (hf.below HTW.out.p1.ge HTW.out.p1.size))
        have HT5 := Lib.hid (HTW.out.step hp hf)
        clear hp hf HST
        go_wp2
        go_roundw
        case rel => exact ⟨i + 1, _, _, _, _, by omega, by omega, by go_num, HT5, HB5⟩
        case measure => simp [RowKit.intOf]; omega
      · go_wp2
        exact HKH.out _ _ _ _ _ _ _ _ _ _ _ _ _ _ _ _ _ _ _ _ _ ⟨K, Z1, v, Z2, HTW.out, HB.out⟩
    · go_wp2
      exact HKH.out _ _ _ _ _ _ _ _ _ _ _ _ _ _ _ _ _ _ _ _ _ ⟨K, Z1, v, Z2, HTW.out, HB.out⟩
end Go.Proofs.YtkeegnhjemhblaaGreatDoor.Rb
/-
  RefsPlays' law. Printed by genlawpl.py.
-/
set_option linter.unusedSimpArgs false
namespace Go.Proofs.YtkeegnhjemhblaaGreatDoor.Rb
open Go.RowKit Go.Maps Go.WideMaps Go.Proofs.YtkeegnhjemhblaaGreatDoor.Rf

/-- The two new books. -/
theorem pair_new {w w1 : World} {g b : Nat} (h : BookAt noSp w.heap.size w1 g b []) (hb : Below w.heap.size w w1) : Pair w.heap.size (w1.alloc (.cells #[.slice none 0 0] RbT)) g b [] w1.heap.size (.slice none 0 0) [] [] [] ∧ Below w.heap.size w (w1.alloc (.cells #[.slice none 0 0] RbT)) := by
  have hb2 : Below w1.heap.size w1 (w1.alloc (.cells #[.slice none 0 0] RbT)) := (Below.refl _ _).alloc (Nat.le_refl _) _
  refine ⟨⟨h.below hb2, ⟨(MapKept.heap_alloc w1 _).1, ⟨by rfl, .inl ⟨rfl, rfl⟩⟩, (fun p hp => nomatch hp), (fun hc => by simp [ob, Value.ownBlock] at hc), (fun hc => nomatch hc), (fun x _ hc => nomatch hc), hb.size, List.Pairwise.nil⟩, rfl, rfl, okb_nil, okb_nil, fun x hx hc => ?_⟩, hb.trans (hb2.mono hb.size)⟩
  have h1 := h.ltP x hx
  rcases rbB_cases hc with rfl | hc | ⟨p, hp, _⟩
  · omega
  · simp [ob, Value.ownBlock] at hc
  · cases hp
set_option maxHeartbeats 40000000 in
set_option maxRecDepth 100000 in
theorem plays_law (w : World) (hT : Nm.Tabs w) (v0 v1 : Value) (l m : List OpX) (h0 : OpsAt w v0 l) (h1 : OpsAt w v1 m) :
    Calls Tryz.prog 4 #[v0, v1] w fun e w' => e = .returned (.bool true) ∧ Below w.heap.size w w' := by
  obtain ⟨a0, c0, rfl⟩ : ∃ a c, v0 = .slice a l.length c := by obtain ⟨a, c, e, _⟩ := h0; exact ⟨a, c, e⟩
  obtain ⟨a1, c1, rfl⟩ : ∃ a c, v1 = .slice a m.length c := by obtain ⟨a, c, e, _⟩ := h1; exact ⟨a, c, e⟩
  have hlm : l.length ≤ 9223372036854775807 := by obtain ⟨_, _, _, h, _⟩ := h0; exact h
  have hmm : m.length ≤ 9223372036854775807 := by obtain ⟨_, _, _, h, _⟩ := h1; exact h
  have HL := Lib.hid h0; have HM := Lib.hid h1
  have HTB : Hid (∀ W, Below w.heap.size w W → Nm.Tabs W) := Lib.hid (fun W hw => hT.below hw)
  have NW := Lib.hid (new_any w)
  clear h0 h1 hT
  go_enter Tryz.func4, Tryz.ntmps4
  go_wp2_with fail
  refine NW.out.mono ?_
  rintro e w1 ⟨g, b, rfl, hat, hb1⟩
  obtain ⟨hpn, hbn⟩ := pair_new hat hb1
  obtain ⟨wn, hwn⟩ : ∃ wn, wn = w1.alloc (.cells #[.slice none 0 0] RbT) := ⟨_, rfl⟩
  rw [← hwn] at hpn hbn
  obtain ⟨r, hr⟩ : ∃ r, r = w1.heap.size := ⟨_, rfl⟩
  have HPN := Lib.hid hpn; have HBN := Lib.hid hbn; have HWN := Lib.hid hwn; have HRN := Lib.hid hr
  clear hat hb1 NW hpn hbn hwn hr
  unfold ptr at *
  go_upto_block 0 with (fail)
  rw [← HWN.out, ← HRN.out]
  rw [← HRN.out] at HPN
  refine pl_b0 _ _ _ _ _ _ _ _ _ _ _ _ _ _ _ _ _ _ _ _ _ _ _ _ _ _ _ _ _ _ _ _ _ _ _ _ _ _ _ _ _ _ _ _ _ _ _ _ _ _ _ _ _ _ _ _ _ _ _ _ _ _ _ _ _ _ _ _ _ _ _ _ _ _ _ _ _ _ _ _ _ _ _ _ _ _ _ _ _ _ _ _ _ _ _ _ _ _ _ _ _ _ _ (by intro c a a_ w hd h; have h2 : a.defers = [] ∧ _ := h; exact And.intro (hd.symm.trans h2.1) h2.2) hlm HL HTB HPN HBN ?_
  intro t4 t7 t15 t16 t17 t18 t19 t20 t21 t22 t23 t24 t25 t26 t27 t28 t29 t30 t31 t32 t33 t34 t35 t36 t37 t38 t39 t40 t41 t42 t43 wo h3
  obtain ⟨K, Z1, v, Z2, hpr, hb3⟩ := h3
  have HPR := Lib.hid hpr; have HB := Lib.hid hb3
  clear hpr hb3 HPN HBN
  have C1 := Lib.hid (twin_any w.heap.size wo g b Z1 HPR.out.bk (by rw [HPR.out.e1]; exact HPR.out.ok))
  unfold ptr at *
  go_wp2_with fail
  refine C1.out.mono ?_
  rintro e w2 ⟨g2, b2, T, rfl, ht1, hb1, _, hg1⟩
  have HT1 := Lib.hid ht1; have HB1 := Lib.hid hb1; have HG1 := Lib.hid hg1
  have C2 := Lib.hid (rtwin_any w.heap.size w2 r v Z2 (by have := HPR.out.ok2.size; rwa [← HPR.out.e2, plain_length] at this) (fun p hp => ⟨HPR.out.ok2.len _ (by rw [← HPR.out.e2]; exact plain_mem hp), fun e he => (HPR.out.ok2.ent _ (by rw [← HPR.out.e2]; exact plain_mem hp) e he).1⟩) (HPR.out.rb.below hb1))
  clear ht1 hb1 hg1 C1
  unfold ptr at *
  go_wp2_with fail
  refine C2.out.mono ?_
  rintro e w3 ⟨rfl, hb2, v3, Z3, ht3, hp3⟩
  have HTW := Lib.hid (HPR.out.twin HB1.out HT1.out HG1.out hb2 ht3 hp3)
  have HBW : Hid (Below w.heap.size w w3) := Lib.hid ((HB.out.trans (HB1.out.mono HPR.out.size)).trans (hb2.mono (Nat.le_trans HPR.out.size HB1.out.size)))
  obtain ⟨r3, hr3⟩ : ∃ r3, r3 = w2.heap.size := ⟨_, rfl⟩
  rw [← hr3] at HTW ⊢
  clear hb2 ht3 hp3 C2 hr3
  unfold ptr at *
  go_upto_block 2 with (fail)
  refine pl_b2 _ _ _ _ _ _ _ _ _ _ _ _ _ _ _ _ _ _ _ _ _ _ _ _ _ _ _ _ _ _ _ _ _ _ _ _ _ _ _ _ _ _ _ _ _ _ _ _ _ _ _ _ _ _ _ _ _ _ _ _ _ _ _ _ _ _ _ _ _ _ _ _ _ _ _ _ _ _ _ _ _ _ _ _ _ _ _ _ _ _ _ _ _ _ _ _ _ _ _ _ _ (by intro c a a_ w hd h; have h2 : a.defers = [] ∧ _ := h; exact And.intro (hd.symm.trans h2.1) h2.2) hmm HM HTB HTW HBW ?_
  intro t4 t10 t48 t49 t50 t51 t52 t53 t54 t55 t56 t57 t58 t59 t60 t61 t62 t63 t64 t65 t66 t67 t68 t69 t70 t71 t72 t73 t74 t75 t76 t77 w4 h4
  obtain ⟨Kb, Y1, y, Y2, htw, hb4⟩ := h4
  clear HTW HBW
  have HTW := Lib.hid htw; have HBW := Lib.hid hb4
  clear htw hb4
  go_upto_block 4 with (fail)
  refine pl_b4 _ _ _ _ _ _ _ _ _ _ _ _ _ _ _ _ _ _ _ _ _ _ _ _ _ _ _ _ _ _ _ _ _ _ _ _ _ _ _ _ _ _ _ _ _ _ _ _ _ _ _ _ _ _ _ _ _ _ _ _ _ _ _ _ _ _ _ _ _ _ _ _ _ _ _ _ _ _ _ _ _ _ _ _ _ _ _ _ _ _ _ _ _ _ _ _ _ _ _ _ _ _ _ (by intro c a a_ w hd h; have h2 : a.defers = [] ∧ _ := h; exact And.intro (hd.symm.trans h2.1) h2.2) hmm HM HTB HTW HBW ?_
  intro t4 t11 t78 t79 t80 t81 t82 t83 t84 t85 t86 t87 t88 t89 t90 t91 t92 t93 t94 t95 w5 h5
  obtain ⟨K, Z1, v, Z2, htw, hb5⟩ := h5
  clear HTW HBW
  have HTW := Lib.hid htw; have HB := Lib.hid hb5
  clear htw hb5
  have CS := Lib.hid (same_any HTW.out.p1.bk HTW.out.p1.rb HTW.out.p1.e1 HTW.out.p1.e2 HTW.out.p1.ok [109, 97, 105, 110] (by decide))
  unfold ptr at *
  go_wp2_with fail
  refine CS.out.mono ?_
  rintro e w6 ⟨rfl, hb6⟩
  have HB6 : Hid (Below w.heap.size w w6) := Lib.hid (HB.out.trans (hb6.mono (HTW.out.p1.size)))
  have HT6 := Lib.hid (HTW.out.below hb6)
  have CS2 := Lib.hid (same_any HT6.out.p2.bk HT6.out.p2.rb HT6.out.p2.e1 HT6.out.p2.e2 HT6.out.p2.ok [109, 97, 105, 110] (by decide))
  clear hb6 CS
  unfold ptr at *
  go_wp2_with fail
  refine CS2.out.mono ?_
  rintro e w7 ⟨rfl, hb7⟩
  have HB7 : Hid (Below w.heap.size w w7) := Lib.hid (HB6.out.trans (hb7.mono HT6.out.p1.size))
  have AW := Lib.hid (awake_any w7)
  clear hb7 CS2
  go_wp2_with fail
  refine AW.out.mono ?_
  rintro e w8 ⟨rfl, hb8⟩
  have HB8 : Hid (Below w.heap.size w w8) := Lib.hid (HB7.out.trans (hb8.mono HB7.out.size))
  clear hb8 AW
  go_wp2
  go_ret
  exact ⟨rfl, HB8.out⟩
end Go.Proofs.YtkeegnhjemhblaaGreatDoor.Rb
/-
  What a row that lists the tables of unicode/utf8 gives the contracts that read them.
-/
namespace Go.Proofs.YtkeegnhjemhblaaGreatDoor.Nm
open Go.Lib

theorem gFirst : Tryz.prog.globalNamed "unicode/utf8.first" = some 4 := by kernel_rfl
theorem gAccept : Tryz.prog.globalNamed "unicode/utf8.acceptRanges" = some 5 := by kernel_rfl
theorem tFirst : (Tryz.prog.globals[4]?).map (·.type) = some 288 := by kernel_rfl
theorem tAccept : (Tryz.prog.globals[5]?).map (·.type) = some 291 := by kernel_rfl
theorem cU8 : Tryz.prog.cellsOf 5 = 1 := by kernel_rfl
theorem cFirst : Tryz.prog.cellsOf 288 = 256 := by kernel_rfl
theorem cRange : Tryz.prog.cellsOf 290 = 2 := by kernel_rfl
theorem firstIs : Rows.laid_unicode_utf8_first = firstData := by kernel_rfl
theorem acceptIs : (Rows.laid_unicode_utf8_acceptRanges : DataW Unit) = acceptData := by kernel_rfl

/-- The two tables, out of what the row lists. -/
theorem tabs_of_reads {w : World} (h3 : VarReads Tryz.prog w "unicode/utf8.first" firstData) (h4 : VarReads Tryz.prog w "unicode/utf8.acceptRanges" acceptData) : Tabs w := by
  refine ⟨fun c hc => ?_, fun i hi => ?_⟩
  · obtain ⟨g, t, cs, fuel, p, hg, hty, hvar, hd⟩ := h3
    obtain rfl := Option.some.inj (gFirst.symm.trans hg)
    obtain rfl := Option.some.inj (tFirst.symm.trans hty)
    have hcs := cells_of_tab Tryz.underlying288 Tryz.underlying5 cU8 cFirst hd
    have := World.var?_cell hg hvar c
    rw [this, ← Array.getElem?_toList, hcs]
    simp [firstTab, hc]
  · obtain ⟨g, t, cs, fuel, p, hg, hty, hvar, hd⟩ := h4
    obtain rfl := Option.some.inj (gAccept.symm.trans hg)
    obtain rfl := Option.some.inj (tAccept.symm.trans hty)
    obtain ⟨fuel', d, q, hdi, he⟩ := array_elem Tryz.underlying291 hd i hi
    simp only [List.getElem?_map, List.getElem?_range hi, Option.map_some, Option.some.injEq] at hdi
    subst hdi
    rw [cRange] at he
    have hcs := ints_of_struct Tryz.underlying290 (fun j f hj => by
      match j, hj with
      | 0, hj => simp at hj; subst hj; exact ⟨Tryz.underlying5, rfl, cU8⟩
      | 1, hj => simp at hj; subst hj; exact ⟨Tryz.underlying5, rfl, cU8⟩
      | j + 2, hj => simp at hj) (by rw [cRange]; rfl) he
    have e0 := congrArg (·[0]?) hcs
    have e1 := congrArg (·[1]?) hcs
    simp only [List.getElem?_take, List.getElem?_drop] at e0 e1
    constructor
    · rw [World.var?_cell hg hvar (2 * i), ← Array.getElem?_toList]
      simpa [Nat.mul_comm] using e0
    · rw [World.var?_cell hg hvar (2 * i + 1), ← Array.getElem?_toList]
      simpa [Nat.mul_comm] using e1

theorem tabs_of_laid {W : World} {l : List (String × DataW Unit)} (h : laidMetH Tryz.prog l W) (hp : (l.all fun x => x.2.handleName?.isNone) = true)
    (h1 : ("unicode/utf8.first", Rows.laid_unicode_utf8_first) ∈ l) (h2 : ("unicode/utf8.acceptRanges", Rows.laid_unicode_utf8_acceptRanges) ∈ l) : Tabs W := by
  rw [Go.MakeChecks.laidMetH_plain _ _ _ hp] at h
  exact tabs_of_reads (firstIs ▸ laidMet.reads h h1) (acceptIs ▸ laidMet.reads h h2)
end Go.Proofs.YtkeegnhjemhblaaGreatDoor.Nm
