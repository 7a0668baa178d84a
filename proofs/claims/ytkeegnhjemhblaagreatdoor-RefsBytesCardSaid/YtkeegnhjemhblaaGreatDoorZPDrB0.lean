import Derived.Test.YtkeegnhjemhblaaGreatDoorZPDrKit
import Derived.Test.YtkeegnhjemhblaaGreatDoorZPDeB0
set_option linter.unusedSimpArgs false
set_option linter.unusedVariables false
/-
  The reference's Decode: the outer loop. Printed by gendrb.py.
-/
set_option linter.unusedSimpArgs false
namespace Go.Proofs.YtkeegnhjemhblaaGreatDoor.Rb
open Go.RowKit Go.Maps Go.WideMaps Go.Proofs.YtkeegnhjemhblaaGreatDoor.Rf
set_option linter.unusedSimpArgs false in
set_option maxHeartbeats 40000000 in
set_option maxRecDepth 100000 in
theorem dr_b0 {Q : Exit → Act → World → Prop} (u0 u1 u2 u3 u4 u5 u6 u11 u12 u13 u14 u15 u16 u17 u18 u19 u20 u21 u22 u23 u24 u25 u26 u27 u28 u29 u30 u31 u32 u33 u34 u35 u36 u37 u38 u39 u40 u41 u42 u43 u44 u45 u46 u47 u48 u49 u50 u51 u52 u53 u54 u55 u56 u57 u58 u59 u60 u61 u62 u63 u64 u65 u66 u67 u68 u69 u70 u71 u72 u73 u74 u75 u76 u77 u78 u79 u80 u81 u82 u83 u84 u85 u86 u87 u88 u89 u90 u91 u92 u93 u94 u95 u96 u97 u98 u99 u100 u101 u102 u103 u104 u105 u106 u107 u108 u109 u110 u111 u112 u113 u114 u115 u116 u117 u118 u119 u120 u121 u122 u123 u124 u125 : Value) {w wr : World} {q r n0 : Nat} {L0 l0 : List UInt8} {v0 : Value} {Z0 : BM} {K0 : BK} {T : Option (List UInt8 × BK)}
    (hP : ∀ c (a a' : Act) w, a.defers = a'.defers → Q (.panic c) a w → Q (.panic c) a' w) (hn0 : n0 ≤ 64) (HTB : Hid (∀ W, Below w.heap.size w W → Nm.Tabs W)) (H0 : Hid (RcSt w q r wr L0 v0 Z0 K0)) (HT0 : Hid (goB fR n0 L0 l0 K0 = T)) (HR : T = none → ∀ (t10 t11 t12 t13 t14 t15 t16 t17 t18 t19 t20 t49 t50 t51 t52 t53 t54 t55 t56 t57 t58 t59 t60 t61 t62 t63 t64 t65 t66 t67 t68 t69 t70 t71 t72 t73 t74 t75 t76 t77 t78 t79 t80 t81 t82 t83 t84 t85 t86 t87 t88 t89 t90 t91 t92 t93 t94 t95 t96 t97 t98 t99 t100 t101 t102 t103 t104 t105 t106 t107 t108 t109 t110 t111 t112 t113 t114 t115 t116 t117 t118 t119 t120 : Value) (w' : World), Below w.heap.size w w' → Q .ret ⟨#[u0, u1, .pointer none, .int .i64 4, u4, u5, u6, .pointer (some ⟨q, 0, none⟩), .int .u64 (n0 : Int), .pointer (some ⟨r, 0, none⟩), t10, t11, t12, t13, t14, t15, t16, t17, t18, t19, t20, u21, u22, u23, u24, u25, u26, u27, u28, u29, u30, u31, u32, u33, u34, u35, u36, u37, u38, u39, u40, u41, u42, u43, u44, u45, u46, u47, u48, t49, t50, t51, t52, t53, t54, t55, t56, t57, t58, t59, t60, t61, t62, t63, t64, t65, t66, t67, t68, t69, t70, t71, t72, t73, t74, t75, t76, t77, t78, t79, t80, t81, t82, t83, t84, t85, t86, t87, t88, t89, t90, t91, t92, t93, t94, t95, t96, t97, t98, t99, t100, t101, t102, t103, t104, t105, t106, t107, t108, t109, t110, t111, t112, t113, t114, t115, t116, t117, t118, t119, t120, u121, u122, u123, u124, u125], []⟩ w')
    (HK : ∀ (t2 t3 t10 t11 t12 t13 t14 t15 t16 t17 t18 t19 t20 t49 t50 t51 t52 t53 t54 t55 t56 t57 t58 t59 t60 t61 t62 t63 t64 t65 t66 t67 t68 t69 t70 t71 t72 t73 t74 t75 t76 t77 t78 t79 t80 t81 t82 t83 t84 t85 t86 t87 t88 t89 t90 t91 t92 t93 t94 t95 t96 t97 t98 t99 t100 t101 t102 t103 t104 t105 t106 t107 t108 t109 t110 t111 t112 t113 t114 t115 t116 t117 t118 t119 t120 : Value) (w' : World), (∃ (L : List UInt8) (v : Value) (Z : BM) (K : BK), RcSt w q r w' L v Z K ∧ T = some (L, K)) → Q .normal ⟨#[u0, u1, t2, t3, u4, u5, u6, .pointer (some ⟨q, 0, none⟩), .int .u64 (n0 : Int), .pointer (some ⟨r, 0, none⟩), t10, t11, t12, t13, t14, t15, t16, t17, t18, t19, t20, u21, u22, u23, u24, u25, u26, u27, u28, u29, u30, u31, u32, u33, u34, u35, u36, u37, u38, u39, u40, u41, u42, u43, u44, u45, u46, u47, u48, t49, t50, t51, t52, t53, t54, t55, t56, t57, t58, t59, t60, t61, t62, t63, t64, t65, t66, t67, t68, t69, t70, t71, t72, t73, t74, t75, t76, t77, t78, t79, t80, t81, t82, t83, t84, t85, t86, t87, t88, t89, t90, t91, t92, t93, t94, t95, t96, t97, t98, t99, t100, t101, t102, t103, t104, t105, t106, t107, t108, t109, t110, t111, t112, t113, t114, t115, t116, t117, t118, t119, t120, u121, u122, u123, u124, u125], []⟩ w') :
    Code.wp Tryz.prog (drB 0) Q ⟨#[u0, u1, u2, u3, u4, u5, u6, .pointer (some ⟨q, 0, none⟩), .int .u64 (n0 : Int), .pointer (some ⟨r, 0, none⟩), .int .u64 0, u11, u12, u13, u14, u15, u16, u17, u18, u19, u20, u21, u22, u23, u24, u25, u26, u27, u28, u29, u30, u31, u32, u33, u34, u35, u36, u37, u38, u39, u40, u41, u42, u43, u44, u45, u46, u47, u48, u49, u50, u51, u52, u53, u54, u55, u56, u57, u58, u59, u60, u61, u62, u63, u64, u65, u66, u67, u68, u69, u70, u71, u72, u73, u74, u75, u76, u77, u78, u79, u80, u81, u82, u83, u84, u85, u86, u87, u88, u89, u90, u91, u92, u93, u94, u95, u96, u97, u98, u99, u100, u101, u102, u103, u104, u105, u106, u107, u108, u109, u110, u111, u112, u113, u114, u115, u116, u117, u118, u119, u120, u121, u122, u123, u124, u125], []⟩ wr := by
  have HKH := Lib.hid HK
  clear HK
  conv => arg 2; whnf
  have HRH := Lib.hid HR
  clear HR
  go_wp2
  go_loopw [10] (fun u10 ws => ∃ (i : Nat) (l L : List UInt8) (v : Value) (Z : BM) (K : BK), i ≤ n0 ∧ u10 = .int .u64 (i : Int) ∧ Hid (RcSt w q r ws L v Z K) ∧ Hid (goB fR (n0 - i) L l K = T)) (fun u10 _ => n0 - (RowKit.intOf u10).toNat)
  case atStart => exact ⟨0, l0, L0, v0, Z0, K0, Nat.zero_le _, rfl, H0, HT0⟩
  case round =>
    rename World => ws
    clear H0 HT0
    obtain ⟨i, l, L, v, Z, K, hi, rfl, HS, HT⟩ := hrel
    obtain ⟨wo, hwo⟩ : ∃ wo, wo = ws := ⟨_, rfl⟩
    subst hwo
    by_cases hin : (i : Int) < (n0 : Int)
    · have hi0 : (0 : Int) ≤ (i : Int) := by omega
      obtain ⟨n, hn⟩ : ∃ n, n0 - i = n + 1 := ⟨n0 - i - 1, by omega⟩
      have HG : Hid ((if (Rd.txt 255 L).isSome = true ∧ (rd0 (Rd.txR 255 L)).isSome = true ∧ Rd.shN (Rd.txR 255 L) ≤ 4096 ∧ 0 < Rd.shN (Rd.txR 255 L) ∧ fR l (Rd.txT 255 L) K = true then (goE (Rd.txT 255 L) (Rd.shN (Rd.txR 255 L)) (Rd.shR (Rd.txR 255 L)) K).bind (fun p => goB fR n p.1 (Rd.txT 255 L) p.2) else none) = T) := Lib.hid (by rw [← HT.out, hn, goB])
      have HN : Hid (n0 - (i + 1) = n) := Lib.hid (by omega)
      clear hn HT
      have TX := Lib.hid (Rd.rtext_any wo q L 255 (by decide) HS.out.len HS.out.rd)
      unfold ptr at *
      go_wp2_with fail
      refine TX.out.mono ?_
      rintro e w9 ⟨rfl, hr9, t9⟩
      have st9 := HS.out.read hr9 t9 (txR_le 255 L)
      have UI := Lib.hid (Rd.ruint_any w9 q (Rd.txR 255 L) st9.len st9.rd)
      have ST9 := Lib.hid st9
      clear TX hr9 t9 st9
      unfold ptr at *
      go_wp2_with fail
      refine UI.out.mono ?_
      rintro e w10 ⟨rfl, hr10, t10⟩
      have st10 := ST9.out.read hr10 t10 (Rd.shR_le' _)
      have ST10 := Lib.hid st10
      have HB10 := Lib.hid st10.be
      clear UI hr10 t10 st10
      obtain ⟨ec, hec⟩ : ∃ ec, ec = Rd.txE 255 L := ⟨_, rfl⟩
      have HEC : Hid (ec = if (Rd.txt 255 L).isSome then 0 else 4) := Lib.hid (by rw [hec, Rd.txE])
      obtain ⟨fc, hfc⟩ : ∃ fc, fc = Rd.shE (Rd.txR 255 L) := ⟨_, rfl⟩
      have HFC : Hid (fc = if (rd0 (Rd.txR 255 L)).isSome then 0 else 4) := Lib.hid (by rw [hfc, Rd.shE])
      obtain ⟨m, hm⟩ : ∃ m, m = Rd.shN (Rd.txR 255 L) := ⟨_, rfl⟩
      obtain ⟨k, hk⟩ : ∃ k, k = Rd.txT 255 L := ⟨_, rfl⟩
      have HML : Hid (m < 18446744073709551616) := Lib.hid (by rw [hm]; exact Rd.shN_lt _)
      have HKL : Hid (k.length ≤ 255) := Lib.hid (by rw [hk]; exact txT_le 255 L)
      rw [← hm, ← hk] at HG
      rw [← hec, ← hfc, ← hm, ← hk]
      clear hec hfc hm hk
      cases hs : (Rd.txt 255 L).isSome with
      | false =>
        have he : ec = 4 := by rw [HEC.out, hs]; rfl
        subst he
        have HTN : Hid (T = none) := Lib.hid (by rw [← HG.out, if_neg]; rintro ⟨h2, _⟩; rw [hs] at h2; cases h2)
        clear hs
        go_wp2
        exact HRH.out HTN.out _ _ _ _ _ _ _ _ _ _ _ _ _ _ _ _ _ _ _ _ _ _ _ _ _ _ _ _ _ _ _ _ _ _ _ _ _ _ _ _ _ _ _ _ _ _ _ _ _ _ _ _ _ _ _ _ _ _ _ _ _ _ _ _ _ _ _ _ _ _ _ _ _ _ _ _ _ _ _ _ _ _ _ _ HB10.out
      | true =>
        have he : ec = 0 := by rw [HEC.out, hs]; rfl
        subst he
        cases hs2 : (rd0 (Rd.txR 255 L)).isSome with
        | false =>
          have hf : fc = 4 := by rw [HFC.out, hs2]; rfl
          subst hf
          have HTN : Hid (T = none) := Lib.hid (by rw [← HG.out, if_neg]; rintro ⟨_, h2, _⟩; rw [hs2] at h2; cases h2)
          clear hs hs2
          go_wp2
          exact HRH.out HTN.out _ _ _ _ _ _ _ _ _ _ _ _ _ _ _ _ _ _ _ _ _ _ _ _ _ _ _ _ _ _ _ _ _ _ _ _ _ _ _ _ _ _ _ _ _ _ _ _ _ _ _ _ _ _ _ _ _ _ _ _ _ _ _ _ _ _ _ _ _ _ _ _ _ _ _ _ _ _ _ _ _ _ _ _ HB10.out
        | true =>
          have hf : fc = 0 := by rw [HFC.out, hs2]; rfl
          subst hf
          by_cases hm0 : m = 0
          · subst hm0
            have HTN : Hid (T = none) := Lib.hid (by rw [← HG.out, if_neg]; rintro ⟨_, _, _, h2, _⟩; exact absurd h2 (by decide))
            clear hs hs2
            go_wp2
            exact HRH.out HTN.out _ _ _ _ _ _ _ _ _ _ _ _ _ _ _ _ _ _ _ _ _ _ _ _ _ _ _ _ _ _ _ _ _ _ _ _ _ _ _ _ _ _ _ _ _ _ _ _ _ _ _ _ _ _ _ _ _ _ _ _ _ _ _ _ _ _ _ _ _ _ _ _ _ _ _ _ _ _ _ _ _ _ _ _ HB10.out
          · have hm1 : ¬ (m : Int) < 1 := by omega
            have hm1d : decide ((m : Int) < 1) = false := by simp; omega
            by_cases hbig : 4096 < m
            · have hm2 : (4096 : Int) < (m : Int) := by omega
              have HTN : Hid (T = none) := Lib.hid (by rw [← HG.out, if_neg]; rintro ⟨_, _, h2, _⟩; omega)
              clear hs hs2 hbig hm0
              go_wp2
              exact HRH.out HTN.out _ _ _ _ _ _ _ _ _ _ _ _ _ _ _ _ _ _ _ _ _ _ _ _ _ _ _ _ _ _ _ _ _ _ _ _ _ _ _ _ _ _ _ _ _ _ _ _ _ _ _ _ _ _ _ _ _ _ _ _ _ _ _ _ _ _ _ _ _ _ _ _ _ _ _ _ _ _ _ _ _ _ _ _ HB10.out
            · have hm2 : ¬ (4096 : Int) < (m : Int) := by omega
              have hm2d : decide ((4096 : Int) < (m : Int)) = false := by simp; omega
              have AT := Lib.hid (rat_any (q + 1) w10 r v Z k (by have := ST10.out.kk.size; rw [← ST10.out.pl, plain_length] at this; omega) ST10.out.bk)
              have HAN := Lib.hid (atI_neg (Z := Z) (k := k))
              obtain ⟨ai, hai⟩ : ∃ ai, ai = atI Z k := ⟨_, rfl⟩
              rw [← hai] at AT HAN
              rw [ST10.out.pl] at HAN
              have HMB : Hid (m ≤ 4096 ∧ 0 < m) := Lib.hid ⟨by omega, by omega⟩
              clear hai hm0 hbig
              by_cases ha : 0 ≤ ai
              · have HTN : Hid (T = none) := Lib.hid (by rw [← HG.out, if_neg]; rintro ⟨_, _, _, _, h2⟩; rw [fR, HAN.out.1 ha] at h2; cases h2)
                clear hs hs2
                go_wp2_with fail
                refine AT.out.mono ?_
                rintro e w11 ⟨rfl, hb11⟩
                have HB11 := Lib.hid (HB10.out.trans (hb11.mono HB10.out.size))
                clear hb11
                go_wp2
                exact HRH.out HTN.out _ _ _ _ _ _ _ _ _ _ _ _ _ _ _ _ _ _ _ _ _ _ _ _ _ _ _ _ _ _ _ _ _ _ _ _ _ _ _ _ _ _ _ _ _ _ _ _ _ _ _ _ _ _ _ _ _ _ _ _ _ _ _ _ _ _ _ _ _ _ _ _ _ _ _ _ _ _ _ _ _ _ _ _ HB11.out
              · have HT2 : Hid ((goE k m (Rd.shR (Rd.txR 255 L)) K).bind (fun p => goB fR n p.1 k p.2) = T) := Lib.hid (by
                  have hg := HG.out
                  rwa [if_pos ⟨hs, hs2, HMB.out.1, HMB.out.2, by
                    rw [fR]
                    cases hz : (getM K k).isNone with
                    | true => rfl
                    | false => exact absurd (HAN.out.2 hz) ha⟩] at hg)
                have had : decide (0 ≤ ai) = false := by simp; omega
                clear hs hs2
                go_wp2_with fail
                refine AT.out.mono ?_
                rintro e w11 ⟨rfl, hb11⟩
                have HS11 := Lib.hid (ST10.out.below hb11)
                clear hb11 AT
                go_upto_block 2 with (fail)
                refine dr_b2 (T := goE k m (Rd.shR (Rd.txR 255 L)) K) _ _ _ _ _ _ _ _ _ _ _ _ _ _ _ _ _ _ _ _ _ _ _ _ _ _ _ _ _ _ _ _ _ _ _ _ _ _ _ _ _ _ _ _ _ _ _ _ _ _ _ _ _ _ _ _ _ _ _ _ _ _ _ _ _ _ _ _ _ _ _ _ _ _ _ _ _ _ _ _ _ _ _ _ _ _ _ _ _ _ _ _ _ _ _ _ _ _ _ _ _ _ _ _ _ _ _ _ _ _ _ _ _ _ _ _ _ _ _ _ _ (fun c a a_ w hd h => hP c a a_ w hd h) HMB.out.1 HKL.out HTB HS11 (Lib.hid rfl) ?_ ?_
                · intro hnn t15 t16 t17 t18 t19 t20 t84 t85 t86 t87 t88 t89 t90 t91 t92 t93 t94 t95 t96 t97 t98 t99 t100 t101 t102 t103 t104 t105 t106 t107 t108 t109 t110 t111 t112 t113 t114 t115 t116 t117 t118 t119 t120 wz hbz
                  have HTN : Hid (T = none) := Lib.hid (by rw [← HT2.out, hnn]; rfl)
                  exact HRH.out HTN.out _ _ _ _ _ _ _ _ _ _ _ _ _ _ _ _ _ _ _ _ _ _ _ _ _ _ _ _ _ _ _ _ _ _ _ _ _ _ _ _ _ _ _ _ _ _ _ _ _ _ _ _ _ _ _ _ _ _ _ _ _ _ _ _ _ _ _ _ _ _ _ _ _ _ _ _ _ _ _ _ _ _ _ _ hbz
                · intro t2 t3 t15 t16 t17 t18 t19 t20 t84 t85 t86 t87 t88 t89 t90 t91 t92 t93 t94 t95 t96 t97 t98 t99 t100 t101 t102 t103 t104 t105 t106 t107 t108 t109 t110 t111 t112 t113 t114 t115 t116 t117 t118 t119 t120 wz hz
                  obtain ⟨Lz, vz, Zz, Kz, hsz, htz⟩ := hz
                  have HSZ := Lib.hid hsz
                  have HTZ : Hid (goB fR (n0 - (i + 1)) Lz k Kz = T) := Lib.hid (by rw [← HT2.out, htz, HN.out]; rfl)
                  clear hsz htz
                  go_wp2
                  go_roundw
                  case rel => exact ⟨i + 1, k, Lz, vz, Zz, Kz, by omega, by go_num, HSZ, HTZ⟩
                  case measure => first | (simp [RowKit.intOf]; done) | (simp [RowKit.intOf]; omega)
    · obtain rfl : i = n0 := by omega
      have HTN : Hid (T = some (L, K)) := Lib.hid (by rw [← HT.out, Nat.sub_self]; rfl)
      go_wp2
      exact HKH.out _ _ _ _ _ _ _ _ _ _ _ _ _ _ _ _ _ _ _ _ _ _ _ _ _ _ _ _ _ _ _ _ _ _ _ _ _ _ _ _ _ _ _ _ _ _ _ _ _ _ _ _ _ _ _ _ _ _ _ _ _ _ _ _ _ _ _ _ _ _ _ _ _ _ _ _ _ _ _ _ _ _ _ _ _ _ ⟨L, v, Z, K, HS.out, HTN.out⟩
end Go.Proofs.YtkeegnhjemhblaaGreatDoor.Rb
