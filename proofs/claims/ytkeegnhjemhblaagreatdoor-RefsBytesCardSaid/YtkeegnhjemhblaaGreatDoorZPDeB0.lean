import Derived.Test.YtkeegnhjemhblaaGreatDoorZPDeB2
set_option linter.unusedSimpArgs false
set_option linter.unusedVariables false
/-
  The program's Decode: the outer loop. Printed by gendeb0.py.
-/
set_option linter.unusedSimpArgs false
namespace Go.Proofs.YtkeegnhjemhblaaGreatDoor.Rb
open Go.RowKit Go.Maps Go.WideMaps Go.Proofs.YtkeegnhjemhblaaGreatDoor.Rf
theorem txR_le (n : Nat) (L : List UInt8) : (Rd.txR n L).length ≤ L.length := by
  unfold Rd.txR Rd.txt
  cases rd0 L with
  | none => exact Nat.le_refl _
  | some p =>
    dsimp only
    split
    · next p' h =>
      split at h
      · injection h with h; subst h; simp only [List.length_drop]; omega
      · cases h
    · exact Nat.le_refl _
theorem txT_le (n : Nat) (L : List UInt8) : (Rd.txT n L).length ≤ n := by
  unfold Rd.txT Rd.txt
  cases rd0 L with
  | none => exact Nat.zero_le _
  | some p =>
    dsimp only
    split
    · next p' h =>
      split at h
      · next hc => injection h with h; subst h; simp only [List.length_take]; omega
      · cases h
    · exact Nat.zero_le _
set_option linter.unusedSimpArgs false in
set_option maxHeartbeats 40000000 in
set_option maxRecDepth 100000 in
theorem de_b0 {Q : Exit → Act → World → Prop} (u0 u1 u2 u3 u4 u5 u6 u13 u14 u15 u16 u17 u18 u19 u20 u21 u22 u23 u24 u25 u26 u27 u28 u29 u30 u31 u32 u33 u34 u35 u36 u37 u38 u39 u40 u41 u42 u43 u44 u45 u46 u47 u48 u49 u50 u51 u52 u53 u54 u55 u56 u57 u58 u59 u60 u61 u62 u63 u64 u65 u66 u67 u68 u69 u70 u71 u72 u73 u74 u75 u76 u77 u78 u79 u80 u81 u82 u83 u84 u85 u86 u87 u88 u89 u90 u91 u92 u93 u94 u95 u96 u97 u98 u99 u100 u101 u102 u103 u104 u105 : Value) {w wr : World} {q gt bt n0 : Nat} {ok0 : Bool} {L0 l0 : List UInt8} {Z0 : BM} {K0 : BK} {T : Option (List UInt8 × BK)}
    (hP : ∀ c (a a' : Act) w, a.defers = a'.defers → Q (.panic c) a w → Q (.panic c) a' w) (hn0 : n0 < 18446744073709551616) (hl0 : l0.length ≤ 255) (H0 : Hid (DcSt w q gt bt wr ok0 L0 Z0 K0)) (HT0 : Hid ((ok0 = true → goB fP n0 L0 l0 K0 = T) ∧ (ok0 = false → T = none)))
    (HK : ∀ (t11 t12 t13 t14 t15 t16 t17 t18 t37 t38 t39 t40 t41 t42 t43 t44 t45 t46 t47 t48 t49 t50 t51 t52 t53 t54 t55 t56 t57 t58 t59 t60 t61 t62 t63 t64 t65 t66 t67 t68 t69 t70 t71 t72 t73 t74 t75 t76 t77 t78 t79 t80 t81 t82 t83 t84 t85 t86 t87 t88 t89 t90 t91 t92 t93 t94 t95 t96 t97 : Value) (w' : World), (∃ (ok : Bool) (L : List UInt8) (Z : BM) (K : BK), DcSt w q gt bt w' ok L Z K ∧ (ok = true → T = some (L, K)) ∧ (ok = false → T = none)) → Q .normal ⟨#[u0, u1, u2, u3, u4, u5, u6, .pointer (some ⟨q + 1, 0, none⟩), .pointer (some ⟨q + 1 + 1, 0, none⟩), .func (.func 33) #[] #[.pointer (some ⟨q + 1, 0, none⟩), .pointer (some ⟨q + 1 + 1, 0, none⟩)], .pointer (some ⟨gt, 0, none⟩), t11, t12, t13, t14, t15, t16, t17, t18, u19, u20, u21, u22, u23, u24, u25, u26, u27, u28, u29, u30, u31, u32, u33, u34, u35, u36, t37, t38, t39, t40, t41, t42, t43, t44, t45, t46, t47, t48, t49, t50, t51, t52, t53, t54, t55, t56, t57, t58, t59, t60, t61, t62, t63, t64, t65, t66, t67, t68, t69, t70, t71, t72, t73, t74, t75, t76, t77, t78, t79, t80, t81, t82, t83, t84, t85, t86, t87, t88, t89, t90, t91, t92, t93, t94, t95, t96, t97, u98, u99, u100, u101, u102, u103, u104, u105], []⟩ w') :
    Code.wp Tryz.prog (deB 0) Q ⟨#[u0, u1, u2, u3, u4, u5, u6, .pointer (some ⟨q + 1, 0, none⟩), .pointer (some ⟨q + 1 + 1, 0, none⟩), .func (.func 33) #[] #[.pointer (some ⟨q + 1, 0, none⟩), .pointer (some ⟨q + 1 + 1, 0, none⟩)], .pointer (some ⟨gt, 0, none⟩), .string ⟨l0.toArray⟩, .int .u64 (n0 : Int), u13, u14, u15, u16, u17, u18, u19, u20, u21, u22, u23, u24, u25, u26, u27, u28, u29, u30, u31, u32, u33, u34, u35, u36, u37, u38, u39, u40, u41, u42, u43, u44, u45, u46, u47, u48, u49, u50, u51, u52, u53, u54, u55, u56, u57, u58, u59, u60, u61, u62, u63, u64, u65, u66, u67, u68, u69, u70, u71, u72, u73, u74, u75, u76, u77, u78, u79, u80, u81, u82, u83, u84, u85, u86, u87, u88, u89, u90, u91, u92, u93, u94, u95, u96, u97, u98, u99, u100, u101, u102, u103, u104, u105], []⟩ wr := by
  have HKH := Lib.hid HK
  clear HK
  conv => arg 2; whnf
  go_wp2
  go_loopw [11, 12, 13, 14, 15, 16, 17, 18] (fun u11 u12 _ _ _ _ _ _ ws => ∃ (n : Nat) (l : List UInt8) (ok : Bool) (L : List UInt8) (Z : BM) (K : BK), n < 18446744073709551616 ∧ l.length ≤ 255 ∧ u11 = .string ⟨l.toArray⟩ ∧ u12 = .int .u64 (n : Int) ∧ Hid (DcSt w q gt bt ws ok L Z K) ∧ Hid ((ok = true → goB fP n L l K = T) ∧ (ok = false → T = none))) (fun _ u12 _ _ _ _ _ _ _ => (RowKit.intOf u12).toNat)
  case atStart => exact ⟨n0, l0, ok0, L0, Z0, K0, hn0, hl0, rfl, rfl, H0, HT0⟩
  case round =>
    rename World => ws
    clear H0 HT0 hn0 hl0
    obtain ⟨n, l, ok, L, Z, K, hn, hll, rfl, rfl, HS, HT⟩ := hrel
    obtain ⟨wo, hwo⟩ : ∃ wo, wo = ws := ⟨_, rfl⟩
    subst hwo
    have c8 : wo.cell? ⟨q + 1 + 1, 0, none⟩ = some (.bool ok) := cell_of_heap HS.out.ov
    have c7 : wo.cell? ⟨q + 1, 0, none⟩ = some (.pointer (some ⟨q, 0, none⟩)) := cell_of_heap HS.out.rv
    cases ok with
    | false =>
      have HTN := Lib.hid (HT.out.2 rfl)
      go_wp2
      exact HKH.out _ _ _ _ _ _ _ _ _ _ _ _ _ _ _ _ _ _ _ _ _ _ _ _ _ _ _ _ _ _ _ _ _ _ _ _ _ _ _ _ _ _ _ _ _ _ _ _ _ _ _ _ _ _ _ _ _ _ _ _ _ _ _ _ _ _ _ _ _ _ ⟨false, L, Z, K, HS.out, (fun h => Bool.noConfusion h), fun _ => HTN.out⟩
    | true =>
      cases n with
      | zero =>
        have HTN := Lib.hid (HT.out.1 rfl)
        go_wp2
        exact HKH.out _ _ _ _ _ _ _ _ _ _ _ _ _ _ _ _ _ _ _ _ _ _ _ _ _ _ _ _ _ _ _ _ _ _ _ _ _ _ _ _ _ _ _ _ _ _ _ _ _ _ _ _ _ _ _ _ _ _ _ _ _ _ _ _ _ _ _ _ _ _ ⟨true, L, Z, K, HS.out, (fun _ => HTN.out.symm), (fun h => Bool.noConfusion h)⟩
      | succ n =>
        have hmp : (0 : Int) < ((n + 1 : Nat) : Int) := by omega
        have HTG := Lib.hid (HT.out.1 rfl)
        have TX := Lib.hid (Rd.text_any wo q L 255 (by decide) HS.out.len HS.out.rd)
        unfold ptr at *
        go_wp2_with fail
        refine TX.out.mono ?_
        rintro e w9 ⟨rfl, hr9, t9⟩
        have st9 := HS.out.read hr9 t9 (txR_le 255 L)
        have N3 := Lib.hid (number_any w w9 q gt bt true (Rd.txR 255 L) Z K 4096 (by decide) st9)
        clear TX hr9 t9 c7 c8 st9
        unfold ptr at *
        go_wp2_with fail
        refine N3.out.mono ?_
        rintro e w10 ⟨rfl, st10⟩
        have ST10 := Lib.hid st10
        have c8 : w10.cell? ⟨q + 1 + 1, 0, none⟩ = some (.bool (okN true (Rd.txR 255 L) 4096)) := cell_of_heap st10.ov
        have f8 : w10.frozen? ⟨q + 1 + 1, 0, none⟩ = false := frozen_of_heap st10.ov
        clear N3 st10
        have hdec2 : IntKind.u64.wrap (((n + 1 : Nat) : Int) - 1) = (n : Int) := by rw [IntKind.wrap_u64]; omega
        obtain ⟨okn, hokn⟩ : ∃ okn, okn = okN true (Rd.txR 255 L) 4096 := ⟨_, rfl⟩
        rw [← hokn] at c8 ST10
        have HOKN := Lib.hid hokn
        obtain ⟨k, hk⟩ : ∃ k, k = Rd.txT 255 L := ⟨_, rfl⟩
        obtain ⟨m, hm⟩ : ∃ m, m = Rd.shN (Rd.txR 255 L) := ⟨_, rfl⟩
        have HKL : Hid (k.length ≤ 255) := Lib.hid (by rw [hk]; exact txT_le 255 L)
        have HMB : Hid (m < 18446744073709551616) := Lib.hid (by rw [hm]; exact Rd.shN_lt _)
        have HG : Hid (goB fP (n + 1) L l K = if (Rd.txt 255 L).isSome = true ∧ (rd0 (Rd.txR 255 L)).isSome = true ∧ m ≤ 4096 ∧ 0 < m ∧ lt l k = true then (goE k m (Rd.shR (Rd.txR 255 L)) K).bind (fun p => goB fP n p.1 k p.2) else none) := Lib.hid (by
          rw [goB, ← hk, ← hm]; rfl)
        have HFF : Hid (DcSt w q gt bt (w10.setCell ⟨q + 1 + 1, 0, none⟩ (.bool false)) false (Rd.shR (Rd.txR 255 L)) Z K) := Lib.hid (ST10.out.okCell false)
        have HTT : Hid (DcSt w q gt bt (w10.setCell ⟨q + 1 + 1, 0, none⟩ (.bool true)) true (Rd.shR (Rd.txR 255 L)) Z K) := Lib.hid (ST10.out.okCell true)
        rw [← hk, ← hm]
        have HM := Lib.hid hm
        clear hokn hk hm
        obtain ⟨ec, hec⟩ : ∃ ec, ec = Rd.txE 255 L := ⟨_, rfl⟩
        have HEC : Hid (ec = if (Rd.txt 255 L).isSome then 0 else 4) := Lib.hid (by rw [hec, Rd.txE])
        rw [← hec]
        clear hec
        cases okn with
        | false =>
          have HF := HFF
          have HTB : Hid ((none : Option (List UInt8 × BK)).bind (fun p => goB fP n p.1 k p.2) = T) := Lib.hid (by
            rw [← HTG.out, HG.out, if_neg]; · rfl
            rintro ⟨_, h2, h3, _⟩
            have h4 := HOKN.out
            rw [okN, h2, ← HM.out] at h4
            simp at h4
            try omega)
          go_upto_block 2 with (fail)
          refine de_b2 (T := none) _ _ _ _ _ _ _ _ _ _ _ _ _ _ _ _ _ _ _ _ _ _ _ _ _ _ _ _ _ _ _ _ _ _ _ _ _ _ _ _ _ _ _ _ _ _ _ _ _ _ _ _ _ _ _ _ _ _ _ _ _ _ _ _ _ _ _ _ _ _ _ _ _ _ _ _ _ _ _ _ _ _ _ _ _ _ _ _ _ _ _ _ _ _ _ _ _ _ _ _ (fun c a a_ w hd h => hP c a a_ w hd h) HMB.out HKL.out HF (Lib.hid ⟨(fun h => Bool.noConfusion h), fun _ => rfl⟩) ?_
          intro t15 t16 t17 t18 t66 t67 t68 t69 t70 t71 t72 t73 t74 t75 t76 t77 t78 t79 t80 t81 t82 t83 t84 t85 t86 t87 t88 t89 t90 t91 t92 t93 t94 t95 t96 t97 wz hz
          obtain ⟨oz, Lz, Zz, Kz, hsz, hz1, hz2⟩ := hz
          have HSZ := Lib.hid hsz
          have HTZ : Hid ((oz = true → goB fP n Lz k Kz = T) ∧ (oz = false → T = none)) := Lib.hid ⟨(fun h => by rw [← HTB.out, hz1 h]; rfl), (fun h => by rw [← HTB.out, hz2 h]; rfl)⟩
          clear hsz hz1 hz2
          go_wp2
          go_roundw
          case rel => exact ⟨n, k, oz, Lz, Zz, Kz, by omega, HKL.out, rfl, by go_num, HSZ, HTZ⟩
          case measure => first | (simp [RowKit.intOf]; done) | (simp [RowKit.intOf]; omega)
        | true =>
          have HX : Hid ((rd0 (Rd.txR 255 L)).isSome = true ∧ m ≤ 4096) := Lib.hid (by
            have h4 := HOKN.out
            rw [okN, ← HM.out] at h4
            simp at h4; exact ⟨h4.1, h4.2⟩)
          cases ht : (Rd.txt 255 L).isSome with
          | false =>
            have he : ec = 4 := by rw [HEC.out, ht]; rfl
            subst he
            have HF := HFF
            have HTB : Hid ((none : Option (List UInt8 × BK)).bind (fun p => goB fP n p.1 k p.2) = T) := Lib.hid (by
              rw [← HTG.out, HG.out, if_neg]; · rfl
              rintro ⟨h1, _⟩
              rw [ht] at h1; cases h1)
            clear ht
            go_upto_block 2 with (fail)
            refine de_b2 (T := none) _ _ _ _ _ _ _ _ _ _ _ _ _ _ _ _ _ _ _ _ _ _ _ _ _ _ _ _ _ _ _ _ _ _ _ _ _ _ _ _ _ _ _ _ _ _ _ _ _ _ _ _ _ _ _ _ _ _ _ _ _ _ _ _ _ _ _ _ _ _ _ _ _ _ _ _ _ _ _ _ _ _ _ _ _ _ _ _ _ _ _ _ _ _ _ _ _ _ _ _ (fun c a a_ w hd h => hP c a a_ w hd h) HMB.out HKL.out HF (Lib.hid ⟨(fun h => Bool.noConfusion h), fun _ => rfl⟩) ?_
            intro t15 t16 t17 t18 t66 t67 t68 t69 t70 t71 t72 t73 t74 t75 t76 t77 t78 t79 t80 t81 t82 t83 t84 t85 t86 t87 t88 t89 t90 t91 t92 t93 t94 t95 t96 t97 wz hz
            obtain ⟨oz, Lz, Zz, Kz, hsz, hz1, hz2⟩ := hz
            have HSZ := Lib.hid hsz
            have HTZ : Hid ((oz = true → goB fP n Lz k Kz = T) ∧ (oz = false → T = none)) := Lib.hid ⟨(fun h => by rw [← HTB.out, hz1 h]; rfl), (fun h => by rw [← HTB.out, hz2 h]; rfl)⟩
            clear hsz hz1 hz2
            go_wp2
            go_roundw
            case rel => exact ⟨n, k, oz, Lz, Zz, Kz, by omega, HKL.out, rfl, by go_num, HSZ, HTZ⟩
            case measure => first | (simp [RowKit.intOf]; done) | (simp [RowKit.intOf]; omega)
          | true =>
            have he : ec = 0 := by rw [HEC.out, ht]; rfl
            subst he
            have HTX := Lib.hid ht
            clear ht
            by_cases hmz : m = 0
            · subst hmz
              have HF := HFF
              have HTB : Hid ((none : Option (List UInt8 × BK)).bind (fun p => goB fP n p.1 k p.2) = T) := Lib.hid (by
                rw [← HTG.out, HG.out, if_neg]; · rfl
                rintro ⟨_, _, _, h1, _⟩
                exact absurd h1 (by decide))
              go_upto_block 2 with (fail)
              refine de_b2 (T := none) _ _ _ _ _ _ _ _ _ _ _ _ _ _ _ _ _ _ _ _ _ _ _ _ _ _ _ _ _ _ _ _ _ _ _ _ _ _ _ _ _ _ _ _ _ _ _ _ _ _ _ _ _ _ _ _ _ _ _ _ _ _ _ _ _ _ _ _ _ _ _ _ _ _ _ _ _ _ _ _ _ _ _ _ _ _ _ _ _ _ _ _ _ _ _ _ _ _ _ _ (fun c a a_ w hd h => hP c a a_ w hd h) HMB.out HKL.out HF (Lib.hid ⟨(fun h => Bool.noConfusion h), fun _ => rfl⟩) ?_
              intro t15 t16 t17 t18 t66 t67 t68 t69 t70 t71 t72 t73 t74 t75 t76 t77 t78 t79 t80 t81 t82 t83 t84 t85 t86 t87 t88 t89 t90 t91 t92 t93 t94 t95 t96 t97 wz hz
              obtain ⟨oz, Lz, Zz, Kz, hsz, hz1, hz2⟩ := hz
              have HSZ := Lib.hid hsz
              have HTZ : Hid ((oz = true → goB fP n Lz k Kz = T) ∧ (oz = false → T = none)) := Lib.hid ⟨(fun h => by rw [← HTB.out, hz1 h]; rfl), (fun h => by rw [← HTB.out, hz2 h]; rfl)⟩
              clear hsz hz1 hz2
              go_wp2
              go_roundw
              case rel => exact ⟨n, k, oz, Lz, Zz, Kz, by omega, HKL.out, rfl, by go_num, HSZ, HTZ⟩
              case measure => first | (simp [RowKit.intOf]; done) | (simp [RowKit.intOf]; omega)
            · have hm0 : (0 : Int) < (m : Int) := by omega
              have LS := Lib.hid (less_any w10 l k)
              have HM1 : Hid (0 < m) := Lib.hid (by omega)
              clear hmz
              cases hlt : lt l k with
              | false =>
                have HF := HFF
                have HTB : Hid ((none : Option (List UInt8 × BK)).bind (fun p => goB fP n p.1 k p.2) = T) := Lib.hid (by
                  rw [← HTG.out, HG.out, if_neg]; · rfl
                  rintro ⟨_, _, _, _, h1⟩
                  rw [hlt] at h1; cases h1)
                rw [hlt] at LS
                clear hlt
                go_upto_block 2 with (go_at_call 36; refine LS.out.mono ?_; rintro e w70 ⟨rfl, rfl⟩)
                refine de_b2 (T := none) _ _ _ _ _ _ _ _ _ _ _ _ _ _ _ _ _ _ _ _ _ _ _ _ _ _ _ _ _ _ _ _ _ _ _ _ _ _ _ _ _ _ _ _ _ _ _ _ _ _ _ _ _ _ _ _ _ _ _ _ _ _ _ _ _ _ _ _ _ _ _ _ _ _ _ _ _ _ _ _ _ _ _ _ _ _ _ _ _ _ _ _ _ _ _ _ _ _ _ _ (fun c a a_ w hd h => hP c a a_ w hd h) HMB.out HKL.out HF (Lib.hid ⟨(fun h => Bool.noConfusion h), fun _ => rfl⟩) ?_
                intro t15 t16 t17 t18 t66 t67 t68 t69 t70 t71 t72 t73 t74 t75 t76 t77 t78 t79 t80 t81 t82 t83 t84 t85 t86 t87 t88 t89 t90 t91 t92 t93 t94 t95 t96 t97 wz hz
                obtain ⟨oz, Lz, Zz, Kz, hsz, hz1, hz2⟩ := hz
                have HSZ := Lib.hid hsz
                have HTZ : Hid ((oz = true → goB fP n Lz k Kz = T) ∧ (oz = false → T = none)) := Lib.hid ⟨(fun h => by rw [← HTB.out, hz1 h]; rfl), (fun h => by rw [← HTB.out, hz2 h]; rfl)⟩
                clear hsz hz1 hz2
                go_wp2
                go_roundw
                case rel => exact ⟨n, k, oz, Lz, Zz, Kz, by omega, HKL.out, rfl, by go_num, HSZ, HTZ⟩
                case measure => first | (simp [RowKit.intOf]; done) | (simp [RowKit.intOf]; omega)
              | true =>
                have HTB : Hid ((goE k m (Rd.shR (Rd.txR 255 L)) K).bind (fun p => goB fP n p.1 k p.2) = T) := Lib.hid (by
                  rw [← HTG.out, HG.out, if_pos ⟨HTX.out, HX.out.1, HX.out.2, HM1.out, hlt⟩])
                rw [hlt] at LS
                clear hlt
                go_upto_block 2 with (go_at_call 36; refine LS.out.mono ?_; rintro e w70 ⟨rfl, rfl⟩)
                refine de_b2 (T := (goE k m (Rd.shR (Rd.txR 255 L)) K)) _ _ _ _ _ _ _ _ _ _ _ _ _ _ _ _ _ _ _ _ _ _ _ _ _ _ _ _ _ _ _ _ _ _ _ _ _ _ _ _ _ _ _ _ _ _ _ _ _ _ _ _ _ _ _ _ _ _ _ _ _ _ _ _ _ _ _ _ _ _ _ _ _ _ _ _ _ _ _ _ _ _ _ _ _ _ _ _ _ _ _ _ _ _ _ _ _ _ _ _ (fun c a a_ w hd h => hP c a a_ w hd h) HMB.out HKL.out HTT (Lib.hid ⟨fun _ => rfl, (fun h => Bool.noConfusion h)⟩) ?_
                intro t15 t16 t17 t18 t66 t67 t68 t69 t70 t71 t72 t73 t74 t75 t76 t77 t78 t79 t80 t81 t82 t83 t84 t85 t86 t87 t88 t89 t90 t91 t92 t93 t94 t95 t96 t97 wz hz
                obtain ⟨oz, Lz, Zz, Kz, hsz, hz1, hz2⟩ := hz
                have HSZ := Lib.hid hsz
                have HTZ : Hid ((oz = true → goB fP n Lz k Kz = T) ∧ (oz = false → T = none)) := Lib.hid ⟨(fun h => by rw [← HTB.out, hz1 h]; rfl), (fun h => by rw [← HTB.out, hz2 h]; rfl)⟩
                clear hsz hz1 hz2
                go_wp2
                go_roundw
                case rel => exact ⟨n, k, oz, Lz, Zz, Kz, by omega, HKL.out, rfl, by go_num, HSZ, HTZ⟩
                case measure => first | (simp [RowKit.intOf]; done) | (simp [RowKit.intOf]; omega)
end Go.Proofs.YtkeegnhjemhblaaGreatDoor.Rb
