import Derived.Test.YtkeegnhjemhblaaGreatDoorZPSrPieces
set_option linter.unusedSimpArgs false
set_option linter.unusedVariables false
/-
  The program's Decode: the inner loop. Printed by gendeb2.py.
-/
set_option linter.unusedSimpArgs false
namespace Go.Proofs.YtkeegnhjemhblaaGreatDoor.Rb
open Go.RowKit Go.Maps Go.WideMaps Go.Proofs.YtkeegnhjemhblaaGreatDoor.Rf
set_option linter.unusedSimpArgs false in
set_option maxHeartbeats 40000000 in
set_option maxRecDepth 100000 in
theorem de_b2 {Q : Exit → Act → World → Prop} (u0 u1 u2 u3 u4 u5 u6 u11 u12 u14 u16 u17 u18 u19 u20 u21 u22 u23 u24 u25 u26 u27 u28 u29 u30 u31 u32 u33 u34 u35 u36 u37 u38 u39 u40 u41 u42 u43 u44 u45 u46 u47 u48 u49 u50 u51 u52 u53 u54 u55 u56 u57 u58 u59 u60 u61 u62 u63 u64 u65 u66 u67 u68 u69 u70 u71 u72 u73 u74 u75 u76 u77 u78 u79 u80 u81 u82 u83 u84 u85 u86 u87 u88 u89 u90 u91 u92 u93 u94 u95 u96 u97 u98 u99 u100 u101 u102 u103 u104 u105 : Value) {w wr : World} {q gt bt m0 : Nat} {ok0 : Bool} {L0 k : List UInt8} {Z0 : BM} {K0 : BK} {T : Option (List UInt8 × BK)}
    (hP : ∀ c (a a' : Act) w, a.defers = a'.defers → Q (.panic c) a w → Q (.panic c) a' w) (hm0 : m0 < 18446744073709551616) (hkl : k.length ≤ 255) (H0 : Hid (DcSt w q gt bt wr ok0 L0 Z0 K0)) (HT0 : Hid ((ok0 = true → goE k m0 L0 K0 = T) ∧ (ok0 = false → T = none)))
    (HK : ∀ (t15 t16 t17 t18 t66 t67 t68 t69 t70 t71 t72 t73 t74 t75 t76 t77 t78 t79 t80 t81 t82 t83 t84 t85 t86 t87 t88 t89 t90 t91 t92 t93 t94 t95 t96 t97 : Value) (w' : World), (∃ (ok : Bool) (L : List UInt8) (Z : BM) (K : BK), DcSt w q gt bt w' ok L Z K ∧ (ok = true → T = some (L, K)) ∧ (ok = false → T = none)) → Q .normal ⟨#[u0, u1, u2, u3, u4, u5, u6, .pointer (some ⟨q + 1, 0, none⟩), .pointer (some ⟨q + 1 + 1, 0, none⟩), .func (.func 33) #[] #[.pointer (some ⟨q + 1, 0, none⟩), .pointer (some ⟨q + 1 + 1, 0, none⟩)], .pointer (some ⟨gt, 0, none⟩), u11, u12, .string ⟨k.toArray⟩, u14, t15, t16, t17, t18, u19, u20, u21, u22, u23, u24, u25, u26, u27, u28, u29, u30, u31, u32, u33, u34, u35, u36, u37, u38, u39, u40, u41, u42, u43, u44, u45, u46, u47, u48, u49, u50, u51, u52, u53, u54, u55, u56, u57, u58, u59, u60, u61, u62, u63, u64, u65, t66, t67, t68, t69, t70, t71, t72, t73, t74, t75, t76, t77, t78, t79, t80, t81, t82, t83, t84, t85, t86, t87, t88, t89, t90, t91, t92, t93, t94, t95, t96, t97, u98, u99, u100, u101, u102, u103, u104, u105], []⟩ w') :
    Code.wp Tryz.prog (deB 2) Q ⟨#[u0, u1, u2, u3, u4, u5, u6, .pointer (some ⟨q + 1, 0, none⟩), .pointer (some ⟨q + 1 + 1, 0, none⟩), .func (.func 33) #[] #[.pointer (some ⟨q + 1, 0, none⟩), .pointer (some ⟨q + 1 + 1, 0, none⟩)], .pointer (some ⟨gt, 0, none⟩), u11, u12, .string ⟨k.toArray⟩, u14, .int .u64 (m0 : Int), u16, u17, u18, u19, u20, u21, u22, u23, u24, u25, u26, u27, u28, u29, u30, u31, u32, u33, u34, u35, u36, u37, u38, u39, u40, u41, u42, u43, u44, u45, u46, u47, u48, u49, u50, u51, u52, u53, u54, u55, u56, u57, u58, u59, u60, u61, u62, u63, u64, u65, u66, u67, u68, u69, u70, u71, u72, u73, u74, u75, u76, u77, u78, u79, u80, u81, u82, u83, u84, u85, u86, u87, u88, u89, u90, u91, u92, u93, u94, u95, u96, u97, u98, u99, u100, u101, u102, u103, u104, u105], []⟩ wr := by
  have HKH := Lib.hid HK
  clear HK
  conv => arg 2; whnf
  go_wp2
  go_loopw [15] (fun u15 ws => ∃ (m : Nat) (ok : Bool) (L : List UInt8) (Z : BM) (K : BK), m < 18446744073709551616 ∧ u15 = .int .u64 (m : Int) ∧ Hid (DcSt w q gt bt ws ok L Z K) ∧ Hid ((ok = true → goE k m L K = T) ∧ (ok = false → T = none))) (fun u15 _ => (RowKit.intOf u15).toNat)
  case atStart => exact ⟨m0, ok0, L0, Z0, K0, hm0, rfl, H0, HT0⟩
  case round =>
    rename World => ws
    clear H0 HT0 hm0
    obtain ⟨m, ok, L, Z, K, hm, rfl, HS, HT⟩ := hrel
    obtain ⟨wo, hwo⟩ : ∃ wo, wo = ws := ⟨_, rfl⟩
    subst hwo
    have c8 : wo.cell? ⟨q + 1 + 1, 0, none⟩ = some (.bool ok) := cell_of_heap HS.out.ov
    have c7 : wo.cell? ⟨q + 1, 0, none⟩ = some (.pointer (some ⟨q, 0, none⟩)) := cell_of_heap HS.out.rv
    cases ok with
    | false =>
      have hT := HT.out.2 rfl
      have HTN := Lib.hid hT
      clear hT
      go_wp2
      exact HKH.out _ _ _ _ _ _ _ _ _ _ _ _ _ _ _ _ _ _ _ _ _ _ _ _ _ _ _ _ _ _ _ _ _ _ _ _ _ ⟨false, L, Z, K, HS.out, (fun h => Bool.noConfusion h), fun _ => HTN.out⟩
    | true =>
      cases m with
      | zero =>
        have HTN := Lib.hid (HT.out.1 rfl)
        go_wp2
        exact HKH.out _ _ _ _ _ _ _ _ _ _ _ _ _ _ _ _ _ _ _ _ _ _ _ _ _ _ _ _ _ _ _ _ _ _ _ _ _ ⟨true, L, Z, K, HS.out, (fun _ => HTN.out.symm), (fun h => Bool.noConfusion h)⟩
      | succ m =>
        have hmp : (0 : Int) < ((m + 1 : Nat) : Int) := by omega
        have HTG := Lib.hid (HT.out.1 rfl)
        have HLE := Lib.hid HS.out.len
        have TK := Lib.hid (Rd.take_any wo q L 32 (by decide) HS.out.rd)
        unfold ptr at *
        go_wp2_with fail
        refine TK.out.mono ?_
        rintro e w9 ⟨rfl, hr9, t9⟩
        have st9 := HS.out.read hr9 t9 (tkR_le 32 L)
        have N3 := Lib.hid (number_any w w9 q gt bt true (Rd.tkR 32 L) Z K 1099511627776 (by decide) st9)
        clear TK hr9 t9 c7 c8 st9
        unfold ptr at *
        go_wp2_with fail
        refine N3.out.mono ?_
        rintro e w10 ⟨rfl, st10⟩
        have ST10 := Lib.hid st10
        have c8 : w10.cell? ⟨q + 1 + 1, 0, none⟩ = some (.bool (okN true (Rd.tkR 32 L) 1099511627776)) := cell_of_heap st10.ov
        have f8 : w10.frozen? ⟨q + 1 + 1, 0, none⟩ = false := frozen_of_heap st10.ov
        clear N3 st10
        have hdec2 : IntKind.u64.wrap (((m + 1 : Nat) : Int) - 1) = (m : Int) := by rw [IntKind.wrap_u64]; omega
        obtain ⟨okn, hokn⟩ : ∃ okn, okn = okN true (Rd.tkR 32 L) 1099511627776 := ⟨_, rfl⟩
        rw [← hokn] at c8 ST10
        have HOKN := Lib.hid hokn
        clear hokn
        cases okn with
        | false =>
          have HF : Hid (DcSt w q gt bt (w10.setCell ⟨q + 1 + 1, 0, none⟩ (.bool false)) false (Rd.shR (Rd.tkR 32 L)) Z K) := Lib.hid (ST10.out.okCell false)
          have HTN : Hid (T = none) := Lib.hid (by
            rw [← HTG.out, goE, if_neg]
            rintro ⟨_, h2, h3, _⟩
            have h4 := HOKN.out
            rw [okN, h2] at h4
            simp at h4
            try omega)
          go_wp2
          go_roundw
          case rel => exact ⟨m, false, _, _, _, by omega, by go_num, HF, Lib.hid ⟨(fun h => Bool.noConfusion h), fun _ => HTN.out⟩⟩
          case measure => first | (simp [RowKit.intOf]; done) | (simp [RowKit.intOf]; omega)
        | true =>
          have hx : (rd0 (Rd.tkR 32 L)).isSome = true ∧ Rd.shN (Rd.tkR 32 L) ≤ 1099511627776 := by
            have h4 := HOKN.out
            rw [okN] at h4
            simp at h4; exact ⟨h4.1, h4.2⟩
          have HX := Lib.hid hx
          by_cases h32 : 32 ≤ L.length
          · have hE0 : Rd.tkE 32 L = 0 := by rw [Rd.tkE, if_pos h32]
            rw [hE0]
            obtain ⟨id, hid0⟩ : ∃ id, id = Rd.tkT 32 L := ⟨_, rfl⟩
            have hid : id.length = 32 := by rw [hid0, Rd.tkT, if_pos h32, List.length_take]; omega
            obtain ⟨tn, htn⟩ : ∃ tn, tn = Rd.shN (Rd.tkR 32 L) := ⟨_, rfl⟩
            have htn2 : tn ≤ 1099511627776 := by rw [htn]; exact hx.2
            have HG : Hid (goE k (m + 1) L K = if (addB K k ⟨id, (tn : Int)⟩).1 = 0 then goE k m (Rd.shR (Rd.tkR 32 L)) (addB K k ⟨id, (tn : Int)⟩).2 else none) := Lib.hid (by
              rw [goE, ← htn, ← hid0]
              by_cases hz : (addB K k ⟨id, (tn : Int)⟩).1 = 0
              · rw [if_pos ⟨h32, hx.1, htn2, hz⟩, if_pos hz]
              · rw [if_neg (fun h => hz h.2.2.2), if_neg hz])
            rw [← hid0, ← htn]
            have HID := Lib.hid hid
            have hidl : (⟨id.toArray⟩ : ByteArray).size = 32 := hid
            have hwt : wrap64 (tn : Int) = (tn : Int) := by unfold wrap64; omega
            have hcv := Lib.run_convert_string_bytes (P := Tryz.prog) w10 9 82 5 ⟨id.toArray⟩ Tryz.underlying9 Tryz.underlying82 Tryz.underlying5
            obtain ⟨W11, hW11⟩ : ∃ W11, W11 = Lib.bytesWorld w10 5 ⟨id.toArray⟩ := ⟨_, rfl⟩
            rw [← hW11] at hcv
            have HW11 := Lib.hid hW11
            have harr : (Instr.arrayAt 81 (.slice (some ⟨w10.heap.size, 0, none⟩) 32 (grownCap w10 32 0 5))).run Tryz.prog W11 = .ok (.pointer (some ⟨w10.heap.size, 0, none⟩)) W11 := run_arrayAt W11 _ _ 32 _ _ _ Tryz.underlying81 (by omega)
            have hrg : W11.rangeAt w10.heap.size 0 (Lib.byteCells id) := fun j v hv => by
              have hj : j < id.length := by have := (List.getElem?_eq_some_iff.1 hv).1; rw [Lib.byteCells_length] at this; exact this
              rw [HW11.out, Nat.zero_add, Lib.bytesWorld_cell w10 5 ⟨id.toArray⟩ j hj, ← hv, ba_data, Lib.byteCells, List.getElem?_map, List.getD, List.getElem?_eq_getElem hj]; rfl
            have HRG := Lib.hid hrg
            have HI32 := Lib.hid (infoIdX hid)
            have hbw : Below w10.heap.size w10 W11 := by rw [hW11]; exact bytesWorld_below _ _ _
            have st11 : DcSt w q gt bt W11 true (Rd.shR (Rd.tkR 32 L)) Z K := ST10.out.below hbw
            have ST11 := Lib.hid st11
            have AD := Lib.hid (add_any (q + 3) W11 gt bt Z ⟨k.toArray⟩ ⟨id, (tn : Int)⟩ (by show k.length ≤ _; unfold maxLen; omega) hid st11.bk (by rw [st11.pl]; exact st11.kk))
            have hKs : (⟨k.toArray⟩ : ByteArray).data.toList = k := rfl
            rw [st11.pl, hKs] at AD
            obtain ⟨⟨ac, aK⟩, hac⟩ : ∃ A, A = addB K k ⟨id, (tn : Int)⟩ := ⟨_, rfl⟩
            have HOA : Hid (OkB aK) := Lib.hid (by have := add_ok st11.kk k ⟨id, (tn : Int)⟩ hid; rw [← hac] at this; exact this)
            rw [← hac] at AD HG
            dsimp only at AD HG
            clear hrg hbw st11 hW11 hid0 htn hac hx h32 hE0 hKs hid
            unfold ptr at *
            go_wp2_with (first
              | (go_guarded; refine wp_load_mid 81 (.tmp 90) rfl w10.heap.size 0 rfl (Lib.byteCells id) _ HRG.out Tryz.underlying81 rfl HI32.out ?_)
              | (go_guarded; refine wp_buildEnG (.tmp 91) (.tmp 93) id HID.out (tn : Int) rfl rfl rfl ?_))
            refine AD.out.mono ?_
            rintro e w12 ⟨Z', rfl, hk12, hpl12, hbl12⟩
            have st12 := ST11.out.add hk12 hbl12 hpl12 HOA.out
            have c8 : w12.cell? ⟨q + 1 + 1, 0, none⟩ = some (.bool true) := cell_of_heap st12.ov
            have f8 : w12.frozen? ⟨q + 1 + 1, 0, none⟩ = false := frozen_of_heap st12.ov
            have HT3 : Hid (DcSt w q gt bt (w12.setCell ⟨q + 1 + 1, 0, none⟩ (.bool true)) true (Rd.shR (Rd.tkR 32 L)) Z' aK) := Lib.hid (st12.okCell true)
            have HF3 : Hid (DcSt w q gt bt (w12.setCell ⟨q + 1 + 1, 0, none⟩ (.bool false)) false (Rd.shR (Rd.tkR 32 L)) Z' aK) := Lib.hid (st12.okCell false)
            clear AD hk12 hbl12 st12 hpl12 hcv harr
            by_cases hz : ac = 0
            · subst hz
              have HTN : Hid (goE k m (Rd.shR (Rd.tkR 32 L)) aK = T) := Lib.hid (by rw [← HTG.out, HG.out, if_pos rfl])
              go_wp2
              go_roundw
              case rel => exact ⟨m, true, _, _, _, by omega, by go_num, HT3, Lib.hid ⟨fun _ => HTN.out, (fun h => Bool.noConfusion h)⟩⟩
              case measure => first | (simp [RowKit.intOf]; done) | (simp [RowKit.intOf]; omega)
            · have HTN : Hid (T = none) := Lib.hid (by rw [← HTG.out, HG.out, if_neg hz])
              have hzb : (ac == 0) = false := by simpa using hz
              go_wp2
              go_roundw
              case rel => exact ⟨m, false, _, _, _, by omega, by go_num, HF3, Lib.hid ⟨(fun h => Bool.noConfusion h), fun _ => HTN.out⟩⟩
              case measure => first | (simp [RowKit.intOf]; done) | (simp [RowKit.intOf]; omega)
          · have HE4 : Hid (Rd.tkE 32 L = 4) := Lib.hid (by rw [Rd.tkE, if_neg h32])
            have HF : Hid (DcSt w q gt bt (w10.setCell ⟨q + 1 + 1, 0, none⟩ (.bool false)) false (Rd.shR (Rd.tkR 32 L)) Z K) := Lib.hid (ST10.out.okCell false)
            have HTN : Hid (T = none) := Lib.hid (by
              rw [← HTG.out, goE, if_neg]
              rintro ⟨h1, _⟩
              exact h32 h1)
            rw [HE4.out]
            clear hx h32
            go_wp2
            go_roundw
            case rel => exact ⟨m, false, _, _, _, by omega, by go_num, HF, Lib.hid ⟨(fun h => Bool.noConfusion h), fun _ => HTN.out⟩⟩
            case measure => first | (simp [RowKit.intOf]; done) | (simp [RowKit.intOf]; omega)
end Go.Proofs.YtkeegnhjemhblaaGreatDoor.Rb
