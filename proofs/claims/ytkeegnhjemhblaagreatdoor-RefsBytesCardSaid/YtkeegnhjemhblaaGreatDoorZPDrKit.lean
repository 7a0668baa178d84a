import Derived.Test.YtkeegnhjemhblaaGreatDoorZPRbPair
import Derived.Test.YtkeegnhjemhblaaGreatDoorZPSrPieces
import Derived.Test.YtkeegnhjemhblaaGreatDoorZPRbCrc
import Derived.Test.YtkeegnhjemhblaaGreatDoorZPRbEnd
import Derived.Test.YtkeegnhjemhblaaGreatDoorZPRbStep
import Derived.Lib.BufferWrite
set_option linter.unusedSimpArgs false
set_option linter.unusedVariables false
/-
  The reference's Decode at any bytes: where it stands.
-/
set_option linter.unusedSimpArgs false
namespace Go.Proofs.YtkeegnhjemhblaaGreatDoor.Rb
open Go.RowKit Go.Maps Go.WideMaps Go.Proofs.YtkeegnhjemhblaaGreatDoor.Rf

noncomputable def drB (n : Nat) : Code := (Tryz.f8.body.bind (Sr.findB n)).getD .skip
/-- The reader, the book so far. -/
structure RcSt (w : World) (q r : Nat) (W : World) (L : List UInt8) (v : Value) (Z : BM) (K : BK) : Prop where
  rd : Rd.RReaderAt W q L
  bk : RBk (q + 1) W r v Z
  be : Below w.heap.size w W
  le : w.heap.size ≤ q
  pl : plainB Z = K
  kk : OkB K
  len : L.length ≤ 140737488355328
theorem RcSt.read {w W W' : World} {q r : Nat} {L L' : List UInt8} {v : Value} {Z : BM} {K : BK} (h : RcSt w q r W L v Z K) (hr : Rd.RReaderAt W' q L') (ht : Turn [q] W W') (hl : L'.length ≤ L.length) : RcSt w q r W' L' v Z K := by
  refine ⟨hr, h.bk.kept (fun x hx => ht.block x (h.bk.lt x hx) ?_), h.be.trans (ht.below (by simpa using h.le) h.be.size), h.le, h.pl, h.kk, Nat.le_trans hl h.len⟩
  have := h.bk.ge x hx
  simp; omega
theorem RcSt.below {w W W' : World} {q r : Nat} {L : List UInt8} {v : Value} {Z : BM} {K : BK} (h : RcSt w q r W L v Z K) (hb : Below W.heap.size W W') : RcSt w q r W' L v Z K :=
  ⟨(hb.block _ (lt_of_heap h.rd)).trans h.rd, h.bk.below hb, h.be.trans (hb.mono h.be.size), h.le, h.pl, h.kk, h.len⟩
theorem RcSt.add {w W W' : World} {q r : Nat} {L : List UInt8} {v v' : Value} {Z Z' : BM} {K K' : BK} (h : RcSt w q r W L v Z K) (hk : RBk (q + 1) W' r v' Z') (hf : Eff (rbB r v Z) (rbB r v' Z') W W') (hp : plainB Z' = K') (ok' : OkB K') : RcSt w q r W' L v' Z' K' := by
  have hq := lt_of_heap h.rd
  refine ⟨(hf.turn.block q hq (fun hc => ?_)).trans h.rd, hk, h.be.trans (hf.below (fun x hx => ?_) h.be.size), h.le, hp, ok', h.len⟩
  · have := h.bk.ge q hc; omega
  · have := h.bk.ge x hx; have := h.le; omega
theorem build_tick (w : World) (t : Int) : (Instr.build 89 #[(1, .int .i64 t)]).run Tryz.prog w = .ok (enV ⟨List.replicate 32 0, t⟩) w := by kernel_rfl
theorem exec_build1 {P : Program} {o : Oper} {a : Act} {w : World} (t : TypeId) (x : Operand) (X v : Value) (ho : o.op = .build t #[(1, x)]) (hx : a.eval x = X) (hr : (Instr.build t #[(1, X)]).run P w = .ok v w) :
    (execOp a.eval o).run P w = .ok (.value v) w := by
  simp [execOp, ho, hx, hr, Result.andThen]
/-- The name's bytes are copied into the snapshot. -/
theorem copy_name (w : World) (x : Nat) (id : List UInt8) (t : Int) (hid : id.length = 32) (hq : w.heap[x]? = some (.cells (⟨List.replicate 32 0, t⟩ : En).cells.toArray EnT)) (ty : TypeId) :
    (Builtin.copy_ #[82, 9] ty #[.slice (some ⟨x, 0, none⟩) 32 32, .string ⟨id.toArray⟩]).run Tryz.prog w = .ok (goInt 32) (w.setRow x (⟨id, t⟩ : En).cells.toArray) := by
  have hs : (⟨id.toArray⟩ : ByteArray).size = 32 := hid
  have h := Lib.run_copy_row_string (P := Tryz.prog) w 82 9 ty 5 x 0 32 32 ⟨id.toArray⟩ _ EnT Tryz.underlying82 (by kernel_rfl) hq (by rw [hs]; decide) (by
    rw [hs, List.size_toArray, cells_size (by simp)]
    try decide)
  rw [hs] at h
  rw [h]
  first
    | rfl
    | (congr 2; done)
    | (congr 2; simp [En.cells, Lib.byteCells])
theorem atI_neg {Z : BM} {k : List UInt8} : (0 ≤ atI Z k ↔ (getM (plainB Z) k).isNone = false) := by
  rw [plain_get]
  cases h : atN Z k with
  | none =>
    have := (at_none h).1
    rw [atI, h, this]; simp
  | some i =>
    obtain ⟨n, _, hn⟩ := at_some h
    rw [atI, h, hn]; simp
end Go.Proofs.YtkeegnhjemhblaaGreatDoor.Rb
/-
  The reference's Decode: the inner loop. Printed by gendrb.py.
-/
set_option linter.unusedSimpArgs false
namespace Go.Proofs.YtkeegnhjemhblaaGreatDoor.Rb
open Go.RowKit Go.Maps Go.WideMaps Go.Proofs.YtkeegnhjemhblaaGreatDoor.Rf
set_option linter.unusedSimpArgs false in
set_option maxHeartbeats 40000000 in
set_option maxRecDepth 100000 in
theorem dr_b2 {Q : Exit → Act → World → Prop} (u0 u1 u2 u3 u4 u5 u6 u8 u10 u12 u14 u16 u17 u18 u19 u20 u21 u22 u23 u24 u25 u26 u27 u28 u29 u30 u31 u32 u33 u34 u35 u36 u37 u38 u39 u40 u41 u42 u43 u44 u45 u46 u47 u48 u49 u50 u51 u52 u53 u54 u55 u56 u57 u58 u59 u60 u61 u62 u63 u64 u65 u66 u67 u68 u69 u70 u71 u72 u73 u74 u75 u76 u77 u78 u79 u80 u81 u82 u83 u84 u85 u86 u87 u88 u89 u90 u91 u92 u93 u94 u95 u96 u97 u98 u99 u100 u101 u102 u103 u104 u105 u106 u107 u108 u109 u110 u111 u112 u113 u114 u115 u116 u117 u118 u119 u120 u121 u122 u123 u124 u125 : Value) {w wr : World} {q r m0 : Nat} {L0 k : List UInt8} {v0 : Value} {Z0 : BM} {K0 : BK} {T : Option (List UInt8 × BK)}
    (hP : ∀ c (a a' : Act) w, a.defers = a'.defers → Q (.panic c) a w → Q (.panic c) a' w) (hm0 : m0 ≤ 4096) (hkl : k.length ≤ 255) (HTB : Hid (∀ W, Below w.heap.size w W → Nm.Tabs W)) (H0 : Hid (RcSt w q r wr L0 v0 Z0 K0)) (HT0 : Hid (goE k m0 L0 K0 = T)) (HR : T = none → ∀ (t15 t16 t17 t18 t19 t20 t84 t85 t86 t87 t88 t89 t90 t91 t92 t93 t94 t95 t96 t97 t98 t99 t100 t101 t102 t103 t104 t105 t106 t107 t108 t109 t110 t111 t112 t113 t114 t115 t116 t117 t118 t119 t120 : Value) (w' : World), Below w.heap.size w w' → Q .ret ⟨#[u0, u1, .pointer none, .int .i64 4, u4, u5, u6, .pointer (some ⟨q, 0, none⟩), u8, .pointer (some ⟨r, 0, none⟩), u10, .string ⟨k.toArray⟩, u12, .int .u64 (m0 : Int), u14, t15, t16, t17, t18, t19, t20, u21, u22, u23, u24, u25, u26, u27, u28, u29, u30, u31, u32, u33, u34, u35, u36, u37, u38, u39, u40, u41, u42, u43, u44, u45, u46, u47, u48, u49, u50, u51, u52, u53, u54, u55, u56, u57, u58, u59, u60, u61, u62, u63, u64, u65, u66, u67, u68, u69, u70, u71, u72, u73, u74, u75, u76, u77, u78, u79, u80, u81, u82, u83, t84, t85, t86, t87, t88, t89, t90, t91, t92, t93, t94, t95, t96, t97, t98, t99, t100, t101, t102, t103, t104, t105, t106, t107, t108, t109, t110, t111, t112, t113, t114, t115, t116, t117, t118, t119, t120, u121, u122, u123, u124, u125], []⟩ w')
    (HK : ∀ (t2 t3 t15 t16 t17 t18 t19 t20 t84 t85 t86 t87 t88 t89 t90 t91 t92 t93 t94 t95 t96 t97 t98 t99 t100 t101 t102 t103 t104 t105 t106 t107 t108 t109 t110 t111 t112 t113 t114 t115 t116 t117 t118 t119 t120 : Value) (w' : World), (∃ (L : List UInt8) (v : Value) (Z : BM) (K : BK), RcSt w q r w' L v Z K ∧ T = some (L, K)) → Q .normal ⟨#[u0, u1, t2, t3, u4, u5, u6, .pointer (some ⟨q, 0, none⟩), u8, .pointer (some ⟨r, 0, none⟩), u10, .string ⟨k.toArray⟩, u12, .int .u64 (m0 : Int), u14, t15, t16, t17, t18, t19, t20, u21, u22, u23, u24, u25, u26, u27, u28, u29, u30, u31, u32, u33, u34, u35, u36, u37, u38, u39, u40, u41, u42, u43, u44, u45, u46, u47, u48, u49, u50, u51, u52, u53, u54, u55, u56, u57, u58, u59, u60, u61, u62, u63, u64, u65, u66, u67, u68, u69, u70, u71, u72, u73, u74, u75, u76, u77, u78, u79, u80, u81, u82, u83, t84, t85, t86, t87, t88, t89, t90, t91, t92, t93, t94, t95, t96, t97, t98, t99, t100, t101, t102, t103, t104, t105, t106, t107, t108, t109, t110, t111, t112, t113, t114, t115, t116, t117, t118, t119, t120, u121, u122, u123, u124, u125], []⟩ w') :
    Code.wp Tryz.prog (drB 2) Q ⟨#[u0, u1, u2, u3, u4, u5, u6, .pointer (some ⟨q, 0, none⟩), u8, .pointer (some ⟨r, 0, none⟩), u10, .string ⟨k.toArray⟩, u12, .int .u64 (m0 : Int), u14, .int .u64 0, u16, u17, u18, u19, u20, u21, u22, u23, u24, u25, u26, u27, u28, u29, u30, u31, u32, u33, u34, u35, u36, u37, u38, u39, u40, u41, u42, u43, u44, u45, u46, u47, u48, u49, u50, u51, u52, u53, u54, u55, u56, u57, u58, u59, u60, u61, u62, u63, u64, u65, u66, u67, u68, u69, u70, u71, u72, u73, u74, u75, u76, u77, u78, u79, u80, u81, u82, u83, u84, u85, u86, u87, u88, u89, u90, u91, u92, u93, u94, u95, u96, u97, u98, u99, u100, u101, u102, u103, u104, u105, u106, u107, u108, u109, u110, u111, u112, u113, u114, u115, u116, u117, u118, u119, u120, u121, u122, u123, u124, u125], []⟩ wr := by
  have HKH := Lib.hid HK
  clear HK
  conv => arg 2; whnf
  have HRH := Lib.hid HR
  clear HR
  go_wp2
  go_loopw [15] (fun u15 ws => ∃ (j : Nat) (L : List UInt8) (v : Value) (Z : BM) (K : BK), j ≤ m0 ∧ u15 = .int .u64 (j : Int) ∧ Hid (RcSt w q r ws L v Z K) ∧ Hid (goE k (m0 - j) L K = T)) (fun u15 _ => m0 - (RowKit.intOf u15).toNat)
  case atStart => exact ⟨0, L0, v0, Z0, K0, Nat.zero_le _, rfl, H0, HT0⟩
  case round =>
    rename World => ws
    clear H0 HT0
    obtain ⟨j, L, v, Z, K, hj, rfl, HS, HT⟩ := hrel
    obtain ⟨wo, hwo⟩ : ∃ wo, wo = ws := ⟨_, rfl⟩
    subst hwo
    by_cases hjm : (j : Int) < (m0 : Int)
    · have hj0 : (0 : Int) ≤ (j : Int) := by omega
      obtain ⟨m, hm⟩ : ∃ m, m0 - j = m + 1 := ⟨m0 - j - 1, by omega⟩
      have HG : Hid ((if 32 ≤ L.length ∧ (rd0 (Rd.tkR 32 L)).isSome = true ∧ Rd.shN (Rd.tkR 32 L) ≤ 1099511627776 ∧ (addB K k ⟨Rd.tkT 32 L, (Rd.shN (Rd.tkR 32 L) : Int)⟩).1 = 0 then goE k m (Rd.shR (Rd.tkR 32 L)) (addB K k ⟨Rd.tkT 32 L, (Rd.shN (Rd.tkR 32 L) : Int)⟩).2 else none) = T) := Lib.hid (by rw [← HT.out, hm, goE])
      have HM : Hid (m0 - (j + 1) = m) := Lib.hid (by omega)
      clear hm HT
      have TK := Lib.hid (Rd.rtake_any wo q L 32 (by decide) HS.out.rd)
      unfold ptr at *
      go_wp2_with fail
      refine TK.out.mono ?_
      rintro e w9 ⟨rfl, hr9, t9⟩
      have st9 := HS.out.read hr9 t9 (tkR_le 32 L)
      have UI := Lib.hid (Rd.ruint_any w9 q (Rd.tkR 32 L) st9.len st9.rd)
      have ST9 := Lib.hid st9
      clear TK hr9 t9 st9
      unfold ptr at *
      go_wp2_with fail
      refine UI.out.mono ?_
      rintro e w10 ⟨rfl, hr10, t10⟩
      have st10 := ST9.out.read hr10 t10 (Rd.shR_le' _)
      have ST10 := Lib.hid st10
      have HB10 := Lib.hid st10.be
      clear UI hr10 t10 st10
      obtain ⟨ec, hec⟩ : ∃ ec, ec = Rd.tkE 32 L := ⟨_, rfl⟩
      have HEC : Hid (ec = if 32 ≤ L.length then 0 else 4) := Lib.hid (by rw [hec, Rd.tkE])
      obtain ⟨fc, hfc⟩ : ∃ fc, fc = Rd.shE (Rd.tkR 32 L) := ⟨_, rfl⟩
      have HFC : Hid (fc = if (rd0 (Rd.tkR 32 L)).isSome then 0 else 4) := Lib.hid (by rw [hfc, Rd.shE])
      obtain ⟨tn, htn⟩ : ∃ tn, tn = Rd.shN (Rd.tkR 32 L) := ⟨_, rfl⟩
      obtain ⟨id, hid⟩ : ∃ id, id = Rd.tkT 32 L := ⟨_, rfl⟩
      have HTL : Hid (tn < 18446744073709551616) := Lib.hid (by rw [htn]; exact Rd.shN_lt _)
      have HIL : Hid (32 ≤ L.length → id.length = 32) := Lib.hid (fun h => by rw [hid, Rd.tkT, if_pos h, List.length_take]; omega)
      rw [← htn, ← hid] at HG
      rw [← hec, ← hfc, ← htn, ← hid]
      clear hec hfc htn hid
      by_cases h32 : 32 ≤ L.length
      · have he : ec = 0 := by rw [HEC.out, if_pos h32]
        subst he
        cases hs : (rd0 (Rd.tkR 32 L)).isSome with
        | false =>
          have hf : fc = 4 := by rw [HFC.out, hs]; rfl
          subst hf
          have HTN : Hid (T = none) := Lib.hid (by rw [← HG.out, if_neg]; rintro ⟨_, h2, _⟩; rw [hs] at h2; cases h2)
          clear hs h32
          go_wp2
          exact HRH.out HTN.out _ _ _ _ _ _ _ _ _ _ _ _ _ _ _ _ _ _ _ _ _ _ _ _ _ _ _ _ _ _ _ _ _ _ _ _ _ _ _ _ _ _ _ _ HB10.out
        | true =>
          have hf : fc = 0 := by rw [HFC.out, hs]; rfl
          subst hf
          by_cases hbig : tn ≤ 1099511627776
          · have hb2 : ¬ (1099511627776 : Int) < (tn : Int) := by omega
            have hbd : decide ((1099511627776 : Int) < (tn : Int)) = false := by simp; omega
            have hid32 := HIL.out h32
            have HID := Lib.hid hid32
            have HZ32 : Hid ((⟨List.replicate 32 0, (tn : Int)⟩ : En).cells.length = 33) := Lib.hid (cells_size (by simp))
            have HI2 : Hid ((Tryz.prog.info? EnT).map (·.size) = some (⟨List.replicate 32 0, (tn : Int)⟩ : En).cells.toArray.size) := Lib.hid (by rw [List.size_toArray, HZ32.out]; kernel_rfl)
            have HS2 : Hid (zer33.size = (⟨List.replicate 32 0, (tn : Int)⟩ : En).cells.toArray.size) := Lib.hid (by show 33 = _; rw [List.size_toArray]; exact HZ32.out.symm)
            have HONE : Hid ((⟨List.replicate 32 0, (tn : Int)⟩ : En).cells.toArray.all (·.oneCell') = true) := Lib.hid (Array.all_eq_true_iff_forall_mem.2 (fun u hu => cellsL_one [⟨List.replicate 32 0, (tn : Int)⟩] u (by simpa [cellsL] using hu)))
            have HG2 : Hid ((if (addB K k ⟨id, (tn : Int)⟩).1 = 0 then goE k m (Rd.shR (Rd.tkR 32 L)) (addB K k ⟨id, (tn : Int)⟩).2 else none) = T) := Lib.hid (by
              have hg := HG.out
              by_cases hz : (addB K k ⟨id, (tn : Int)⟩).1 = 0
              · rw [if_pos hz]
                rwa [if_pos ⟨h32, hs, hbig, hz⟩] at hg
              · rw [if_neg hz]
                rwa [if_neg (fun h => hz h.2.2.2)] at hg)
            have hwt : wrap64 (tn : Int) = (tn : Int) := by unfold wrap64; omega
            have hwt2 : IntKind.i64.wrap (tn : Int) = (tn : Int) := by rw [IntKind.wrap_i64]; omega
            have HBT := Lib.hid (fun w' : World => build_tick w' (tn : Int))
            obtain ⟨eZ, heZ⟩ : ∃ eZ, eZ = (⟨List.replicate 32 0, (tn : Int)⟩ : En) := ⟨_, rfl⟩
            have HEZ := Lib.hid heZ
            rw [← heZ] at HI2 HS2 HONE HBT
            have hsl2 := fun w => slice32 w w10.heap.size
            clear hid32 hs h32 hbig heZ HG
            go_upto_region 24 with (first
              | (refine wpList_want_run (by rfl) (enV eZ) (exec_build1 89 (.tmp 110) (.int .i64 (tn : Int)) (enV eZ) rfl rfl (HBT.out _)) ?_)
              | (refine wpList_store_row rfl _ _ _ rfl w10.heap.size eZ.cells.toArray rfl rfl EnT zer33 (MapKept.heap_alloc w10 (.cells zer33 EnT)).1 HI2.out HS2.out HONE.out ?_
                 obtain ⟨hq6, hb6⟩ := store_newR w10 eZ.cells.toArray
                 change wpList _ _ _ _ _ ((w10.alloc (.cells zer33 EnT)).setRow w10.heap.size eZ.cells.toArray)
                 generalize (w10.alloc (.cells zer33 EnT)).setRow w10.heap.size eZ.cells.toArray = w6 at hq6 hb6 ⊢
                 have HQ6 := Lib.hid hq6; have HB6 := Lib.hid hb6
                 clear hq6 hb6)
              | fail)
            have hcp := fun ty => copy_name w6 w10.heap.size id (tn : Int) HID.out (by rw [← HEZ.out]; exact HQ6.out) ty
            obtain ⟨w7, hw7⟩ : ∃ w7, w7 = w6.setRow w10.heap.size (⟨id, (tn : Int)⟩ : En).cells.toArray := ⟨_, rfl⟩
            have HW7 := Lib.hid hw7
            rw [← hw7] at hcp
            have HQ7 : Hid (w7.heap[w10.heap.size]? = some (.cells (⟨id, (tn : Int)⟩ : En).cells.toArray EnT)) := Lib.hid (by rw [hw7]; exact setRow_heap _ _ _ _ _ _ HQ6.out)
            have HB7 : Hid (Below w10.heap.size w10 w7) := Lib.hid (by rw [hw7]; exact HB6.out.trans ⟨rfl, rfl, rfl, by simp [World.setRow], fun x hx => setRow_other _ _ _ _ (by omega)⟩)
            have ST7 := Lib.hid (ST10.out.below HB7.out)
            obtain ⟨eN, heN⟩ : ∃ eN, eN = (⟨id, (tn : Int)⟩ : En) := ⟨_, rfl⟩
            have HEN := Lib.hid heN
            rw [← heN] at HQ7 HG2
            have HNC : Hid (eN.c.length = 32) := Lib.hid (by rw [heN]; exact HID.out)
            have HRG : Hid (w7.rangeAt w10.heap.size 0 eN.cells) := Lib.hid (range_all HQ7.out)
            have HI5 : Hid ((Tryz.prog.info? EnT).map (·.size) = some eN.cells.length) := Lib.hid (by rw [cells_size HNC.out]; kernel_rfl)
            have AD := Lib.hid (radd_any (q + 1) w7 (HTB.out w7 ST7.out.be) r v Z k eN HNC.out (by rw [ST7.out.pl]; exact ST7.out.kk) ST7.out.bk)
            rw [ST7.out.pl] at AD
            obtain ⟨⟨ac, aK⟩, hac⟩ : ∃ A, A = addB K k eN := ⟨_, rfl⟩
            have HOA : Hid (OkB aK) := Lib.hid (by have := add_ok ST7.out.kk k eN HNC.out; rw [← hac] at this; exact this)
            rw [← hac] at AD HG2
            dsimp only at AD HG2
            clear hw7 heN hac
            unfold ptr at *
            go_wp2_with (first
              | (refine wpList_load_mid rfl _ _ rfl w10.heap.size 0 rfl eN.cells _ HRG.out Tryz.underlying89 rfl HI5.out ?_)
              | fail)
            refine AD.out.mono ?_
            rintro e w12 hp12
            obtain ⟨v4, Z4, rfl, k4, q4, f4⟩ := rb_eff hp12
            have HS8 := Lib.hid (ST7.out.add k4 f4 q4 HOA.out)
            clear AD hp12 k4 q4 f4 hcp
            by_cases hz : ac = 0
            · subst hz
              have HT8 : Hid (goE k (m0 - (j + 1)) (Rd.shR (Rd.tkR 32 L)) aK = T) := Lib.hid (by rw [HM.out, ← HG2.out, if_pos rfl])
              go_wp2
              go_roundw
              case rel => exact ⟨j + 1, _, _, _, _, by omega, by go_num, HS8, HT8⟩
              case measure => first | (simp [RowKit.intOf]; done) | (simp [RowKit.intOf]; omega)
            · have HTN : Hid (T = none) := Lib.hid (by rw [← HG2.out, if_neg hz])
              have hzb : (ac == 0) = false := by simpa using hz
              have HB12 := Lib.hid HS8.out.be
              go_wp2
              exact HRH.out HTN.out _ _ _ _ _ _ _ _ _ _ _ _ _ _ _ _ _ _ _ _ _ _ _ _ _ _ _ _ _ _ _ _ _ _ _ _ _ _ _ _ _ _ _ _ HB12.out
          · have hb2 : (1099511627776 : Int) < (tn : Int) := by omega
            have HTN : Hid (T = none) := Lib.hid (by rw [← HG.out, if_neg]; rintro ⟨_, _, h3, _⟩; exact hbig h3)
            clear hs h32 hbig
            go_wp2
            exact HRH.out HTN.out _ _ _ _ _ _ _ _ _ _ _ _ _ _ _ _ _ _ _ _ _ _ _ _ _ _ _ _ _ _ _ _ _ _ _ _ _ _ _ _ _ _ _ _ HB10.out
      · have he : ec = 4 := by rw [HEC.out, if_neg h32]
        subst he
        have HTN : Hid (T = none) := Lib.hid (by rw [← HG.out, if_neg]; rintro ⟨h1, _⟩; exact h32 h1)
        clear h32
        go_wp2
        exact HRH.out HTN.out _ _ _ _ _ _ _ _ _ _ _ _ _ _ _ _ _ _ _ _ _ _ _ _ _ _ _ _ _ _ _ _ _ _ _ _ _ _ _ _ _ _ _ _ HB10.out
    · obtain rfl : j = m0 := by omega
      have HTN : Hid (T = some (L, K)) := Lib.hid (by rw [← HT.out, Nat.sub_self]; rfl)
      go_wp2
      exact HKH.out _ _ _ _ _ _ _ _ _ _ _ _ _ _ _ _ _ _ _ _ _ _ _ _ _ _ _ _ _ _ _ _ _ _ _ _ _ _ _ _ _ _ _ _ _ _ ⟨L, v, Z, K, HS.out, HTN.out⟩
end Go.Proofs.YtkeegnhjemhblaaGreatDoor.Rb
