import Derived.Test.YthcjjekkjbidlaaDoorZPSrHonPlain
import Derived.Test.YthcjjekkjbidlaaDoorZPSrAwake18
import Derived.Test.YthcjjekkjbidlaaDoorZPSrPieces
import Derived.Test.YthcjjekkjbidlaaDoorZPHnP14
import Derived.Test.YthcjjekkjbidlaaDoorZPHnB3
set_option linter.unusedSimpArgs false
set_option linter.unusedVariables false
/-
  The law of SourceHonest: a file whose number and tick are unchanged is unchanged.
-/
namespace Go.Proofs.YthcjjekkjbidlaaDoor.Sr
open Go.RowKit Go.Maps Go.WideMaps Go.Proofs.YthcjjekkjbidlaaDoor.Rf Go.Proofs.YthcjjekkjbidlaaDoor.Nm Go.Proofs.YthcjjekkjbidlaaDoor.St

def Stp.At (w : World) (b o : Nat) (x : Stp) : Prop := ∀ (j : Nat) v, x.cells[j]? = some v → w.cell? ⟨b, o + j, none⟩ = some v
def StpsAt (w : World) (v : Value) (l : List Stp) : Prop :=
  ∃ a cap, v = .slice a l.length cap ∧ l.length ≤ maxLen ∧ (l ≠ [] → ∃ b o, a = some ⟨b, o, none⟩ ∧ b < w.heap.size ∧ ∀ (i : Nat) x, l[i]? = some x → x.At w b (o + i * 11)) ∧ ∀ x ∈ l, x.Fits w
theorem Stp.Fits.below {w w' : World} {x : Stp} (h : x.Fits w) (hb : Below w.heap.size w w') : x.Fits w' :=
  ⟨h.path, h.more, h.target, h.xs.kept hb.size (fun b hx => hb.block b (h.xs.lt b hx)), h.xl⟩
structure HnSt5 (B k : Nat) (T : Tr) (v0 : Value) (R0 : List (TE × Value)) (w : World) : Prop where
  good : Good k T
  map : R0.map (·.1) = T.L
  out : OutAt B w v0 R0
set_option linter.unusedSimpArgs false in
set_option maxHeartbeats 32000000 in
set_option maxRecDepth 100000 in
theorem hn18_law (w : World) (v : Value) (l : List Stp) (hl : StpsAt w v l) :
    Calls Tryd.prog 7 #[v] w fun e w' => e = .returned (.bool true) ∧ Below w.heap.size w w' := by
  obtain ⟨a, cap, rfl, hlm, hcell, hfit⟩ := hl
  have AW := Lib.hid (awake18_any w)
  have HC := Lib.hid hcell; have HF := Lib.hid hfit
  unfold maxLen at hlm
  clear hcell hfit
  go_enter Tryd.func7, Tryd.ntmps7
  go_wp2_with fail
  refine AW.out.mono ?_
  rintro ex w1 ⟨rfl, hb1⟩
  have HB1 := Lib.hid hb1
  have TN := Lib.hid (tree_new w1)
  clear hb1 AW
  go_wp2_with fail
  refine TN.out.mono ?_
  rintro ex w2 ⟨r, p, m, rfl, ht2, hb2⟩
  have HT2 := Lib.hid (ht2.mono HB1.out.size)
  have HB2 := Lib.hid (HB1.out.trans (hb2.mono HB1.out.size))
  have TV := treeval_any w.heap.size w2 r (newT p m) ((good_new p m).fine (by omega)) (by show 1 ≤ _; omega) HT2.out
  have TV := Lib.hid TV
  clear ht2 hb2 TN
  unfold ptr at *
  go_wp2_with fail
  refine TV.out.mono ?_
  rintro ex w3 ⟨v0, R0, rfl, hm0, ho0, hb3⟩
  have HST : Hid (HnSt w.heap.size w3 r (newT p m) v0 R0 1 0) := Lib.hid ⟨HT2.out.below hb3, good_new p m, Nat.le_refl _, ho0.mono HB2.out.size, hm0, told_apart HT2.out ho0, Nat.le_refl _⟩
  have HB3 := Lib.hid (HB2.out.trans (hb3.mono HB2.out.size))
  have hrl : R0.length = (newT p m).L.length := by have := congrArg List.length hm0; rw [List.length_map] at this; exact this
  obtain ⟨va, vc, rfl⟩ := rowS_slice ho0.row
  rw [hrl] at HST ⊢
  clear hm0 ho0 hb3 TV HT2 hrl
  go_wp2
  go_loopw [4, 5, 6] (fun v4 v5 v6 wr => ∃ i : Nat, i ≤ l.length ∧ i ≤ 60 ∧ v6 = .int .i64 (i : Int) ∧ ∃ (T : Tr) (va : Option Addr) (vc : Nat) (R0 : List (TE × Value)) (g : Nat), v4 = .slice va T.L.length vc ∧ v5 = .int .u64 (g : Int) ∧ Hid (HnSt w.heap.size wr r T (.slice va T.L.length vc) R0 g i) ∧ Hid (Below w.heap.size w wr)) (fun _ _ v6 _ => l.length - (RowKit.intOf v6).toNat)
  case atStart => exact ⟨0, by omega, by omega, rfl, newT p m, va, vc, R0, 1, rfl, rfl, HST, HB3⟩
  case round =>
    clear HST HB3 HB2 HB1
    obtain ⟨i, hi, hi60, rfl, T, va, vc, R0, g, rfl, rfl, HS, HLW⟩ := hrel
    by_cases hil : (i : Int) < (l.length : Int)
    · by_cases hi6 : (i : Int) < 60
      · skip
        have hi2 : i < l.length := by omega
        obtain ⟨x, hx⟩ : ∃ x, l[i]? = some x := ⟨_, List.getElem?_eq_getElem hi2⟩
        obtain ⟨ba, oa, rfl, hba, hca⟩ := HC.out (fun h => by rw [h] at hi2; cases hi2)
        have hfx := HF.out x (List.mem_of_getElem? hx)
        have hrg : wr.rangeAt ba (oa + i * 11) x.cells := fun j u hj => (HLW.out.cell (p := ⟨ba, oa + i * 11 + j, none⟩) hba).trans (hca i x hx j u hj)
        have HRG := Lib.hid hrg
        have HXC := Lib.hid (show x.cells.length = 11 from rfl)
        have RU := run18_any w.heap.size wr r T x (hfx.below HLW.out) i (by omega) HS.out.good (by have := HS.out.reads; omega) HLW.out.size HS.out.tree
        unfold ptr at RU
        have RU := Lib.hid RU
        have NW := now_any w.heap.size wr r T HS.out.tree
        unfold ptr at NW
        have NW := Lib.hid NW
        have RD := reads_any w.heap.size wr r T HS.out.tree
        unfold ptr at RD
        have RD := Lib.hid RD
        have KR : Hid (∀ w', Below w.heap.size w w' → w'.cell? ⟨ba, oa + i * 11, none⟩ = some (.int .i64 x.kind)) := Lib.hid (fun w' hb => (hb.cell (p := ⟨ba, oa + i * 11, none⟩) hba).trans (hca i x hx 0 _ rfl))
        have hcl : (T.clock : Int) ≤ 1099511627776 := by have := HS.out.good.clock; omega
        have hrd : (T.reads : Int) ≤ 1000 := by have := HS.out.reads; omega
        clear hx hca hfx hrg
        obtain ⟨XC, hXC⟩ : ∃ XC, XC = x.cells := ⟨_, rfl⟩
        rw [← hXC] at HRG RU HXC
        have HXE := Lib.hid hXC
        clear hXC
        have HIX : Hid ((Tryd.prog.info? 80).map (·.size) = some XC.toArray.size) := Lib.hid (by rw [HXE.out]; exact infoStp x)
        go_wp2_with fail
        refine NW.out.mono ?_
        rintro ex wx ⟨rfl, hwx⟩
        obtain rfl : wr = wx := hwx.symm
        clear hwx
        go_wp2_with fail
        refine RD.out.mono ?_
        rintro ex wx ⟨rfl, hwx⟩
        obtain rfl : wr = wx := hwx.symm
        clear hwx
        go_wp2_with (first
          | (refine wpList_load_mid rfl _ _ rfl ba (oa + i * 11) rfl XC _ HRG.out Tryd.underlying80 rfl HIX.out ?_)
          | fail)
        refine RU.out.mono ?_
        rintro ex w4 hpost
        obtain ⟨rfl, T', hrun, hlow⟩ := HS.out.run hpost HLW.out.size
        have HR := Lib.hid hrun
        have HL4 := Lib.hid (HLW.out.trans (hlow.mono (Nat.le_refl _)))
        have hfine : T'.L.length ≤ 62 := by have := HR.out.good.len; omega
        have TV := treeval_any w.heap.size w4 r T' (HR.out.good.fine (by omega)) (by omega) HR.out.tree
        unfold ptr at TV
        have TV := Lib.hid TV
        clear hpost hrun hlow RU NW RD HRG HXC HIX
        go_wp2_with fail
        refine TV.out.mono ?_
        rintro ex w5 ⟨v1, R1, rfl, hm1, ho1, hb5⟩
        have hrl : R1.length = T'.L.length := by have := congrArg List.length hm1; rw [List.length_map] at this; exact this
        have HM1 := Lib.hid hm1; have HO1 := Lib.hid ho1; have HB5 := Lib.hid hb5
        have HL5 : Hid (Below w.heap.size w w5) := Lib.hid (HL4.out.trans (hb5.mono HL4.out.size))
        have HT5 := Lib.hid (HR.out.tree.below hb5)
        have HS5 := Lib.hid (HnSt5.mk HS.out.good HS.out.map (HR.out.out.below hb5))
        obtain ⟨na, nc, rfl⟩ := rowS_slice ho1.row
        rw [hrl] at HO1 ⊢
        have HRL := Lib.hid hrl
        have kx := KR.out w5 HL5.out
        have NW := now_any w.heap.size w5 r T' HT5.out
        unfold ptr at NW
        have NW := Lib.hid NW
        have RD := reads_any w.heap.size w5 r T' HT5.out
        unfold ptr at RD
        have RD := Lib.hid RD
        obtain ⟨kd, hkd⟩ : ∃ kd, kd = x.kind := ⟨_, rfl⟩
        obtain ⟨E, hE⟩ : ∃ E, E = runE x T := ⟨_, rfl⟩
        obtain ⟨ch, hch⟩ : ∃ ch, ch = chgd x T := ⟨_, rfl⟩
        have hch2 : ch = (decide (E = 0) && (decide (0 ≤ kd) && decide (kd ≤ 8))) := by rw [hch, chgd, hE, hkd]
        have hrs : (T'.reads : Int) = (T.reads : Int) + if E = 0 ∧ kd = 9 then 1 else 0 := by
          rw [HR.out.facts.reads, ← hE, ← hkd]; split <;> omega
        have hYES : ch = true → (T'.clock : Int) = (T.clock : Int) + 1 := fun h => by have := HR.out.facts.yes (by rw [← hch, h]); omega
        have hNO : ch = false → T'.L = T.L ∧ T'.clock = T.clock := fun h => HR.out.facts.no (by rw [← hch, h])
        rw [← hkd] at kx
        rw [← hE]
        have HCH := Lib.hid hch2; have HRS := Lib.hid hrs; have HYES := Lib.hid hYES; have HNO := Lib.hid hNO
        clear hm1 ho1 hb5 hrl TV hkd hE hch hch2 hrs hYES hNO
        have kb : (i : Int) < (l.length : Int) := by omega
        have HHC : Hid (ch = (decide (E = 0) && (decide (0 ≤ kd) && decide (kd ≤ 8)))) := HCH
        go_upto_region 13 with (fail)
        refine hn13 _ _ _ _ _ _ _ _ _ _ _ _ _ _ _ _ _ _ _ _ _ _ _ _ _ _ _ _ _ _ _ _ _ _ _ _ _ _ _ _ _ _ _ _ _ _ _ _ _ _ _ _ _ _ _ _ _ _ _ _ _ _ _ _ _ _ _ _ _ _ _ _ _ _ _ _ _ _ _ _ _ _ _ _ _ _ _ _ _ _ _ _ _ _ _ _ _ _ _ _ _ _ _ _ _ _ _ _ _ _ _ _ _ _ _ _ _ _ _ _ _ _ _ _ _ _ _ _ _ _ _ _ _ _ _ _ _ _ _ _ _ _ _ _ _ _ _ _ _ _ _ _ _ _ _ _ _ _ _ _ _ _ _ _ _ _ _ _ _ _ _ _ _ _ _ _ _ _ _ _ _ _ _ _ _ _ _ _ _ _ _ _ _ _ _ _ _ _ _ _ _ _ _ _ _ _ _ _ _ _ _ _ _ _ _ _ _ _ _ _ _ _ _ _ _ _ _ _ _ _ _ _ _ _ _ _ _ _ _ _ _ _ _ _ _ _ _ _ _ _ _ (by intro c a a_ w hd h; have h2 : a.defers = [] ∧ _ := h; exact And.intro (hd.symm.trans h2.1) h2.2) hi2 (by omega) HHC kx ?_
        intro t43 t44 t45 t46 t47 t48 t49 t50 t51 t52 t53 t54 t55 t56 t57 t58 t59 t60 t61 t62 wx hwx
        obtain rfl : w5 = wx := hwx
        clear kb
        go_upto_region 14 with (fail)
        refine hn14 _ _ _ _ _ _ _ _ _ _ _ _ _ _ _ _ _ _ _ _ _ _ _ _ _ _ _ _ _ _ _ _ _ _ _ _ _ _ _ _ _ _ _ _ _ _ _ _ _ _ _ _ _ _ _ _ _ _ _ _ _ _ _ _ _ _ _ _ _ _ _ _ _ _ _ _ _ _ _ _ _ _ _ _ _ _ _ _ _ _ _ _ _ _ _ _ _ _ _ _ _ _ _ _ _ _ _ _ _ _ _ _ _ _ _ _ _ _ _ _ _ _ _ _ _ _ _ _ _ _ _ _ _ _ _ _ _ _ _ _ _ _ _ _ _ _ _ _ _ _ _ _ _ _ _ _ _ _ _ _ _ _ _ _ _ _ _ _ _ _ _ _ _ _ _ _ _ _ _ _ _ _ _ _ _ _ _ _ _ _ _ _ _ _ _ _ _ _ _ _ _ _ _ _ _ _ _ _ _ _ _ _ _ _ _ _ _ _ _ _ _ _ _ _ _ _ _ _ _ _ _ _ _ _ _ _ _ _ _ _ _ _ _ _ _ (by intro c a a_ w hd h; have h2 : a.defers = [] ∧ _ := h; exact And.intro (hd.symm.trans h2.1) h2.2) hi2 (by omega) HHC kx NW RD ⟨by omega, hcl⟩ ⟨by omega, hrd⟩ HYES (Lib.hid (fun h => ⟨by rw [(HNO.out h).1], by rw [(HNO.out h).2]⟩)) HRS ?_
        intro t63 t64 t65 t66 t67 t68 t69 t70 t71 t72 t73 t74 t75 t76 t77 t78 t79 t80 t81 t82 t83 t84 t85 t86 t87 t88 t89 t90 t91 t92 t93 t94 t95 t96 t97 t98 t99 t100 t101 t102 t103 wx hwx
        obtain rfl : w5 = wx := hwx
        clear kx NW RD HHC HCH HRS HYES
        have hgm := HS.out.most
        have HGM := Lib.hid hgm
        have hmost : g ≤ T'.most := Nat.le_trans hgm HR.out.most
        clear hgm
        go_wp2
        go_loopw [12, 13] (fun v12 v13 ws => ∃ (k mo : Nat), k ≤ T'.L.length ∧ v13 = .int .i64 (k : Int) ∧ v12 = .int .u64 (mo : Int) ∧ mo ≤ T'.most ∧ Hid (Below w5.heap.size w5 ws)) (fun _ v13 _ => T'.L.length - (RowKit.intOf v13).toNat)
        case atStart => exact ⟨0, g, by omega, rfl, rfl, hmost, Lib.hid (Below.refl _ _)⟩
        case round =>
          rename World => ws
          obtain ⟨k, mo, hk, rfl, rfl, hmo, HBS⟩ := hrel
          by_cases hkl : (k : Int) < (T'.L.length : Int)
          · have hk2 : k < T'.L.length := by omega
            obtain ⟨e, he⟩ : ∃ e, T'.L[k]? = some e := ⟨_, List.getElem?_eq_getElem hk2⟩
            have HE := Lib.hid he
            clear he
            go_upto_block 3 with (fail)
            refine hn_b3 _ _ _ _ _ _ _ _ _ _ _ _ _ _ _ _ _ _ _ _ _ _ _ _ _ _ _ _ _ _ _ _ _ _ _ _ _ _ _ _ _ _ _ _ _ _ _ _ _ _ _ _ _ _ _ _ _ _ _ _ _ _ _ _ _ _ _ _ _ _ _ _ _ _ _ _ _ _ _ _ _ _ _ _ _ _ _ _ _ _ _ _ _ _ _ _ _ _ _ _ _ _ _ _ _ _ _ _ _ _ _ _ _ _ _ _ _ _ _ _ _ _ _ _ _ _ _ _ _ _ _ _ _ _ _ _ _ _ _ _ _ _ _ _ _ _ _ _ _ _ _ _ _ _ _ _ _ _ _ _ _ _ _ _ _ _ _ _ _ _ _ _ _ _ _ _ _ _ _ _ _ _ _ _ _ _ _ _ _ _ _ _ _ _ _ _ _ _ _ _ _ _ _ _ _ _ _ _ _ _ _ _ _ _ _ _ _ _ _ _ _ _ _ _ _ _ _ _ _ _ _ _ _ _ _ _ _ _ _ _ _ _ _ _ _ _ (by intro c a a_ w hd h; have h2 : a.defers = [] ∧ _ := h; exact And.intro (hd.symm.trans h2.1) h2.2) HT5 HO1 HM1 (Lib.hid (HS5.out.out)) (Lib.hid HS5.out.map) HBS (Lib.hid HS5.out.good) (Lib.hid HR.out.good) (Lib.hid HR.out.tree.srt) (by omega) (Lib.hid HR.out.was) HGM HNO HE.out hmo ?_
            intro mo2 t2 t14 t15 t16 t17 t112 t113 t114 t115 t116 t117 t118 t119 t120 t121 t122 t123 t124 t125 t126 t127 t128 t129 t130 t131 t132 t133 t134 t135 t136 t137 t138 t139 t140 t141 t142 t143 t144 t145 t146 t147 t148 t149 t150 t151 t152 t153 t154 t155 t156 t157 t158 t159 t160 t161 t162 t163 t164 t165 t166 t167 t168 t169 t170 t171 t172 t173 t174 t175 t176 t177 t178 t179 t180 t181 t182 t183 t184 t185 t186 t187 t188 t189 t190 t191 t192 t193 t194 t195 t196 t197 t198 t199 t200 t201 t202 t203 t204 t205 t206 t207 t208 t209 t210 t211 t212 t213 t214 t215 t216 t217 t218 t219 t220 t221 t222 t223 t224 t225 t226 t227 t228 t229 t230 t231 t232 t233 t234 t235 t236 t237 t238 t239 t240 t241 t242 t243 t244 t245 t246 t247 t248 t249 t250 t251 w6 h6
            obtain ⟨hm2, hb6⟩ := h6
            have HB6 := Lib.hid (HBS.out.trans (hb6.mono HBS.out.size))
            clear hb6 HE
            go_wp2
            go_roundw
            case rel => exact ⟨k + 1, mo2, by omega, by go_num, rfl, hm2, HB6⟩
            case measure => simp [RowKit.intOf]; omega
          · obtain rfl : k = T'.L.length := by omega
            have HNX : Hid (HnSt w.heap.size ws r T' (.slice na T'.L.length nc) R1 mo (i + 1)) := Lib.hid ((HR.out.next HM1.out HO1.out HB5.out HL4.out.size hmo).below HBS.out)
            have HLX : Hid (Below w.heap.size w ws) := Lib.hid (HL5.out.trans (HBS.out.mono HL5.out.size))
            go_wp2
            go_roundw
            case rel => exact ⟨i + 1, by omega, by omega, by go_num, T', na, nc, R1, mo, rfl, rfl, HNX, HLX⟩
            case measure => simp [RowKit.intOf]; omega
      · obtain rfl : i = 60 := by omega
        go_wp2
        go_ret
        exact ⟨rfl, HLW.out⟩
    · go_wp2
      go_ret
      exact ⟨rfl, HLW.out⟩
end Go.Proofs.YthcjjekkjbidlaaDoor.Sr
