import Derived.Test.YtnkapojbijbbaaaGreatDoorZPChB0
import Derived.Test.YtnkapojbijbbaaaGreatDoorRows
import Derived.Test.YtnkapojbijbbaaaGreatDoorZPNmSplitCore
import Derived.Lib.LaidU8
import Derived.MakeChecks
import Derived.Test.YtnkapojbijbbaaaGreatDoorZPSrLawSt
import Derived.Test.YtnkapojbijbbaaaGreatDoorZPRowKit
import Derived.Carry
import Derived.Deep.Slices
import Derived.ChangeSame
import Derived.SizedLaws
set_option linter.unusedSimpArgs false
set_option linter.unusedVariables false
set_option maxHeartbeats 32000000
set_option maxRecDepth 100000
namespace Go.Proofs.YtnkapojbijbbaaaGreatDoor.Sr
open Go.RowKit Go.Maps Go.WideMaps Rf Go.Proofs.YtnkapojbijbbaaaGreatDoor.Nm St
theorem ChSt.start {w w2 w3 w4 : World} {r p m q g b : Nat} {qv : Value} {R : List RN} (h2 : TreeAt w.heap.size w2 r (newT p m)) (hb2 : Below w.heap.size w w2) (h3 : RTree w2.heap.size w3 q qv R newF) (hb3 : Below w2.heap.size w2 w3) (ho3 : ∀ x ∈ rblk q qv R, w2.heap.size ≤ x) (h4 : IndexAt w3.heap.size w4 g b []) (hb4 : Below w3.heap.size w3 w4) :
 ChSt w.heap.size (w4.alloc (.cells #[.slice none 0 0] 32)) r (newT p m) g b [] q qv R (newT p m).bare w4.heap.size (.slice none 0 0) [] := by
 have hs2 := hb2.size; have hs3 := hb3.size; have hs4 := hb4.size
 have hA : Below w4.heap.size w4 (w4.alloc (.cells #[.slice none 0 0] 32)) := (Below.refl _ _).alloc (Nat.le_refl _) _
 have hgl := h4.lt_g; have hbl := h4.lt_b; have hbg := h4.baseg; have hbb := h4.baseb
 have hob : ∀ x, x ∉ ob (.slice none 0 0) := fun x hx => by simp [ob, Value.ownBlock] at hx
 refine ⟨((h2.below hb3).below hb4).below hA, (h4.below hA).mono (by omega), ((h3.below hb4).below hA).mono hs2, ⟨(MapKept.heap_alloc w4 _).1, rowS_nil _ _ _ _, fun x hx => absurd hx (hob x), by omega, h4.srt, by simp, by simp⟩, fun x hx hy => ?_, fun x hx => ?_, fun x hx => ?_, by omega, by omega, hob _, hob _⟩
 · have h1 := h2.lt x hx; have h5 := ho3 x hy; omega
 · have h1 := h2.lt x hx
   exact ⟨by omega, by omega, by omega, hob _⟩
 · have h1 := h3.lt x hx
   exact ⟨by omega, by omega, by omega, hob _⟩
theorem ch19_law (w : World) (v : Value) (l : List Chg) (hT : Tabs w) (hl : ChgsAt w v l) :
 Calls Tryz.prog 3 #[v] w fun e w' => e = .returned (.bool true) ∧ Below w.heap.size w w' := by
 obtain ⟨a, cap, rfl, hlm, hcell, hfit⟩ := hl
 have HC := Lib.hid hcell; have HF := Lib.hid hfit; have HTB := Lib.hid hT
 have TN := Lib.hid (tree_new w)
 unfold maxLen at hlm
 clear hcell hfit hT
 go_enter Tryz.func3, Tryz.ntmps3
 go_wp2_with fail
 refine TN.out.mono ?_
 rintro ex w2 ⟨r, p, m, rfl, ht2, hb2⟩
 have HT2 := Lib.hid ht2; have HB2 := Lib.hid hb2
 have RN2 := Lib.hid (rnew_any w2)
 clear ht2 hb2 TN
 unfold ptr at *
 go_wp2_with fail
 refine RN2.out.mono ?_
 rintro ex w3 ⟨q, qv, R, rfl, ht3, hb3, ho3⟩
 have HT3 := Lib.hid ht3; have HB3 := Lib.hid hb3; have HO3 := Lib.hid ho3
 have NW := Lib.hid (new_any w3)
 clear ht3 hb3 ho3 RN2
 unfold ptr at *
 go_wp2_with fail
 refine NW.out.mono ?_
 rintro ex w4 ⟨g, b, rfl, hi4, hb4⟩
 have hst := ChSt.start HT2.out HB2.out HT3.out HB3.out HO3.out hi4 hb4
 have HLW : Hid (Below w.heap.size w (w4.alloc (.cells #[.slice none 0 0] 32))) := Lib.hid (((HB2.out.trans (HB3.out.mono HB2.out.size)).trans (hb4.mono (Nat.le_trans HB2.out.size HB3.out.size))).alloc (Nat.le_trans HB2.out.size (Nat.le_trans HB3.out.size hb4.size)) _)
 have HST := Lib.hid hst
 have HG0 : Hid (Good 0 (newT p m) ∧ (newT p m).clock ≤ 0) := Lib.hid ⟨good_new p m, Nat.le_refl _⟩
 clear hst hi4 hb4 NW HT2 HB2 HT3 HB3 HO3
 unfold ptr at *
 go_upto_block 0 with (fail)
 refine ch_b0 _ _ _ _ _ _ _ _ _ _ _ _ _ _ _ _ _ _ _ _ _ _ _ _ _ _ _ _ _ _ _ _ _ _ _ _ _ _ _ _ _ _ _ _ _ _ _ _ _ _ _ _ _ _ _ _ _ _ _ _ _ _ _ _ _ _ _ _ _ _ _ _ _ _ _ _ _ _ _ _ _ _ _ _ _ _ _ _ _ _ _ _ _ _ _ _ _ _ _ _ _ _ _ _ _ _ _ _ _ _ _ _ _ _ _ _ _ _ _ _ _ _ _ _ _ _ _ _ _ _ _ _ _ _ _ _ _ _ _ _ _ _ _ _ _ _ _ _ _ _ _ _ _ _ _ _ _ _ _ _ _ _ _ _ _ _ _ _ _ _ _ _ _ _ (by intro c a a_ w hd h; have h2 : a.defers = [] ∧ _ := h; exact And.intro (hd.symm.trans h2.1) h2.2) (by omega) HC HF HTB HST HG0 HLW ?_
 intro t2 t7 t8 t9 t10 t11 t12 t13 t14 t15 t16 t17 t18 t24 t25 t26 t27 t28 t29 t30 t31 t32 t33 t34 t35 t36 t37 t38 t39 t40 t41 t42 t43 t44 t45 t46 t47 t48 t49 t50 t51 t52 t53 t54 t55 t56 t57 t58 t59 t60 t61 t62 t63 t64 t65 t66 t67 t68 t69 t70 t71 t72 t73 t74 t75 t76 t77 t78 t79 t80 t81 t82 t83 t84 t85 t86 t87 t88 t89 t90 t91 t92 t93 t94 t95 t96 t97 t98 t99 t100 t101 t102 t103 t104 t105 t106 t107 t108 t109 t110 t111 t112 t113 t114 t115 t116 t117 t118 t119 t120 t121 t122 t123 t124 t125 t126 t127 t128 t129 t130 t131 t132 t133 t134 t135 t136 t137 t138 t139 t140 t141 t142 t143 t144 t145 t146 t147 t148 t149 t150 t151 t152 t153 t154 t155 t156 t157 t158 t159 t160 t161 t162 t163 t164 t165 t166 t167 t168 t169 t170 t171 t172 t173 t174 t175 t176 t177 t178 t179 w5 h5
 have HL5 := Lib.hid h5
 clear h5
 go_wp2
 go_ret
 exact ⟨rfl, HL5.out⟩
end Go.Proofs.YtnkapojbijbbaaaGreatDoor.Sr
namespace Go.Proofs.YtnkapojbijbbaaaGreatDoor.Nm
open Go.Lib
theorem gFirst : Tryz.prog.globalNamed "unicode/utf8.first" = some 1 := by kernel_rfl
theorem gAccept : Tryz.prog.globalNamed "unicode/utf8.acceptRanges" = some 2 := by kernel_rfl
theorem tFirst : (Tryz.prog.globals[1]?).map (·.type) = some 200 := by kernel_rfl
theorem tAccept : (Tryz.prog.globals[2]?).map (·.type) = some 203 := by kernel_rfl
theorem cU8 : Tryz.prog.cellsOf 5 = 1 := by kernel_rfl
theorem cFirst : Tryz.prog.cellsOf 200 = 256 := by kernel_rfl
theorem cRange : Tryz.prog.cellsOf 202 = 2 := by kernel_rfl
theorem firstIs : Rows.laid_unicode_utf8_first = firstData := by kernel_rfl
theorem acceptIs : (Rows.laid_unicode_utf8_acceptRanges : DataW Unit) = acceptData := by kernel_rfl
theorem tabs_of_reads {w : World} (h3 : VarReads Tryz.prog w "unicode/utf8.first" firstData) (h4 : VarReads Tryz.prog w "unicode/utf8.acceptRanges" acceptData) : Tabs w := by
 refine ⟨fun c hc => ?_, fun i hi => ?_⟩
 · obtain ⟨g, t, cs, fuel, p, hg, hty, hvar, hd⟩ := h3
   obtain rfl := Option.some.inj (gFirst.symm.trans hg)
   obtain rfl := Option.some.inj (tFirst.symm.trans hty)
   have hcs := cells_of_tab Tryz.underlying200 Tryz.underlying5 cU8 cFirst hd
   have := World.var?_cell hg hvar c
   rw [this, ← Array.getElem?_toList, hcs]
   simp [firstTab, hc]
 · obtain ⟨g, t, cs, fuel, p, hg, hty, hvar, hd⟩ := h4
   obtain rfl := Option.some.inj (gAccept.symm.trans hg)
   obtain rfl := Option.some.inj (tAccept.symm.trans hty)
   obtain ⟨fuel', d, q, hdi, he⟩ := array_elem Tryz.underlying203 hd i hi
   simp only [List.getElem?_map, List.getElem?_range hi, Option.map_some, Option.some.injEq] at hdi
   subst hdi
   rw [cRange] at he
   have hcs := ints_of_struct Tryz.underlying202 (fun j f hj => by
    match j, hj with
    | 0, hj => simp at hj; subst hj; exact ⟨Tryz.underlying5, rfl, cU8⟩
    | 1, hj => simp at hj; subst hj; exact ⟨Tryz.underlying5, rfl, cU8⟩
    | j + 2, hj => simp at hj) (by rw [cRange]; rfl) he
   have e0 := congrArg (·[0]?) hcs
   have e1 := congrArg (·[1]?) hcs
   simp only [List.getElem?_take, List.getElem?_drop] at e0 e1
   constructor
   · rw [World.var?_cell hg hvar (2 * i), ← Array.getElem?_toList]
     simpa [Nat.mul_comm] using e0
   · rw [World.var?_cell hg hvar (2 * i + 1), ← Array.getElem?_toList]
     simpa [Nat.mul_comm] using e1
theorem tabs_of_laid {W : World} {l : List (String × DataW Unit)} (h : laidMetH Tryz.prog l W) (hp : (l.all fun x => x.2.handleName?.isNone) = true)
 (h1 : ("unicode/utf8.first", Rows.laid_unicode_utf8_first) ∈ l) (h2 : ("unicode/utf8.acceptRanges", Rows.laid_unicode_utf8_acceptRanges) ∈ l) : Tabs W := by
 rw [Go.MakeChecks.laidMetH_plain _ _ _ hp] at h
 exact tabs_of_reads (firstIs ▸ laidMet.reads h h1) (acceptIs ▸ laidMet.reads h h2)
end Go.Proofs.YtnkapojbijbbaaaGreatDoor.Nm
namespace Go.Proofs.YtnkapojbijbbaaaGreatDoor.Sr
open Go.RowKit Go.ChangeShapes Go.WideShapes Go.Deep Rf Go.Proofs.YtnkapojbijbbaaaGreatDoor.Nm St Rd
set_option linter.unusedSimpArgs false
section
variable {H : Type} {enc : TypeId × Value → H} {w : World} {base : Nat} {spare : Nat → Bool} {held : Bool}
theorem all_mem {l : List Nat} (h : l.all (· ≤ reachBytes) = true) {x : Nat} (hx : x ∈ l) : x ≤ 140737488351232 := by
 have := List.all_eq_true.1 h x hx
 have h2 : reachBytes ≤ 140737488351232 := by decide
 simp only [decide_eq_true_eq] at this
 omega
theorem all_sub {l m : List Nat} (h : l.all (· ≤ reachBytes) = true) (hm : ∀ x ∈ m, x ∈ l) : m.all (· ≤ reachBytes) = true :=
 List.all_eq_true.2 (fun x hx => List.all_eq_true.1 h x (hm x hx))
theorem weights_all {P : Program} {e : TypeId} {x : Nat} : ∀ {l : List (DataW H)} {i : Nat} {d : DataW H}, l[i]? = some d → x ∈ DataW.weights P e d → x ∈ DataW.weightsAll P e l
 | [], _, _, h, _ => by simp at h
 | y :: r, 0, d, h, hx => by
   simp at h; subst h
   simp [DataW.weightsAll, hx]
 | y :: r, i + 1, d, h, hx => by
   have := weights_all (l := r) (by simpa using h) hx
   simp [DataW.weightsAll, this]
theorem open_chg {n : Nat} {cs : List Value} {y : DataW H × List MemPlace} (h : DataW.trod enc Tryz.prog w base spare held n 36 cs = some y) (hz : (DataW.weights Tryz.prog 36 y.1).all (· ≤ reachBytes) = true) :
 ∃ x : Chg, cs = x.cells ∧ x.Fits := by
 obtain ⟨xs, m, _, rfl, hl, hxl, hf⟩ := DataW.trod_struct Tryz.underlying36 h
 have k3 : Tryz.prog.cellsOf 3 = 1 := by kernel_rfl
 have k9 : Tryz.prog.cellsOf 9 = 1 := by kernel_rfl
 have k5 : Tryz.prog.cellsOf 34 = 1 := by kernel_rfl
 have k33 : Tryz.prog.cellsOf 36 = 4 := by kernel_rfl
 rw [k33] at hl
 match xs, hxl with
 | [y0, y1, y2, y3], _ =>
   match cs, hl with
   | [e0, e1, e2, e3], _ =>
     have h0 := hf 0 _ rfl
     have h1 := hf 1 _ rfl
     have h2 := hf 2 _ rfl
     have h3 := hf 3 _ rfl
     simp only [k3, k9, k5, List.drop_zero, List.drop_succ_cons, List.take_succ_cons, List.take_zero, List.getElem?_cons_zero, List.getElem?_cons_succ] at h0 h1 h2 h3
     obtain ⟨q0, r0, _, s0⟩ := DataW.trod_int Tryz.underlying3 h0
     obtain ⟨q1, r1, t1, _⟩ := DataW.trod_string Tryz.underlying9 h1
     obtain ⟨q2, r2, t2, _⟩ := DataW.trod_string Tryz.underlying9 h2
     obtain ⟨q3, r3, _, s3⟩ := DataW.trod_int Tryz.underlying34 h3
     have hz2 : (DataW.weightsEach Tryz.prog [3, 9, 9, 34] [y0.1, y1.1, y2.1, y3.1]).all (· ≤ reachBytes) = true := by
      have hz' := hz
      simp only [DataW.weights, Tryz.underlying36] at hz'
      exact hz'
     have w1 : q1.size ≤ 140737488351232 := by
      refine all_mem hz2 (DataW.weights_mem_each (j := 1) rfl rfl _ ?_)
      rw [t1]; simp [DataW.weights, ← Lib.size_eq]
     have w2 : q2.size ≤ 140737488351232 := by
      refine all_mem hz2 (DataW.weights_mem_each (j := 2) rfl rfl _ ?_)
      rw [t2]; simp [DataW.weights, ← Lib.size_eq]
     have hi3 : 0 ≤ q3 ∧ q3 < 4294967296 := by
      simp [Lit.wf, IntKind.min, IntKind.max, IntKind.signed, IntKind.bits] at s3
      omega
     have hn3 : ((q3.toNat : Nat) : Int) = q3 := by omega
     injection r0 with r0; injection r1 with r1; injection r2 with r2; injection r3 with r3
     refine ⟨⟨q0, q1.data.toList, q2.data.toList, q3.toNat⟩, ?_, ?_⟩
     · simp only [Chg.cells, ba_mk, hn3]
       rw [r0, r1, r2, r3]
     · exact ⟨by show q1.data.toList.length ≤ _; rw [← Lib.size_eq]; omega, by show q2.data.toList.length ≤ _; rw [← Lib.size_eq]; omega, by show q3.toNat < _; omega⟩
theorem open_chgs {W : World} {v : Value} {d : DataW H} {p : List MemPlace} {r : Reach} {b0 : Nat} (hval : Value.okWide Tryz.prog W r b0 22 v) (h : DataW.Trod enc Tryz.prog W base (fun _ => true) true 22 v d p)
 (hz : (DataW.weights Tryz.prog 22 d).all (· ≤ reachBytes) = true) : ∃ l : List Chg, ChgsAt W v l := by
 obtain ⟨a0, n0, c0, rfl⟩ := okWide_slice Tryz.underlying22 hval
 obtain ⟨fuel, hf⟩ := h
 rcases open_slice Tryz.underlying22 hf with ⟨hcs, _⟩ | ⟨a, len, cap, m, n, D, Pl, hcs, _, hl, hm, hmm, hx, hi⟩
 · simp only [Value.cells] at hcs
   simp at hcs
   obtain ⟨rfl, rfl, rfl⟩ := hcs
   exact ⟨[], none, 0, rfl, by simp, fun hne => absurd rfl hne, by simp⟩
 · simp only [Value.cells] at hcs
   simp at hcs
   obtain ⟨rfl, rfl, rfl⟩ := hcs
   have k34 : Tryz.prog.cellsOf 36 = 4 := by kernel_rfl
   rw [k34] at hi
   have hmn : n0 ≤ m := by rw [hmm]; simp; exact hl
   have hd : d = .slice ((List.range n0).map D) ((List.range (m - n0)).map fun j => D (n0 + j)) := congrArg Prod.fst hx
   have hzi : ∀ i, i < n0 → (DataW.weights Tryz.prog 36 (D i)).all (· ≤ reachBytes) = true := fun i hi' => all_sub hz (fun z hzm => by
    rw [hd]
    simp only [DataW.weights, Tryz.underlying22]
    refine List.mem_cons_of_mem _ (List.mem_append_left _ (weights_all (i := i) ?_ hzm))
    rw [List.getElem?_map, List.getElem?_range hi']; rfl)
   have hspot : 0 < n0 → a.spot = none := fun hp => by
    obtain ⟨cs', hc, ht⟩ := hi 0 (by omega)
    obtain ⟨x, rfl, _⟩ := open_chg ht (hzi 0 hp)
    obtain ⟨_, _, hat⟩ := World.cells?_some hc
    have := World.cell?_spot ((hat 0 (by simp [Chg.cells])).trans rfl)
    simpa [Addr.add] using this
   have hex : ∀ i : Nat, ∃ x : Chg, i < n0 → x.Fits ∧ a.spot = none ∧ a.block < W.heap.size ∧ W.rangeAt a.block (a.off + i * 4) x.cells := by
    intro i
    by_cases hlt : i < n0
    · obtain ⟨cs', hc, ht⟩ := hi i (by omega)
      obtain ⟨x, rfl, hx⟩ := open_chg ht (hzi i hlt)
      obtain ⟨_, _, hat⟩ := World.cells?_some hc
      have g0 := hat 0 (by simp [Chg.cells])
      have hsp : a.spot = none := hspot (by omega)
      have hadd : ∀ j, (a.add (i * 4)).add j = ⟨a.block, a.off + i * 4 + j, none⟩ := fun j => by
       rw [add_add]
       obtain ⟨ab, ao, asp⟩ := a
       simp only at hsp
       subst hsp
       unfold Addr.add
       split
       · next h =>
         have h1 : i * 4 = 0 := by omega
         have h2 : j = 0 := by omega
         rw [h1, h2]; rfl
       · rw [Nat.add_assoc]
      have hbl : a.block < W.heap.size := by
       have := World.block_lt_of_cell? W _ (g0.trans rfl)
       rw [hadd] at this
       exact this
      refine ⟨x, fun _ => ⟨hx, hsp, hbl, ?_⟩⟩
      intro j v hv
      rw [← hadd]
      exact (hat j (List.getElem?_eq_some_iff.1 hv).1).trans hv
    · exact ⟨default, fun h => absurd h hlt⟩
   obtain ⟨g, hg⟩ := Classical.axiomOfChoice hex
   have hln : ((List.range n0).map g).length = n0 := by simp
   have hget : ∀ (i : Nat) x, ((List.range n0).map g)[i]? = some x → i < n0 ∧ x = g i := fun i x hx => by
    rw [List.getElem?_map] at hx
    by_cases hlt : i < n0
    · rw [List.getElem?_range hlt] at hx; exact ⟨hlt, (Option.some.inj hx).symm⟩
    · rw [List.getElem?_eq_none (by simp; omega)] at hx; simp at hx
   refine ⟨(List.range n0).map g, some a, c0, by rw [hln], by rw [hln]; omega, fun hne => ?_, fun x hx => ?_⟩
   · have hpos : 0 < n0 := by
      rcases Nat.eq_zero_or_pos n0 with e | e
      · exact absurd (by rw [e]; rfl) hne
      · exact e
     obtain ⟨_, hsp, hbl, _⟩ := hg 0 hpos
     refine ⟨a.block, a.off, ?_, hbl, fun i x hx => ?_⟩
     · obtain ⟨ab, ao, asp⟩ := a
       simp only at hsp
       subst hsp; rfl
     · obtain ⟨hlt, rfl⟩ := hget i x hx
       exact (hg i hlt).2.2.2
   · obtain ⟨i, hi', rfl⟩ := List.mem_map.1 hx
     exact (hg i (List.mem_range.1 hi')).1
end
end Go.Proofs.YtnkapojbijbbaaaGreatDoor.Sr
