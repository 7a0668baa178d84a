import Derived.Test.YtpbhkaokgpacoaaGreatDoorZStRunsKit
import Derived.Test.YtpbhkaokgpacoaaGreatDoorZStBlk
import Derived.Test.YtpbhkaokgpacoaaGreatDoorZStP39
import Derived.Test.YtpbhkaokgpacoaaGreatDoorZStP41
import Derived.Test.YtpbhkaokgpacoaaGreatDoorZStP42
import Derived.Test.YtpbhkaokgpacoaaGreatDoorZStP43
import Derived.Test.YtpbhkaokgpacoaaGreatDoorZStP45
import Derived.Deep.CutBlock
set_option linter.unusedSimpArgs false
set_option linter.unusedVariables false
/-
  The walk of the law: the stat index answers every call rightly.
-/
namespace Go.Proofs.YtpbhkaokgpacoaaGreatDoor.St
open Go.RowKit Go.Maps Go.WideMaps Go.Proofs.YtpbhkaokgpacoaaGreatDoor.Rf Go.Proofs.YtpbhkaokgpacoaaGreatDoor.Rd

/-- The place that a step is for. -/
def whoN (x : StpX) : Nat := if x.who = 0 then 0 else 1
theorem RunSt.choose {w : World} {c xa ma g b r : Nat} {v : Value} {L : List SE} {g' b' r' : Nat} {v' : Value} {L' : List SE} {Q : List Nat} {W : World} (h : RunSt w c xa ma g b r v L L g' b' r' v' L' Q W) (k : Nat) (hk : k < 2) :
    ∃ g b r v L g' b' r' v' L', RunSt w k xa ma g b r v L L g' b' r' v' L' Q W := by
  have hc := h.hc
  by_cases e : c = k
  · subst e; exact ⟨_, _, _, _, _, _, _, _, _, _, h⟩
  · have := h.swap
    rw [show 1 - c = k by omega] at this
    exact ⟨_, _, _, _, _, _, _, _, _, _, this⟩
/-- The four variables behind two new indexes. -/
def startW (w2 : World) (g0 g1 : Nat) : World := (((w2.alloc (.cells #[ptr g0, ptr g1] 25)).alloc (.cells #[.slice none 0 0] 29)).alloc (.cells #[.slice none 0 0] 29)).alloc (.cells #[ptr (w2.heap.size + 1), ptr (w2.heap.size + 1 + 1)] 30)
theorem run_start {w w1 w2 : World} {g0 b0 g1 b1 : Nat} (h0 : IndexAt w.heap.size w1 g0 b0 []) (hb1 : Below w.heap.size w w1) (h1 : IndexAt w1.heap.size w2 g1 b1 []) (hb2 : Below w1.heap.size w1 w2) :
    RunSt w 0 w2.heap.size (w2.heap.size + 1 + 1 + 1) g0 b0 (w2.heap.size + 1) (.slice none 0 0) [] [] g1 b1 (w2.heap.size + 1 + 1) (.slice none 0 0) [] [] (startW w2 g0 g1) := by
  obtain ⟨n, hn⟩ : ∃ n, n = w2.heap.size := ⟨_, rfl⟩
  obtain ⟨A, hA⟩ : ∃ A, A = w2.alloc (.cells #[ptr g0, ptr g1] 25) := ⟨_, rfl⟩
  obtain ⟨C, hC⟩ : ∃ C, C = A.alloc (.cells #[.slice none 0 0] 29) := ⟨_, rfl⟩
  obtain ⟨D, hD⟩ : ∃ D, D = C.alloc (.cells #[.slice none 0 0] 29) := ⟨_, rfl⟩
  obtain ⟨E, hE⟩ : ∃ E, E = startW w2 g0 g1 := ⟨_, rfl⟩
  have hE2 : E = D.alloc (.cells #[ptr (n + 1), ptr (n + 1 + 1)] 30) := by rw [hE, hD, hC, hA, hn]; rfl
  have sA : A.heap.size = n + 1 := by rw [hA, one_size, hn]
  have sC : C.heap.size = n + 2 := by rw [hC, one_size, sA]
  have sD : D.heap.size = n + 3 := by rw [hD, one_size, sC]
  have qA : A.heap[n]? = some (.cells #[ptr g0, ptr g1] 25) := by rw [hA, hn]; exact (MapKept.heap_alloc w2 _).1
  have qC : C.heap[n + 1]? = some (.cells #[.slice none 0 0] 29) := by rw [hC, ← sA]; exact (MapKept.heap_alloc A _).1
  have qD : D.heap[n + 2]? = some (.cells #[.slice none 0 0] 29) := by rw [hD, ← sC]; exact (MapKept.heap_alloc C _).1
  have qE : E.heap[n + 3]? = some (.cells #[ptr (n + 1), ptr (n + 1 + 1)] 30) := by rw [hE2, ← sD]; exact (MapKept.heap_alloc D _).1
  have bE : Below w2.heap.size w2 E := by
    rw [hE2, hD, hC, hA]
    exact ((((Below.refl _ _).alloc (Nat.le_refl _) _).alloc (by rw [one_size]; omega) _).alloc (by rw [one_size, one_size]; omega) _).alloc (by rw [one_size, one_size, one_size]; omega) _
  have e0 : E.heap[n]? = some (.cells #[ptr g0, ptr g1] 25) := by rw [hE2]; refine at_alloc ?_ _; rw [hD]; refine at_alloc ?_ _; rw [hC]; exact at_alloc qA _
  have e1 : E.heap[n + 1]? = some (.cells #[.slice none 0 0] 29) := by rw [hE2]; refine at_alloc ?_ _; rw [hD]; exact at_alloc qC _
  have e2 : E.heap[n + 1 + 1]? = some (.cells #[.slice none 0 0] 29) := by rw [hE2]; exact at_alloc qD _
  have l0 := h0.lt_g; have l1 := h0.lt_b; have l2 := h1.lt_g; have l3 := h1.lt_b
  have m0 := h0.baseg; have m1 := h0.baseb; have m2 := h1.baseg; have m3 := h1.baseb
  have z1 := hb1.size; have z2 := hb2.size
  have p0 := h0.gb; have p1 := h1.gb
  rw [← hn, ← hE]
  have nil : ob (.slice none 0 0) = [] := rfl
  have k0 := (h0.kept (w' := w2) (hb2.block _ l0) (hb2.block _ l1)).below bE
  have k1 := (h1.mono z1).below bE
  refine ⟨by decide, ⟨_, e0, rfl, rfl, rfl⟩, ⟨_, qE, rfl, rfl, rfl⟩, ⟨k0, ⟨e1, rowS_nil _ _ _ _, by simp [nil], by omega, List.Pairwise.nil, by simp, by simp⟩, by simp, ?_⟩, ⟨k1, ⟨e2, rowS_nil _ _ _ _, by simp [nil], by omega, List.Pairwise.nil, by simp, by simp⟩, by simp, ?_⟩, ?_, ?_, ?_, by omega, ⟨by omega, by omega⟩, (hb1.trans (hb2.mono z1)).trans (bE.mono (by omega))⟩
  · intro x hx hy; simp [nil] at hx hy; omega
  · intro x hx hy; simp [nil] at hx hy; omega
  · intro x hx hy; simp [own, nil] at hx hy; omega
  · intro x hx hy; simp [own, nil] at hx hy; omega
  · intro x hx hy; simp [own, nil] at hx hy; omega

theorem post_panic {P : Program} {fn : Func} {R : Ending → World → Prop} {c : List PanicEntry} {a a' : Act} {w : World} (hd : a.defers = a'.defers) (h : bodyPost P fn R (.panic c) a w) : bodyPost P fn R (.panic c) a' w :=
  ⟨hd.symm.trans h.1, h.2⟩

set_option linter.unusedSimpArgs false in
set_option maxHeartbeats 40000000 in
set_option maxRecDepth 100000 in
theorem runs_law (w : World) (hT : Nm.Tabs w) (v0 : Value) (l : List StpX) (h : StepsAt w v0 l) :
    Calls Tryz.prog 3 #[v0] w fun e w' => e = .returned (.bool true) ∧ Below w.heap.size w w' := by
  obtain ⟨la, lc, rfl, hlm, hlc, hlf⟩ := h
  unfold maxLen at hlm
  have HLC := Lib.hid hlc; have HLF := Lib.hid hlf; have HTB := Lib.hid hT
  have NW := Lib.hid (new_any w)
  clear hlc hlf hT
  unfold ptr at *
  go_enter Tryz.func3, Tryz.ntmps3
  go_wp2_with fail
  refine NW.out.mono ?_
  rintro ex w1 ⟨g0, b0, rfl, hat1, hb1⟩
  have HA1 := Lib.hid hat1; have HB1 := Lib.hid hb1
  have NW2 := Lib.hid (new_any w1)
  clear hat1 hb1 NW
  go_wp2_with fail
  refine NW2.out.mono ?_
  rintro ex w2 ⟨g1, b1, rfl, hat2, hb2⟩
  have HA2 := Lib.hid hat2; have HB2 := Lib.hid hb2
  clear hat2 hb2 NW2
  unfold ptr at *
  go_wp2
  have HRS : Hid (RunSt w 0 w2.heap.size (w2.heap.size + 1 + 1 + 1) g0 b0 (w2.heap.size + 1) (.slice none 0 0) [] [] g1 b1 (w2.heap.size + 1 + 1) (.slice none 0 0) [] [] (startW w2 g0 g1)) := Lib.hid (run_start HA1.out HB1.out HA2.out HB2.out)
  obtain ⟨xa, hxa⟩ : ∃ xa, xa = w2.heap.size := ⟨_, rfl⟩
  obtain ⟨ma, hma⟩ : ∃ ma, ma = w2.heap.size + 1 + 1 + 1 := ⟨_, rfl⟩
  obtain ⟨W0, hW0⟩ : ∃ W0, W0 = startW w2 g0 g1 := ⟨_, rfl⟩
  rw [← hW0, ← hma, ← hxa] at HRS
  rw [show (((w2.alloc (.cells #[.pointer (some ⟨g0, 0, none⟩), .pointer (some ⟨g1, 0, none⟩)] 25)).alloc (.cells #[.slice none 0 0] 29)).alloc (.cells #[.slice none 0 0] 29)).alloc (.cells #[.pointer (some ⟨w2.heap.size + 1, 0, none⟩), .pointer (some ⟨w2.heap.size + 1 + 1, 0, none⟩)] 30) = W0 from hW0.symm]
  rw [← hma, ← hxa]
  clear hxa hma hW0 HA1 HB1 HA2 HB2
  go_loopw [5] (fun v5 wr => ∃ (i c g b r : Nat) (v : Value) (L : List SE) (g' b' r' : Nat) (v' : Value) (L' : List SE), i ≤ l.length ∧ i ≤ 100 ∧ v5 = .int .i64 i ∧ Hid (RunSt w c xa ma g b r v L L g' b' r' v' L' [] wr)) (fun v5 _ => 100 - (RowKit.intOf v5).toNat)
  case atStart => exact ⟨0, 0, _, _, _, _, _, _, _, _, _, _, by omega, by omega, rfl, HRS⟩
  case round =>
    obtain ⟨i, c0, g, b, r, v, L, g', b', r', v', L', hil, hi100, rfl, HR0⟩ := hrel
    obtain ⟨wo, hwo⟩ : ∃ wo, wo = wr := ⟨_, rfl⟩
    subst hwo
    by_cases hgo : i < l.length ∧ i < 100
    · obtain ⟨hl2, h1002⟩ := hgo
      have hil3 : (i : Int) < (l.length : Int) := by omega
      have hi4 : (i : Int) < 100 := by omega
      obtain ⟨x, hx⟩ : ∃ x, l[i]? = some x := ⟨_, List.getElem?_eq_getElem hl2⟩
      have hxm := List.mem_of_getElem? hx
      have hxf := HLF.out x hxm
      obtain ⟨b2, o2, rfl, hb2, hat⟩ := HLC.out (List.ne_nil_of_mem hxm)
      have HAT : Hid (∀ W : World, Below w.heap.size w W → x.At W b2 (o2 + i * 10)) := Lib.hid (fun W hb j u hu => (hb.cell (p := ⟨b2, o2 + i * 10 + j, none⟩) hb2).trans (hat i x hx j u hu))
      have HXF := Lib.hid hxf
      obtain ⟨c, hcw⟩ : ∃ c, c = whoN x := ⟨_, rfl⟩
      have hc2 : c < 2 := by rw [hcw, whoN]; split <;> decide
      obtain ⟨g, b, r, v, L, g', b', r', v', L', HR⟩ := HR0.out.choose c hc2
      have HR := Lib.hid HR
      have c1 : wo.cell? ⟨b2, o2 + i * 10 + 1, none⟩ = some (.int .i64 x.who) := HAT.out wo HR.out.be 1 _ rfl
      clear hx hxm hxf hat HR0
      go_upto_if 56 with (fail)
      go_cut [6] (fun v6 wx => v6 = .int .i64 (c : Int) ∧ wx = wo)
      case first =>
        by_cases hwz : x.who = 0
        · have hc0 : c = 0 := by rw [hcw, whoN, if_pos hwz]
          subst hc0
          clear hcw
          go_wp2
          go_meet
          exact ⟨rfl, rfl⟩
        · have hc0 : c = 1 := by rw [hcw, whoN, if_neg hwz]
          have hwb : (x.who != 0) = true := by simpa using hwz
          subst hc0
          clear hcw
          go_wp2
          go_meet
          exact ⟨rfl, rfl⟩
      case rest =>
        obtain ⟨rfl, hwe⟩ := hcut
        replace hwe := hwe.symm
        subst hwe
        clear hcw
        have HIT : Hid (wo.rangeAt b2 (o2 + i * 10 + 2) x.e.cells) := Lib.hid (fun j u hu => by
          have hj : j < 7 := (List.getElem?_eq_some_iff.1 hu).1
          have := HAT.out wo HR.out.be (2 + j) u (by rw [StpX.cells, Nat.add_comm 2 j, List.getElem?_cons_succ, List.getElem?_cons_succ, List.getElem?_append_left (by rw [It.len]; omega)]; exact hu)
          rw [show o2 + i * 10 + 2 + j = o2 + i * 10 + (2 + j) by omega]; exact this)
        have HI7 := Lib.hid (info33 x.e); have HI8 := Lib.hid (info33' x.e)
        have HIF := Lib.hid HXF.out.e
        go_upto_region 12 with (first
          | (refine wpList_load_mid rfl _ _ rfl b2 (o2 + i * 10 + 2) rfl x.e.cells _ HIT.out Tryz.underlying33 rfl HI7.out ?_)
          | (refine wpList_store_new (by first | rfl | rw [one_size]) rfl _ _ _ rfl x.e.cells.toArray rfl rfl HI8.out rfl (it_one _) ?_
             intro w3 hq3 hb3 hs3
             have HQ3 := Lib.hid hq3; have HB3 := Lib.hid hb3
             clear hq3 hb3 hs3))
        try dsimp only [Act.put]
        obtain ⟨q, hq⟩ : ∃ q, q = wo.heap.size := ⟨_, rfl⟩
        have ST3 : Hid (StpSt w c xa ma q x.e g b r v L L g' b' r' v' L' w3) := Lib.hid ⟨(HR.out.below HB3.out).withq (fun y hy => by
          simp at hy
          exact ⟨fun h => by have := (HR.out.cur.lt y h).2; omega, fun h => by have := (HR.out.oth.lt y h).2; omega⟩), by rw [ItAt, hq]; exact HQ3.out⟩
        rw [← hq]
        clear hq HQ3 HB3 HIT HI7 HI8 HR
        refine p12 _ _ _ _ _ _ _ _ _ _ _ _ _ _ _ _ _ _ _ _ _ _ _ _ _ _ _ _ _ _ _ _ _ _ _ _ _ _ _ _ _ _ _ _ _ _ _ _ _ _ _ _ _ _ _ _ _ _ _ _ _ _ _ _ _ _ _ _ _ _ _ _ _ _ _ _ _ _ _ _ _ _ _ _ _ _ _ _ _ _ _ _ _ _ _ _ _ _ _ _ _ _ _ _ _ _ _ _ _ _ _ _ _ _ _ _ _ _ _ _ _ _ _ _ _ _ _ _ _ _ _ _ _ _ _ _ _ _ _ _ _ _ _ _ _ _ _ _ _ _ _ _ _ _ _ _ _ _ _ _ _ _ _ _ _ _ _ _ _ _ _ _ _ _ _ _ _ _ _ _ _ _ _ _ _ _ _ _ _ _ _ _ _ _ _ _ _ _ _ _ _ _ _ _ _ _ _ _ _ _ _ _ _ _ _ _ _ _ _ _ _ _ _ _ _ _ _ _ _ _ _ _ _ _ _ _ _ _ _ _ _ _ _ _ _ _ _ _ _ _ _ _ _ _ _ _ _ _ _ _ _ _ _ _ _ _ _ _ _ _ _ _ _ _ _ _ _ _ _ _ _ _ _ _ _ _ _ _ _ _ q x.e w3 (by intro c a a_ w hd h; have h2 : a.defers = [] ∧ _ := h; exact And.intro (hd.symm.trans h2.1) h2.2) HIF.out ST3.out.iq (HTB.out.below ST3.out.run.be) ?_
        intro t62 t63 t64 t65 t66 t67 w4 hb4
        have ST4 := Lib.hid (ST3.out.below hb4)
        have ck : w4.cell? ⟨b2, o2 + i * 10, none⟩ = some (.int .i64 x.kind) := HAT.out w4 ST4.out.run.be 0 _ rfl
        clear hb4 ST3
        go_upto_block 2 with fail
        refine blk2 _ _ _ _ _ _ _ _ _ _ _ _ _ _ _ _ _ _ _ _ _ _ _ _ _ _ _ _ _ _ _ _ _ _ _ _ _ _ _ _ _ _ _ _ _ _ _ _ _ _ _ _ _ _ _ _ _ _ _ _ _ _ _ _ _ _ _ _ _ _ _ _ _ _ _ _ _ _ _ _ _ _ _ _ _ _ _ _ _ _ _ _ _ _ _ _ _ _ _ _ _ _ _ _ _ _ _ _ _ _ _ _ _ _ _ _ _ _ _ _ _ _ _ _ _ _ _ _ _ _ _ _ _ _ _ _ _ _ _ _ _ _ _ _ _ _ _ _ _ _ _ _ _ _ _ _ _ _ _ _ _ _ _ _ _ _ _ _ _ _ _ _ _ _ _ _ _ _ _ _ _ _ _ _ _ _ _ _ _ _ _ _ _ _ _ _ _ _ _ _ _ _ _ _ _ _ _ _ _ _ _ _ _ _ _ _ _ _ _ _ _ _ _ _ _ _ _ _ _ _ _ _ _ _ _ _ _ _ _ _ _ _ _ _ _ _ _ _ _ _ _ _ _ _ _ _ _ _ _ _ _ _ _ _ _ _ _ _ _ _ _ _ _ _ _ _ _ _ _ _ _ _ _ _ (by intro c a a_ w hd h; have h2 : a.defers = [] ∧ _ := h; exact And.intro (hd.symm.trans h2.1) h2.2) ST4 HTB HXF hl2 hlm HAT hb2 ?_
        intro t2 t8 t9 t10 t11 t12 t13 t14 t15 t16 t62 t63 t64 t65 t66 t67 t68 t69 t70 t71 t72 t73 t74 t75 t76 t77 t78 t79 t80 t81 t82 t83 t84 t85 t86 t87 t88 t89 t90 t91 t92 t93 t94 t95 t96 t97 t98 t99 t100 t101 t102 t103 t104 t105 t106 t107 t108 t109 t110 t111 t112 t113 t114 t115 t116 t117 t118 t119 t120 t121 t122 t123 t124 t125 t126 t127 t128 t129 t130 t131 t132 t133 t134 t135 t136 t137 t138 t139 t140 t141 t142 t143 t144 t145 t146 t147 t148 t149 t150 t151 t152 t153 t154 t155 t156 t157 t158 t159 t160 t161 t162 t163 t164 t165 t166 t167 t168 t169 t170 t171 t172 t173 t174 t175 t176 t177 t178 t179 t180 t181 t182 t183 t184 t185 t186 t187 t188 t189 t190 t191 t192 t193 t194 t195 t196 t197 t198 t199 t200 t201 t202 t203 t204 t205 t206 g b r v L wc stz
        have STZ := Lib.hid stz
        clear ST4 stz ck
        go_wp2
        refine p39 _ _ _ _ _ _ _ _ _ _ _ _ _ _ _ _ _ _ _ _ _ _ _ _ _ _ _ _ _ _ _ _ _ _ _ _ _ _ _ _ _ _ _ _ _ _ _ _ _ _ _ _ _ _ _ _ _ _ _ _ _ _ _ _ _ _ _ _ _ _ _ _ _ _ _ _ _ _ _ _ _ _ _ _ _ _ _ _ _ _ _ _ _ _ _ _ _ _ _ _ _ _ _ _ _ _ _ _ _ _ _ _ _ _ _ _ _ _ _ _ _ _ _ _ _ _ _ _ _ _ _ _ _ _ _ _ _ _ _ _ _ _ _ _ _ _ _ _ _ _ _ _ _ _ _ _ _ _ _ _ _ _ _ _ _ _ _ _ _ _ _ _ _ _ _ _ _ _ _ _ _ _ _ _ _ _ _ _ _ _ _ _ _ _ _ _ _ _ _ _ _ _ _ _ _ _ _ _ _ _ _ _ _ _ _ _ _ _ _ _ _ _ _ _ _ _ _ _ _ _ _ _ _ _ _ _ _ _ _ _ _ _ _ _ _ _ _ _ _ _ _ _ _ _ _ _ _ _ _ _ _ _ _ _ _ _ _ _ _ _ _ _ _ _ _ _ _ _ _ _ _ _ _ _ _ _ _ w c xa ma q x.e g b r v L g' b' r' v' L' wc (by intro c a a_ w hd h; have h2 : a.defers = [] ∧ _ := h; exact And.intro (hd.symm.trans h2.1) h2.2) HIF.out HTB.out STZ.out ?_
        intro t207 t208 t209 t210 t211 t212 t213 t214 t215 E1 wa hE1 hba
        have STA := Lib.hid (STZ.out.below hba)
        have HE1 := Lib.hid hE1; have HBA := Lib.hid hba
        clear hE1 hba
        go_wp2
        refine p40 _ _ _ _ _ _ _ _ _ _ _ _ _ _ _ _ _ _ _ _ _ _ _ _ _ _ _ _ _ _ _ _ _ _ _ _ _ _ _ _ _ _ _ _ _ _ _ _ _ _ _ _ _ _ _ _ _ _ _ _ _ _ _ _ _ _ _ _ _ _ _ _ _ _ _ _ _ _ _ _ _ _ _ _ _ _ _ _ _ _ _ _ _ _ _ _ _ _ _ _ _ _ _ _ _ _ _ _ _ _ _ _ _ _ _ _ _ _ _ _ _ _ _ _ _ _ _ _ _ _ _ _ _ _ _ _ _ _ _ _ _ _ _ _ _ _ _ _ _ _ _ _ _ _ _ _ _ _ _ _ _ _ _ _ _ _ _ _ _ _ _ _ _ _ _ _ _ _ _ _ _ _ _ _ _ _ _ _ _ _ _ _ _ _ _ _ _ _ _ _ _ _ _ _ _ _ _ _ _ _ _ _ _ _ _ _ _ _ _ _ _ _ _ _ _ _ _ _ _ _ _ _ _ _ _ _ _ _ _ _ _ _ _ _ _ _ _ _ _ _ _ _ _ _ _ _ _ _ _ _ _ _ _ _ _ _ _ _ _ _ _ _ _ _ _ _ _ _ _ _ _ _ _ _ _ _ _ w c xa ma q x.e g b r v L g' b' r' v' L' wa (by intro c a a_ w hd h; have h2 : a.defers = [] ∧ _ := h; exact And.intro (hd.symm.trans h2.1) h2.2) HIF.out HTB.out STA.out ?_
        intro t216 t217 t218 t219 t220 t221 t222 t223 t224 E2 wb hE2 hbb
        have STB := Lib.hid (STA.out.below hbb)
        have HE2 := Lib.hid hE2; have HBB := Lib.hid hbb
        clear hE2 hbb
        go_wp2
        refine p41 _ _ _ _ _ _ _ _ _ _ _ _ _ _ _ _ _ _ _ _ _ _ _ _ _ _ _ _ _ _ _ _ _ _ _ _ _ _ _ _ _ _ _ _ _ _ _ _ _ _ _ _ _ _ _ _ _ _ _ _ _ _ _ _ _ _ _ _ _ _ _ _ _ _ _ _ _ _ _ _ _ _ _ _ _ _ _ _ _ _ _ _ _ _ _ _ _ _ _ _ _ _ _ _ _ _ _ _ _ _ _ _ _ _ _ _ _ _ _ _ _ _ _ _ _ _ _ _ _ _ _ _ _ _ _ _ _ _ _ _ _ _ _ _ _ _ _ _ _ _ _ _ _ _ _ _ _ _ _ _ _ _ _ _ _ _ _ _ _ _ _ _ _ _ _ _ _ _ _ _ _ _ _ _ _ _ _ _ _ _ _ _ _ _ _ _ _ _ _ _ _ _ _ _ _ _ _ _ _ _ _ _ _ _ _ _ _ _ _ _ _ _ _ _ _ _ _ _ _ _ _ _ _ _ _ _ _ _ _ _ _ _ _ _ _ _ _ _ _ _ _ _ _ _ _ _ _ _ _ _ _ _ _ _ _ _ _ _ _ _ _ _ _ _ _ _ _ _ _ _ _ _ _ _ _ _ _ w c xa ma q x.e g b r v L g' b' r' v' L' wb (by intro c a a_ w hd h; have h2 : a.defers = [] ∧ _ := h; exact And.intro (hd.symm.trans h2.1) h2.2) HIF.out HTB.out STB.out ?_
        intro t225 t226 t227 t228 t229 t230 t231 t232 t233 t234 t235 t236 E3 wd hE3 hbd
        have STD := Lib.hid (STB.out.below hbd)
        have HE3 := Lib.hid hE3; have HBD := Lib.hid hbd
        clear hE3 hbd
        go_wp2
        refine p42 _ _ _ _ _ _ _ _ _ _ _ _ _ _ _ _ _ _ _ _ _ _ _ _ _ _ _ _ _ _ _ _ _ _ _ _ _ _ _ _ _ _ _ _ _ _ _ _ _ _ _ _ _ _ _ _ _ _ _ _ _ _ _ _ _ _ _ _ _ _ _ _ _ _ _ _ _ _ _ _ _ _ _ _ _ _ _ _ _ _ _ _ _ _ _ _ _ _ _ _ _ _ _ _ _ _ _ _ _ _ _ _ _ _ _ _ _ _ _ _ _ _ _ _ _ _ _ _ _ _ _ _ _ _ _ _ _ _ _ _ _ _ _ _ _ _ _ _ _ _ _ _ _ _ _ _ _ _ _ _ _ _ _ _ _ _ _ _ _ _ _ _ _ _ _ _ _ _ _ _ _ _ _ _ _ _ _ _ _ _ _ _ _ _ _ _ _ _ _ _ _ _ _ _ _ _ _ _ _ _ _ _ _ _ _ _ _ _ _ _ _ _ _ _ _ _ _ _ _ _ _ _ _ _ _ _ _ _ _ _ _ _ _ _ _ _ _ _ _ _ _ _ _ _ _ _ _ _ _ _ _ _ _ _ _ _ _ _ _ _ _ _ _ _ _ _ _ _ _ _ _ _ _ _ _ _ _ w c xa ma q x.e g b r v L g' b' r' v' L' wd (by intro c a a_ w hd h; have h2 : a.defers = [] ∧ _ := h; exact And.intro (hd.symm.trans h2.1) h2.2) HIF.out HTB.out STD.out ?_
        intro t237 t238 t239 t240 t241 t242 t243 t244 t245 t246 t247 t248 E4 we hE4 hbe
        have STE := Lib.hid (STD.out.below hbe)
        have H4 : Hid (B4 c xa ma q g r x.e E1 E2 E3 E4 (getV x.e.path L) (freshX x.e.path x.e.se L).1 we) := Lib.hid (by
          have b3 := HBD.out.trans (hbe.mono HBD.out.size)
          have b2 := HBB.out.trans (b3.mono HBB.out.size)
          exact ⟨STE.out.bs, (b2.block _ (lt_of_heap HE1.out)).trans HE1.out, (b3.block _ (lt_of_heap HE2.out)).trans HE2.out, (hbe.block _ (lt_of_heap HE3.out)).trans HE3.out, hE4⟩)
        clear hE4 hbe
        have HF1 := Lib.hid (STE.out.run.cur.ix.fitsGet x.e.path)
        have HF2 := Lib.hid (fresh_fits STE.out.run.cur.ix.fits x.e.path x.e.se)
        go_wp2
        refine p43 _ _ _ _ _ _ _ _ _ _ _ _ _ _ _ _ _ _ _ _ _ _ _ _ _ _ _ _ _ _ _ _ _ _ _ _ _ _ _ _ _ _ _ _ _ _ _ _ _ _ _ _ _ _ _ _ _ _ _ _ _ _ _ _ _ _ _ _ _ _ _ _ _ _ _ _ _ _ _ _ _ _ _ _ _ _ _ _ _ _ _ _ _ _ _ _ _ _ _ _ _ _ _ _ _ _ _ _ _ _ _ _ _ _ _ _ _ _ _ _ _ _ _ _ _ _ _ _ _ _ _ _ _ _ _ _ _ _ _ _ _ _ _ _ _ _ _ _ _ _ _ _ _ _ _ _ _ _ _ _ _ _ _ _ _ _ _ _ _ _ _ _ _ _ _ _ _ _ _ _ _ _ _ _ _ _ _ _ _ _ _ _ _ _ _ _ _ _ _ _ _ _ _ _ _ _ _ _ _ _ _ _ _ _ _ _ _ _ _ _ _ _ _ _ _ _ _ _ _ _ _ _ _ _ _ _ _ _ _ _ _ _ _ _ _ _ _ _ _ _ _ _ _ _ _ _ _ _ _ _ _ _ _ _ _ _ _ _ _ _ _ _ _ _ _ _ _ _ _ w c xa ma q x.e g b r v L g' b' r' v' L' we E1 E2 E3 E4 _ _ _ _ (by intro c a a_ w hd h; have h2 : a.defers = [] ∧ _ := h; exact And.intro (hd.symm.trans h2.1) h2.2) STE.out H4.out HF1.out HF2.out ?_
        intro t249 t250 t251 t252 t253 t254 t255 t256 t257 t258 t259 t260 t261 t262 t263 t264 t265 t266 t267 t268 t269 t270 t271 t272 t273 t274 t275 t276 t277 wf hbf
        have STF := Lib.hid (STE.out.below hbf)
        clear hbf
        go_wp2
        go_roundw
        case rel => exact ⟨i + 1, c, g, b, r, v, L, g', b', r', v', L', by omega, by omega, by go_num, Lib.hid STF.out.run.unq⟩
        case measure => simp [RowKit.intOf]; omega
    · obtain ⟨g, b, r, v, L, g', b', r', v', L', hr⟩ := HR0.out.choose 0 (by decide)
      have HR := Lib.hid hr
      clear HR0
      have hng : ¬ ((i : Int) < (l.length : Int) ∧ (i : Int) < 100) := fun e => hgo ⟨by omega, by omega⟩
      by_cases hil3 : (i : Int) < (l.length : Int)
      all_goals
        have hi4 : ¬ ((i : Int) < (l.length : Int) ∧ (i : Int) < 100) := hng
        clear hng hgo
      · have hi5 : ¬ (i : Int) < 100 := fun e => hi4 ⟨hil3, e⟩
        clear hi4 hr
        go_upto_region 45 with fail
        refine p45 _ _ _ _ _ _ _ _ _ _ _ _ _ _ _ _ _ _ _ _ _ _ _ _ _ _ _ _ _ _ _ _ _ _ _ _ _ _ _ _ _ _ _ _ _ _ _ _ _ _ _ _ _ _ _ _ _ _ _ _ _ _ _ _ _ _ _ _ _ _ _ _ _ _ _ _ _ _ _ _ _ _ _ _ _ _ _ _ _ _ _ _ _ _ _ _ _ _ _ _ _ _ _ _ _ _ _ _ _ _ _ _ _ _ _ _ _ _ _ _ _ _ _ _ _ _ _ _ _ _ _ _ _ _ _ _ _ _ _ _ _ _ _ _ _ _ _ _ _ _ _ _ _ _ _ _ _ _ _ _ _ _ _ _ _ _ _ _ _ _ _ _ _ _ _ _ _ _ _ _ _ _ _ _ _ _ _ _ _ _ _ _ _ _ _ _ _ _ _ _ _ _ _ _ _ _ _ _ _ _ _ _ _ _ _ _ _ _ _ _ _ _ _ _ _ _ _ _ _ _ _ _ _ _ _ _ _ _ _ _ _ _ _ _ _ _ _ _ _ _ _ _ _ _ _ _ _ _ _ _ _ _ _ _ _ _ _ _ _ _ _ _ _ _ _ _ _ _ _ _ _ _ _ _ _ _ _ _ _ HR.out ?_
        intro t279 t280 t281 t282 t283 t284 t285 t286 t287 t288 t289 w8 hb8
        have HB8 := Lib.hid hb8
        clear hb8
        go_wp2
        go_ret
        exact ⟨rfl, HB8.out⟩
      · clear hi4 hr
        go_upto_region 45 with fail
        refine p45 _ _ _ _ _ _ _ _ _ _ _ _ _ _ _ _ _ _ _ _ _ _ _ _ _ _ _ _ _ _ _ _ _ _ _ _ _ _ _ _ _ _ _ _ _ _ _ _ _ _ _ _ _ _ _ _ _ _ _ _ _ _ _ _ _ _ _ _ _ _ _ _ _ _ _ _ _ _ _ _ _ _ _ _ _ _ _ _ _ _ _ _ _ _ _ _ _ _ _ _ _ _ _ _ _ _ _ _ _ _ _ _ _ _ _ _ _ _ _ _ _ _ _ _ _ _ _ _ _ _ _ _ _ _ _ _ _ _ _ _ _ _ _ _ _ _ _ _ _ _ _ _ _ _ _ _ _ _ _ _ _ _ _ _ _ _ _ _ _ _ _ _ _ _ _ _ _ _ _ _ _ _ _ _ _ _ _ _ _ _ _ _ _ _ _ _ _ _ _ _ _ _ _ _ _ _ _ _ _ _ _ _ _ _ _ _ _ _ _ _ _ _ _ _ _ _ _ _ _ _ _ _ _ _ _ _ _ _ _ _ _ _ _ _ _ _ _ _ _ _ _ _ _ _ _ _ _ _ _ _ _ _ _ _ _ _ _ _ _ _ _ _ _ _ _ _ _ _ _ _ _ _ _ _ _ _ _ _ _ HR.out ?_
        intro t279 t280 t281 t282 t283 t284 t285 t286 t287 t288 t289 w8 hb8
        have HB8 := Lib.hid hb8
        clear hb8
        go_wp2
        go_ret
        exact ⟨rfl, HB8.out⟩
end Go.Proofs.YtpbhkaokgpacoaaGreatDoor.St
