import Derived.Test.YtkdkifciajfpnaaDoorZPSrAwake18
import Derived.Test.YtkdkifciajfpnaaDoorZPSrRows
import Derived.Test.YtkdkifciajfpnaaDoorZPTwB2
set_option linter.unusedSimpArgs false
set_option linter.unusedVariables false
/-
  The law of SourceTwins: a tree and its twin stay alike under the same calls, and never see one another.
-/
namespace Go.Proofs.YtkdkifciajfpnaaDoor.Sr
open Go.RowKit Go.Maps Go.WideMaps Go.Proofs.YtkdkifciajfpnaaDoor.Rf Go.Proofs.YtkdkifciajfpnaaDoor.Nm Go.Proofs.YtkdkifciajfpnaaDoor.St

theorem fileX_any (B : Nat) (w : World) (r : Nat) (T : Tr) (hmost : T.most < 18446744073709551615) (hB : B ≤ w.heap.size) (h : TreeAt B w r T) :
    Calls Tryd.prog 12 #[ptr r, .string ⟨#[47, 111, 102, 32, 116, 104, 101, 32, 116, 119, 105, 110, 32, 97, 108, 111, 110, 101]⟩, .string ⟨#[120]⟩, .agg #[.int .u8 0, .int .u32 0, .int .u32 0, .int .u32 0, .int .i64 0, .string ⟨#[]⟩, .slice none 0 0]] w fun e w' => ∃ c T', e = .returned (.int .i64 c) ∧ CallT B w r T w' T' := by
  have hx : XsAt w (.slice none 0 0) zeroA.xs := ⟨none, 0, rfl, by simp [zeroA], by simp [zeroA], fun h => absurd rfl h⟩
  refine (file_any B w r T [47, 111, 102, 32, 116, 104, 101, 32, 116, 119, 105, 110, 32, 97, 108, 111, 110, 101] [120] zeroA (.slice none 0 0) (by decide) (by decide) hx (by simp [xob, zeroA]) hmost h).mono ?_
  rintro ex w3 ⟨W2, hbW, htW, hpost⟩
  obtain ⟨rfl, T', hct, _, _⟩ := hpost.call h hbW (.inl (by decide)) (splitL_16 _)
  exact ⟨_, T', rfl, hct⟩
theorem stps_up {w W : World} {l : List Stp} {a : Option Addr} (hb : Below w.heap.size w W) (h : l ≠ [] → ∃ b o, a = some ⟨b, o, none⟩ ∧ b < w.heap.size ∧ ∀ (i : Nat) x, l[i]? = some x → x.At w b (o + i * 11)) : l ≠ [] → ∃ b o, a = some ⟨b, o, none⟩ ∧ b < W.heap.size ∧ ∀ (i : Nat) x, l[i]? = some x → x.At W b (o + i * 11) := fun hne => by
  obtain ⟨b, o, h1, h2, h3⟩ := h hne
  exact ⟨b, o, h1, Nat.lt_of_lt_of_le h2 hb.size, fun i x hx j v hv => (hb.cell (p := ⟨b, o + i * 11 + j, none⟩) h2).trans (h3 i x hx j v hv)⟩
set_option linter.unusedSimpArgs false in
set_option maxHeartbeats 32000000 in
set_option maxRecDepth 100000 in
theorem tw18_law (w : World) (v1 v2 : Value) (l m : List Stp) (x : Stp) (hl : StpsAt w v1 l) (hm : StpsAt w v2 m) (hx : x.Fits w) :
    Calls Tryd.prog 3 #[v1, v2, .agg x.cells.toArray] w fun e w' => e = .returned (.bool true) ∧ Below w.heap.size w w' := by
  obtain ⟨a1, cap1, rfl, hlm1, hcell1, hfit1⟩ := hl
  obtain ⟨a2, cap2, rfl, hlm2, hcell2, hfit2⟩ := hm
  obtain ⟨W, hW⟩ : ∃ W, W = w.alloc (.cells x.cells.toArray 28) := ⟨_, rfl⟩
  have hb0 : Below w.heap.size w W := by rw [hW]; exact (Below.refl _ _).alloc (Nat.le_refl _) _
  have hq0 : W.heap[w.heap.size]? = some (.cells x.cells.toArray 28) := by rw [hW]; exact (MapKept.heap_alloc w _).1
  have HB0 := Lib.hid hb0; have HW := Lib.hid hW
  have HC1 := Lib.hid (stps_up hb0 hcell1); have HC2 := Lib.hid (stps_up hb0 hcell2)
  have HF1 : Hid (∀ x ∈ l, x.Fits W) := Lib.hid (fun x hx => (hfit1 x hx).below hb0)
  have HF2 : Hid (∀ x ∈ m, x.Fits W) := Lib.hid (fun x hx => (hfit2 x hx).below hb0)
  have HFX := Lib.hid (hx.below hb0)
  have HQX : Hid (∀ w', Below W.heap.size W w' → w'.rangeAt w.heap.size 0 x.cells) := Lib.hid (fun w' hb => range_block ((hb.block _ (lt_of_heap hq0)).trans hq0))
  have HIX : Hid ((Tryd.prog.info? 28).map (·.size) = some x.cells.toArray.size) := Lib.hid (infoStp x)
  have AW := Lib.hid (awake18_any W)
  unfold maxLen at hlm1 hlm2
  clear hcell1 hcell2 hfit1 hfit2 hb0 hq0 hW hx
  obtain ⟨XC, hXC⟩ : ∃ XC, XC = x.cells := ⟨_, rfl⟩
  rw [← hXC] at HQX HIX HW ⊢
  have HXC := Lib.hid hXC
  clear hXC
  go_enter Tryd.func3, Tryd.ntmps3
  go_wp2_with fail
  rw [← HW.out]
  refine AW.out.mono ?_
  rintro ex w1 ⟨rfl, hb1⟩
  have HB1 := Lib.hid hb1
  have TN := Lib.hid (tree_new w1)
  clear hb1 AW HW
  go_wp2_with fail
  refine TN.out.mono ?_
  rintro ex w2 ⟨r, pn, mm, rfl, ht2, hb2⟩
  have HST : Hid (TreeAt W.heap.size w2 r (newT pn mm) ∧ Bnd (newT pn mm) 0) := Lib.hid ⟨ht2.mono HB1.out.size, good_new pn mm, Nat.le_refl _⟩
  have HB2 := Lib.hid (HB1.out.trans (hb2.mono HB1.out.size))
  clear ht2 hb2 TN
  unfold ptr at *
  go_upto_block 0 with (fail)
  refine tw_b0 _ _ _ _ _ _ _ _ _ _ _ _ _ _ _ _ _ _ _ _ _ _ _ _ _ _ _ _ _ _ _ _ _ _ _ _ _ _ _ _ _ _ _ _ _ _ _ _ _ _ _ _ _ _ _ _ _ _ _ _ _ _ _ _ _ _ _ _ _ _ _ _ _ _ _ _ _ _ _ _ _ _ _ _ _ _ _ _ _ _ _ _ _ _ _ _ _ _ _ (by intro c a a_ w hd h; have h2 : a.defers = [] ∧ _ := h; exact And.intro (hd.symm.trans h2.1) h2.2) (by omega) HC1 HF1 HST HB2 ?_
  intro t8 t16 t17 t18 t19 t20 t21 t22 t23 t24 t25 t26 t27 t28 t29 t30 t31 w3 h3
  obtain ⟨i, T, hi, ht3, hd3, hb3⟩ := h3
  have HT3 := Lib.hid ht3; have HD3 := Lib.hid hd3; have HB3 := Lib.hid hb3
  have TW := twintree_any W.heap.size w3 r T (hd3.good.fine (by omega)) ht3
  unfold ptr at TW
  have TW := Lib.hid TW
  clear ht3 hd3 hb3 HST HB2 HB1 HC1 HF1
  go_wp2_with fail
  refine TW.out.mono ?_
  rintro ex w4 ⟨r2, U, rfl, hu4, hub, hb4⟩
  have HS4 : Hid (Two W.heap.size w4 r T r2 U) := Lib.hid ⟨HT3.out.below hb4, hu4.mono HB3.out.size, fun z hz hz2 => by
    have h1 := HT3.out.lt z hz
    have h2 := hu4.base z hz2
    omega⟩
  have HD4 : Hid (Bnd T i ∧ U.bare = T.bare) := Lib.hid ⟨HD3.out, hub⟩
  have HB4 : Hid (Below W.heap.size W w4) := Lib.hid (HB3.out.trans (hb4.mono HB3.out.size))
  clear hu4 hub hb4 TW HT3 HD3 HB3
  go_upto_block 2 with (fail)
  refine tw_b2 _ _ _ _ _ _ _ _ _ _ _ _ _ _ _ _ _ _ _ _ _ _ _ _ _ _ _ _ _ _ _ _ _ _ _ _ _ _ _ _ _ _ _ _ _ _ _ _ _ _ _ _ _ _ _ _ _ _ _ _ _ _ _ _ _ _ _ _ _ _ _ _ _ _ _ _ _ _ _ _ _ _ _ _ _ _ _ _ _ _ _ _ _ _ _ _ _ _ (by intro c a a_ w hd h; have h2 : a.defers = [] ∧ _ := h; exact And.intro (hd.symm.trans h2.1) h2.2) (by omega) HC2 HF2 hi HS4 HD4 HB4 ?_
  intro t6 t10 t34 t35 t36 t37 t38 t39 t40 t41 t42 t43 t44 t45 t46 t47 t48 t49 t50 t51 t52 t53 t54 t55 t56 w5 h5
  obtain ⟨T5, U5, hs5, hd5, hbr5, hb5⟩ := h5
  have HS5 := Lib.hid hs5; have HD5 := Lib.hid (hd5.good.mono (show i + 40 ≤ 80 by omega)); have HR5 : Hid (T5.reads ≤ 80) := Lib.hid (by have := hd5.reads; omega)
  have HU5 : Hid (Good 80 U5 ∧ U5.reads ≤ 80) := Lib.hid (by have h := hd5.of_bare hbr5; exact ⟨h.good.mono (by omega), by have := h.reads; omega⟩)
  have HBR := Lib.hid hbr5; have HB5 := Lib.hid hb5
  have hcl : T5.clock = U5.clock := (show T5.bare.clock = U5.bare.clock by rw [hbr5])
  have hrd : T5.reads = U5.reads := (show T5.bare.reads = U5.bare.reads by rw [hbr5])
  have TV := treeval_any W.heap.size w5 r T5 (HD5.out.fine (by omega)) (by have := HD5.out.len; omega) hs5.t
  unfold ptr at TV
  have TV := Lib.hid TV
  clear hs5 hd5 hbr5 hb5 HS4 HD4 HB4 HC2 HF2 hi hlm1 hlm2
  go_wp2_with fail
  refine TV.out.mono ?_
  rintro ex w6 ⟨va, Ra, rfl, hma, hoa, hb6⟩
  have HMA := Lib.hid hma
  have HOA : Hid (OutAt w5.heap.size w6 va Ra ∧ Sep r T5 va Ra ∧ Sep r2 U5 va Ra) := Lib.hid ⟨hoa, Sep.told HS5.out.t hoa, Sep.told HS5.out.u hoa⟩
  have HS6 := Lib.hid (HS5.out.below hb6)
  have HB6 : Hid (Below W.heap.size W w6) := Lib.hid (HB5.out.trans (hb6.mono HB5.out.size))
  have TV := treeval_any W.heap.size w6 r2 U5 (HU5.out.1.fine (by omega)) (by have := HU5.out.1.len; omega) (HS5.out.below hb6).u
  unfold ptr at TV
  have TV := Lib.hid TV
  clear hma hoa hb6 HS5 HB5
  go_wp2_with fail
  refine TV.out.mono ?_
  rintro ex w7 ⟨vb, Rb, rfl, hmb, hob, hb7⟩
  have HS7 := Lib.hid (HS6.out.below hb7)
  have HB7 : Hid (Below W.heap.size W w7) := Lib.hid (HB6.out.trans (hb7.mono HB6.out.size))
  have HO7 := Lib.hid (HOA.out.1.below hb7)
  have RW := Lib.hid (rows_any w7 va vb Ra Rb (HOA.out.1.below hb7) hob (by rw [HMA.out, hmb]; exact (show T5.bare.L = U5.bare.L by rw [HBR.out])) (by have := congrArg List.length HMA.out; rw [List.length_map] at this; have := HD5.out.len; omega) (fun p hp => HD5.out.att _ (by rw [← HMA.out]; exact List.mem_map.2 ⟨p, hp, rfl⟩)))
  clear hmb hob hb7 TV HS6 HB6
  go_wp2_with fail
  refine RW.out.mono ?_
  rintro ex w8 ⟨rfl, hb8⟩
  have HS8 := Lib.hid (HS7.out.below hb8)
  have HB8 : Hid (Below W.heap.size W w8) := Lib.hid (HB7.out.trans (hb8.mono HB7.out.size))
  have HO8 := Lib.hid (HO7.out.below hb8)
  have N1 := now_any W.heap.size w8 r T5 HS8.out.t
  have N2 := now_any W.heap.size w8 r2 U5 HS8.out.u
  have D1 := reads_any W.heap.size w8 r T5 HS8.out.t
  have D2 := reads_any W.heap.size w8 r2 U5 HS8.out.u
  rw [← hcl] at N2
  rw [← hrd] at D2
  unfold ptr at N1 N2 D1 D2
  have N1 := Lib.hid N1; have N2 := Lib.hid N2; have D1 := Lib.hid D1; have D2 := Lib.hid D2
  clear hb8 RW HS7 HB7 HO7 hcl hrd
  go_wp2_with (first
    | (refine N1.out.mono ?_; rintro ex wx ⟨rfl, hwx⟩; obtain rfl : w8 = wx := hwx.symm; clear hwx N1)
    | (refine N2.out.mono ?_; rintro ex wx ⟨rfl, hwx⟩; obtain rfl : w8 = wx := hwx.symm; clear hwx N2)
    | (refine D1.out.mono ?_; rintro ex wx ⟨rfl, hwx⟩; obtain rfl : w8 = wx := hwx.symm; clear hwx D1)
    | (refine D2.out.mono ?_; rintro ex wx ⟨rfl, hwx⟩; obtain rfl : w8 = wx := hwx.symm; clear hwx D2)
    | (refine wpList_load_mid rfl _ _ rfl w.heap.size 0 rfl XC _ (HQX.out w8 HB8.out) Tryd.underlying28 rfl HIX.out ?_)
    | fail)
  have RV := run18_any W.heap.size w8 r2 U5 x (HFX.out.below HB8.out) 80 (by omega) HU5.out.1 (by have := HU5.out.2; omega) HB8.out.size HS8.out.u
  unfold ptr at RV
  rw [← HXC.out] at RV
  refine RV.mono ?_
  rintro ex w9 hpost
  obtain ⟨rfl, U9, he9, hd9, _⟩ := run_eff HS8.out.u (⟨HU5.out.1, HU5.out.2⟩ : Bnd U5 80) hpost
  have HS9 := Lib.hid (HS8.out.symm.eff he9).symm
  have HO9 := Lib.hid (Sep.eff HOA.out.2.2 HO8.out he9)
  have HB9 := Lib.hid (HB8.out.trans (he9.below HS8.out.u HB8.out.size))
  have HG9 := Lib.hid hd9.good
  have FX := fileX_any W.heap.size w9 r2 U9 (by have := hd9.good.most; omega) HB9.out.size HS9.out.u
  unfold ptr at FX
  have FX := Lib.hid FX
  clear hpost he9 hd9 RV HS8 HB8 HO8
  go_wp2_with fail
  refine FX.out.mono ?_
  rintro ex w10 ⟨c10, U10, rfl, hc10⟩
  have HS10 := Lib.hid (HS9.out.symm.eff hc10.eff).symm
  have HO10 := Lib.hid (Sep.eff HO9.out.2 HO9.out.1 hc10.eff)
  have HB10 := Lib.hid (HB9.out.trans (hc10.eff.below HS9.out.u HB9.out.size))
  have HG10 := Lib.hid (hc10.ch.good HS9.out.u HG9.out)
  have DX := drop_any W.heap.size w10 r2 U10 [47, 97] (by decide) HS10.out.u
  unfold ptr at DX
  have DX := Lib.hid DX
  clear hc10 FX HS9 HB9 HO9
  go_wp2_with fail
  refine DX.out.mono ?_
  rintro ex w11 ⟨rfl, hc11⟩
  obtain ⟨U11, hU11⟩ : ∃ U11, U11 = dropTr [47, 97] U10 := ⟨_, rfl⟩
  rw [← hU11] at hc11
  clear hU11
  have HS11 := Lib.hid (HS10.out.symm.eff hc11.eff).symm
  have HO11 := Lib.hid (Sep.eff HO10.out.2 HO10.out.1 hc11.eff)
  have HB11 := Lib.hid (HB10.out.trans (hc11.eff.below HS10.out.u HB10.out.size))
  have HG11 := Lib.hid (hc11.ch.good HS10.out.u HG10.out)
  have TV := treeval_any W.heap.size w11 r T5 (HD5.out.fine (by omega)) (by have := HD5.out.len; omega) HS11.out.t
  unfold ptr at TV
  have TV := Lib.hid TV
  clear hc11 DX HS10 HB10 HO10 HG9 HG10
  go_wp2_with fail
  refine TV.out.mono ?_
  rintro ex w12 ⟨vc, Rc, rfl, hmc, hoc, hb12⟩
  have HS12 := Lib.hid (HS11.out.below hb12)
  have HB12 : Hid (Below W.heap.size W w12) := Lib.hid (HB11.out.trans (hb12.mono HB11.out.size))
  have RW := Lib.hid (rows_any w12 va vc Ra Rc (HO11.out.1.below hb12) hoc (by rw [HMA.out, hmc]) (by have := congrArg List.length HMA.out; rw [List.length_map] at this; have := HD5.out.len; omega) (fun p hp => HD5.out.att _ (by rw [← HMA.out]; exact List.mem_map.2 ⟨p, hp, rfl⟩)))
  clear hmc hoc hb12 TV HS11 HB11 HO11
  go_wp2_with fail
  refine RW.out.mono ?_
  rintro ex w13 ⟨rfl, hb13⟩
  have HS13 := Lib.hid (HS12.out.below hb13)
  have HB13 : Hid (Below W.heap.size W w13) := Lib.hid (HB12.out.trans (hb13.mono HB12.out.size))
  have TV := treeval_any W.heap.size w13 r2 U11 (HG11.out.fine (by omega)) (by have := HG11.out.len; omega) HS13.out.u
  unfold ptr at TV
  have TV := Lib.hid TV
  clear hb13 RW HS12 HB12 HMA HOA HBR
  go_wp2_with fail
  refine TV.out.mono ?_
  rintro ex w14 ⟨vd, Rd, rfl, hmd, hod, hb14⟩
  have HMD := Lib.hid hmd
  have HOD : Hid (OutAt w13.heap.size w14 vd Rd ∧ Sep r T5 vd Rd) := Lib.hid ⟨hod, Sep.told HS13.out.t hod⟩
  have HS14 := Lib.hid (HS13.out.below hb14)
  have HB14 : Hid (Below W.heap.size W w14) := Lib.hid (HB13.out.trans (hb14.mono HB13.out.size))
  have RV := run18_any W.heap.size w14 r T5 x (HFX.out.below HB14.out) 80 (by omega) HD5.out (by have := HR5.out; omega) HB14.out.size HS14.out.t
  unfold ptr at RV
  rw [← HXC.out] at RV
  have RV := Lib.hid RV
  clear hmd hod hb14 TV HS13 HB13
  go_wp2_with (first
    | (refine wpList_load_mid rfl _ _ rfl w.heap.size 0 rfl XC _ (HQX.out w14 HB14.out) Tryd.underlying28 rfl HIX.out ?_)
    | fail)
  refine RV.out.mono ?_
  rintro ex w15 hpost
  obtain ⟨rfl, T15, he15, hd15, _⟩ := run_eff HS14.out.t (⟨HD5.out, HR5.out⟩ : Bnd T5 80) hpost
  have HS15 := Lib.hid (HS14.out.eff he15)
  have HO15 := Lib.hid (Sep.eff HOD.out.2 HOD.out.1 he15)
  have HB15 := Lib.hid (HB14.out.trans (he15.below HS14.out.t HB14.out.size))
  have DX := drop_any W.heap.size w15 r T15 [47, 98] (by decide) HS15.out.t
  unfold ptr at DX
  have DX := Lib.hid DX
  clear hpost he15 hd15 RV HS14 HB14 HOD
  go_wp2_with fail
  refine DX.out.mono ?_
  rintro ex w16 ⟨rfl, hc16⟩
  have HS16 := Lib.hid (HS15.out.eff hc16.eff)
  have HO16 := Lib.hid (Sep.eff HO15.out.2 HO15.out.1 hc16.eff)
  have HB16 := Lib.hid (HB15.out.trans (hc16.eff.below HS15.out.t HB15.out.size))
  have TV := treeval_any W.heap.size w16 r2 U11 (HG11.out.fine (by omega)) (by have := HG11.out.len; omega) HS16.out.u
  unfold ptr at TV
  have TV := Lib.hid TV
  clear hc16 DX HS15 HB15 HO15
  go_wp2_with fail
  refine TV.out.mono ?_
  rintro ex w17 ⟨ve, Re, rfl, hme, hoe, hb17⟩
  have HB17 : Hid (Below W.heap.size W w17) := Lib.hid (HB16.out.trans (hb17.mono HB16.out.size))
  have RW := Lib.hid (rows_any w17 vd ve Rd Re (HO16.out.1.below hb17) hoe (by rw [HMD.out, hme]) (by have := congrArg List.length HMD.out; rw [List.length_map] at this; have := HG11.out.len; omega) (fun p hp => HG11.out.att _ (by rw [← HMD.out]; exact List.mem_map.2 ⟨p, hp, rfl⟩)))
  clear hme hoe hb17 TV HS16 HB16 HO16
  go_wp2_with fail
  refine RW.out.mono ?_
  rintro ex w18 ⟨rfl, hb18⟩
  have HB18 : Hid (Below W.heap.size W w18) := Lib.hid (HB17.out.trans (hb18.mono HB17.out.size))
  clear hb18 RW HB17
  go_wp2
  go_ret
  exact ⟨rfl, HB0.out.trans (HB18.out.mono HB0.out.size)⟩
end Go.Proofs.YtkdkifciajfpnaaDoor.Sr
