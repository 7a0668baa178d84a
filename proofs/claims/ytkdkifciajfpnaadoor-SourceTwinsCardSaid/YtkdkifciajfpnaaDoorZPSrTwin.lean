import Derived.Test.YtkdkifciajfpnaaDoorZPSrSim
import Derived.Test.YtkdkifciajfpnaaDoorZPSrRead
import Derived.Test.YtkdkifciajfpnaaDoorZPSrAdd
import Derived.Test.YtkdkifciajfpnaaDoorZPStKit
set_option linter.unusedSimpArgs false
set_option linter.unusedVariables false
/-
  The contract of node's twin: another node that has the same, and so all below it.
-/
namespace Go.Proofs.YtkdkifciajfpnaaDoor.Sr
open Go.RowKit Go.Maps Go.WideMaps Go.Proofs.YtkdkifciajfpnaaDoor.Rf Go.Proofs.YtkdkifciajfpnaaDoor.Nm Go.Proofs.YtkdkifciajfpnaaDoor.St

theorem map_nil_ne (W : World) : (binOp .neq 55 (.map none) (.map none)).run Tryd.prog W = .ok (.bool false) W := by kernel_rfl
theorem map_some_ne (b : Nat) (W : World) : (binOp .neq 55 (.map (some b)) (.map none)).run Tryd.prog W = .ok (.bool true) W := by kernel_rfl
def TwinOk (B r : Nat) (T : Tr) (e : TE) : Prop := ∀ w, TreeAt B w r T → Calls Tryd.prog 24 #[ptr e.p] w fun z w' => ∃ p C, z = .returned (ptr p) ∧ TwF w.heap.size w' T e.nm p C ∧ Below w.heap.size w w'
set_option linter.unusedSimpArgs false in
set_option maxHeartbeats 16000000 in
set_option maxRecDepth 100000 in
theorem twin_step (B r : Nat) (T : Tr) (hF : Fine T) (e : TE) (he : e ∈ T.L) (ih : ∀ x ∈ T.L, ∀ s, x.nm = e.nm ++ [s] → TwinOk B r T x) : TwinOk B r T e := by
  intro w h
  have mixed : Tryd.prog.follows Departure.mixedOrders = true := by kernel_rfl
  have H := Lib.hid h; have HE := Lib.hid he; have IH := Lib.hid ih; have HFI := Lib.hid hF
  have hq0 := (h.node e he).cells
  have HR0 : Hid (w.rangeAt e.p 0 e.cells) := Lib.hid (range_block hq0)
  have HI : Hid ((Tryd.prog.info? NdT).map (·.size) = some e.cells.toArray.size) := Lib.hid (by show _ = some 11; kernel_rfl)
  have hov : e.xv.oneCell' = true := xs_one (h.node e he).xs
  have HON : Hid (e.cells.toArray.all (·.oneCell') = true) := Lib.hid (by
    simp only [TE.cells, XA.cells, mapV]
    simp [Value.oneCell'] at hov ⊢
    first | exact hov | trivial)
  clear h he ih hF hq0 hov
  unfold ptr at *
  go_enter Tryd.func24, Tryd.ntmps24
  go_wp2_with (first
    | (refine wpList_load_mid rfl _ _ rfl e.p 0 rfl e.cells _ HR0.out Tryd.underlying57 rfl HI.out ?_)
    | (refine wpList_store_new rfl rfl NdT (.tmp 3) (.tmp 8) rfl e.cells.toArray rfl rfl HI.out rfl HON.out ?_
       intro w2 hq2 hb2 hs2
       have HQ2 := Lib.hid hq2; have HB2 := Lib.hid hb2
       have HL2 : Hid (w.heap.size < w2.heap.size) := Lib.hid (lt_of_heap hq2)
       have HAR : Hid (w2.rangeAt e.p 2 (e.at_.cells e.xv)) := Lib.hid (fun j u hj => by
         have hc := ((H.out.below hb2).node e HE.out).cells
         rw [cell_of_heap hc]
         have hjl := (List.getElem?_eq_some_iff.1 hj).1
         rw [List.getElem?_toArray, Nat.add_comm 2 j, TE.cells, List.getElem?_cons_succ, List.getElem?_cons_succ, List.getElem?_append_left hjl]
         exact hj)
       have OW := Lib.hid (own_any w2 e.at_ e.xv ((H.out.below hb2).node e HE.out).xs (HFI.out.xs e HE.out))
       clear hq2 hb2 hs2)
    | (refine wpList_load_mid rfl _ _ rfl e.p 2 rfl (e.at_.cells e.xv) _ HAR.out Tryd.underlying42 rfl (infoAt _ _) ?_)
    | fail)
  refine OW.out.mono ?_
  rintro ex w4 ⟨v4, rfl, hx4, hf4, hb4⟩
  have HB4 : Hid (Below w.heap.size w w4) := Lib.hid (HB2.out.trans (hb4.mono HB2.out.size))
  have HX4 := Lib.hid hx4
  have HF4 : Hid (∀ b ∈ xob e.at_.xs v4, w.heap.size ≤ b ∧ b < w4.heap.size ∧ b ≠ w.heap.size) := Lib.hid (fun b hb => by have h1 := hf4 b hb; have h2 := hx4.lt b hb; have := HL2.out; omega)
  have hov : v4.oneCell' = true := xs_one hx4
  have HON4 : Hid (((e.at_.cells v4).toArray).all (·.oneCell') = true) := Lib.hid (atOne _ hov)
  have hq4 : w4.heap[w.heap.size]? = some (.cells e.cells.toArray NdT) := (hb4.block _ HL2.out).trans HQ2.out
  have HTH : Hid (w4.there w.heap.size 2 7) := Lib.hid (fun i hi => ⟨by
      show (w4.cell? ⟨w.heap.size, 2 + i, none⟩).isSome = true
      obtain ⟨u, hu⟩ : ∃ u, e.cells.toArray[2 + i]? = some u := ⟨_, Array.getElem?_eq_getElem (by show 2 + i < 11; omega)⟩
      rw [show w4.cell? ⟨w.heap.size, 2 + i, none⟩ = some u from (cell_of_heap hq4).trans hu]; rfl, frozen_of_heap hq4⟩)
  have hnew : ∃ cur', (w4.setCells w.heap.size 2 (e.at_.cells v4)).heap[w.heap.size]? = some (.cells cur' NdT) ∧ cur'.size = e.cells.toArray.size ∧ cur'.toList = e.cells.toArray.toList.take 2 ++ e.at_.cells v4 ++ e.cells.toArray.toList.drop (2 + (e.at_.cells v4).length) := heap_setCells _ 2 w4 _ hq4 (by show 2 + 7 ≤ 11; omega)
  obtain ⟨W5, hW5⟩ : ∃ W5, W5 = w4.setCells w.heap.size 2 (e.at_.cells v4) := ⟨_, rfl⟩
  have HT4 : Hid (Turn [w.heap.size] w4 W5) := Lib.hid (by rw [hW5]; exact turn_setCells _ _ _ _)
  rw [← hW5] at hnew
  have HQ5 : Hid (W5.heap[w.heap.size]? = some (.cells (TE.cells { e with p := w.heap.size, xv := v4 }).toArray NdT)) := Lib.hid (by
    obtain ⟨cur', h1, _, h3⟩ := hnew
    rw [h1]
    have : cur' = (TE.cells { e with p := w.heap.size, xv := v4 }).toArray := by
      apply Array.ext'
      rw [h3]
      simp [TE.cells, XA.cells]
    rw [this])
  have HB5 : Hid (Below w.heap.size w W5) := Lib.hid (HB4.out.trans (HT4.out.below (fun x hx => by obtain rfl := List.mem_singleton.1 hx; exact Nat.le_refl _) HB4.out.size))
  have HX5 : Hid (XsAt W5 v4 e.at_.xs) := Lib.hid (HX4.out.kept HT4.out.size (fun b hb => HT4.out.block b (HX4.out.lt b hb) (by have := HF4.out b hb; simp; omega)))
  have HS5 : Hid (w4.heap.size ≤ W5.heap.size ∧ w.heap.size < W5.heap.size) := Lib.hid ⟨HT4.out.size, by have h1 := lt_of_heap HQ5.out; exact h1⟩
  have HW5 := Lib.hid hW5
  have c10 : W5.cell? ⟨e.p, 10, none⟩ = some (mapV e.m) := cell_of_heap ((H.out.below HB5.out).node e HE.out).cells
  clear hx4 hf4 hb4 hq4 hnew OW hW5 hov HQ2 HAR HR0
  cases hm : e.m with
  | none =>
    rw [hm] at c10
    unfold mapV at c10
    have HM := Lib.hid hm
    clear hm
    have hne := map_nil_ne W5
    have hrn := run_range_nilMap (P := Tryd.prog) W5 55 _ _ Tryd.underlying55
    have hnx := fun ty => run_next_nilMap (P := Tryd.prog) W5 ty 0 0 #[]
    go_wp2_with (first
      | (refine wpList_store_mid rfl AtT (.tmp 14) (.tmp 13) rfl w.heap.size 2 (e.at_.cells v4).toArray rfl rfl HTH.out (infoAt _ _) HON4.out ?_
         rw [show w4.setCells w.heap.size 2 (e.at_.cells v4).toArray.toList = W5 from HW5.out.symm])
      | fail)
    go_loopw [4] (fun _ wr => wr = W5.alloc (.mapIter none 0 #[] 0)) (fun _ _ => 0)
    case atStart => exact rfl
    case round =>
      obtain rfl := hrel
      go_wp2
      go_ret
      have hb6 : Below W5.heap.size W5 (W5.alloc (.mapIter none 0 #[] 0)) := (Below.refl _ _).alloc (Nat.le_refl _) _
      refine ⟨w.heap.size, _, rfl, tw_leaf H.out HE.out HM.out ((hb6.block _ (lt_of_heap HQ5.out)).trans HQ5.out) (HX5.out.kept hb6.size (fun b hb => hb6.block b (HX5.out.lt b hb))) (Nat.le_refl _) (Nat.lt_of_lt_of_le (lt_of_heap HQ5.out) hb6.size) (fun b hb => ?_), HB5.out.trans (hb6.mono HB5.out.size)⟩
      have h1 := HF4.out b hb
      have h2 := HX5.out.lt b hb
      have := hb6.size
      exact ⟨h1.1, by omega, h1.2.2⟩
  | some b =>
    rw [hm] at c10
    unfold mapV at c10
    have HM := Lib.hid hm
    have hmm := @run_makeMap Tryd.prog
    have hne := map_some_ne b W5
    have c5k : (W5.alloc (.map #[] 0)).cell? ⟨w.heap.size, 10, none⟩ = some (.map e.m) := cell_of_heap (at_alloc HQ5.out _)
    have f5k : (W5.alloc (.map #[] 0)).frozen? ⟨w.heap.size, 10, none⟩ = false := frozen_of_heap (at_alloc HQ5.out _)
    go_upto_region 5 with (first
      | (refine wpList_store_mid rfl AtT (.tmp 14) (.tmp 13) rfl w.heap.size 2 (e.at_.cells v4).toArray rfl rfl HTH.out (infoAt _ _) HON4.out ?_
         rw [show w4.setCells w.heap.size 2 (e.at_.cells v4).toArray.toList = W5 from HW5.out.symm])
      | fail)
    obtain ⟨W6, hW6⟩ : ∃ W6, W6 = (W5.alloc (.map #[] 0)).setCell ⟨w.heap.size, 10, none⟩ (.map (some W5.heap.size)) := ⟨_, rfl⟩
    rw [← hW6]
    obtain ⟨mb, hmb⟩ : ∃ mb, mb = W5.heap.size := ⟨_, rfl⟩
    have HMB := Lib.hid hmb
    have hs5 : w.heap.size < W5.heap.size := HS5.out.2
    have hq6 : W6.heap[w.heap.size]? = some (.cells (TE.cells { e with p := w.heap.size, m := some mb, xv := v4 }).toArray NdT) := by rw [hW6, setCell_heap _ _ _ _ _ _ (at_alloc HQ5.out _), hmb]; rfl
    have hb56 : Below w.heap.size W5 W6 := by rw [hW6]; exact ((Below.refl w.heap.size W5).alloc (by omega) _).setCell (p := ⟨w.heap.size, 10, none⟩) (Nat.le_refl _) _
    have HB6 : Hid (Below w.heap.size w W6) := Lib.hid (HB5.out.trans hb56)
    have hm6 : W6.ownsMap Tryd.prog 9 Rv mb 1000000 (toD ptr ([] : MV Nat)) := by
      have h1 : (W5.alloc (.map #[] 0)).ownsMap Tryd.prog 9 Rv W5.heap.size 1000000 (toD ptr ([] : MV Nat)) := map_tight (enc := ptr) (m := ([] : MV Nat)) (World.ownsMap_made W5 Tryd.prog 9 Rv) (by decide)
      rw [hW6, hmb]
      exact ownsMap_block h1 (Below.heap_setCell _ _ _ _ (by show W5.heap.size ≠ w.heap.size; omega))
    have hz6 : W5.heap.size < W6.heap.size := by have := hm6.lt; omega
    have hx6 : XsAt W6 v4 e.at_.xs := by
      refine HX5.out.kept (by omega) (fun b hb => ?_)
      have h1 := HF4.out b hb
      have h2 := HX5.out.lt b hb
      rw [hW6]
      exact (Below.heap_setCell _ _ _ _ (by show b ≠ w.heap.size; exact h1.2.2)).trans (((Below.refl W5.heap.size W5).alloc (Nat.le_refl _) (.map #[] 0)).block b h2)
    have HXB : Hid (∀ b ∈ xob e.at_.xs v4, w.heap.size ≤ b ∧ b < W6.heap.size ∧ b ≠ w.heap.size ∧ b ≠ mb) := Lib.hid (fun b hb => by have h1 := HF4.out b hb; have h2 := HX5.out.lt b hb; omega)
    have HQ6 := Lib.hid hq6; have HM6 := Lib.hid hm6; have HX6 := Lib.hid hx6; have HZ6 := Lib.hid hz6
    have c10' : W6.cell? ⟨e.p, 10, none⟩ = some (.map (some b)) := by
      have h := cell_of_heap (j := 10) ((H.out.below HB6.out).node e HE.out).cells
      have h : W6.cell? ⟨e.p, 10, none⟩ = some (mapV e.m) := h
      rw [HM.out] at h; exact h
    have HMP := Lib.hid (((H.out.below HB6.out).node e HE.out).kids b HM.out)
    have HBW : Hid (b < w.heap.size) := Lib.hid ((H.out.node e HE.out).kids b HM.out).lt
    clear c10 c5k f5k hne hmm hs5 hq6 hb56 hz6 hm6 hx6 hW6 hmb hm HX5 HQ5 HB5 HB4 HX4 HF4 HTH HW5 HT4 HON4 HON HI HB2 HL2
    go_wp2_with (first
      | (at_range; refine wpList_range_own _ rfl _ 55 rfl 9 52 law Tryd.underlying55 Rv b 1000000 (toD ptr (kidsT T.L e.nm)) rfl HMP.out ?_; intro w0 hrg0 hg0 hs0)
      | go_in)
    go_frame
    have HI0 : Hid (TwI w T e w.heap.size mb W6.heap.size v4 w0 (fun z => Maps.has (toD ptr (kidsT T.L e.nm)) z) [] [] []) := Lib.hid (by
      have hb0 : Below W6.heap.size W6 w0 := (Below.refl _ W6).grown hg0 (Nat.le_refl _) (by simp)
      have h1 := HM6.out.lt
      have h2 := lt_of_heap HQ6.out
      refine ⟨TwL.nil _ _ _ _, ownsMap_block HM6.out (hb0.block _ h1), (hb0.block _ h2).trans HQ6.out, HX6.out.kept hb0.size (fun b hb => hb0.block b (HX6.out.lt b hb)), by simp, fun k hk hl => ?_, by simp, HB6.out.trans (hb0.mono HB6.out.size), Nat.le_refl _, ?_, h1, hrg0.lt, HXB.out⟩
      · have hl : Maps.has (toD ptr (kidsT T.L e.nm)) (.string k) = false := hl
        rw [toD_has, hk] at hl; cases hl
      · have := HMB.out; have := HS5.out; omega)
    have HRG0 := Lib.hid hrg0
    clear hrg0 hg0 hs0 c10'
    go_loopw [4] (fun _ wr => ∃ (left : Lit → Bool) (cnt : Nat) (ks : List (List UInt8)) (M : MV Nat) (D : List TE), Hid (wr.ranges Tryd.prog 9 Rv b W6.heap.size 1000000 (toD ptr (kidsT T.L e.nm)) left cnt) ∧ Hid (TwI w T e w.heap.size mb W6.heap.size v4 wr left ks M D)) (fun _ wr => wr.rangeLeft b W6.heap.size)
    case atStart => exact ⟨_, _, _, _, _, HRG0, HI0⟩
    case round =>
      obtain ⟨left, cnt, ks, M, D, HR, HIV⟩ := hrel
      go_wp2_with (first
        | (at_next; refine wpList_next_ranges (α := ByteArray) (β := Value) _ rfl _ rfl 9 law Rv Value.string id str_inv held_inv b W6.heap.size 1000000 _ _ _ (by first | rfl | simp [Act.eval, World.setCell]) HR.out ?_ ?_)
        | go_in)
      · intro _ hl0
        have HFN : Hid (TwF w.heap.size _ T e.nm w.heap.size ({ e with p := w.heap.size, m := some mb, xv := v4 } :: D)) := Lib.hid (HIV.out.fin hl0 HE.out H.out.srt H.out.parT ((H.out.kind e HE.out).2 (by rw [HM.out]; simp)))
        have HBL := Lib.hid HIV.out.bel
        clear hl0
        go_wp2
        go_ret
        exact ⟨w.heap.size, _, rfl, HFN.out, HBL.out⟩
      · intro x c kl yd yp w2 cnt1 hkey hlx hv hat hrg1 hlt hg1 hs1 hen
        obtain ⟨x', ex, ekl, hxl⟩ := string_of_keyOf Tryd.underlying9 hkey
        injection ex with ex
        subst ex
        subst ekl
        have hv2 : yd = .held c := by
          have := congrArg Prod.fst (Option.some.inj hv)
          exact this.symm
        subst hv2
        have hhas := has_true_of_atKey hat
        rw [toD_has] at hhas
        obtain ⟨qk, hq⟩ := Option.isSome_iff_exists.1 hhas
        have hcn := hat (.held .nilIface)
        rw [toD_at, hq] at hcn
        injection hcn with hcn
        have hcn' : ptr qk = c := hcn
        subst hcn'
        have HHAS := Lib.hid hhas
        rw [kidsT_get H.out.srt] at hq
        obtain ⟨kn, hkn, rfl⟩ : ∃ kn, getT (e.nm ++ [x.data.toList]) T.L = some kn ∧ kn.p = qk := by
          cases hg : getT (e.nm ++ [x.data.toList]) T.L with
          | none => rw [hg] at hq; cases hq
          | some kn => rw [hg] at hq; exact ⟨kn, rfl, Option.some.inj hq⟩
        obtain ⟨hkm, hknm⟩ := getT_nm hkn
        have hb2 : Below w.heap.size w w2 := HIV.out.bel.grown hg1 HIV.out.bel.size (fun y hy => by obtain rfl := Option.some.inj hy; exact HB6.out.size)
        have CL := IH.out kn hkm _ hknm w2.drew (H.out.below hb2.drew)
        rw [hknm] at CL
        have HSL : Hid (x.data.toList.length ≤ maxLen) := Lib.hid (by rw [← Lib.size_eq]; exact hxl)
        have HB2 := Lib.hid hb2; have HRG := Lib.hid hrg1; have HLT := Lib.hid hlt; have HG1 := Lib.hid hg1; have HS1 := Lib.hid hs1; have HLX := Lib.hid hlx
        have CL := Lib.hid CL
        have KS : Hid (∀ w', Below w2.heap.size w2 w' → w'.cell? ⟨w.heap.size, 10, none⟩ = some (.map (some mb))) := Lib.hid (fun w' hb => by
          have h1 := HIV.out
          have q1 := h1.q1; have q2 := h1.q2; have q3 := h1.q3
          exact cell_of_heap (j := 10) (((hb.block _ (by omega)).trans (HG1.out.block _ (by omega) (fun e => by injection e with e; omega))).trans h1.cells))
        have MP3 : Hid (∀ w', Below w2.heap.size w2 w' → w'.ownsMap Tryd.prog 9 Rv mb 1000000 (toD ptr M)) := Lib.hid (fun w' hb => by
          have h1 := HIV.out
          have q2 := h1.q2; have q3 := h1.q3
          have hlm := h1.map.lt
          have := HS1.out
          exact ownsMap_block h1.map ((hb.block _ (by omega)).trans (HG1.out.block _ hlm (fun e => by injection e with e; omega))))
        have KS4 : Hid (∀ w3 w4, Below w2.heap.size w2 w3 → Turn [mb] w3 w4 → w4.cell? ⟨w.heap.size, 10, none⟩ = some (.map (some mb))) := Lib.hid (fun w3 w4 hb ht => by
          have h1 := HIV.out
          have q1 := h1.q1; have q2 := h1.q2; have q3 := h1.q3
          have := HS1.out; have := hb.size
          exact (World.cell?_of_block (a := ⟨w.heap.size, 10, none⟩) (ht.block _ (by show w.heap.size < _; omega) (by simp; omega))).trans (KS.out w3 hb))
        clear hv hat hhas hcn hq hkn hkm hknm hb2 hrg1 hlt hkey hlx hg1 hs1
        unfold ptr at CL hen ⊢
        try dsimp only [id] at hen ⊢
        go_upto_region 8 with (fail)
        refine wp_region_held_drew (S := (fun w' : World => w'.cell? ⟨w.heap.size, 10, none⟩ = some (.map (some mb)))) (by kernel_rfl) (KS.out _ (Below.refl _ _).drew) (fun hHeld => ?_)
        refine wpAnyH_take (i := 0) (v := ?_) rfl (by kernel_rfl) (by kernel_rfl) (by kernel_rfl) (fun _ _ _ h => h) (Or.inl ⟨by rfl, ?tw0⟩) hHeld ?_
        case tw0 =>
          intro wS hSw
          have k0 := hSw
          go_simp
          try with_reducible rfl
        try simp only [Act.put, List.getElem_toArray, List.getElem_cons_zero, List.getElem_cons_succ, List.setIfInBounds_toArray, List.set_cons_zero, List.set_cons_succ]
        refine wpAnyH_take (i := 1) (v := ?_) rfl (by kernel_rfl) (by kernel_rfl) (by kernel_rfl) (fun _ _ _ h => h) (Or.inl ⟨by rfl, ?tw1⟩) hHeld ?_
        case tw1 =>
          intro wS hSw
          have k0 := hSw
          go_simp
          try with_reducible rfl
        try simp only [Act.put, List.getElem_toArray, List.getElem_cons_zero, List.getElem_cons_succ, List.setIfInBounds_toArray, List.set_cons_zero, List.set_cons_succ]
        refine wpAnyH_take (i := 2) (v := ?_) rfl (by kernel_rfl) (by kernel_rfl) (by kernel_rfl) (fun _ _ _ h => h) (Or.inl ⟨by rfl, ?tw2⟩) hHeld ?_
        case tw2 =>
          intro wS hSw
          have k0 := hSw
          go_simp
          try with_reducible rfl
        try simp only [Act.put, List.getElem_toArray, List.getElem_cons_zero, List.getElem_cons_succ, List.setIfInBounds_toArray, List.set_cons_zero, List.set_cons_succ]
        refine wpAnyH_take (i := 3) (v := ?_) rfl (by kernel_rfl) (by kernel_rfl) (by kernel_rfl) (fun _ _ _ h => h) (Or.inl ⟨by rfl, ?tw3⟩) hHeld ?_
        case tw3 =>
          intro wS hSw
          have k0 := hSw
          go_simp
          try with_reducible rfl
        try simp only [Act.put, List.getElem_toArray, List.getElem_cons_zero, List.getElem_cons_succ, List.setIfInBounds_toArray, List.set_cons_zero, List.set_cons_succ]
        refine wpAnyH_ready (rs := [4]) (by kernel_rfl) (by simp) ?_
        refine AllReadyH.cons rfl (fun K hK => ?_) AllReadyH.nil
        go_simp
        refine CL.out.mono ?_
        rintro ez w3 ⟨p3, C3, rfl, hC3, hb3⟩
        have HC3 := Lib.hid hC3
        have HB3 : Hid (Below w2.heap.size w2 w3) := Lib.hid ((Below.refl w2.heap.size w2).drew.trans hb3)
        clear hC3 hb3
        go_wp2_with fail
        refine hK.out _ _ (KS.out _ HB3.out) (fun hHeld2 => ?_)
        clear hK K hHeld
        have hHeld := hHeld2
        clear hHeld2
        try simp only [Act.put, List.getElem_toArray, List.getElem_cons_zero, List.getElem_cons_succ, List.setIfInBounds_toArray, List.set_cons_zero, List.set_cons_succ]
        refine wpAnyH_ready (rs := [5]) (by kernel_rfl) (by simp) ?_
        refine AllReadyH.cons rfl (fun K hK => ?_) AllReadyH.nil
        obtain ⟨w4, hrun4, hm4, ht4⟩ := kid_store (MP3.out w3 HB3.out) x.data.toList HSL.out p3 (HIV.out.pl HG1.out HS1.out HC3.out HB3.out HLX.out HHAS.out H.out.srt (HFI.out.kids e HE.out))
        rw [Rd.ba_mk] at hrun4
        unfold ptr at hrun4
        have HM4 := Lib.hid hm4
        have HT4 := Lib.hid ht4
        clear hm4 ht4
        go_simp
        refine hK.out _ _ (KS4.out _ _ HB3.out HT4.out) (fun hHeld2 => ?_)
        clear hK K hHeld
        have hHeld := hHeld2
        clear hHeld2
        try simp only [Act.put, List.getElem_toArray, List.getElem_cons_zero, List.getElem_cons_succ, List.setIfInBounds_toArray, List.set_cons_zero, List.set_cons_succ]
        refine wpAnyH_done (by kernel_rfl) ?_ _
        clear hHeld
        try simp only [Act.put, List.getElem_toArray, List.getElem_cons_zero, List.getElem_cons_succ, List.setIfInBounds_toArray, List.set_cons_zero, List.set_cons_succ]
        have HR4 : Hid (w4.ranges Tryd.prog 9 Rv b W6.heap.size 1000000 (toD ptr (kidsT T.L e.nm)) (fun z => left z && !z.sameKey (.string x.data.toList)) cnt1) := Lib.hid (by
          have h1 := HIV.out
          have q1 := h1.q1; have q2 := h1.q2; have q3 := h1.q3
          have e1 := HS1.out; have e2 := HB3.out.size; have e3 := HBW.out; have e4 := HB6.out.size
          obtain ⟨es, clock, since, seen, c0, h1, h2, h3, h4, h5, h6⟩ := HRG.out
          exact ⟨es, clock, since, seen, c0, ((HT4.out.block b (by omega) (by simp; omega)).trans (HB3.out.block b (by omega))).trans h1, h2, h3, h4, ((HT4.out.block _ (by omega) (by simp; omega)).trans (HB3.out.block _ (by omega))).trans h5, h6⟩)
        have HI4 := Lib.hid (HIV.out.round HG1.out HS1.out HC3.out HB3.out HLX.out HHAS.out H.out.srt HT4.out HM4.out)
        clear CL KS KS4 MP3
        go_wp2
        go_roundw
        case rel => exact ⟨_, cnt1, _, _, _, HR4, HI4⟩
        case measure =>
          rw [HR4.out.left_eq, HR.out.left_eq]; exact HLT.out
end Go.Proofs.YtkdkifciajfpnaaDoor.Sr
