/-
  DiskSafe's walk: what was made safe survives every crash.
-/
import Derived.Test.YtcfdfpjemonhoaaDkSynced
namespace Go.Proofs.Ytcfdfpjemonhoaa.Dk
open Go.RowKit Go.Maps Go.WideMaps

theorem infoInt : (Try.prog.info? 3).map (fun i => (i.zero, i.size, i.bytes)) = some (some (.int .i64 0), 1, 8) := by kernel_rfl
theorem up_list {D : Dk} (h : Up D) : ∃ D2, listN D = ((names D2.now, 0), D2) ∧ D2 = (count D).2 := by
  refine ⟨_, ?_, rfl⟩
  unfold listN; rw [up_count h]; rfl

set_option maxHeartbeats 64000000 in
set_option maxRecDepth 100000 in
theorem safe_law (w : World) (v0 v1 : Value) (l1 l2 : List OpX) (h1 : OpsAt w v0 l1) (h2 : OpsAt w v1 l2) (c : Int × List Int) (vk : Value) (hk : KeepAt w [] vk c.2) :
    Calls Try.prog 4 #[v0, v1, crashV c.1 vk] w fun e w' => e = .returned (.bool true) ∧ Below w.heap.size w w' := by
  obtain ⟨va, vcap, rfl, hkl, hkc⟩ := hk
  obtain ⟨w0, hw0⟩ : ∃ w0, w0 = w.alloc (.cells #[.int .i64 c.1, .slice va c.2.length vcap] 43) := ⟨_, rfl⟩
  obtain ⟨B, hB⟩ : ∃ B, B = w.heap.size + 1 := ⟨_, rfl⟩
  have hB0 : w0.heap.size = B := by rw [hw0, hB, one_size]
  have hW0 : Below w.heap.size w w0 := by rw [hw0]; exact (Below.refl _ _).alloc (Nat.le_refl _) _
  have hx : w0.heap[w.heap.size]? = some (.cells #[.int .i64 c.1, .slice va c.2.length vcap] 43) := by rw [hw0]; exact (MapKept.heap_alloc w _).1
  have hBx : w.heap.size < B := by omega
  have hBw : w.heap.size ≤ B := by omega
  have HX0 := Lib.hid (show w0.cell? ⟨w.heap.size, 0, none⟩ = some (.int .i64 c.1) from cell_of_heap hx)
  have HX1 := Lib.hid (show w0.cell? ⟨w.heap.size, 1, none⟩ = some (.slice va c.2.length vcap) from cell_of_heap hx)
  have hk0 : KeepAt w [] (.slice va c.2.length vcap) c.2 := ⟨va, vcap, rfl, hkl, hkc⟩
  have HK0 := Lib.hid (hk0.kept (w' := w0) (X' := []) hW0.size (fun b hb _ => hW0.block b hb) (fun _ _ x => x))
  have HKB : Hid (∀ (a : Addr) (n c' : Nat), Value.slice va c.2.length vcap = .slice (some a) n c' → c.2 ≠ [] → a.block < B) := Lib.hid (fun a n c' he hne => by
    obtain ⟨b, o, rfl, hlt, _⟩ := hkc hne
    injection he with he _ _
    injection he with he
    rw [← he]
    show b < B
    omega)
  have HO1 := Lib.hid (h1.below hW0)
  have HO2 := Lib.hid (h2.below hW0)
  obtain ⟨la, lc, rfl, hlm1, _⟩ := h1
  obtain ⟨ma, mc, rfl, hlm2, _⟩ := h2
  unfold maxLen at hlm1 hlm2
  have NC := Lib.hid (new_any 300 (by decide) (by decide) w0)
  have HW0 := Lib.hid hW0
  have HB0 := Lib.hid hB0
  unfold crashV
  rw [hw0] at NC
  clear hx hW0 hk0 hkc hB0
  go_enter Try.func4, Try.ntmps4
  go_wp2_with (go_at_call 6; refine NC.out.mono ?_; rintro e1 w1 ⟨Y0, rfl, d0, b1⟩; rw [← hw0] at d0 b1; have D0 := Lib.hid d0; have B1 := Lib.hid b1; clear d0 b1)
  have LS : Hid (Live B w0 Y0.g w1 Y0 (newDk 300)) := Lib.hid ⟨by rw [← HB0.out]; exact D0.out, rfl, by rw [← HB0.out]; exact B1.out, by rw [HB0.out]; exact Nat.le_refl _⟩
  clear D0 B1 NC hw0
  go_loopw [9] (fun s9 wr => ∃ (k : Nat) (Y : Lay) (D : Dk), k ≤ 40 ∧ k ≤ l1.length ∧ s9 = .int .i64 k ∧ Hid (Live B w0 Y0.g wr Y D) ∧ Hid (Good (1000000 - 2 * k) D ∧ Up D)) (fun s9 _ => 40 - (RowKit.intOf s9).toNat)
  case atStart => exact ⟨0, Y0, newDk 300, by omega, by omega, rfl, LS, Lib.hid ⟨good_new _ (by decide) (by decide), ⟨rfl, rfl⟩⟩⟩
  case round =>
    obtain ⟨k, Y, D, hk40, hkl1, rfl, L, hgU⟩ := hrel
    by_cases hkl' : k < l1.length ∧ k < 40
    · obtain ⟨hkl, hk40'⟩ := hkl'
      have hki : (k : Int) < (l1.length : Int) := by omega
      have hk4 : (k : Int) < 40 := by omega
      obtain ⟨y, hy⟩ : ∃ y, l1[k]? = some y := ⟨_, List.getElem?_eq_getElem hkl⟩
      have hym := List.mem_of_getElem? hy
      obtain ⟨a2, cc2, hv2, _, hcell2, hfit2⟩ := HO1.out
      injection hv2 with z1 z2 z3
      obtain ⟨b2, o2, rfl, hb2, hat2⟩ := hcell2 (List.ne_nil_of_mem hym)
      subst z1
      have hfy := hfit2 y hym
      have hyA := Lib.hid (hat2 k y hy)
      have hb2B : b2 < B := by have := HB0.out; omega
      have cy := fun (p : Nat) => L.out.below.cell (p := ⟨b2, o2 + k * 8 + p, none⟩) hb2B
      have y0 : wr.cell? ⟨b2, o2 + k * 8, none⟩ = some (.int .i64 y.kind) := (L.out.below.cell (p := ⟨b2, o2 + k * 8, none⟩) hb2B).trans hyA.out.c0
      have y1 : wr.cell? ⟨b2, o2 + k * 8 + 1, none⟩ = some (.string y.name) := (cy 1).trans hyA.out.c1
      have y2 : wr.cell? ⟨b2, o2 + k * 8 + 2, none⟩ = some (.string y.other) := (cy 2).trans hyA.out.c2
      have y3 : wr.cell? ⟨b2, o2 + k * 8 + 3, none⟩ = some (.string y.data) := (cy 3).trans hyA.out.c3
      have y4 : wr.cell? ⟨b2, o2 + k * 8 + 4, none⟩ = some (.int .i64 y.a) := (cy 4).trans hyA.out.c4
      have y5 : wr.cell? ⟨b2, o2 + k * 8 + 5, none⟩ = some (.int .i64 y.b) := (cy 5).trans hyA.out.c5
      have y6 : wr.cell? ⟨b2, o2 + k * 8 + 6, none⟩ = some (.int .i64 y.c) := (cy 6).trans hyA.out.c6
      have y7 : wr.cell? ⟨b2, o2 + k * 8 + 7, none⟩ = some (.slice y.ka y.kn y.kc) := (cy 7).trans hyA.out.c7
      have hgd := good_do (x := y.w) (hgU.out.1.le (show 1000000 - 2 * (k + 1) + 2 ≤ 1000000 - 2 * k by omega)) hfy.name hfy.other
      have hup := hgU.out.2.do y.w
      have DO := L.out.do (hgU.out.1.le (show 1000000 - 2 * (k + 1) + 2 ≤ 1000000 - 2 * k by omega)) y hfy
      unfold OpX.val ptr at DO
      have HDO := Lib.hid DO; have HGD := Lib.hid (And.intro hgd hup)
      clear DO hcell2 hat2 hy hym hfit2 z2 z3 cy hfy hgd hup hyA
      go_wp2_with fail
      refine HDO.out.mono ?_
      rintro e q1 ⟨Z1, rfl, M1, _⟩
      have L1 := Lib.hid M1
      clear HDO M1
      go_wp2
      go_roundw
      case rel => exact ⟨k + 1, Z1, _, by omega, by omega, by go_num, L1, HGD⟩
      case measure => simp [RowKit.intOf]; omega
    · by_cases ek : k < l1.length
      · have hx1 : (k : Int) < (l1.length : Int) := by omega
        have hx2 : ¬ (k : Int) < 40 := by omega
        obtain ⟨D1, el1, hct1⟩ := up_list hgU.out.2
        have hG1 : Hid (Good 990000 D1 ∧ Up D1) := Lib.hid (by rw [hct1]; exact ⟨good_count (hgU.out.1.le (by omega)), hgU.out.2.count⟩)
        have LI := L.out.listS (hgU.out.1)
        rw [el1] at LI
        unfold ptr at LI
        have HLI := Lib.hid LI
        clear LI el1 hct1
        go_wp2_with fail
        refine HLI.out.mono ?_
        rintro e w5 ⟨Y5, v10, rfl, M5, h5⟩
        obtain ⟨⟨N5, hr5⟩, _⟩ := id h5
        obtain ⟨na, nc, hv10⟩ := row_slice hr5
        subst hv10
        have L5 := Lib.hid M5; have S5 := Lib.hid h5
        clear HLI M5 h5 hr5
        obtain ⟨M, hM⟩ : ∃ M, M = (names D1.now).length := ⟨_, rfl⟩
        have hM4 : M ≤ 4096 := by rw [hM, names_length]; exact hG1.out.1.ok.nnow
        have HM := Lib.hid hM
        rw [← hM] at S5 ⊢
        clear hM
        go_wp2
        go_loopw [12] (fun s12 wr => ∃ (j : Nat) (Y' : Lay) (Dj : Dk), j ≤ M ∧ s12 = .int .i64 j ∧ Hid (Live B w0 Y0.g wr Y' Dj) ∧ Hid (Good (990000 - j) Dj ∧ Up Dj ∧ Synced D1 j Dj) ∧ Hid (HasS wr Y' (.slice na M nc) (names D1.now))) (fun s12 _ => M - (RowKit.intOf s12).toNat)
        case atStart => exact ⟨0, Y5, D1, by omega, rfl, L5, Lib.hid ⟨hG1.out.1, hG1.out.2, Synced.start D1⟩, S5⟩
        case round =>
          obtain ⟨i, YS, DS, hiM, rfl, LS1, hS, HSR⟩ := hrel
          by_cases hil : i < M
          · obtain ⟨x, hx⟩ : ∃ x, (names D1.now)[i]? = some x := ⟨_, List.getElem?_eq_getElem (by rw [← HM.out]; exact hil)⟩
            obtain ⟨⟨N6, hr6⟩, _⟩ := HSR.out
            rw [← HM.out] at hr6
            obtain ⟨g6, cp6, hv6, hg6, _, hc6⟩ := row_cells hr6 (by omega)
            injection hv6 with z1 z2 z3
            subst z1
            have hcx : wr.cell? ⟨g6, i, none⟩ = some (.string ⟨x.toArray⟩) := hc6 i _ (by rw [List.getElem?_map, hx]; rfl)
            have hil' : (i : Int) < (M : Int) := by omega
            have hsz : (⟨x.toArray⟩ : ByteArray).size ≤ maxLen := by
              rw [Lib.size_eq, ba_data]
              exact names_size LS1.out.at'.now (by rw [hS.out.2.2.now]; exact List.mem_of_getElem? hx)
            obtain ⟨hz0, hnx⟩ := hS.out.2.2.next hS.out.2.1 (hS.out.1.le (show 990000 - (i + 1) + 1 ≤ 990000 - i by omega)) hx
            have hgs := good_sync (x := x) (hS.out.1.le (show 990000 - (i + 1) + 1 ≤ 990000 - i by omega))
            have hNX := Lib.hid (And.intro hgs (And.intro (hS.out.2.1.sync x) hnx))
            have SY := LS1.out.callS (LS1.out.g ▸ sync_any B wr YS _ ⟨x.toArray⟩ hsz LS1.out.at' hS.out.1.ok)
            rw [ba_data, hz0] at SY
            unfold ptr at SY
            have HSY := Lib.hid SY
            clear SY hr6 hc6 hx hgs hnx hz0 z2 z3
            go_wp2_with fail
            refine HSY.out.mono ?_
            rintro e q1 ⟨Z1, rfl, M1, k1⟩
            have L1 := Lib.hid M1; have S1 := Lib.hid (k1 _ _ HSR.out)
            clear HSY M1 k1
            go_wp2
            go_roundw
            case rel => exact ⟨i + 1, Z1, _, by omega, by go_num, L1, hNX, S1⟩
            case measure => simp [RowKit.intOf]; omega
          · obtain rfl : i = M := by omega
            have hall : AllSafe DS := hS.out.2.2.all (by rw [HM.out]; exact Nat.le_refl _)
            have esd := up_syncDir hS.out.2.1
            obtain ⟨D2, hD2⟩ : ∃ D2, D2 = { (count DS).2 with safe := DS.now, chs := [] } := ⟨_, rfl⟩
            rw [← hD2] at esd
            have hcn := count_now DS
            have hall2 : AllSafe D2 := fun p hp f hf => hall p (by rw [hD2] at hp; exact hcn.1 ▸ hp) f (by rw [hD2] at hf; rw [← hcn.2.1]; exact hf)
            have hgd2 : Good 980000 D2 := by
              have := good_syncDir (k := 980000) (hS.out.1.le (show 980000 + 1 ≤ 990000 - i by omega))
              rw [esd] at this; exact this
            have hup2 : Up D2 := by rw [hD2]; exact hS.out.2.1.count
            have hch2 : D2.chs = [] := by rw [hD2]
            have hsf2 : D2.safe = D2.now := by rw [hD2]; exact hcn.1.symm
            have SD := LS1.out.call (LS1.out.g ▸ syncDir_any B wr YS _ LS1.out.at' hS.out.1.ok)
            rw [esd] at SD
            unfold ptr at SD
            have HSD := Lib.hid SD
            obtain ⟨D4, er4, hf4, hn4, hs4, hc4, hu4, _⟩ := restart_safe hgd2 hup2.1 hch2 hsf2 hall2 c
            have hgp : Good 980000 { D2 with down := true, crash := c } := Good.like (D' := { D2 with down := true, crash := c }) hgd2 rfl rfl rfl rfl rfl rfl 980000 (Nat.le_refl _) hgd2.bcalls hgd2.ok.left
            have hG4 : Hid (Good 980000 D4) := Lib.hid (by have := good_restart hgp; rw [er4] at this; exact this)
            have hsame : filesN D4 = filesN D2 := by
              unfold filesN
              rw [hn4]
              refine List.map_congr_left fun k _ => ?_
              unfold fileOf
              rw [hn4, hf4]
            have hfrom : Hid (From D4 D4) := Lib.hid (From.start hG4.out hc4 (by rw [hs4, hn4]) (fun p hp f hf => hall2 p (by rw [hn4] at hp; exact hp) f (by rw [hf4] at hf; exact hf)))
            have HG2 := Lib.hid (And.intro hgd2 hup2); have HGP := Lib.hid hgp; have HSAME := Lib.hid hsame
            clear SD hall hall2 hD2 hcn hch2 hsf2 hgd2 hgp hsame esd
            go_wp2_with fail
            refine HSD.out.mono ?_
            rintro e w7 ⟨Y7, rfl, M7, _⟩
            have L7 := Lib.hid M7
            clear HSD M7 HSR LS1 hS
            have FI := Lib.hid (L7.out.files HG2.out.1)
            unfold ptr at FI
            go_wp2_with fail
            refine FI.out.mono ?_
            rintro e w8 ⟨v13, rfl, M8, h8, _⟩
            obtain ⟨wa, wc, hv13, _⟩ := h8.row
            subst hv13
            have L8 := Lib.hid M8; have A8 := Lib.hid h8
            clear FI M8 h8
            go_wp2
            have hb8 : Below B w0 w8.drew := L8.out.below.drew
            have hs8 : B ≤ w8.heap.size := L8.out.size
            have keepS : ∀ w', Below B w0 w' → (w'.cell? ⟨w.heap.size, 0, none⟩ = some (.int .i64 c.1) ∧ w'.cell? ⟨w.heap.size, 1, none⟩ = some (.slice va c.2.length vcap) ∧ Below B w0 w') := fun w' hq => ⟨(hq.cell (p := ⟨w.heap.size, 0, none⟩) hBx).trans HX0.out, (hq.cell (p := ⟨w.heap.size, 1, none⟩) hBx).trans HX1.out, hq⟩
            have hgt8 : w.heap.size < w8.heap.size := by omega
            obtain ⟨i0, hi, hz0, hz1, hz2⟩ := info_parts infoInt
            by_cases hks : c.2 = []
            · have hk0 : Hid (c.2.length = 0) := Lib.hid (by rw [hks]; rfl)
              have HKS := Lib.hid hks
              clear hks
              have A8' : Hid (Has w8 Y7 (.slice wa (filesN D2).length wc) (filesN D4)) := Lib.hid (by rw [HSAME.out]; exact A8.out)
              have HPU : Hid (∀ w10, Below w8.heap.size w8 w10 → ∀ v, KeepAt w10 Y7.blocks v c.2 → Calls Try.prog 19 #[.pointer (some ⟨Y0.g, 0, none⟩), .agg #[.int .i64 c.1, v]] w10 (LivePost B w0 Y0.g w10 Y7 (.int .i64 0) { D2 with down := true, crash := c })) := Lib.hid (fun w10 hb v hv => by
                have L10 : Live B w0 Y0.g w10 Y7 D2 := ⟨L8.out.at'.below hb, L8.out.g, L8.out.below.trans (hb.mono hs8), L8.out.le⟩
                have PU := pull_any B w10 Y7 D2 c v hv L10.at'
                have epu : pull D2 c = (0, { D2 with down := true, crash := c }) := by unfold pull; rw [hup2.1]; rfl
                rw [epu, L10.g] at PU
                exact L10.call PU)
              go_region_held3 (fun w' => w'.cell? ⟨w.heap.size, 0, none⟩ = some (.int .i64 c.1) ∧ w'.cell? ⟨w.heap.size, 1, none⟩ = some (.slice va c.2.length vcap) ∧ Below B w0 w')
                (first
                  | (refine keepS _ ?_; assumption)
                  | exact keepS _ ((L8.out.below.alloc hs8 _).drew))
                (first
                  | (refine step_append_zero (by rfl) (.tmp 65) (.tmp 67) 30 (by rfl) 3 i0 Try.underlying30 hi ⟨w8.heap.size, 0, none⟩ va c.2.length vcap hk0.out (by rfl) (by rfl) ?_
                     have hb10 : Below w8.heap.size w8 (w8.alloc (.cells #[] 3)).drew := ((Below.refl _ w8).alloc (Nat.le_refl _) _).drew
                     have hbw10 : Below B w0 (w8.alloc (.cells #[] 3)).drew := L8.out.below.trans (hb10.mono hs8)
                     have PU10 := HPU.out _ hb10 (.slice (some ⟨w8.heap.size, 0, none⟩) 0 0) ⟨_, _, by rw [hk0.out], by omega, fun hne => absurd HKS.out hne⟩
                     have A10 := Lib.hid (A8'.out.below hb10)
                     clear hb10)
                  | (go_at_call 19
                     refine PU10.mono ?_
                     rintro e w11 ⟨Z11, rfl, M11, k11⟩
                     have L11 := Lib.hid M11; have hbw11 := M11.below; have A11 := Lib.hid (k11 _ _ A10.out)
                     have RS := restart_good L11.out.at' HGP.out
                     rw [L11.out.g, er4] at RS
                     unfold ptr at RS
                     have HRS := Lib.hid (L11.out.call RS)
                     clear PU10 RS M11 k11 A10)
                  | (go_at_call 20
                     refine HRS.out.mono ?_
                     rintro e w12 ⟨Y12, rfl, M12, k12⟩
                     have hbw12 := M12.below; have A12 := Lib.hid (k12 _ _ A11.out)
                     have FI12 := M12.files hG4.out
                     unfold ptr at FI12
                     have HFI := Lib.hid FI12
                     clear HRS FI12 M12 k12 A11 L11)
                  | (go_at_call 7
                     refine HFI.out.mono ?_
                     rintro e w13 ⟨v13, rfl, M13, h13, k13⟩
                     have L13 := Lib.hid M13; have hbw13 := M13.below; have A13 := Lib.hid (k13 _ _ A12.out)
                     have FY := Lib.hid (files_yes w13 _ _ _ _ h13.row A13.out.row ⟨rfl, fun i t u a b => by obtain rfl := Option.some.inj (a.symm.trans b); exact ⟨rfl, rfl⟩⟩ (by rw [told_length]; have := hG4.out.ok.nnow; omega))
                     clear HFI M13 h13 k13 A12)
                  | (go_at_call 12
                     refine FY.out.mono ?_
                     rintro e w14 ⟨rfl, hb14⟩
                     have hbw14 : Below B w0 w14 := L13.out.below.trans (hb14.mono L13.out.size)
                     have L14 : Hid (Live B w0 Y0.g w14 Y12 D4) := Lib.hid ⟨L13.out.at'.below hb14, L13.out.g, hbw14, L13.out.le⟩
                     have A14 := Lib.hid (A13.out.below hb14)
                     clear FY hb14))
              go_wp2
              go_loopw [14] (fun s14 wr => ∃ (j : Nat) (Y' : Lay) (Dj : Dk), j ≤ 40 ∧ j ≤ l2.length ∧ s14 = .int .i64 j ∧ Hid (Live B w0 Y0.g wr Y' Dj) ∧ Hid (Good (980000 - 2 * j) Dj ∧ Up Dj ∧ From D4 Dj) ∧ Hid (Has wr Y' (.slice wa (filesN D2).length wc) (filesN D4))) (fun s14 _ => 40 - (RowKit.intOf s14).toNat)
              case atStart => exact ⟨0, Y12, D4, by omega, by omega, rfl, L14, Lib.hid ⟨hG4.out, hu4, hfrom.out⟩, A14⟩
              case round =>
                obtain ⟨j, YQ, DQ, hj40, hjl2, rfl, LQ, hQ, HAS⟩ := hrel
                by_cases hjl' : j < l2.length ∧ j < 40
                · obtain ⟨hjl, hj40'⟩ := hjl'
                  have hji : (j : Int) < (l2.length : Int) := by omega
                  have hj4 : (j : Int) < 40 := by omega
                  obtain ⟨y, hy⟩ : ∃ y, l2[j]? = some y := ⟨_, List.getElem?_eq_getElem hjl⟩
                  have hym := List.mem_of_getElem? hy
                  obtain ⟨a2, cc2, hv2, _, hcell2, hfit2⟩ := HO2.out
                  injection hv2 with z1 z2 z3
                  obtain ⟨b2, o2, rfl, hb2, hat2⟩ := hcell2 (List.ne_nil_of_mem hym)
                  subst z1
                  have hfy := hfit2 y hym
                  have hyA := Lib.hid (hat2 j y hy)
                  have hb2B : b2 < B := by have := HB0.out; omega
                  have cy := fun (p : Nat) => LQ.out.below.cell (p := ⟨b2, o2 + j * 8 + p, none⟩) hb2B
                  have y0 : wr.cell? ⟨b2, o2 + j * 8, none⟩ = some (.int .i64 y.kind) := (LQ.out.below.cell (p := ⟨b2, o2 + j * 8, none⟩) hb2B).trans hyA.out.c0
                  have y1 : wr.cell? ⟨b2, o2 + j * 8 + 1, none⟩ = some (.string y.name) := (cy 1).trans hyA.out.c1
                  have y2 : wr.cell? ⟨b2, o2 + j * 8 + 2, none⟩ = some (.string y.other) := (cy 2).trans hyA.out.c2
                  have y3 : wr.cell? ⟨b2, o2 + j * 8 + 3, none⟩ = some (.string y.data) := (cy 3).trans hyA.out.c3
                  have y4 : wr.cell? ⟨b2, o2 + j * 8 + 4, none⟩ = some (.int .i64 y.a) := (cy 4).trans hyA.out.c4
                  have y5 : wr.cell? ⟨b2, o2 + j * 8 + 5, none⟩ = some (.int .i64 y.b) := (cy 5).trans hyA.out.c5
                  have y6 : wr.cell? ⟨b2, o2 + j * 8 + 6, none⟩ = some (.int .i64 y.c) := (cy 6).trans hyA.out.c6
                  have y7 : wr.cell? ⟨b2, o2 + j * 8 + 7, none⟩ = some (.slice y.ka y.kn y.kc) := (cy 7).trans hyA.out.c7
                  have HFY := Lib.hid hfy
                  have hgm := good_more (x := y.w) (hQ.out.1.le (show 980000 - 2 * (j + 1) + 2 ≤ 980000 - 2 * j by omega)) hfy.name hfy.other
                  have hnx := Lib.hid (And.intro hgm (And.intro (hQ.out.2.1.more y.w) (from_more hQ.out.2.2 (hQ.out.1.le (show 2 ≤ 980000 - 2 * j by omega)) (fun p hp => hG4.out.ok.now p hp) y.w)))
                  clear hcell2 hat2 hy hym hfit2 z2 z3 cy hfy hgm hyA
                  by_cases hk : y.kind = 0
                  · have hmn : moreN DQ y.w = doN DQ y.w := by unfold moreN; rw [if_pos (by have : y.w.kind = 0 := hk; omega)]
                    rw [hmn] at hnx
                    have DO := LQ.out.do (hQ.out.1.le (show 2 ≤ 980000 - 2 * j by omega)) y HFY.out
                    unfold OpX.val ptr at DO
                    rw [hk] at y0 DO
                    have HDO := Lib.hid DO
                    clear DO hmn
                    go_wp2_with fail
                    refine HDO.out.mono ?_
                    rintro e q1 ⟨Z1, rfl, M1, k1⟩
                    have L1 := Lib.hid M1; have A1 := Lib.hid (k1 _ _ HAS.out)
                    clear HDO M1 k1
                    go_wp2
                    go_roundw
                    case rel => exact ⟨j + 1, Z1, _, by omega, by omega, by go_num, L1, hnx, A1⟩
                    case measure => simp [RowKit.intOf]; omega
                  have n0 : ¬ y.kind = 0 := hk
                  clear hk
                  by_cases hk : y.kind = 1
                  · have hmn : moreN DQ y.w = doN DQ y.w := by unfold moreN; rw [if_pos (by have : y.w.kind = 1 := hk; omega)]
                    rw [hmn] at hnx
                    have DO := LQ.out.do (hQ.out.1.le (show 2 ≤ 980000 - 2 * j by omega)) y HFY.out
                    unfold OpX.val ptr at DO
                    rw [hk] at y0 DO
                    have HDO := Lib.hid DO
                    clear DO hmn
                    go_wp2_with fail
                    refine HDO.out.mono ?_
                    rintro e q1 ⟨Z1, rfl, M1, k1⟩
                    have L1 := Lib.hid M1; have A1 := Lib.hid (k1 _ _ HAS.out)
                    clear HDO M1 k1
                    go_wp2
                    go_roundw
                    case rel => exact ⟨j + 1, Z1, _, by omega, by omega, by go_num, L1, hnx, A1⟩
                    case measure => simp [RowKit.intOf]; omega
                  have n1 : ¬ y.kind = 1 := hk
                  clear hk
                  by_cases hk : y.kind = 4
                  · have hmn : moreN DQ y.w = doN DQ y.w := by unfold moreN; rw [if_pos (by have : y.w.kind = 4 := hk; omega)]
                    rw [hmn] at hnx
                    have DO := LQ.out.do (hQ.out.1.le (show 2 ≤ 980000 - 2 * j by omega)) y HFY.out
                    unfold OpX.val ptr at DO
                    rw [hk] at y0 DO
                    have HDO := Lib.hid DO
                    clear DO hmn
                    go_wp2_with fail
                    refine HDO.out.mono ?_
                    rintro e q1 ⟨Z1, rfl, M1, k1⟩
                    have L1 := Lib.hid M1; have A1 := Lib.hid (k1 _ _ HAS.out)
                    clear HDO M1 k1
                    go_wp2
                    go_roundw
                    case rel => exact ⟨j + 1, Z1, _, by omega, by omega, by go_num, L1, hnx, A1⟩
                    case measure => simp [RowKit.intOf]; omega
                  have n4 : ¬ y.kind = 4 := hk
                  clear hk
                  by_cases hk : y.kind = 5
                  · have hmn : moreN DQ y.w = doN DQ y.w := by unfold moreN; rw [if_pos (by have : y.w.kind = 5 := hk; omega)]
                    rw [hmn] at hnx
                    have DO := LQ.out.do (hQ.out.1.le (show 2 ≤ 980000 - 2 * j by omega)) y HFY.out
                    unfold OpX.val ptr at DO
                    rw [hk] at y0 DO
                    have HDO := Lib.hid DO
                    clear DO hmn
                    go_wp2_with fail
                    refine HDO.out.mono ?_
                    rintro e q1 ⟨Z1, rfl, M1, k1⟩
                    have L1 := Lib.hid M1; have A1 := Lib.hid (k1 _ _ HAS.out)
                    clear HDO M1 k1
                    go_wp2
                    go_roundw
                    case rel => exact ⟨j + 1, Z1, _, by omega, by omega, by go_num, L1, hnx, A1⟩
                    case measure => simp [RowKit.intOf]; omega
                  have n5 : ¬ y.kind = 5 := hk
                  clear hk
                  have m0 : (y.kind == 0) = false := by simpa using n0
                  have m1 : (y.kind == 1) = false := by simpa using n1
                  have m4 : (y.kind == 4) = false := by simpa using n4
                  have m5 : (y.kind == 5) = false := by simpa using n5
                  have hmn : moreN DQ y.w = DQ := by unfold moreN; rw [if_neg (by show ¬ (y.kind = 0 ∨ y.kind = 1 ∨ y.kind = 4 ∨ y.kind = 5); omega)]
                  rw [hmn] at hnx
                  clear hmn y1 y2 y3 y4 y5 y6 y7
                  go_wp2
                  go_roundw
                  case rel => exact ⟨j + 1, YQ, _, by omega, by omega, by go_num, LQ, hnx, HAS⟩
                  case measure => simp [RowKit.intOf]; omega
                · by_cases ej : j < l2.length
                  · have hx1 : (j : Int) < (l2.length : Int) := by omega
                    have hx2 : ¬ (j : Int) < 40 := by omega
                    have FI := Lib.hid (LQ.out.files hQ.out.1)
                    unfold ptr at FI
                    go_wp2_with fail
                    refine FI.out.mono ?_
                    rintro e q1 ⟨v15, rfl, M1, h15, k1⟩
                    have L1 := Lib.hid M1; have A1 := Lib.hid (k1 _ _ HAS.out); have G1 := Lib.hid h15
                    have kx0 : q1.cell? ⟨w.heap.size, 0, none⟩ = some (.int .i64 c.1) := (M1.below.cell (p := ⟨w.heap.size, 0, none⟩) hBx).trans HX0.out
                    have kx1 := (M1.below.cell (p := ⟨w.heap.size, 1, none⟩) hBx).trans HX1.out
                    clear FI M1 h15 k1
                    obtain ⟨D6, er6, hu6, hg6, hb1, hb2⟩ := safe_end hG4.out hQ.out.2.2 hQ.out.1 hQ.out.2.1.1 c
                    have PU := L1.out.call (L1.out.g ▸ pull_any B q1 YQ _ c _ (L1.out.keep HK0.out (fun a n c' he hne => HKB.out a n c' he hne)) L1.out.at')
                    have epu : pull DQ c = (0, { DQ with down := true, crash := c }) := by unfold pull; rw [hQ.out.2.1.1]; rfl
                    rw [epu] at PU
                    unfold ptr crashV at PU
                    have HPU := Lib.hid PU
                    have HB1 := Lib.hid hb1; have HB2 := Lib.hid hb2; have HG6 := Lib.hid hg6
                    clear PU epu hb1 hb2 hg6
                    go_wp2_with fail
                    refine HPU.out.mono ?_
                    rintro e q2 ⟨Z2, rfl, M2, k2⟩
                    have L2 := Lib.hid M2; have A2 := Lib.hid (k2 _ _ A1.out); have G2 := Lib.hid (k2 _ _ G1.out)
                    clear HPU M2 k2 A1 G1 kx0 kx1 L1
                    have DN := down_any B q2 Z2 _ L2.out.at'
                    rw [L2.out.g] at DN
                    unfold ptr at DN
                    have HDN := Lib.hid DN
                    clear DN
                    go_wp2_with fail
                    refine HDN.out.mono ?_
                    rintro e q3 ⟨rfl, rfl⟩
                    clear HDN
                    have hgd : Good 900000 { DQ with down := true, crash := c } := Good.like (D' := { DQ with down := true, crash := c }) hQ.out.1 rfl rfl rfl rfl rfl rfl 900000 (by omega) (by have := hQ.out.1.bcalls; show DQ.calls + _ ≤ _; omega) hQ.out.1.ok.left
                    have RS := restart_good L2.out.at' hgd
                    rw [L2.out.g, er6] at RS
                    unfold ptr at RS
                    have HRS := Lib.hid (L2.out.call RS)
                    clear RS hgd
                    go_wp2_with fail
                    refine HRS.out.mono ?_
                    rintro e q4 ⟨Z4, rfl, M4, k4⟩
                    have L4 := Lib.hid M4; have A4 := Lib.hid (k4 _ _ A2.out); have G4 := Lib.hid (k4 _ _ G2.out)
                    clear HRS M4 k4 A2 G2 L2
                    have DN := down_any B q4 Z4 _ L4.out.at'
                    rw [L4.out.g, hu6.1] at DN
                    unfold ptr at DN
                    have HDN := Lib.hid DN
                    clear DN
                    go_wp2_with fail
                    refine HDN.out.mono ?_
                    rintro e q5 ⟨rfl, rfl⟩
                    clear HDN
                    have FI := Lib.hid (L4.out.files HG6.out)
                    unfold ptr at FI
                    go_wp2_with fail
                    refine FI.out.mono ?_
                    rintro e q6 ⟨v16, rfl, M6, h16, k6⟩
                    have L6 := Lib.hid M6; have A6 := Lib.hid (k6 _ _ A4.out); have G6 := Lib.hid (k6 _ _ G4.out); have N6 := Lib.hid h16
                    clear FI M6 h16 k6 A4 G4 L4
                    have E1 := Lib.hid (begins_yes q6 _ _ _ _ A6.out.row N6.out.row HB1.out (by rw [told_length]; have := hG4.out.ok.nnow; omega) (by rw [told_length]; have := HG6.out.ok.nnow; omega) (told_each hG4.out) (told_each HG6.out))
                    go_wp2_with fail
                    refine E1.out.mono ?_
                    rintro e q7 ⟨rfl, hb7⟩
                    have HB7 := Lib.hid hb7; have N7 := Lib.hid (N6.out.row.below hb7); have G7 := Lib.hid (G6.out.row.below hb7)
                    clear E1 hb7
                    have E2 := Lib.hid (begins_yes q7 _ _ _ _ N7.out G7.out HB2.out (by rw [told_length]; have := HG6.out.ok.nnow; omega) (by rw [told_length]; have := hQ.out.1.ok.nnow; omega) (told_each HG6.out) (told_each hQ.out.1))
                    go_wp2_with fail
                    refine E2.out.mono ?_
                    rintro e q8 ⟨rfl, hb8⟩
                    have HB8 := Lib.hid hb8
                    clear E2 hb8
                    go_wp2_with fail
                    refine (awake_any q8).mono ?_
                    rintro e q9 ⟨rfl, hb9⟩
                    have hfin : Below w.heap.size w q9 := by
                      have b1 := HW0.out.trans (L6.out.below.mono hBw)
                      have b2 := b1.trans (HB7.out.mono b1.size)
                      have b3 := b2.trans (HB8.out.mono b2.size)
                      exact b3.trans (hb9.mono b3.size)
                    have HFIN := Lib.hid hfin
                    clear hfin hb9
                    go_wp2
                    go_ret
                    exact ⟨rfl, HFIN.out⟩
                  · have hx1 : ¬ (j : Int) < (l2.length : Int) := by omega
                    have FI := Lib.hid (LQ.out.files hQ.out.1)
                    unfold ptr at FI
                    go_wp2_with fail
                    refine FI.out.mono ?_
                    rintro e q1 ⟨v15, rfl, M1, h15, k1⟩
                    have L1 := Lib.hid M1; have A1 := Lib.hid (k1 _ _ HAS.out); have G1 := Lib.hid h15
                    have kx0 : q1.cell? ⟨w.heap.size, 0, none⟩ = some (.int .i64 c.1) := (M1.below.cell (p := ⟨w.heap.size, 0, none⟩) hBx).trans HX0.out
                    have kx1 := (M1.below.cell (p := ⟨w.heap.size, 1, none⟩) hBx).trans HX1.out
                    clear FI M1 h15 k1
                    obtain ⟨D6, er6, hu6, hg6, hb1, hb2⟩ := safe_end hG4.out hQ.out.2.2 hQ.out.1 hQ.out.2.1.1 c
                    have PU := L1.out.call (L1.out.g ▸ pull_any B q1 YQ _ c _ (L1.out.keep HK0.out (fun a n c' he hne => HKB.out a n c' he hne)) L1.out.at')
                    have epu : pull DQ c = (0, { DQ with down := true, crash := c }) := by unfold pull; rw [hQ.out.2.1.1]; rfl
                    rw [epu] at PU
                    unfold ptr crashV at PU
                    have HPU := Lib.hid PU
                    have HB1 := Lib.hid hb1; have HB2 := Lib.hid hb2; have HG6 := Lib.hid hg6
                    clear PU epu hb1 hb2 hg6
                    go_wp2_with fail
                    refine HPU.out.mono ?_
                    rintro e q2 ⟨Z2, rfl, M2, k2⟩
                    have L2 := Lib.hid M2; have A2 := Lib.hid (k2 _ _ A1.out); have G2 := Lib.hid (k2 _ _ G1.out)
                    clear HPU M2 k2 A1 G1 kx0 kx1 L1
                    have DN := down_any B q2 Z2 _ L2.out.at'
                    rw [L2.out.g] at DN
                    unfold ptr at DN
                    have HDN := Lib.hid DN
                    clear DN
                    go_wp2_with fail
                    refine HDN.out.mono ?_
                    rintro e q3 ⟨rfl, rfl⟩
                    clear HDN
                    have hgd : Good 900000 { DQ with down := true, crash := c } := Good.like (D' := { DQ with down := true, crash := c }) hQ.out.1 rfl rfl rfl rfl rfl rfl 900000 (by omega) (by have := hQ.out.1.bcalls; show DQ.calls + _ ≤ _; omega) hQ.out.1.ok.left
                    have RS := restart_good L2.out.at' hgd
                    rw [L2.out.g, er6] at RS
                    unfold ptr at RS
                    have HRS := Lib.hid (L2.out.call RS)
                    clear RS hgd
                    go_wp2_with fail
                    refine HRS.out.mono ?_
                    rintro e q4 ⟨Z4, rfl, M4, k4⟩
                    have L4 := Lib.hid M4; have A4 := Lib.hid (k4 _ _ A2.out); have G4 := Lib.hid (k4 _ _ G2.out)
                    clear HRS M4 k4 A2 G2 L2
                    have DN := down_any B q4 Z4 _ L4.out.at'
                    rw [L4.out.g, hu6.1] at DN
                    unfold ptr at DN
                    have HDN := Lib.hid DN
                    clear DN
                    go_wp2_with fail
                    refine HDN.out.mono ?_
                    rintro e q5 ⟨rfl, rfl⟩
                    clear HDN
                    have FI := Lib.hid (L4.out.files HG6.out)
                    unfold ptr at FI
                    go_wp2_with fail
                    refine FI.out.mono ?_
                    rintro e q6 ⟨v16, rfl, M6, h16, k6⟩
                    have L6 := Lib.hid M6; have A6 := Lib.hid (k6 _ _ A4.out); have G6 := Lib.hid (k6 _ _ G4.out); have N6 := Lib.hid h16
                    clear FI M6 h16 k6 A4 G4 L4
                    have E1 := Lib.hid (begins_yes q6 _ _ _ _ A6.out.row N6.out.row HB1.out (by rw [told_length]; have := hG4.out.ok.nnow; omega) (by rw [told_length]; have := HG6.out.ok.nnow; omega) (told_each hG4.out) (told_each HG6.out))
                    go_wp2_with fail
                    refine E1.out.mono ?_
                    rintro e q7 ⟨rfl, hb7⟩
                    have HB7 := Lib.hid hb7; have N7 := Lib.hid (N6.out.row.below hb7); have G7 := Lib.hid (G6.out.row.below hb7)
                    clear E1 hb7
                    have E2 := Lib.hid (begins_yes q7 _ _ _ _ N7.out G7.out HB2.out (by rw [told_length]; have := HG6.out.ok.nnow; omega) (by rw [told_length]; have := hQ.out.1.ok.nnow; omega) (told_each HG6.out) (told_each hQ.out.1))
                    go_wp2_with fail
                    refine E2.out.mono ?_
                    rintro e q8 ⟨rfl, hb8⟩
                    have HB8 := Lib.hid hb8
                    clear E2 hb8
                    go_wp2_with fail
                    refine (awake_any q8).mono ?_
                    rintro e q9 ⟨rfl, hb9⟩
                    have hfin : Below w.heap.size w q9 := by
                      have b1 := HW0.out.trans (L6.out.below.mono hBw)
                      have b2 := b1.trans (HB7.out.mono b1.size)
                      have b3 := b2.trans (HB8.out.mono b2.size)
                      exact b3.trans (hb9.mono b3.size)
                    have HFIN := Lib.hid hfin
                    clear hfin hb9
                    go_wp2
                    go_ret
                    exact ⟨rfl, HFIN.out⟩
            · have hkk := HK0.out
              obtain ⟨va', vcap', hv0, hkl', hkc'⟩ := hkk
              injection hv0 with z1 z2 z3
              subst z1
              subst z3
              obtain ⟨kb, ko, rfl, _, _, hkcell⟩ := hkc' hks
              have hkbB : kb < B := HKB.out ⟨kb, ko, none⟩ _ _ rfl hks
              have hpos : 0 < c.2.length := by
                rcases Nat.eq_zero_or_pos c.2.length with e | e
                · exact absurd (List.length_eq_zero_iff.1 e) hks
                · exact e
              have HNW : Hid (∀ (j : Nat) (u : Value), (c.2.map (Value.int .i64))[j]? = some u → (w8.drew.alloc (.cells #[] 3)).cell? ((⟨kb, ko, none⟩ : Addr).add j) = some u) := Lib.hid (fun j u hj => by
                rw [List.getElem?_map] at hj
                obtain ⟨x, hx, rfl⟩ := Option.map_eq_some_iff.1 hj
                rw [Addr.add_lit]
                refine Lib.cell?_alloc_some _ ?_
                exact (hb8.cell (p := ⟨kb, ko + j, none⟩) hkbB).trans (hkcell j x hx))
              have HOW := Lib.hid (World.ownsRow_made (e := 3) w8.drew #[] 0 (size := 1) (Nat.le_refl _) (Nat.zero_le _) rfl)
              clear hkcell z2
              have A8' : Hid (Has w8 Y7 (.slice wa (filesN D2).length wc) (filesN D4)) := Lib.hid (by rw [HSAME.out]; exact A8.out)
              have HPU : Hid (∀ w10, Below w8.heap.size w8 w10 → ∀ v, KeepAt w10 Y7.blocks v c.2 → Calls Try.prog 19 #[.pointer (some ⟨Y0.g, 0, none⟩), .agg #[.int .i64 c.1, v]] w10 (LivePost B w0 Y0.g w10 Y7 (.int .i64 0) { D2 with down := true, crash := c })) := Lib.hid (fun w10 hb v hv => by
                have L10 : Live B w0 Y0.g w10 Y7 D2 := ⟨L8.out.at'.below hb, L8.out.g, L8.out.below.trans (hb.mono hs8), L8.out.le⟩
                have PU := pull_any B w10 Y7 D2 c v hv L10.at'
                have epu : pull D2 c = (0, { D2 with down := true, crash := c }) := by unfold pull; rw [hup2.1]; rfl
                rw [epu, L10.g] at PU
                exact L10.call PU)
              go_region_held3 (fun w' => w'.cell? ⟨w.heap.size, 0, none⟩ = some (.int .i64 c.1) ∧ w'.cell? ⟨w.heap.size, 1, none⟩ = some (.slice (some ⟨kb, ko, none⟩) c.2.length vcap) ∧ Below B w0 w')
                (first
                  | (refine keepS _ ?_; assumption)
                  | exact keepS _ ((L8.out.below.alloc hs8 _).drew))
                (first
                  | (refine step_append_lies _ (by rfl) (.tmp 65) (.tmp 67) 30 (by rfl) w8.heap.size 3 i0 (.int .i64 0) 1 8 Try.underlying30 hi hz0 hz1 hz2 rfl (by decide) (.slice (some ⟨w8.heap.size, 0, none⟩) 0 0) 0 [] (by rfl) HOW.out ⟨kb, ko, none⟩ c.2.length vcap (c.2.map (Value.int .i64)) (by rfl) (by simp) HNW.out (by intro u hu; obtain ⟨x, _, rfl⟩ := List.mem_map.1 hu; rfl) hpos (by unfold maxLen; omega) (by omega) (made_le w8 _) _ rfl ?_; intro g10 cap10 w10 hown10 hgrow10 _ _
                     have hb10 : Below w8.heap.size w8 w10 := made_below hgrow10
                     have hbw10 : Below B w0 w10 := L8.out.below.trans (hb10.mono hs8)
                     rw [Nat.zero_add, List.nil_append] at hown10
                     rw [Nat.zero_add]
                     have PU10 := HPU.out w10 hb10 _ (keep_new L8.out.at'.lt hks hkl' hown10)
                     have A10 : Hid (Has w10 Y7 (.slice wa (filesN D2).length wc) (filesN D4)) := Lib.hid (A8'.out.below hb10)
                     clear hown10 hgrow10 hb10)
                  | (go_at_call 19
                     refine PU10.mono ?_
                     rintro e w11 ⟨Z11, rfl, M11, k11⟩
                     have L11 := Lib.hid M11; have hbw11 := M11.below; have A11 := Lib.hid (k11 _ _ A10.out)
                     have RS := restart_good L11.out.at' HGP.out
                     rw [L11.out.g, er4] at RS
                     unfold ptr at RS
                     have HRS := Lib.hid (L11.out.call RS)
                     clear PU10 RS M11 k11 A10)
                  | (go_at_call 20
                     refine HRS.out.mono ?_
                     rintro e w12 ⟨Y12, rfl, M12, k12⟩
                     have hbw12 := M12.below; have A12 := Lib.hid (k12 _ _ A11.out)
                     have FI12 := M12.files hG4.out
                     unfold ptr at FI12
                     have HFI := Lib.hid FI12
                     clear HRS FI12 M12 k12 A11 L11)
                  | (go_at_call 7
                     refine HFI.out.mono ?_
                     rintro e w13 ⟨v13, rfl, M13, h13, k13⟩
                     have L13 := Lib.hid M13; have hbw13 := M13.below; have A13 := Lib.hid (k13 _ _ A12.out)
                     have FY := Lib.hid (files_yes w13 _ _ _ _ h13.row A13.out.row ⟨rfl, fun i t u a b => by obtain rfl := Option.some.inj (a.symm.trans b); exact ⟨rfl, rfl⟩⟩ (by rw [told_length]; have := hG4.out.ok.nnow; omega))
                     clear HFI M13 h13 k13 A12)
                  | (go_at_call 12
                     refine FY.out.mono ?_
                     rintro e w14 ⟨rfl, hb14⟩
                     have hbw14 : Below B w0 w14 := L13.out.below.trans (hb14.mono L13.out.size)
                     have L14 : Hid (Live B w0 Y0.g w14 Y12 D4) := Lib.hid ⟨L13.out.at'.below hb14, L13.out.g, hbw14, L13.out.le⟩
                     have A14 := Lib.hid (A13.out.below hb14)
                     clear FY hb14))
              go_wp2
              go_loopw [14] (fun s14 wr => ∃ (j : Nat) (Y' : Lay) (Dj : Dk), j ≤ 40 ∧ j ≤ l2.length ∧ s14 = .int .i64 j ∧ Hid (Live B w0 Y0.g wr Y' Dj) ∧ Hid (Good (980000 - 2 * j) Dj ∧ Up Dj ∧ From D4 Dj) ∧ Hid (Has wr Y' (.slice wa (filesN D2).length wc) (filesN D4))) (fun s14 _ => 40 - (RowKit.intOf s14).toNat)
              case atStart => exact ⟨0, Y12, D4, by omega, by omega, rfl, L14, Lib.hid ⟨hG4.out, hu4, hfrom.out⟩, A14⟩
              case round =>
                obtain ⟨j, YQ, DQ, hj40, hjl2, rfl, LQ, hQ, HAS⟩ := hrel
                by_cases hjl' : j < l2.length ∧ j < 40
                · obtain ⟨hjl, hj40'⟩ := hjl'
                  have hji : (j : Int) < (l2.length : Int) := by omega
                  have hj4 : (j : Int) < 40 := by omega
                  obtain ⟨y, hy⟩ : ∃ y, l2[j]? = some y := ⟨_, List.getElem?_eq_getElem hjl⟩
                  have hym := List.mem_of_getElem? hy
                  obtain ⟨a2, cc2, hv2, _, hcell2, hfit2⟩ := HO2.out
                  injection hv2 with z1 z2 z3
                  obtain ⟨b2, o2, rfl, hb2, hat2⟩ := hcell2 (List.ne_nil_of_mem hym)
                  subst z1
                  have hfy := hfit2 y hym
                  have hyA := Lib.hid (hat2 j y hy)
                  have hb2B : b2 < B := by have := HB0.out; omega
                  have cy := fun (p : Nat) => LQ.out.below.cell (p := ⟨b2, o2 + j * 8 + p, none⟩) hb2B
                  have y0 : wr.cell? ⟨b2, o2 + j * 8, none⟩ = some (.int .i64 y.kind) := (LQ.out.below.cell (p := ⟨b2, o2 + j * 8, none⟩) hb2B).trans hyA.out.c0
                  have y1 : wr.cell? ⟨b2, o2 + j * 8 + 1, none⟩ = some (.string y.name) := (cy 1).trans hyA.out.c1
                  have y2 : wr.cell? ⟨b2, o2 + j * 8 + 2, none⟩ = some (.string y.other) := (cy 2).trans hyA.out.c2
                  have y3 : wr.cell? ⟨b2, o2 + j * 8 + 3, none⟩ = some (.string y.data) := (cy 3).trans hyA.out.c3
                  have y4 : wr.cell? ⟨b2, o2 + j * 8 + 4, none⟩ = some (.int .i64 y.a) := (cy 4).trans hyA.out.c4
                  have y5 : wr.cell? ⟨b2, o2 + j * 8 + 5, none⟩ = some (.int .i64 y.b) := (cy 5).trans hyA.out.c5
                  have y6 : wr.cell? ⟨b2, o2 + j * 8 + 6, none⟩ = some (.int .i64 y.c) := (cy 6).trans hyA.out.c6
                  have y7 : wr.cell? ⟨b2, o2 + j * 8 + 7, none⟩ = some (.slice y.ka y.kn y.kc) := (cy 7).trans hyA.out.c7
                  have HFY := Lib.hid hfy
                  have hgm := good_more (x := y.w) (hQ.out.1.le (show 980000 - 2 * (j + 1) + 2 ≤ 980000 - 2 * j by omega)) hfy.name hfy.other
                  have hnx := Lib.hid (And.intro hgm (And.intro (hQ.out.2.1.more y.w) (from_more hQ.out.2.2 (hQ.out.1.le (show 2 ≤ 980000 - 2 * j by omega)) (fun p hp => hG4.out.ok.now p hp) y.w)))
                  clear hcell2 hat2 hy hym hfit2 z2 z3 cy hfy hgm hyA
                  by_cases hk : y.kind = 0
                  · have hmn : moreN DQ y.w = doN DQ y.w := by unfold moreN; rw [if_pos (by have : y.w.kind = 0 := hk; omega)]
                    rw [hmn] at hnx
                    have DO := LQ.out.do (hQ.out.1.le (show 2 ≤ 980000 - 2 * j by omega)) y HFY.out
                    unfold OpX.val ptr at DO
                    rw [hk] at y0 DO
                    have HDO := Lib.hid DO
                    clear DO hmn
                    go_wp2_with fail
                    refine HDO.out.mono ?_
                    rintro e q1 ⟨Z1, rfl, M1, k1⟩
                    have L1 := Lib.hid M1; have A1 := Lib.hid (k1 _ _ HAS.out)
                    clear HDO M1 k1
                    go_wp2
                    go_roundw
                    case rel => exact ⟨j + 1, Z1, _, by omega, by omega, by go_num, L1, hnx, A1⟩
                    case measure => simp [RowKit.intOf]; omega
                  have n0 : ¬ y.kind = 0 := hk
                  clear hk
                  by_cases hk : y.kind = 1
                  · have hmn : moreN DQ y.w = doN DQ y.w := by unfold moreN; rw [if_pos (by have : y.w.kind = 1 := hk; omega)]
                    rw [hmn] at hnx
                    have DO := LQ.out.do (hQ.out.1.le (show 2 ≤ 980000 - 2 * j by omega)) y HFY.out
                    unfold OpX.val ptr at DO
                    rw [hk] at y0 DO
                    have HDO := Lib.hid DO
                    clear DO hmn
                    go_wp2_with fail
                    refine HDO.out.mono ?_
                    rintro e q1 ⟨Z1, rfl, M1, k1⟩
                    have L1 := Lib.hid M1; have A1 := Lib.hid (k1 _ _ HAS.out)
                    clear HDO M1 k1
                    go_wp2
                    go_roundw
                    case rel => exact ⟨j + 1, Z1, _, by omega, by omega, by go_num, L1, hnx, A1⟩
                    case measure => simp [RowKit.intOf]; omega
                  have n1 : ¬ y.kind = 1 := hk
                  clear hk
                  by_cases hk : y.kind = 4
                  · have hmn : moreN DQ y.w = doN DQ y.w := by unfold moreN; rw [if_pos (by have : y.w.kind = 4 := hk; omega)]
                    rw [hmn] at hnx
                    have DO := LQ.out.do (hQ.out.1.le (show 2 ≤ 980000 - 2 * j by omega)) y HFY.out
                    unfold OpX.val ptr at DO
                    rw [hk] at y0 DO
                    have HDO := Lib.hid DO
                    clear DO hmn
                    go_wp2_with fail
                    refine HDO.out.mono ?_
                    rintro e q1 ⟨Z1, rfl, M1, k1⟩
                    have L1 := Lib.hid M1; have A1 := Lib.hid (k1 _ _ HAS.out)
                    clear HDO M1 k1
                    go_wp2
                    go_roundw
                    case rel => exact ⟨j + 1, Z1, _, by omega, by omega, by go_num, L1, hnx, A1⟩
                    case measure => simp [RowKit.intOf]; omega
                  have n4 : ¬ y.kind = 4 := hk
                  clear hk
                  by_cases hk : y.kind = 5
                  · have hmn : moreN DQ y.w = doN DQ y.w := by unfold moreN; rw [if_pos (by have : y.w.kind = 5 := hk; omega)]
                    rw [hmn] at hnx
                    have DO := LQ.out.do (hQ.out.1.le (show 2 ≤ 980000 - 2 * j by omega)) y HFY.out
                    unfold OpX.val ptr at DO
                    rw [hk] at y0 DO
                    have HDO := Lib.hid DO
                    clear DO hmn
                    go_wp2_with fail
                    refine HDO.out.mono ?_
                    rintro e q1 ⟨Z1, rfl, M1, k1⟩
                    have L1 := Lib.hid M1; have A1 := Lib.hid (k1 _ _ HAS.out)
                    clear HDO M1 k1
                    go_wp2
                    go_roundw
                    case rel => exact ⟨j + 1, Z1, _, by omega, by omega, by go_num, L1, hnx, A1⟩
                    case measure => simp [RowKit.intOf]; omega
                  have n5 : ¬ y.kind = 5 := hk
                  clear hk
                  have m0 : (y.kind == 0) = false := by simpa using n0
                  have m1 : (y.kind == 1) = false := by simpa using n1
                  have m4 : (y.kind == 4) = false := by simpa using n4
                  have m5 : (y.kind == 5) = false := by simpa using n5
                  have hmn : moreN DQ y.w = DQ := by unfold moreN; rw [if_neg (by show ¬ (y.kind = 0 ∨ y.kind = 1 ∨ y.kind = 4 ∨ y.kind = 5); omega)]
                  rw [hmn] at hnx
                  clear hmn y1 y2 y3 y4 y5 y6 y7
                  go_wp2
                  go_roundw
                  case rel => exact ⟨j + 1, YQ, _, by omega, by omega, by go_num, LQ, hnx, HAS⟩
                  case measure => simp [RowKit.intOf]; omega
                · by_cases ej : j < l2.length
                  · have hx1 : (j : Int) < (l2.length : Int) := by omega
                    have hx2 : ¬ (j : Int) < 40 := by omega
                    have FI := Lib.hid (LQ.out.files hQ.out.1)
                    unfold ptr at FI
                    go_wp2_with fail
                    refine FI.out.mono ?_
                    rintro e q1 ⟨v15, rfl, M1, h15, k1⟩
                    have L1 := Lib.hid M1; have A1 := Lib.hid (k1 _ _ HAS.out); have G1 := Lib.hid h15
                    have kx0 : q1.cell? ⟨w.heap.size, 0, none⟩ = some (.int .i64 c.1) := (M1.below.cell (p := ⟨w.heap.size, 0, none⟩) hBx).trans HX0.out
                    have kx1 := (M1.below.cell (p := ⟨w.heap.size, 1, none⟩) hBx).trans HX1.out
                    clear FI M1 h15 k1
                    obtain ⟨D6, er6, hu6, hg6, hb1, hb2⟩ := safe_end hG4.out hQ.out.2.2 hQ.out.1 hQ.out.2.1.1 c
                    have PU := L1.out.call (L1.out.g ▸ pull_any B q1 YQ _ c _ (L1.out.keep HK0.out (fun a n c' he hne => HKB.out a n c' he hne)) L1.out.at')
                    have epu : pull DQ c = (0, { DQ with down := true, crash := c }) := by unfold pull; rw [hQ.out.2.1.1]; rfl
                    rw [epu] at PU
                    unfold ptr crashV at PU
                    have HPU := Lib.hid PU
                    have HB1 := Lib.hid hb1; have HB2 := Lib.hid hb2; have HG6 := Lib.hid hg6
                    clear PU epu hb1 hb2 hg6
                    go_wp2_with fail
                    refine HPU.out.mono ?_
                    rintro e q2 ⟨Z2, rfl, M2, k2⟩
                    have L2 := Lib.hid M2; have A2 := Lib.hid (k2 _ _ A1.out); have G2 := Lib.hid (k2 _ _ G1.out)
                    clear HPU M2 k2 A1 G1 kx0 kx1 L1
                    have DN := down_any B q2 Z2 _ L2.out.at'
                    rw [L2.out.g] at DN
                    unfold ptr at DN
                    have HDN := Lib.hid DN
                    clear DN
                    go_wp2_with fail
                    refine HDN.out.mono ?_
                    rintro e q3 ⟨rfl, rfl⟩
                    clear HDN
                    have hgd : Good 900000 { DQ with down := true, crash := c } := Good.like (D' := { DQ with down := true, crash := c }) hQ.out.1 rfl rfl rfl rfl rfl rfl 900000 (by omega) (by have := hQ.out.1.bcalls; show DQ.calls + _ ≤ _; omega) hQ.out.1.ok.left
                    have RS := restart_good L2.out.at' hgd
                    rw [L2.out.g, er6] at RS
                    unfold ptr at RS
                    have HRS := Lib.hid (L2.out.call RS)
                    clear RS hgd
                    go_wp2_with fail
                    refine HRS.out.mono ?_
                    rintro e q4 ⟨Z4, rfl, M4, k4⟩
                    have L4 := Lib.hid M4; have A4 := Lib.hid (k4 _ _ A2.out); have G4 := Lib.hid (k4 _ _ G2.out)
                    clear HRS M4 k4 A2 G2 L2
                    have DN := down_any B q4 Z4 _ L4.out.at'
                    rw [L4.out.g, hu6.1] at DN
                    unfold ptr at DN
                    have HDN := Lib.hid DN
                    clear DN
                    go_wp2_with fail
                    refine HDN.out.mono ?_
                    rintro e q5 ⟨rfl, rfl⟩
                    clear HDN
                    have FI := Lib.hid (L4.out.files HG6.out)
                    unfold ptr at FI
                    go_wp2_with fail
                    refine FI.out.mono ?_
                    rintro e q6 ⟨v16, rfl, M6, h16, k6⟩
                    have L6 := Lib.hid M6; have A6 := Lib.hid (k6 _ _ A4.out); have G6 := Lib.hid (k6 _ _ G4.out); have N6 := Lib.hid h16
                    clear FI M6 h16 k6 A4 G4 L4
                    have E1 := Lib.hid (begins_yes q6 _ _ _ _ A6.out.row N6.out.row HB1.out (by rw [told_length]; have := hG4.out.ok.nnow; omega) (by rw [told_length]; have := HG6.out.ok.nnow; omega) (told_each hG4.out) (told_each HG6.out))
                    go_wp2_with fail
                    refine E1.out.mono ?_
                    rintro e q7 ⟨rfl, hb7⟩
                    have HB7 := Lib.hid hb7; have N7 := Lib.hid (N6.out.row.below hb7); have G7 := Lib.hid (G6.out.row.below hb7)
                    clear E1 hb7
                    have E2 := Lib.hid (begins_yes q7 _ _ _ _ N7.out G7.out HB2.out (by rw [told_length]; have := HG6.out.ok.nnow; omega) (by rw [told_length]; have := hQ.out.1.ok.nnow; omega) (told_each HG6.out) (told_each hQ.out.1))
                    go_wp2_with fail
                    refine E2.out.mono ?_
                    rintro e q8 ⟨rfl, hb8⟩
                    have HB8 := Lib.hid hb8
                    clear E2 hb8
                    go_wp2_with fail
                    refine (awake_any q8).mono ?_
                    rintro e q9 ⟨rfl, hb9⟩
                    have hfin : Below w.heap.size w q9 := by
                      have b1 := HW0.out.trans (L6.out.below.mono hBw)
                      have b2 := b1.trans (HB7.out.mono b1.size)
                      have b3 := b2.trans (HB8.out.mono b2.size)
                      exact b3.trans (hb9.mono b3.size)
                    have HFIN := Lib.hid hfin
                    clear hfin hb9
                    go_wp2
                    go_ret
                    exact ⟨rfl, HFIN.out⟩
                  · have hx1 : ¬ (j : Int) < (l2.length : Int) := by omega
                    have FI := Lib.hid (LQ.out.files hQ.out.1)
                    unfold ptr at FI
                    go_wp2_with fail
                    refine FI.out.mono ?_
                    rintro e q1 ⟨v15, rfl, M1, h15, k1⟩
                    have L1 := Lib.hid M1; have A1 := Lib.hid (k1 _ _ HAS.out); have G1 := Lib.hid h15
                    have kx0 : q1.cell? ⟨w.heap.size, 0, none⟩ = some (.int .i64 c.1) := (M1.below.cell (p := ⟨w.heap.size, 0, none⟩) hBx).trans HX0.out
                    have kx1 := (M1.below.cell (p := ⟨w.heap.size, 1, none⟩) hBx).trans HX1.out
                    clear FI M1 h15 k1
                    obtain ⟨D6, er6, hu6, hg6, hb1, hb2⟩ := safe_end hG4.out hQ.out.2.2 hQ.out.1 hQ.out.2.1.1 c
                    have PU := L1.out.call (L1.out.g ▸ pull_any B q1 YQ _ c _ (L1.out.keep HK0.out (fun a n c' he hne => HKB.out a n c' he hne)) L1.out.at')
                    have epu : pull DQ c = (0, { DQ with down := true, crash := c }) := by unfold pull; rw [hQ.out.2.1.1]; rfl
                    rw [epu] at PU
                    unfold ptr crashV at PU
                    have HPU := Lib.hid PU
                    have HB1 := Lib.hid hb1; have HB2 := Lib.hid hb2; have HG6 := Lib.hid hg6
                    clear PU epu hb1 hb2 hg6
                    go_wp2_with fail
                    refine HPU.out.mono ?_
                    rintro e q2 ⟨Z2, rfl, M2, k2⟩
                    have L2 := Lib.hid M2; have A2 := Lib.hid (k2 _ _ A1.out); have G2 := Lib.hid (k2 _ _ G1.out)
                    clear HPU M2 k2 A1 G1 kx0 kx1 L1
                    have DN := down_any B q2 Z2 _ L2.out.at'
                    rw [L2.out.g] at DN
                    unfold ptr at DN
                    have HDN := Lib.hid DN
                    clear DN
                    go_wp2_with fail
                    refine HDN.out.mono ?_
                    rintro e q3 ⟨rfl, rfl⟩
                    clear HDN
                    have hgd : Good 900000 { DQ with down := true, crash := c } := Good.like (D' := { DQ with down := true, crash := c }) hQ.out.1 rfl rfl rfl rfl rfl rfl 900000 (by omega) (by have := hQ.out.1.bcalls; show DQ.calls + _ ≤ _; omega) hQ.out.1.ok.left
                    have RS := restart_good L2.out.at' hgd
                    rw [L2.out.g, er6] at RS
                    unfold ptr at RS
                    have HRS := Lib.hid (L2.out.call RS)
                    clear RS hgd
                    go_wp2_with fail
                    refine HRS.out.mono ?_
                    rintro e q4 ⟨Z4, rfl, M4, k4⟩
                    have L4 := Lib.hid M4; have A4 := Lib.hid (k4 _ _ A2.out); have G4 := Lib.hid (k4 _ _ G2.out)
                    clear HRS M4 k4 A2 G2 L2
                    have DN := down_any B q4 Z4 _ L4.out.at'
                    rw [L4.out.g, hu6.1] at DN
                    unfold ptr at DN
                    have HDN := Lib.hid DN
                    clear DN
                    go_wp2_with fail
                    refine HDN.out.mono ?_
                    rintro e q5 ⟨rfl, rfl⟩
                    clear HDN
                    have FI := Lib.hid (L4.out.files HG6.out)
                    unfold ptr at FI
                    go_wp2_with fail
                    refine FI.out.mono ?_
                    rintro e q6 ⟨v16, rfl, M6, h16, k6⟩
                    have L6 := Lib.hid M6; have A6 := Lib.hid (k6 _ _ A4.out); have G6 := Lib.hid (k6 _ _ G4.out); have N6 := Lib.hid h16
                    clear FI M6 h16 k6 A4 G4 L4
                    have E1 := Lib.hid (begins_yes q6 _ _ _ _ A6.out.row N6.out.row HB1.out (by rw [told_length]; have := hG4.out.ok.nnow; omega) (by rw [told_length]; have := HG6.out.ok.nnow; omega) (told_each hG4.out) (told_each HG6.out))
                    go_wp2_with fail
                    refine E1.out.mono ?_
                    rintro e q7 ⟨rfl, hb7⟩
                    have HB7 := Lib.hid hb7; have N7 := Lib.hid (N6.out.row.below hb7); have G7 := Lib.hid (G6.out.row.below hb7)
                    clear E1 hb7
                    have E2 := Lib.hid (begins_yes q7 _ _ _ _ N7.out G7.out HB2.out (by rw [told_length]; have := HG6.out.ok.nnow; omega) (by rw [told_length]; have := hQ.out.1.ok.nnow; omega) (told_each HG6.out) (told_each hQ.out.1))
                    go_wp2_with fail
                    refine E2.out.mono ?_
                    rintro e q8 ⟨rfl, hb8⟩
                    have HB8 := Lib.hid hb8
                    clear E2 hb8
                    go_wp2_with fail
                    refine (awake_any q8).mono ?_
                    rintro e q9 ⟨rfl, hb9⟩
                    have hfin : Below w.heap.size w q9 := by
                      have b1 := HW0.out.trans (L6.out.below.mono hBw)
                      have b2 := b1.trans (HB7.out.mono b1.size)
                      have b3 := b2.trans (HB8.out.mono b2.size)
                      exact b3.trans (hb9.mono b3.size)
                    have HFIN := Lib.hid hfin
                    clear hfin hb9
                    go_wp2
                    go_ret
                    exact ⟨rfl, HFIN.out⟩
      · have hx1 : ¬ (k : Int) < (l1.length : Int) := by omega
        obtain ⟨D1, el1, hct1⟩ := up_list hgU.out.2
        have hG1 : Hid (Good 990000 D1 ∧ Up D1) := Lib.hid (by rw [hct1]; exact ⟨good_count (hgU.out.1.le (by omega)), hgU.out.2.count⟩)
        have LI := L.out.listS (hgU.out.1)
        rw [el1] at LI
        unfold ptr at LI
        have HLI := Lib.hid LI
        clear LI el1 hct1
        go_wp2_with fail
        refine HLI.out.mono ?_
        rintro e w5 ⟨Y5, v10, rfl, M5, h5⟩
        obtain ⟨⟨N5, hr5⟩, _⟩ := id h5
        obtain ⟨na, nc, hv10⟩ := row_slice hr5
        subst hv10
        have L5 := Lib.hid M5; have S5 := Lib.hid h5
        clear HLI M5 h5 hr5
        obtain ⟨M, hM⟩ : ∃ M, M = (names D1.now).length := ⟨_, rfl⟩
        have hM4 : M ≤ 4096 := by rw [hM, names_length]; exact hG1.out.1.ok.nnow
        have HM := Lib.hid hM
        rw [← hM] at S5 ⊢
        clear hM
        go_wp2
        go_loopw [12] (fun s12 wr => ∃ (j : Nat) (Y' : Lay) (Dj : Dk), j ≤ M ∧ s12 = .int .i64 j ∧ Hid (Live B w0 Y0.g wr Y' Dj) ∧ Hid (Good (990000 - j) Dj ∧ Up Dj ∧ Synced D1 j Dj) ∧ Hid (HasS wr Y' (.slice na M nc) (names D1.now))) (fun s12 _ => M - (RowKit.intOf s12).toNat)
        case atStart => exact ⟨0, Y5, D1, by omega, rfl, L5, Lib.hid ⟨hG1.out.1, hG1.out.2, Synced.start D1⟩, S5⟩
        case round =>
          obtain ⟨i, YS, DS, hiM, rfl, LS1, hS, HSR⟩ := hrel
          by_cases hil : i < M
          · obtain ⟨x, hx⟩ : ∃ x, (names D1.now)[i]? = some x := ⟨_, List.getElem?_eq_getElem (by rw [← HM.out]; exact hil)⟩
            obtain ⟨⟨N6, hr6⟩, _⟩ := HSR.out
            rw [← HM.out] at hr6
            obtain ⟨g6, cp6, hv6, hg6, _, hc6⟩ := row_cells hr6 (by omega)
            injection hv6 with z1 z2 z3
            subst z1
            have hcx : wr.cell? ⟨g6, i, none⟩ = some (.string ⟨x.toArray⟩) := hc6 i _ (by rw [List.getElem?_map, hx]; rfl)
            have hil' : (i : Int) < (M : Int) := by omega
            have hsz : (⟨x.toArray⟩ : ByteArray).size ≤ maxLen := by
              rw [Lib.size_eq, ba_data]
              exact names_size LS1.out.at'.now (by rw [hS.out.2.2.now]; exact List.mem_of_getElem? hx)
            obtain ⟨hz0, hnx⟩ := hS.out.2.2.next hS.out.2.1 (hS.out.1.le (show 990000 - (i + 1) + 1 ≤ 990000 - i by omega)) hx
            have hgs := good_sync (x := x) (hS.out.1.le (show 990000 - (i + 1) + 1 ≤ 990000 - i by omega))
            have hNX := Lib.hid (And.intro hgs (And.intro (hS.out.2.1.sync x) hnx))
            have SY := LS1.out.callS (LS1.out.g ▸ sync_any B wr YS _ ⟨x.toArray⟩ hsz LS1.out.at' hS.out.1.ok)
            rw [ba_data, hz0] at SY
            unfold ptr at SY
            have HSY := Lib.hid SY
            clear SY hr6 hc6 hx hgs hnx hz0 z2 z3
            go_wp2_with fail
            refine HSY.out.mono ?_
            rintro e q1 ⟨Z1, rfl, M1, k1⟩
            have L1 := Lib.hid M1; have S1 := Lib.hid (k1 _ _ HSR.out)
            clear HSY M1 k1
            go_wp2
            go_roundw
            case rel => exact ⟨i + 1, Z1, _, by omega, by go_num, L1, hNX, S1⟩
            case measure => simp [RowKit.intOf]; omega
          · obtain rfl : i = M := by omega
            have hall : AllSafe DS := hS.out.2.2.all (by rw [HM.out]; exact Nat.le_refl _)
            have esd := up_syncDir hS.out.2.1
            obtain ⟨D2, hD2⟩ : ∃ D2, D2 = { (count DS).2 with safe := DS.now, chs := [] } := ⟨_, rfl⟩
            rw [← hD2] at esd
            have hcn := count_now DS
            have hall2 : AllSafe D2 := fun p hp f hf => hall p (by rw [hD2] at hp; exact hcn.1 ▸ hp) f (by rw [hD2] at hf; rw [← hcn.2.1]; exact hf)
            have hgd2 : Good 980000 D2 := by
              have := good_syncDir (k := 980000) (hS.out.1.le (show 980000 + 1 ≤ 990000 - i by omega))
              rw [esd] at this; exact this
            have hup2 : Up D2 := by rw [hD2]; exact hS.out.2.1.count
            have hch2 : D2.chs = [] := by rw [hD2]
            have hsf2 : D2.safe = D2.now := by rw [hD2]; exact hcn.1.symm
            have SD := LS1.out.call (LS1.out.g ▸ syncDir_any B wr YS _ LS1.out.at' hS.out.1.ok)
            rw [esd] at SD
            unfold ptr at SD
            have HSD := Lib.hid SD
            obtain ⟨D4, er4, hf4, hn4, hs4, hc4, hu4, _⟩ := restart_safe hgd2 hup2.1 hch2 hsf2 hall2 c
            have hgp : Good 980000 { D2 with down := true, crash := c } := Good.like (D' := { D2 with down := true, crash := c }) hgd2 rfl rfl rfl rfl rfl rfl 980000 (Nat.le_refl _) hgd2.bcalls hgd2.ok.left
            have hG4 : Hid (Good 980000 D4) := Lib.hid (by have := good_restart hgp; rw [er4] at this; exact this)
            have hsame : filesN D4 = filesN D2 := by
              unfold filesN
              rw [hn4]
              refine List.map_congr_left fun k _ => ?_
              unfold fileOf
              rw [hn4, hf4]
            have hfrom : Hid (From D4 D4) := Lib.hid (From.start hG4.out hc4 (by rw [hs4, hn4]) (fun p hp f hf => hall2 p (by rw [hn4] at hp; exact hp) f (by rw [hf4] at hf; exact hf)))
            have HG2 := Lib.hid (And.intro hgd2 hup2); have HGP := Lib.hid hgp; have HSAME := Lib.hid hsame
            clear SD hall hall2 hD2 hcn hch2 hsf2 hgd2 hgp hsame esd
            go_wp2_with fail
            refine HSD.out.mono ?_
            rintro e w7 ⟨Y7, rfl, M7, _⟩
            have L7 := Lib.hid M7
            clear HSD M7 HSR LS1 hS
            have FI := Lib.hid (L7.out.files HG2.out.1)
            unfold ptr at FI
            go_wp2_with fail
            refine FI.out.mono ?_
            rintro e w8 ⟨v13, rfl, M8, h8, _⟩
            obtain ⟨wa, wc, hv13, _⟩ := h8.row
            subst hv13
            have L8 := Lib.hid M8; have A8 := Lib.hid h8
            clear FI M8 h8
            go_wp2
            have hb8 : Below B w0 w8.drew := L8.out.below.drew
            have hs8 : B ≤ w8.heap.size := L8.out.size
            have keepS : ∀ w', Below B w0 w' → (w'.cell? ⟨w.heap.size, 0, none⟩ = some (.int .i64 c.1) ∧ w'.cell? ⟨w.heap.size, 1, none⟩ = some (.slice va c.2.length vcap) ∧ Below B w0 w') := fun w' hq => ⟨(hq.cell (p := ⟨w.heap.size, 0, none⟩) hBx).trans HX0.out, (hq.cell (p := ⟨w.heap.size, 1, none⟩) hBx).trans HX1.out, hq⟩
            have hgt8 : w.heap.size < w8.heap.size := by omega
            obtain ⟨i0, hi, hz0, hz1, hz2⟩ := info_parts infoInt
            by_cases hks : c.2 = []
            · have hk0 : Hid (c.2.length = 0) := Lib.hid (by rw [hks]; rfl)
              have HKS := Lib.hid hks
              clear hks
              have A8' : Hid (Has w8 Y7 (.slice wa (filesN D2).length wc) (filesN D4)) := Lib.hid (by rw [HSAME.out]; exact A8.out)
              have HPU : Hid (∀ w10, Below w8.heap.size w8 w10 → ∀ v, KeepAt w10 Y7.blocks v c.2 → Calls Try.prog 19 #[.pointer (some ⟨Y0.g, 0, none⟩), .agg #[.int .i64 c.1, v]] w10 (LivePost B w0 Y0.g w10 Y7 (.int .i64 0) { D2 with down := true, crash := c })) := Lib.hid (fun w10 hb v hv => by
                have L10 : Live B w0 Y0.g w10 Y7 D2 := ⟨L8.out.at'.below hb, L8.out.g, L8.out.below.trans (hb.mono hs8), L8.out.le⟩
                have PU := pull_any B w10 Y7 D2 c v hv L10.at'
                have epu : pull D2 c = (0, { D2 with down := true, crash := c }) := by unfold pull; rw [hup2.1]; rfl
                rw [epu, L10.g] at PU
                exact L10.call PU)
              go_region_held3 (fun w' => w'.cell? ⟨w.heap.size, 0, none⟩ = some (.int .i64 c.1) ∧ w'.cell? ⟨w.heap.size, 1, none⟩ = some (.slice va c.2.length vcap) ∧ Below B w0 w')
                (first
                  | (refine keepS _ ?_; assumption)
                  | exact keepS _ ((L8.out.below.alloc hs8 _).drew))
                (first
                  | (refine step_append_zero (by rfl) (.tmp 65) (.tmp 67) 30 (by rfl) 3 i0 Try.underlying30 hi ⟨w8.heap.size, 0, none⟩ va c.2.length vcap hk0.out (by rfl) (by rfl) ?_
                     have hb10 : Below w8.heap.size w8 (w8.alloc (.cells #[] 3)).drew := ((Below.refl _ w8).alloc (Nat.le_refl _) _).drew
                     have hbw10 : Below B w0 (w8.alloc (.cells #[] 3)).drew := L8.out.below.trans (hb10.mono hs8)
                     have PU10 := HPU.out _ hb10 (.slice (some ⟨w8.heap.size, 0, none⟩) 0 0) ⟨_, _, by rw [hk0.out], by omega, fun hne => absurd HKS.out hne⟩
                     have A10 := Lib.hid (A8'.out.below hb10)
                     clear hb10)
                  | (go_at_call 19
                     refine PU10.mono ?_
                     rintro e w11 ⟨Z11, rfl, M11, k11⟩
                     have L11 := Lib.hid M11; have hbw11 := M11.below; have A11 := Lib.hid (k11 _ _ A10.out)
                     have RS := restart_good L11.out.at' HGP.out
                     rw [L11.out.g, er4] at RS
                     unfold ptr at RS
                     have HRS := Lib.hid (L11.out.call RS)
                     clear PU10 RS M11 k11 A10)
                  | (go_at_call 20
                     refine HRS.out.mono ?_
                     rintro e w12 ⟨Y12, rfl, M12, k12⟩
                     have hbw12 := M12.below; have A12 := Lib.hid (k12 _ _ A11.out)
                     have FI12 := M12.files hG4.out
                     unfold ptr at FI12
                     have HFI := Lib.hid FI12
                     clear HRS FI12 M12 k12 A11 L11)
                  | (go_at_call 7
                     refine HFI.out.mono ?_
                     rintro e w13 ⟨v13, rfl, M13, h13, k13⟩
                     have L13 := Lib.hid M13; have hbw13 := M13.below; have A13 := Lib.hid (k13 _ _ A12.out)
                     have FY := Lib.hid (files_yes w13 _ _ _ _ h13.row A13.out.row ⟨rfl, fun i t u a b => by obtain rfl := Option.some.inj (a.symm.trans b); exact ⟨rfl, rfl⟩⟩ (by rw [told_length]; have := hG4.out.ok.nnow; omega))
                     clear HFI M13 h13 k13 A12)
                  | (go_at_call 12
                     refine FY.out.mono ?_
                     rintro e w14 ⟨rfl, hb14⟩
                     have hbw14 : Below B w0 w14 := L13.out.below.trans (hb14.mono L13.out.size)
                     have L14 : Hid (Live B w0 Y0.g w14 Y12 D4) := Lib.hid ⟨L13.out.at'.below hb14, L13.out.g, hbw14, L13.out.le⟩
                     have A14 := Lib.hid (A13.out.below hb14)
                     clear FY hb14))
              go_wp2
              go_loopw [14] (fun s14 wr => ∃ (j : Nat) (Y' : Lay) (Dj : Dk), j ≤ 40 ∧ j ≤ l2.length ∧ s14 = .int .i64 j ∧ Hid (Live B w0 Y0.g wr Y' Dj) ∧ Hid (Good (980000 - 2 * j) Dj ∧ Up Dj ∧ From D4 Dj) ∧ Hid (Has wr Y' (.slice wa (filesN D2).length wc) (filesN D4))) (fun s14 _ => 40 - (RowKit.intOf s14).toNat)
              case atStart => exact ⟨0, Y12, D4, by omega, by omega, rfl, L14, Lib.hid ⟨hG4.out, hu4, hfrom.out⟩, A14⟩
              case round =>
                obtain ⟨j, YQ, DQ, hj40, hjl2, rfl, LQ, hQ, HAS⟩ := hrel
                by_cases hjl' : j < l2.length ∧ j < 40
                · obtain ⟨hjl, hj40'⟩ := hjl'
                  have hji : (j : Int) < (l2.length : Int) := by omega
                  have hj4 : (j : Int) < 40 := by omega
                  obtain ⟨y, hy⟩ : ∃ y, l2[j]? = some y := ⟨_, List.getElem?_eq_getElem hjl⟩
                  have hym := List.mem_of_getElem? hy
                  obtain ⟨a2, cc2, hv2, _, hcell2, hfit2⟩ := HO2.out
                  injection hv2 with z1 z2 z3
                  obtain ⟨b2, o2, rfl, hb2, hat2⟩ := hcell2 (List.ne_nil_of_mem hym)
                  subst z1
                  have hfy := hfit2 y hym
                  have hyA := Lib.hid (hat2 j y hy)
                  have hb2B : b2 < B := by have := HB0.out; omega
                  have cy := fun (p : Nat) => LQ.out.below.cell (p := ⟨b2, o2 + j * 8 + p, none⟩) hb2B
                  have y0 : wr.cell? ⟨b2, o2 + j * 8, none⟩ = some (.int .i64 y.kind) := (LQ.out.below.cell (p := ⟨b2, o2 + j * 8, none⟩) hb2B).trans hyA.out.c0
                  have y1 : wr.cell? ⟨b2, o2 + j * 8 + 1, none⟩ = some (.string y.name) := (cy 1).trans hyA.out.c1
                  have y2 : wr.cell? ⟨b2, o2 + j * 8 + 2, none⟩ = some (.string y.other) := (cy 2).trans hyA.out.c2
                  have y3 : wr.cell? ⟨b2, o2 + j * 8 + 3, none⟩ = some (.string y.data) := (cy 3).trans hyA.out.c3
                  have y4 : wr.cell? ⟨b2, o2 + j * 8 + 4, none⟩ = some (.int .i64 y.a) := (cy 4).trans hyA.out.c4
                  have y5 : wr.cell? ⟨b2, o2 + j * 8 + 5, none⟩ = some (.int .i64 y.b) := (cy 5).trans hyA.out.c5
                  have y6 : wr.cell? ⟨b2, o2 + j * 8 + 6, none⟩ = some (.int .i64 y.c) := (cy 6).trans hyA.out.c6
                  have y7 : wr.cell? ⟨b2, o2 + j * 8 + 7, none⟩ = some (.slice y.ka y.kn y.kc) := (cy 7).trans hyA.out.c7
                  have HFY := Lib.hid hfy
                  have hgm := good_more (x := y.w) (hQ.out.1.le (show 980000 - 2 * (j + 1) + 2 ≤ 980000 - 2 * j by omega)) hfy.name hfy.other
                  have hnx := Lib.hid (And.intro hgm (And.intro (hQ.out.2.1.more y.w) (from_more hQ.out.2.2 (hQ.out.1.le (show 2 ≤ 980000 - 2 * j by omega)) (fun p hp => hG4.out.ok.now p hp) y.w)))
                  clear hcell2 hat2 hy hym hfit2 z2 z3 cy hfy hgm hyA
                  by_cases hk : y.kind = 0
                  · have hmn : moreN DQ y.w = doN DQ y.w := by unfold moreN; rw [if_pos (by have : y.w.kind = 0 := hk; omega)]
                    rw [hmn] at hnx
                    have DO := LQ.out.do (hQ.out.1.le (show 2 ≤ 980000 - 2 * j by omega)) y HFY.out
                    unfold OpX.val ptr at DO
                    rw [hk] at y0 DO
                    have HDO := Lib.hid DO
                    clear DO hmn
                    go_wp2_with fail
                    refine HDO.out.mono ?_
                    rintro e q1 ⟨Z1, rfl, M1, k1⟩
                    have L1 := Lib.hid M1; have A1 := Lib.hid (k1 _ _ HAS.out)
                    clear HDO M1 k1
                    go_wp2
                    go_roundw
                    case rel => exact ⟨j + 1, Z1, _, by omega, by omega, by go_num, L1, hnx, A1⟩
                    case measure => simp [RowKit.intOf]; omega
                  have n0 : ¬ y.kind = 0 := hk
                  clear hk
                  by_cases hk : y.kind = 1
                  · have hmn : moreN DQ y.w = doN DQ y.w := by unfold moreN; rw [if_pos (by have : y.w.kind = 1 := hk; omega)]
                    rw [hmn] at hnx
                    have DO := LQ.out.do (hQ.out.1.le (show 2 ≤ 980000 - 2 * j by omega)) y HFY.out
                    unfold OpX.val ptr at DO
                    rw [hk] at y0 DO
                    have HDO := Lib.hid DO
                    clear DO hmn
                    go_wp2_with fail
                    refine HDO.out.mono ?_
                    rintro e q1 ⟨Z1, rfl, M1, k1⟩
                    have L1 := Lib.hid M1; have A1 := Lib.hid (k1 _ _ HAS.out)
                    clear HDO M1 k1
                    go_wp2
                    go_roundw
                    case rel => exact ⟨j + 1, Z1, _, by omega, by omega, by go_num, L1, hnx, A1⟩
                    case measure => simp [RowKit.intOf]; omega
                  have n1 : ¬ y.kind = 1 := hk
                  clear hk
                  by_cases hk : y.kind = 4
                  · have hmn : moreN DQ y.w = doN DQ y.w := by unfold moreN; rw [if_pos (by have : y.w.kind = 4 := hk; omega)]
                    rw [hmn] at hnx
                    have DO := LQ.out.do (hQ.out.1.le (show 2 ≤ 980000 - 2 * j by omega)) y HFY.out
                    unfold OpX.val ptr at DO
                    rw [hk] at y0 DO
                    have HDO := Lib.hid DO
                    clear DO hmn
                    go_wp2_with fail
                    refine HDO.out.mono ?_
                    rintro e q1 ⟨Z1, rfl, M1, k1⟩
                    have L1 := Lib.hid M1; have A1 := Lib.hid (k1 _ _ HAS.out)
                    clear HDO M1 k1
                    go_wp2
                    go_roundw
                    case rel => exact ⟨j + 1, Z1, _, by omega, by omega, by go_num, L1, hnx, A1⟩
                    case measure => simp [RowKit.intOf]; omega
                  have n4 : ¬ y.kind = 4 := hk
                  clear hk
                  by_cases hk : y.kind = 5
                  · have hmn : moreN DQ y.w = doN DQ y.w := by unfold moreN; rw [if_pos (by have : y.w.kind = 5 := hk; omega)]
                    rw [hmn] at hnx
                    have DO := LQ.out.do (hQ.out.1.le (show 2 ≤ 980000 - 2 * j by omega)) y HFY.out
                    unfold OpX.val ptr at DO
                    rw [hk] at y0 DO
                    have HDO := Lib.hid DO
                    clear DO hmn
                    go_wp2_with fail
                    refine HDO.out.mono ?_
                    rintro e q1 ⟨Z1, rfl, M1, k1⟩
                    have L1 := Lib.hid M1; have A1 := Lib.hid (k1 _ _ HAS.out)
                    clear HDO M1 k1
                    go_wp2
                    go_roundw
                    case rel => exact ⟨j + 1, Z1, _, by omega, by omega, by go_num, L1, hnx, A1⟩
                    case measure => simp [RowKit.intOf]; omega
                  have n5 : ¬ y.kind = 5 := hk
                  clear hk
                  have m0 : (y.kind == 0) = false := by simpa using n0
                  have m1 : (y.kind == 1) = false := by simpa using n1
                  have m4 : (y.kind == 4) = false := by simpa using n4
                  have m5 : (y.kind == 5) = false := by simpa using n5
                  have hmn : moreN DQ y.w = DQ := by unfold moreN; rw [if_neg (by show ¬ (y.kind = 0 ∨ y.kind = 1 ∨ y.kind = 4 ∨ y.kind = 5); omega)]
                  rw [hmn] at hnx
                  clear hmn y1 y2 y3 y4 y5 y6 y7
                  go_wp2
                  go_roundw
                  case rel => exact ⟨j + 1, YQ, _, by omega, by omega, by go_num, LQ, hnx, HAS⟩
                  case measure => simp [RowKit.intOf]; omega
                · by_cases ej : j < l2.length
                  · have hx1 : (j : Int) < (l2.length : Int) := by omega
                    have hx2 : ¬ (j : Int) < 40 := by omega
                    have FI := Lib.hid (LQ.out.files hQ.out.1)
                    unfold ptr at FI
                    go_wp2_with fail
                    refine FI.out.mono ?_
                    rintro e q1 ⟨v15, rfl, M1, h15, k1⟩
                    have L1 := Lib.hid M1; have A1 := Lib.hid (k1 _ _ HAS.out); have G1 := Lib.hid h15
                    have kx0 : q1.cell? ⟨w.heap.size, 0, none⟩ = some (.int .i64 c.1) := (M1.below.cell (p := ⟨w.heap.size, 0, none⟩) hBx).trans HX0.out
                    have kx1 := (M1.below.cell (p := ⟨w.heap.size, 1, none⟩) hBx).trans HX1.out
                    clear FI M1 h15 k1
                    obtain ⟨D6, er6, hu6, hg6, hb1, hb2⟩ := safe_end hG4.out hQ.out.2.2 hQ.out.1 hQ.out.2.1.1 c
                    have PU := L1.out.call (L1.out.g ▸ pull_any B q1 YQ _ c _ (L1.out.keep HK0.out (fun a n c' he hne => HKB.out a n c' he hne)) L1.out.at')
                    have epu : pull DQ c = (0, { DQ with down := true, crash := c }) := by unfold pull; rw [hQ.out.2.1.1]; rfl
                    rw [epu] at PU
                    unfold ptr crashV at PU
                    have HPU := Lib.hid PU
                    have HB1 := Lib.hid hb1; have HB2 := Lib.hid hb2; have HG6 := Lib.hid hg6
                    clear PU epu hb1 hb2 hg6
                    go_wp2_with fail
                    refine HPU.out.mono ?_
                    rintro e q2 ⟨Z2, rfl, M2, k2⟩
                    have L2 := Lib.hid M2; have A2 := Lib.hid (k2 _ _ A1.out); have G2 := Lib.hid (k2 _ _ G1.out)
                    clear HPU M2 k2 A1 G1 kx0 kx1 L1
                    have DN := down_any B q2 Z2 _ L2.out.at'
                    rw [L2.out.g] at DN
                    unfold ptr at DN
                    have HDN := Lib.hid DN
                    clear DN
                    go_wp2_with fail
                    refine HDN.out.mono ?_
                    rintro e q3 ⟨rfl, rfl⟩
                    clear HDN
                    have hgd : Good 900000 { DQ with down := true, crash := c } := Good.like (D' := { DQ with down := true, crash := c }) hQ.out.1 rfl rfl rfl rfl rfl rfl 900000 (by omega) (by have := hQ.out.1.bcalls; show DQ.calls + _ ≤ _; omega) hQ.out.1.ok.left
                    have RS := restart_good L2.out.at' hgd
                    rw [L2.out.g, er6] at RS
                    unfold ptr at RS
                    have HRS := Lib.hid (L2.out.call RS)
                    clear RS hgd
                    go_wp2_with fail
                    refine HRS.out.mono ?_
                    rintro e q4 ⟨Z4, rfl, M4, k4⟩
                    have L4 := Lib.hid M4; have A4 := Lib.hid (k4 _ _ A2.out); have G4 := Lib.hid (k4 _ _ G2.out)
                    clear HRS M4 k4 A2 G2 L2
                    have DN := down_any B q4 Z4 _ L4.out.at'
                    rw [L4.out.g, hu6.1] at DN
                    unfold ptr at DN
                    have HDN := Lib.hid DN
                    clear DN
                    go_wp2_with fail
                    refine HDN.out.mono ?_
                    rintro e q5 ⟨rfl, rfl⟩
                    clear HDN
                    have FI := Lib.hid (L4.out.files HG6.out)
                    unfold ptr at FI
                    go_wp2_with fail
                    refine FI.out.mono ?_
                    rintro e q6 ⟨v16, rfl, M6, h16, k6⟩
                    have L6 := Lib.hid M6; have A6 := Lib.hid (k6 _ _ A4.out); have G6 := Lib.hid (k6 _ _ G4.out); have N6 := Lib.hid h16
                    clear FI M6 h16 k6 A4 G4 L4
                    have E1 := Lib.hid (begins_yes q6 _ _ _ _ A6.out.row N6.out.row HB1.out (by rw [told_length]; have := hG4.out.ok.nnow; omega) (by rw [told_length]; have := HG6.out.ok.nnow; omega) (told_each hG4.out) (told_each HG6.out))
                    go_wp2_with fail
                    refine E1.out.mono ?_
                    rintro e q7 ⟨rfl, hb7⟩
                    have HB7 := Lib.hid hb7; have N7 := Lib.hid (N6.out.row.below hb7); have G7 := Lib.hid (G6.out.row.below hb7)
                    clear E1 hb7
                    have E2 := Lib.hid (begins_yes q7 _ _ _ _ N7.out G7.out HB2.out (by rw [told_length]; have := HG6.out.ok.nnow; omega) (by rw [told_length]; have := hQ.out.1.ok.nnow; omega) (told_each HG6.out) (told_each hQ.out.1))
                    go_wp2_with fail
                    refine E2.out.mono ?_
                    rintro e q8 ⟨rfl, hb8⟩
                    have HB8 := Lib.hid hb8
                    clear E2 hb8
                    go_wp2_with fail
                    refine (awake_any q8).mono ?_
                    rintro e q9 ⟨rfl, hb9⟩
                    have hfin : Below w.heap.size w q9 := by
                      have b1 := HW0.out.trans (L6.out.below.mono hBw)
                      have b2 := b1.trans (HB7.out.mono b1.size)
                      have b3 := b2.trans (HB8.out.mono b2.size)
                      exact b3.trans (hb9.mono b3.size)
                    have HFIN := Lib.hid hfin
                    clear hfin hb9
                    go_wp2
                    go_ret
                    exact ⟨rfl, HFIN.out⟩
                  · have hx1 : ¬ (j : Int) < (l2.length : Int) := by omega
                    have FI := Lib.hid (LQ.out.files hQ.out.1)
                    unfold ptr at FI
                    go_wp2_with fail
                    refine FI.out.mono ?_
                    rintro e q1 ⟨v15, rfl, M1, h15, k1⟩
                    have L1 := Lib.hid M1; have A1 := Lib.hid (k1 _ _ HAS.out); have G1 := Lib.hid h15
                    have kx0 : q1.cell? ⟨w.heap.size, 0, none⟩ = some (.int .i64 c.1) := (M1.below.cell (p := ⟨w.heap.size, 0, none⟩) hBx).trans HX0.out
                    have kx1 := (M1.below.cell (p := ⟨w.heap.size, 1, none⟩) hBx).trans HX1.out
                    clear FI M1 h15 k1
                    obtain ⟨D6, er6, hu6, hg6, hb1, hb2⟩ := safe_end hG4.out hQ.out.2.2 hQ.out.1 hQ.out.2.1.1 c
                    have PU := L1.out.call (L1.out.g ▸ pull_any B q1 YQ _ c _ (L1.out.keep HK0.out (fun a n c' he hne => HKB.out a n c' he hne)) L1.out.at')
                    have epu : pull DQ c = (0, { DQ with down := true, crash := c }) := by unfold pull; rw [hQ.out.2.1.1]; rfl
                    rw [epu] at PU
                    unfold ptr crashV at PU
                    have HPU := Lib.hid PU
                    have HB1 := Lib.hid hb1; have HB2 := Lib.hid hb2; have HG6 := Lib.hid hg6
                    clear PU epu hb1 hb2 hg6
                    go_wp2_with fail
                    refine HPU.out.mono ?_
                    rintro e q2 ⟨Z2, rfl, M2, k2⟩
                    have L2 := Lib.hid M2; have A2 := Lib.hid (k2 _ _ A1.out); have G2 := Lib.hid (k2 _ _ G1.out)
                    clear HPU M2 k2 A1 G1 kx0 kx1 L1
                    have DN := down_any B q2 Z2 _ L2.out.at'
                    rw [L2.out.g] at DN
                    unfold ptr at DN
                    have HDN := Lib.hid DN
                    clear DN
                    go_wp2_with fail
                    refine HDN.out.mono ?_
                    rintro e q3 ⟨rfl, rfl⟩
                    clear HDN
                    have hgd : Good 900000 { DQ with down := true, crash := c } := Good.like (D' := { DQ with down := true, crash := c }) hQ.out.1 rfl rfl rfl rfl rfl rfl 900000 (by omega) (by have := hQ.out.1.bcalls; show DQ.calls + _ ≤ _; omega) hQ.out.1.ok.left
                    have RS := restart_good L2.out.at' hgd
                    rw [L2.out.g, er6] at RS
                    unfold ptr at RS
                    have HRS := Lib.hid (L2.out.call RS)
                    clear RS hgd
                    go_wp2_with fail
                    refine HRS.out.mono ?_
                    rintro e q4 ⟨Z4, rfl, M4, k4⟩
                    have L4 := Lib.hid M4; have A4 := Lib.hid (k4 _ _ A2.out); have G4 := Lib.hid (k4 _ _ G2.out)
                    clear HRS M4 k4 A2 G2 L2
                    have DN := down_any B q4 Z4 _ L4.out.at'
                    rw [L4.out.g, hu6.1] at DN
                    unfold ptr at DN
                    have HDN := Lib.hid DN
                    clear DN
                    go_wp2_with fail
                    refine HDN.out.mono ?_
                    rintro e q5 ⟨rfl, rfl⟩
                    clear HDN
                    have FI := Lib.hid (L4.out.files HG6.out)
                    unfold ptr at FI
                    go_wp2_with fail
                    refine FI.out.mono ?_
                    rintro e q6 ⟨v16, rfl, M6, h16, k6⟩
                    have L6 := Lib.hid M6; have A6 := Lib.hid (k6 _ _ A4.out); have G6 := Lib.hid (k6 _ _ G4.out); have N6 := Lib.hid h16
                    clear FI M6 h16 k6 A4 G4 L4
                    have E1 := Lib.hid (begins_yes q6 _ _ _ _ A6.out.row N6.out.row HB1.out (by rw [told_length]; have := hG4.out.ok.nnow; omega) (by rw [told_length]; have := HG6.out.ok.nnow; omega) (told_each hG4.out) (told_each HG6.out))
                    go_wp2_with fail
                    refine E1.out.mono ?_
                    rintro e q7 ⟨rfl, hb7⟩
                    have HB7 := Lib.hid hb7; have N7 := Lib.hid (N6.out.row.below hb7); have G7 := Lib.hid (G6.out.row.below hb7)
                    clear E1 hb7
                    have E2 := Lib.hid (begins_yes q7 _ _ _ _ N7.out G7.out HB2.out (by rw [told_length]; have := HG6.out.ok.nnow; omega) (by rw [told_length]; have := hQ.out.1.ok.nnow; omega) (told_each HG6.out) (told_each hQ.out.1))
                    go_wp2_with fail
                    refine E2.out.mono ?_
                    rintro e q8 ⟨rfl, hb8⟩
                    have HB8 := Lib.hid hb8
                    clear E2 hb8
                    go_wp2_with fail
                    refine (awake_any q8).mono ?_
                    rintro e q9 ⟨rfl, hb9⟩
                    have hfin : Below w.heap.size w q9 := by
                      have b1 := HW0.out.trans (L6.out.below.mono hBw)
                      have b2 := b1.trans (HB7.out.mono b1.size)
                      have b3 := b2.trans (HB8.out.mono b2.size)
                      exact b3.trans (hb9.mono b3.size)
                    have HFIN := Lib.hid hfin
                    clear hfin hb9
                    go_wp2
                    go_ret
                    exact ⟨rfl, HFIN.out⟩
            · have hkk := HK0.out
              obtain ⟨va', vcap', hv0, hkl', hkc'⟩ := hkk
              injection hv0 with z1 z2 z3
              subst z1
              subst z3
              obtain ⟨kb, ko, rfl, _, _, hkcell⟩ := hkc' hks
              have hkbB : kb < B := HKB.out ⟨kb, ko, none⟩ _ _ rfl hks
              have hpos : 0 < c.2.length := by
                rcases Nat.eq_zero_or_pos c.2.length with e | e
                · exact absurd (List.length_eq_zero_iff.1 e) hks
                · exact e
              have HNW : Hid (∀ (j : Nat) (u : Value), (c.2.map (Value.int .i64))[j]? = some u → (w8.drew.alloc (.cells #[] 3)).cell? ((⟨kb, ko, none⟩ : Addr).add j) = some u) := Lib.hid (fun j u hj => by
                rw [List.getElem?_map] at hj
                obtain ⟨x, hx, rfl⟩ := Option.map_eq_some_iff.1 hj
                rw [Addr.add_lit]
                refine Lib.cell?_alloc_some _ ?_
                exact (hb8.cell (p := ⟨kb, ko + j, none⟩) hkbB).trans (hkcell j x hx))
              have HOW := Lib.hid (World.ownsRow_made (e := 3) w8.drew #[] 0 (size := 1) (Nat.le_refl _) (Nat.zero_le _) rfl)
              clear hkcell z2
              have A8' : Hid (Has w8 Y7 (.slice wa (filesN D2).length wc) (filesN D4)) := Lib.hid (by rw [HSAME.out]; exact A8.out)
              have HPU : Hid (∀ w10, Below w8.heap.size w8 w10 → ∀ v, KeepAt w10 Y7.blocks v c.2 → Calls Try.prog 19 #[.pointer (some ⟨Y0.g, 0, none⟩), .agg #[.int .i64 c.1, v]] w10 (LivePost B w0 Y0.g w10 Y7 (.int .i64 0) { D2 with down := true, crash := c })) := Lib.hid (fun w10 hb v hv => by
                have L10 : Live B w0 Y0.g w10 Y7 D2 := ⟨L8.out.at'.below hb, L8.out.g, L8.out.below.trans (hb.mono hs8), L8.out.le⟩
                have PU := pull_any B w10 Y7 D2 c v hv L10.at'
                have epu : pull D2 c = (0, { D2 with down := true, crash := c }) := by unfold pull; rw [hup2.1]; rfl
                rw [epu, L10.g] at PU
                exact L10.call PU)
              go_region_held3 (fun w' => w'.cell? ⟨w.heap.size, 0, none⟩ = some (.int .i64 c.1) ∧ w'.cell? ⟨w.heap.size, 1, none⟩ = some (.slice (some ⟨kb, ko, none⟩) c.2.length vcap) ∧ Below B w0 w')
                (first
                  | (refine keepS _ ?_; assumption)
                  | exact keepS _ ((L8.out.below.alloc hs8 _).drew))
                (first
                  | (refine step_append_lies _ (by rfl) (.tmp 65) (.tmp 67) 30 (by rfl) w8.heap.size 3 i0 (.int .i64 0) 1 8 Try.underlying30 hi hz0 hz1 hz2 rfl (by decide) (.slice (some ⟨w8.heap.size, 0, none⟩) 0 0) 0 [] (by rfl) HOW.out ⟨kb, ko, none⟩ c.2.length vcap (c.2.map (Value.int .i64)) (by rfl) (by simp) HNW.out (by intro u hu; obtain ⟨x, _, rfl⟩ := List.mem_map.1 hu; rfl) hpos (by unfold maxLen; omega) (by omega) (made_le w8 _) _ rfl ?_; intro g10 cap10 w10 hown10 hgrow10 _ _
                     have hb10 : Below w8.heap.size w8 w10 := made_below hgrow10
                     have hbw10 : Below B w0 w10 := L8.out.below.trans (hb10.mono hs8)
                     rw [Nat.zero_add, List.nil_append] at hown10
                     rw [Nat.zero_add]
                     have PU10 := HPU.out w10 hb10 _ (keep_new L8.out.at'.lt hks hkl' hown10)
                     have A10 : Hid (Has w10 Y7 (.slice wa (filesN D2).length wc) (filesN D4)) := Lib.hid (A8'.out.below hb10)
                     clear hown10 hgrow10 hb10)
                  | (go_at_call 19
                     refine PU10.mono ?_
                     rintro e w11 ⟨Z11, rfl, M11, k11⟩
                     have L11 := Lib.hid M11; have hbw11 := M11.below; have A11 := Lib.hid (k11 _ _ A10.out)
                     have RS := restart_good L11.out.at' HGP.out
                     rw [L11.out.g, er4] at RS
                     unfold ptr at RS
                     have HRS := Lib.hid (L11.out.call RS)
                     clear PU10 RS M11 k11 A10)
                  | (go_at_call 20
                     refine HRS.out.mono ?_
                     rintro e w12 ⟨Y12, rfl, M12, k12⟩
                     have hbw12 := M12.below; have A12 := Lib.hid (k12 _ _ A11.out)
                     have FI12 := M12.files hG4.out
                     unfold ptr at FI12
                     have HFI := Lib.hid FI12
                     clear HRS FI12 M12 k12 A11 L11)
                  | (go_at_call 7
                     refine HFI.out.mono ?_
                     rintro e w13 ⟨v13, rfl, M13, h13, k13⟩
                     have L13 := Lib.hid M13; have hbw13 := M13.below; have A13 := Lib.hid (k13 _ _ A12.out)
                     have FY := Lib.hid (files_yes w13 _ _ _ _ h13.row A13.out.row ⟨rfl, fun i t u a b => by obtain rfl := Option.some.inj (a.symm.trans b); exact ⟨rfl, rfl⟩⟩ (by rw [told_length]; have := hG4.out.ok.nnow; omega))
                     clear HFI M13 h13 k13 A12)
                  | (go_at_call 12
                     refine FY.out.mono ?_
                     rintro e w14 ⟨rfl, hb14⟩
                     have hbw14 : Below B w0 w14 := L13.out.below.trans (hb14.mono L13.out.size)
                     have L14 : Hid (Live B w0 Y0.g w14 Y12 D4) := Lib.hid ⟨L13.out.at'.below hb14, L13.out.g, hbw14, L13.out.le⟩
                     have A14 := Lib.hid (A13.out.below hb14)
                     clear FY hb14))
              go_wp2
              go_loopw [14] (fun s14 wr => ∃ (j : Nat) (Y' : Lay) (Dj : Dk), j ≤ 40 ∧ j ≤ l2.length ∧ s14 = .int .i64 j ∧ Hid (Live B w0 Y0.g wr Y' Dj) ∧ Hid (Good (980000 - 2 * j) Dj ∧ Up Dj ∧ From D4 Dj) ∧ Hid (Has wr Y' (.slice wa (filesN D2).length wc) (filesN D4))) (fun s14 _ => 40 - (RowKit.intOf s14).toNat)
              case atStart => exact ⟨0, Y12, D4, by omega, by omega, rfl, L14, Lib.hid ⟨hG4.out, hu4, hfrom.out⟩, A14⟩
              case round =>
                obtain ⟨j, YQ, DQ, hj40, hjl2, rfl, LQ, hQ, HAS⟩ := hrel
                by_cases hjl' : j < l2.length ∧ j < 40
                · obtain ⟨hjl, hj40'⟩ := hjl'
                  have hji : (j : Int) < (l2.length : Int) := by omega
                  have hj4 : (j : Int) < 40 := by omega
                  obtain ⟨y, hy⟩ : ∃ y, l2[j]? = some y := ⟨_, List.getElem?_eq_getElem hjl⟩
                  have hym := List.mem_of_getElem? hy
                  obtain ⟨a2, cc2, hv2, _, hcell2, hfit2⟩ := HO2.out
                  injection hv2 with z1 z2 z3
                  obtain ⟨b2, o2, rfl, hb2, hat2⟩ := hcell2 (List.ne_nil_of_mem hym)
                  subst z1
                  have hfy := hfit2 y hym
                  have hyA := Lib.hid (hat2 j y hy)
                  have hb2B : b2 < B := by have := HB0.out; omega
                  have cy := fun (p : Nat) => LQ.out.below.cell (p := ⟨b2, o2 + j * 8 + p, none⟩) hb2B
                  have y0 : wr.cell? ⟨b2, o2 + j * 8, none⟩ = some (.int .i64 y.kind) := (LQ.out.below.cell (p := ⟨b2, o2 + j * 8, none⟩) hb2B).trans hyA.out.c0
                  have y1 : wr.cell? ⟨b2, o2 + j * 8 + 1, none⟩ = some (.string y.name) := (cy 1).trans hyA.out.c1
                  have y2 : wr.cell? ⟨b2, o2 + j * 8 + 2, none⟩ = some (.string y.other) := (cy 2).trans hyA.out.c2
                  have y3 : wr.cell? ⟨b2, o2 + j * 8 + 3, none⟩ = some (.string y.data) := (cy 3).trans hyA.out.c3
                  have y4 : wr.cell? ⟨b2, o2 + j * 8 + 4, none⟩ = some (.int .i64 y.a) := (cy 4).trans hyA.out.c4
                  have y5 : wr.cell? ⟨b2, o2 + j * 8 + 5, none⟩ = some (.int .i64 y.b) := (cy 5).trans hyA.out.c5
                  have y6 : wr.cell? ⟨b2, o2 + j * 8 + 6, none⟩ = some (.int .i64 y.c) := (cy 6).trans hyA.out.c6
                  have y7 : wr.cell? ⟨b2, o2 + j * 8 + 7, none⟩ = some (.slice y.ka y.kn y.kc) := (cy 7).trans hyA.out.c7
                  have HFY := Lib.hid hfy
                  have hgm := good_more (x := y.w) (hQ.out.1.le (show 980000 - 2 * (j + 1) + 2 ≤ 980000 - 2 * j by omega)) hfy.name hfy.other
                  have hnx := Lib.hid (And.intro hgm (And.intro (hQ.out.2.1.more y.w) (from_more hQ.out.2.2 (hQ.out.1.le (show 2 ≤ 980000 - 2 * j by omega)) (fun p hp => hG4.out.ok.now p hp) y.w)))
                  clear hcell2 hat2 hy hym hfit2 z2 z3 cy hfy hgm hyA
                  by_cases hk : y.kind = 0
                  · have hmn : moreN DQ y.w = doN DQ y.w := by unfold moreN; rw [if_pos (by have : y.w.kind = 0 := hk; omega)]
                    rw [hmn] at hnx
                    have DO := LQ.out.do (hQ.out.1.le (show 2 ≤ 980000 - 2 * j by omega)) y HFY.out
                    unfold OpX.val ptr at DO
                    rw [hk] at y0 DO
                    have HDO := Lib.hid DO
                    clear DO hmn
                    go_wp2_with fail
                    refine HDO.out.mono ?_
                    rintro e q1 ⟨Z1, rfl, M1, k1⟩
                    have L1 := Lib.hid M1; have A1 := Lib.hid (k1 _ _ HAS.out)
                    clear HDO M1 k1
                    go_wp2
                    go_roundw
                    case rel => exact ⟨j + 1, Z1, _, by omega, by omega, by go_num, L1, hnx, A1⟩
                    case measure => simp [RowKit.intOf]; omega
                  have n0 : ¬ y.kind = 0 := hk
                  clear hk
                  by_cases hk : y.kind = 1
                  · have hmn : moreN DQ y.w = doN DQ y.w := by unfold moreN; rw [if_pos (by have : y.w.kind = 1 := hk; omega)]
                    rw [hmn] at hnx
                    have DO := LQ.out.do (hQ.out.1.le (show 2 ≤ 980000 - 2 * j by omega)) y HFY.out
                    unfold OpX.val ptr at DO
                    rw [hk] at y0 DO
                    have HDO := Lib.hid DO
                    clear DO hmn
                    go_wp2_with fail
                    refine HDO.out.mono ?_
                    rintro e q1 ⟨Z1, rfl, M1, k1⟩
                    have L1 := Lib.hid M1; have A1 := Lib.hid (k1 _ _ HAS.out)
                    clear HDO M1 k1
                    go_wp2
                    go_roundw
                    case rel => exact ⟨j + 1, Z1, _, by omega, by omega, by go_num, L1, hnx, A1⟩
                    case measure => simp [RowKit.intOf]; omega
                  have n1 : ¬ y.kind = 1 := hk
                  clear hk
                  by_cases hk : y.kind = 4
                  · have hmn : moreN DQ y.w = doN DQ y.w := by unfold moreN; rw [if_pos (by have : y.w.kind = 4 := hk; omega)]
                    rw [hmn] at hnx
                    have DO := LQ.out.do (hQ.out.1.le (show 2 ≤ 980000 - 2 * j by omega)) y HFY.out
                    unfold OpX.val ptr at DO
                    rw [hk] at y0 DO
                    have HDO := Lib.hid DO
                    clear DO hmn
                    go_wp2_with fail
                    refine HDO.out.mono ?_
                    rintro e q1 ⟨Z1, rfl, M1, k1⟩
                    have L1 := Lib.hid M1; have A1 := Lib.hid (k1 _ _ HAS.out)
                    clear HDO M1 k1
                    go_wp2
                    go_roundw
                    case rel => exact ⟨j + 1, Z1, _, by omega, by omega, by go_num, L1, hnx, A1⟩
                    case measure => simp [RowKit.intOf]; omega
                  have n4 : ¬ y.kind = 4 := hk
                  clear hk
                  by_cases hk : y.kind = 5
                  · have hmn : moreN DQ y.w = doN DQ y.w := by unfold moreN; rw [if_pos (by have : y.w.kind = 5 := hk; omega)]
                    rw [hmn] at hnx
                    have DO := LQ.out.do (hQ.out.1.le (show 2 ≤ 980000 - 2 * j by omega)) y HFY.out
                    unfold OpX.val ptr at DO
                    rw [hk] at y0 DO
                    have HDO := Lib.hid DO
                    clear DO hmn
                    go_wp2_with fail
                    refine HDO.out.mono ?_
                    rintro e q1 ⟨Z1, rfl, M1, k1⟩
                    have L1 := Lib.hid M1; have A1 := Lib.hid (k1 _ _ HAS.out)
                    clear HDO M1 k1
                    go_wp2
                    go_roundw
                    case rel => exact ⟨j + 1, Z1, _, by omega, by omega, by go_num, L1, hnx, A1⟩
                    case measure => simp [RowKit.intOf]; omega
                  have n5 : ¬ y.kind = 5 := hk
                  clear hk
                  have m0 : (y.kind == 0) = false := by simpa using n0
                  have m1 : (y.kind == 1) = false := by simpa using n1
                  have m4 : (y.kind == 4) = false := by simpa using n4
                  have m5 : (y.kind == 5) = false := by simpa using n5
                  have hmn : moreN DQ y.w = DQ := by unfold moreN; rw [if_neg (by show ¬ (y.kind = 0 ∨ y.kind = 1 ∨ y.kind = 4 ∨ y.kind = 5); omega)]
                  rw [hmn] at hnx
                  clear hmn y1 y2 y3 y4 y5 y6 y7
                  go_wp2
                  go_roundw
                  case rel => exact ⟨j + 1, YQ, _, by omega, by omega, by go_num, LQ, hnx, HAS⟩
                  case measure => simp [RowKit.intOf]; omega
                · by_cases ej : j < l2.length
                  · have hx1 : (j : Int) < (l2.length : Int) := by omega
                    have hx2 : ¬ (j : Int) < 40 := by omega
                    have FI := Lib.hid (LQ.out.files hQ.out.1)
                    unfold ptr at FI
                    go_wp2_with fail
                    refine FI.out.mono ?_
                    rintro e q1 ⟨v15, rfl, M1, h15, k1⟩
                    have L1 := Lib.hid M1; have A1 := Lib.hid (k1 _ _ HAS.out); have G1 := Lib.hid h15
                    have kx0 : q1.cell? ⟨w.heap.size, 0, none⟩ = some (.int .i64 c.1) := (M1.below.cell (p := ⟨w.heap.size, 0, none⟩) hBx).trans HX0.out
                    have kx1 := (M1.below.cell (p := ⟨w.heap.size, 1, none⟩) hBx).trans HX1.out
                    clear FI M1 h15 k1
                    obtain ⟨D6, er6, hu6, hg6, hb1, hb2⟩ := safe_end hG4.out hQ.out.2.2 hQ.out.1 hQ.out.2.1.1 c
                    have PU := L1.out.call (L1.out.g ▸ pull_any B q1 YQ _ c _ (L1.out.keep HK0.out (fun a n c' he hne => HKB.out a n c' he hne)) L1.out.at')
                    have epu : pull DQ c = (0, { DQ with down := true, crash := c }) := by unfold pull; rw [hQ.out.2.1.1]; rfl
                    rw [epu] at PU
                    unfold ptr crashV at PU
                    have HPU := Lib.hid PU
                    have HB1 := Lib.hid hb1; have HB2 := Lib.hid hb2; have HG6 := Lib.hid hg6
                    clear PU epu hb1 hb2 hg6
                    go_wp2_with fail
                    refine HPU.out.mono ?_
                    rintro e q2 ⟨Z2, rfl, M2, k2⟩
                    have L2 := Lib.hid M2; have A2 := Lib.hid (k2 _ _ A1.out); have G2 := Lib.hid (k2 _ _ G1.out)
                    clear HPU M2 k2 A1 G1 kx0 kx1 L1
                    have DN := down_any B q2 Z2 _ L2.out.at'
                    rw [L2.out.g] at DN
                    unfold ptr at DN
                    have HDN := Lib.hid DN
                    clear DN
                    go_wp2_with fail
                    refine HDN.out.mono ?_
                    rintro e q3 ⟨rfl, rfl⟩
                    clear HDN
                    have hgd : Good 900000 { DQ with down := true, crash := c } := Good.like (D' := { DQ with down := true, crash := c }) hQ.out.1 rfl rfl rfl rfl rfl rfl 900000 (by omega) (by have := hQ.out.1.bcalls; show DQ.calls + _ ≤ _; omega) hQ.out.1.ok.left
                    have RS := restart_good L2.out.at' hgd
                    rw [L2.out.g, er6] at RS
                    unfold ptr at RS
                    have HRS := Lib.hid (L2.out.call RS)
                    clear RS hgd
                    go_wp2_with fail
                    refine HRS.out.mono ?_
                    rintro e q4 ⟨Z4, rfl, M4, k4⟩
                    have L4 := Lib.hid M4; have A4 := Lib.hid (k4 _ _ A2.out); have G4 := Lib.hid (k4 _ _ G2.out)
                    clear HRS M4 k4 A2 G2 L2
                    have DN := down_any B q4 Z4 _ L4.out.at'
                    rw [L4.out.g, hu6.1] at DN
                    unfold ptr at DN
                    have HDN := Lib.hid DN
                    clear DN
                    go_wp2_with fail
                    refine HDN.out.mono ?_
                    rintro e q5 ⟨rfl, rfl⟩
                    clear HDN
                    have FI := Lib.hid (L4.out.files HG6.out)
                    unfold ptr at FI
                    go_wp2_with fail
                    refine FI.out.mono ?_
                    rintro e q6 ⟨v16, rfl, M6, h16, k6⟩
                    have L6 := Lib.hid M6; have A6 := Lib.hid (k6 _ _ A4.out); have G6 := Lib.hid (k6 _ _ G4.out); have N6 := Lib.hid h16
                    clear FI M6 h16 k6 A4 G4 L4
                    have E1 := Lib.hid (begins_yes q6 _ _ _ _ A6.out.row N6.out.row HB1.out (by rw [told_length]; have := hG4.out.ok.nnow; omega) (by rw [told_length]; have := HG6.out.ok.nnow; omega) (told_each hG4.out) (told_each HG6.out))
                    go_wp2_with fail
                    refine E1.out.mono ?_
                    rintro e q7 ⟨rfl, hb7⟩
                    have HB7 := Lib.hid hb7; have N7 := Lib.hid (N6.out.row.below hb7); have G7 := Lib.hid (G6.out.row.below hb7)
                    clear E1 hb7
                    have E2 := Lib.hid (begins_yes q7 _ _ _ _ N7.out G7.out HB2.out (by rw [told_length]; have := HG6.out.ok.nnow; omega) (by rw [told_length]; have := hQ.out.1.ok.nnow; omega) (told_each HG6.out) (told_each hQ.out.1))
                    go_wp2_with fail
                    refine E2.out.mono ?_
                    rintro e q8 ⟨rfl, hb8⟩
                    have HB8 := Lib.hid hb8
                    clear E2 hb8
                    go_wp2_with fail
                    refine (awake_any q8).mono ?_
                    rintro e q9 ⟨rfl, hb9⟩
                    have hfin : Below w.heap.size w q9 := by
                      have b1 := HW0.out.trans (L6.out.below.mono hBw)
                      have b2 := b1.trans (HB7.out.mono b1.size)
                      have b3 := b2.trans (HB8.out.mono b2.size)
                      exact b3.trans (hb9.mono b3.size)
                    have HFIN := Lib.hid hfin
                    clear hfin hb9
                    go_wp2
                    go_ret
                    exact ⟨rfl, HFIN.out⟩
                  · have hx1 : ¬ (j : Int) < (l2.length : Int) := by omega
                    have FI := Lib.hid (LQ.out.files hQ.out.1)
                    unfold ptr at FI
                    go_wp2_with fail
                    refine FI.out.mono ?_
                    rintro e q1 ⟨v15, rfl, M1, h15, k1⟩
                    have L1 := Lib.hid M1; have A1 := Lib.hid (k1 _ _ HAS.out); have G1 := Lib.hid h15
                    have kx0 : q1.cell? ⟨w.heap.size, 0, none⟩ = some (.int .i64 c.1) := (M1.below.cell (p := ⟨w.heap.size, 0, none⟩) hBx).trans HX0.out
                    have kx1 := (M1.below.cell (p := ⟨w.heap.size, 1, none⟩) hBx).trans HX1.out
                    clear FI M1 h15 k1
                    obtain ⟨D6, er6, hu6, hg6, hb1, hb2⟩ := safe_end hG4.out hQ.out.2.2 hQ.out.1 hQ.out.2.1.1 c
                    have PU := L1.out.call (L1.out.g ▸ pull_any B q1 YQ _ c _ (L1.out.keep HK0.out (fun a n c' he hne => HKB.out a n c' he hne)) L1.out.at')
                    have epu : pull DQ c = (0, { DQ with down := true, crash := c }) := by unfold pull; rw [hQ.out.2.1.1]; rfl
                    rw [epu] at PU
                    unfold ptr crashV at PU
                    have HPU := Lib.hid PU
                    have HB1 := Lib.hid hb1; have HB2 := Lib.hid hb2; have HG6 := Lib.hid hg6
                    clear PU epu hb1 hb2 hg6
                    go_wp2_with fail
                    refine HPU.out.mono ?_
                    rintro e q2 ⟨Z2, rfl, M2, k2⟩
                    have L2 := Lib.hid M2; have A2 := Lib.hid (k2 _ _ A1.out); have G2 := Lib.hid (k2 _ _ G1.out)
                    clear HPU M2 k2 A1 G1 kx0 kx1 L1
                    have DN := down_any B q2 Z2 _ L2.out.at'
                    rw [L2.out.g] at DN
                    unfold ptr at DN
                    have HDN := Lib.hid DN
                    clear DN
                    go_wp2_with fail
                    refine HDN.out.mono ?_
                    rintro e q3 ⟨rfl, rfl⟩
                    clear HDN
                    have hgd : Good 900000 { DQ with down := true, crash := c } := Good.like (D' := { DQ with down := true, crash := c }) hQ.out.1 rfl rfl rfl rfl rfl rfl 900000 (by omega) (by have := hQ.out.1.bcalls; show DQ.calls + _ ≤ _; omega) hQ.out.1.ok.left
                    have RS := restart_good L2.out.at' hgd
                    rw [L2.out.g, er6] at RS
                    unfold ptr at RS
                    have HRS := Lib.hid (L2.out.call RS)
                    clear RS hgd
                    go_wp2_with fail
                    refine HRS.out.mono ?_
                    rintro e q4 ⟨Z4, rfl, M4, k4⟩
                    have L4 := Lib.hid M4; have A4 := Lib.hid (k4 _ _ A2.out); have G4 := Lib.hid (k4 _ _ G2.out)
                    clear HRS M4 k4 A2 G2 L2
                    have DN := down_any B q4 Z4 _ L4.out.at'
                    rw [L4.out.g, hu6.1] at DN
                    unfold ptr at DN
                    have HDN := Lib.hid DN
                    clear DN
                    go_wp2_with fail
                    refine HDN.out.mono ?_
                    rintro e q5 ⟨rfl, rfl⟩
                    clear HDN
                    have FI := Lib.hid (L4.out.files HG6.out)
                    unfold ptr at FI
                    go_wp2_with fail
                    refine FI.out.mono ?_
                    rintro e q6 ⟨v16, rfl, M6, h16, k6⟩
                    have L6 := Lib.hid M6; have A6 := Lib.hid (k6 _ _ A4.out); have G6 := Lib.hid (k6 _ _ G4.out); have N6 := Lib.hid h16
                    clear FI M6 h16 k6 A4 G4 L4
                    have E1 := Lib.hid (begins_yes q6 _ _ _ _ A6.out.row N6.out.row HB1.out (by rw [told_length]; have := hG4.out.ok.nnow; omega) (by rw [told_length]; have := HG6.out.ok.nnow; omega) (told_each hG4.out) (told_each HG6.out))
                    go_wp2_with fail
                    refine E1.out.mono ?_
                    rintro e q7 ⟨rfl, hb7⟩
                    have HB7 := Lib.hid hb7; have N7 := Lib.hid (N6.out.row.below hb7); have G7 := Lib.hid (G6.out.row.below hb7)
                    clear E1 hb7
                    have E2 := Lib.hid (begins_yes q7 _ _ _ _ N7.out G7.out HB2.out (by rw [told_length]; have := HG6.out.ok.nnow; omega) (by rw [told_length]; have := hQ.out.1.ok.nnow; omega) (told_each HG6.out) (told_each hQ.out.1))
                    go_wp2_with fail
                    refine E2.out.mono ?_
                    rintro e q8 ⟨rfl, hb8⟩
                    have HB8 := Lib.hid hb8
                    clear E2 hb8
                    go_wp2_with fail
                    refine (awake_any q8).mono ?_
                    rintro e q9 ⟨rfl, hb9⟩
                    have hfin : Below w.heap.size w q9 := by
                      have b1 := HW0.out.trans (L6.out.below.mono hBw)
                      have b2 := b1.trans (HB7.out.mono b1.size)
                      have b3 := b2.trans (HB8.out.mono b2.size)
                      exact b3.trans (hb9.mono b3.size)
                    have HFIN := Lib.hid hfin
                    clear hfin hb9
                    go_wp2
                    go_ret
                    exact ⟨rfl, HFIN.out⟩
end Go.Proofs.Ytcfdfpjemonhoaa.Dk
