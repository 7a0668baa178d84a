/-
  DiskDown's walk: a disk that is down does nothing until it is brought up.
-/
import Derived.Test.YtcfdfpjemonhoaaDkLive
namespace Go.Proofs.Ytcfdfpjemonhoaa.Dk
open Go.RowKit Go.Maps Go.WideMaps

theorem plan_list {D : Dk} (h : Up D) (c : Int × List Int) : ∃ D2, listN { D with left := 1, next := c } = (([], 8), D2) ∧ D2.down = true ∧ Still { D with left := 1, next := c } D2 ∧ D2.calls = ({ D with left := 1, next := c } : Dk).calls + 1 ∧ D2 = (count { D with left := 1, next := c }).2 := by
  have e : count { D with left := 1, next := c } = (8, { D with left := 0, next := c, calls := D.calls + 1, down := true, crash := c }) := by
    unfold count
    simp [h.1]
  refine ⟨_, ?_, ?_, ⟨?_, ?_, ?_, ?_⟩, ?_, rfl⟩
  · unfold listN; rw [e]; rfl
  all_goals rw [e]
theorem up_list {D : Dk} (h : Up D) : ∃ D2, listN D = ((names D2.now, 0), D2) ∧ D2 = (count D).2 := by
  refine ⟨_, ?_, rfl⟩
  unfold listN; rw [up_count h]; rfl

set_option maxHeartbeats 64000000 in
set_option maxRecDepth 100000 in
theorem down_law (w : World) (v0 v1 : Value) (l1 l2 : List OpX) (h1 : OpsAt w v0 l1) (h2 : OpsAt w v1 l2) (c : Int × List Int) (vk : Value) (hk : KeepAt w [] vk c.2) :
    Calls Try.prog 5 #[v0, v1, crashV c.1 vk] w fun e w' => e = .returned (.bool true) ∧ Below w.heap.size w w' := by
  obtain ⟨va, vcap, rfl, hkl, hkc⟩ := hk
  obtain ⟨w0, hw0⟩ : ∃ w0, w0 = w.alloc (.cells #[.int .i64 c.1, .slice va c.2.length vcap] 43) := ⟨_, rfl⟩
  obtain ⟨B, hB⟩ : ∃ B, B = w.heap.size + 1 := ⟨_, rfl⟩
  have hB0 : w0.heap.size = B := by rw [hw0, hB, one_size]
  have hW0 : Below w.heap.size w w0 := by rw [hw0]; exact (Below.refl _ _).alloc (Nat.le_refl _) _
  have hx : w0.heap[w.heap.size]? = some (.cells #[.int .i64 c.1, .slice va c.2.length vcap] 43) := by rw [hw0]; exact (MapKept.heap_alloc w _).1
  have hBx : w.heap.size < B := by omega
  have hBw : w.heap.size ≤ B := by omega
  have HX0 := Lib.hid (show w0.cell? ⟨w.heap.size, 0, none⟩ = some (.int .i64 c.1) from cell_of_heap hx)
  have HX1 := Lib.hid (show w0.cell? ⟨w.heap.size, 1, none⟩ = some (.slice va c.2.length vcap) from cell_of_heap hx)
  have hk0 : KeepAt w [] (.slice va c.2.length vcap) c.2 := ⟨va, vcap, rfl, hkl, hkc⟩
  have HK0 := Lib.hid (hk0.kept (w' := w0) (X' := []) hW0.size (fun b hb _ => hW0.block b hb) (fun _ _ x => x))
  have HKB : Hid (∀ (a : Addr) (n c' : Nat), Value.slice va c.2.length vcap = .slice (some a) n c' → c.2 ≠ [] → a.block < B) := Lib.hid (fun a n c' he hne => by
    obtain ⟨b, o, rfl, hlt, _⟩ := hkc hne
    injection he with he _ _
    injection he with he
    rw [← he]
    show b < B
    omega)
  have HO1 := Lib.hid (h1.below hW0)
  have HO2 := Lib.hid (h2.below hW0)
  obtain ⟨la, lc, rfl, hlm1, _⟩ := h1
  obtain ⟨ma, mc, rfl, hlm2, _⟩ := h2
  unfold maxLen at hlm1 hlm2
  have NC := Lib.hid (new_any 300 (by decide) (by decide) w0)
  have HW0 := Lib.hid hW0
  have HB0 := Lib.hid hB0
  unfold crashV
  rw [hw0] at NC
  clear hx hW0 hk0 hkc hB0
  go_enter Try.func5, Try.ntmps5
  go_wp2_with (go_at_call 6; refine NC.out.mono ?_; rintro e1 w1 ⟨Y0, rfl, d0, b1⟩; rw [← hw0] at d0 b1; have D0 := Lib.hid d0; have B1 := Lib.hid b1; clear d0 b1)
  have LS : Hid (Live B w0 Y0.g w1 Y0 (newDk 300)) := Lib.hid ⟨by rw [← HB0.out]; exact D0.out, rfl, by rw [← HB0.out]; exact B1.out, by rw [HB0.out]; exact Nat.le_refl _⟩
  clear D0 B1 NC hw0
  go_loopw [9] (fun s9 wr => ∃ (k : Nat) (Y : Lay) (D : Dk), k ≤ 40 ∧ k ≤ l1.length ∧ s9 = .int .i64 k ∧ Hid (Live B w0 Y0.g wr Y D) ∧ Hid (Good (1000000 - 2 * k) D ∧ Up D)) (fun s9 _ => 40 - (RowKit.intOf s9).toNat)
  case atStart => exact ⟨0, Y0, newDk 300, by omega, by omega, rfl, LS, Lib.hid ⟨good_new _ (by decide) (by decide), ⟨rfl, rfl⟩⟩⟩
  case round =>
    obtain ⟨k, Y, D, hk40, hkl1, rfl, L, hgU⟩ := hrel
    by_cases hkl' : k < l1.length ∧ k < 40
    · obtain ⟨hkl, hk40'⟩ := hkl'
      have hki : (k : Int) < (l1.length : Int) := by omega
      have hk4 : (k : Int) < 40 := by omega
      obtain ⟨y, hy⟩ : ∃ y, l1[k]? = some y := ⟨_, List.getElem?_eq_getElem hkl⟩
      have hym := List.mem_of_getElem? hy
      obtain ⟨a2, cc2, hv2, _, hcell2, hfit2⟩ := HO1.out
      injection hv2 with z1 z2 z3
      obtain ⟨b2, o2, rfl, hb2, hat2⟩ := hcell2 (List.ne_nil_of_mem hym)
      subst z1
      have hfy := hfit2 y hym
      have hyA := Lib.hid (hat2 k y hy)
      have hb2B : b2 < B := by have := HB0.out; omega
      have cy := fun (p : Nat) => L.out.below.cell (p := ⟨b2, o2 + k * 8 + p, none⟩) hb2B
      have y0 : wr.cell? ⟨b2, o2 + k * 8, none⟩ = some (.int .i64 y.kind) := (L.out.below.cell (p := ⟨b2, o2 + k * 8, none⟩) hb2B).trans hyA.out.c0
      have y1 : wr.cell? ⟨b2, o2 + k * 8 + 1, none⟩ = some (.string y.name) := (cy 1).trans hyA.out.c1
      have y2 : wr.cell? ⟨b2, o2 + k * 8 + 2, none⟩ = some (.string y.other) := (cy 2).trans hyA.out.c2
      have y3 : wr.cell? ⟨b2, o2 + k * 8 + 3, none⟩ = some (.string y.data) := (cy 3).trans hyA.out.c3
      have y4 : wr.cell? ⟨b2, o2 + k * 8 + 4, none⟩ = some (.int .i64 y.a) := (cy 4).trans hyA.out.c4
      have y5 : wr.cell? ⟨b2, o2 + k * 8 + 5, none⟩ = some (.int .i64 y.b) := (cy 5).trans hyA.out.c5
      have y6 : wr.cell? ⟨b2, o2 + k * 8 + 6, none⟩ = some (.int .i64 y.c) := (cy 6).trans hyA.out.c6
      have y7 : wr.cell? ⟨b2, o2 + k * 8 + 7, none⟩ = some (.slice y.ka y.kn y.kc) := (cy 7).trans hyA.out.c7
      have hgd := good_do (x := y.w) (hgU.out.1.le (show 1000000 - 2 * (k + 1) + 2 ≤ 1000000 - 2 * k by omega)) hfy.name hfy.other
      have hup := hgU.out.2.do y.w
      have DO := L.out.do (hgU.out.1.le (show 1000000 - 2 * (k + 1) + 2 ≤ 1000000 - 2 * k by omega)) y hfy
      unfold OpX.val ptr at DO
      have HDO := Lib.hid DO; have HGD := Lib.hid (And.intro hgd hup)
      clear DO hcell2 hat2 hy hym hfit2 z2 z3 cy hfy hgd hup hyA
      go_wp2_with fail
      refine HDO.out.mono ?_
      rintro e q1 ⟨Z1, rfl, M1, _⟩
      have L1 := Lib.hid M1
      clear HDO M1
      go_wp2
      go_roundw
      case rel => exact ⟨k + 1, Z1, _, by omega, by omega, by go_num, L1, HGD⟩
      case measure => simp [RowKit.intOf]; omega
    · by_cases ek : k < l1.length
      · have hx1 : (k : Int) < (l1.length : Int) := by omega
        have hx2 : ¬ (k : Int) < 40 := by omega
        have hUD := hgU.out.2
        obtain ⟨D1, hD1⟩ : ∃ D1 : Dk, D1 = { D with left := 1, next := c } := ⟨_, rfl⟩
        have hg1 : Good 999900 D1 := by rw [hD1]; exact Good.like (D' := { D with left := 1, next := c }) hgU.out.1 rfl rfl rfl rfl rfl rfl 999900 (by omega) (by have := hgU.out.1.bcalls; show D.calls + _ ≤ _; omega) (by show (1 : Nat) ≤ _; omega)
        obtain ⟨D2, el2, hd2, hst2, hcl2, hct2⟩ := plan_list hUD c
        rw [← hD1] at el2 hst2 hcl2 hct2
        have hG2 : Hid (Good (999898 + 1) D2) := Lib.hid (by rw [hct2]; exact good_count hg1)
        have HG1 := Lib.hid hg1
        have er2 : (restartN D2).1 = 0 := by unfold restartN; rw [hd2]; rfl
        have hup3 : Up (restartN D2).2 := by unfold restartN; rw [hd2]; exact ⟨rfl, rfl⟩
        have hd3 : (restartN D2).2.down = false := hup3.1
        have er3 : restartN (restartN D2).2 = (5, (restartN D2).2) := by
          have := hd3
          generalize (restartN D2).2 = E at this
          unfold restartN; rw [this]; rfl
        have hG3 : Hid (Good (999898 + 1) (restartN D2).2) := Lib.hid (good_restart hG2.out)
        obtain ⟨D4, el4, hct4⟩ := up_list hup3
        have hG4 : Hid (Good 999898 D4) := Lib.hid (by rw [hct4]; exact good_count hG3.out)
        have PL := L.out.call (L.out.g ▸ plan_one B wr Y D c (.slice va c.2.length vcap) (L.out.keep HK0.out (fun a n c' he hne => HKB.out a n c' he hne)) L.out.at')
        rw [← hD1] at PL
        unfold ptr crashV at PL
        have HPL := Lib.hid PL
        have kx0 : wr.cell? ⟨w.heap.size, 0, none⟩ = some (.int .i64 c.1) := (L.out.below.cell (p := ⟨w.heap.size, 0, none⟩) hBx).trans HX0.out
        have kx1 : wr.cell? ⟨w.heap.size, 1, none⟩ = some (.slice va c.2.length vcap) := (L.out.below.cell (p := ⟨w.heap.size, 1, none⟩) hBx).trans HX1.out
        clear PL hD1 hUD hg1
        go_wp2_with fail
        refine HPL.out.mono ?_
        rintro e w5 ⟨Y5, rfl, M5, _⟩
        have L5 := Lib.hid M5
        clear HPL M5 kx0 kx1
        have FI := Lib.hid (L5.out.files HG1.out)
        unfold ptr at FI
        go_wp2_with fail
        refine FI.out.mono ?_
        rintro e w6 ⟨vW, rfl, M6, h6, _⟩
        have L6 := Lib.hid M6; have A6 := Lib.hid h6
        clear FI M6 h6
        have CA := calls_any B w6 Y5 _ L6.out.at'
        rw [L6.out.g] at CA
        unfold ptr at CA
        have HCA := Lib.hid CA
        clear CA
        go_wp2_with fail
        refine HCA.out.mono ?_
        rintro e w7 ⟨rfl, rfl⟩
        clear HCA
        have LI := L6.out.list HG1.out
        rw [el2] at LI
        unfold ptr at LI
        have HLI := Lib.hid LI
        clear LI
        go_wp2_with fail
        refine HLI.out.mono ?_
        rintro e w8 ⟨Y8, vl8, rfl, M8, _, k8⟩
        have L8 := Lib.hid M8; have A8 := Lib.hid (k8 _ _ A6.out)
        clear HLI M8 k8 A6
        have DN := down_any B w8 Y8 _ L8.out.at'
        rw [L8.out.g, hd2] at DN
        unfold ptr at DN
        have HDN := Lib.hid DN
        clear DN
        go_wp2_with fail
        refine HDN.out.mono ?_
        rintro e w9 ⟨rfl, rfl⟩
        clear HDN
        have CA := calls_any B w9 Y8 _ L8.out.at'
        rw [L8.out.g, hcl2] at CA
        unfold ptr at CA
        have HCA := Lib.hid CA
        have hcb := HG1.out.bcalls
        obtain ⟨nc, hnc⟩ : ∃ nc, nc = D1.calls := ⟨_, rfl⟩
        have hwc : IntKind.i64.wrap ((D1.calls : Int) + 1) = (D1.calls : Int) + 1 := by rw [IntKind.wrap_i64]; omega
        have hcc : (((D1.calls + 1 : Nat) : Int)) = (D1.calls : Int) + 1 := by omega
        have kx0 : w9.cell? ⟨w.heap.size, 0, none⟩ = some (.int .i64 c.1) := (L8.out.below.cell (p := ⟨w.heap.size, 0, none⟩) hBx).trans HX0.out
        have kx1 : w9.cell? ⟨w.heap.size, 1, none⟩ = some (.slice va c.2.length vcap) := (L8.out.below.cell (p := ⟨w.heap.size, 1, none⟩) hBx).trans HX1.out
        clear CA
        go_wp2_with fail
        refine HCA.out.mono ?_
        rintro e w10 ⟨rfl, rfl⟩
        clear HCA
        have PU := L8.out.call (L8.out.g ▸ pull_any B w10 Y8 _ c (.slice va c.2.length vcap) (L8.out.keep HK0.out (fun a n c' he hne => HKB.out a n c' he hne)) L8.out.at')
        rw [down_pull hd2] at PU
        unfold ptr crashV at PU
        have HPU := Lib.hid PU
        clear PU
        go_wp2_with fail
        refine HPU.out.mono ?_
        rintro e w11 ⟨Y11, rfl, M11, k11⟩
        have L11 := Lib.hid M11; have A11 := Lib.hid (k11 _ _ A8.out)
        clear HPU M11 k11 A8 L8 kx0 kx1
        have CO := L11.out.call (L11.out.g ▸ corrupt_any B w11 Y11 _ ⟨#[97]⟩ ⟨#[]⟩ 0 sz1 (by unfold maxLen; decide) L11.out.at' hG2.out.ok)
        rw [down_corrupt hd2] at CO
        unfold ptr at CO
        have HCO := Lib.hid CO
        clear CO
        go_wp2_with fail
        refine HCO.out.mono ?_
        rintro e w12 ⟨Y12, rfl, M12, k12⟩
        have L12 := Lib.hid M12; have A12 := Lib.hid (k12 _ _ A11.out)
        obtain ⟨wa, wc, hvW, _⟩ := A12.out.row
        subst hvW
        clear HCO M12 k12 A11 L11
        go_wp2
        go_loopw [14] (fun s14 wr => ∃ (j : Nat) (Y' : Lay), j ≤ 40 ∧ j ≤ l2.length ∧ s14 = .int .i64 j ∧ Hid (Live B w0 Y0.g wr Y' D2) ∧ Hid (Has wr Y' (.slice wa (filesN D1).length wc) (filesN D1))) (fun s14 _ => 40 - (RowKit.intOf s14).toNat)
        case atStart => exact ⟨0, Y12, by omega, by omega, rfl, L12, A12⟩
        case round =>
          obtain ⟨j, YQ, hj40, hjl2, rfl, LQ, HAS⟩ := hrel
          by_cases hjl' : j < l2.length ∧ j < 40
          · obtain ⟨hjl, hj40'⟩ := hjl'
            have hji : (j : Int) < (l2.length : Int) := by omega
            have hj4 : (j : Int) < 40 := by omega
            obtain ⟨y, hy⟩ : ∃ y, l2[j]? = some y := ⟨_, List.getElem?_eq_getElem hjl⟩
            have hym := List.mem_of_getElem? hy
            obtain ⟨a2, cc2, hv2, _, hcell2, hfit2⟩ := HO2.out
            injection hv2 with z1 z2 z3
            obtain ⟨b2, o2, rfl, hb2, hat2⟩ := hcell2 (List.ne_nil_of_mem hym)
            subst z1
            have hfy := hfit2 y hym
            have hyA := Lib.hid (hat2 j y hy)
            have hb2B : b2 < B := by have := HB0.out; omega
            have cy := fun (p : Nat) => LQ.out.below.cell (p := ⟨b2, o2 + j * 8 + p, none⟩) hb2B
            have y0 : wr.cell? ⟨b2, o2 + j * 8, none⟩ = some (.int .i64 y.kind) := (LQ.out.below.cell (p := ⟨b2, o2 + j * 8, none⟩) hb2B).trans hyA.out.c0
            have y1 : wr.cell? ⟨b2, o2 + j * 8 + 1, none⟩ = some (.string y.name) := (cy 1).trans hyA.out.c1
            have y2 : wr.cell? ⟨b2, o2 + j * 8 + 2, none⟩ = some (.string y.other) := (cy 2).trans hyA.out.c2
            have y3 : wr.cell? ⟨b2, o2 + j * 8 + 3, none⟩ = some (.string y.data) := (cy 3).trans hyA.out.c3
            have y4 : wr.cell? ⟨b2, o2 + j * 8 + 4, none⟩ = some (.int .i64 y.a) := (cy 4).trans hyA.out.c4
            have y5 : wr.cell? ⟨b2, o2 + j * 8 + 5, none⟩ = some (.int .i64 y.b) := (cy 5).trans hyA.out.c5
            have y6 : wr.cell? ⟨b2, o2 + j * 8 + 6, none⟩ = some (.int .i64 y.c) := (cy 6).trans hyA.out.c6
            have y7 : wr.cell? ⟨b2, o2 + j * 8 + 7, none⟩ = some (.slice y.ka y.kn y.kc) := (cy 7).trans hyA.out.c7
            have HFY := Lib.hid hfy
            clear hcell2 hat2 hy hym hfit2 z2 z3 cy hfy
            have DO := LQ.out.do hG2.out y HFY.out
            rw [down_do hd2] at DO
            unfold OpX.val ptr at DO
            have HDO := Lib.hid DO
            clear DO
            go_wp2_with fail
            refine HDO.out.mono ?_
            rintro e q1 ⟨Z1, rfl, M1, k1⟩
            have L1 := Lib.hid M1; have A1 := Lib.hid (k1 _ _ HAS.out)
            have n1 : q1.cell? ⟨b2, o2 + j * 8 + 1, none⟩ = some (.string y.name) := (M1.below.cell (p := ⟨b2, o2 + j * 8 + 1, none⟩) hb2B).trans hyA.out.c1
            clear HDO M1 k1 y0 y1 y2 y3 y4 y5 y6 y7
            have RD := Lib.hid (L1.out.call (L1.out.g ▸ read_no B q1 Z1 _ _ y.name 0 0 8 HFY.out.name L1.out.at' hG2.out.ok (down_openF hd2 _) (by decide)))
            unfold ptr at RD
            go_wp2_with fail
            refine RD.out.mono ?_
            rintro e q2 ⟨Z2, rfl, M2, k2⟩
            have L2 := Lib.hid M2; have A2 := Lib.hid (k2 _ _ A1.out)
            have n2 : q2.cell? ⟨b2, o2 + j * 8 + 1, none⟩ = some (.string y.name) := (M2.below.cell (p := ⟨b2, o2 + j * 8 + 1, none⟩) hb2B).trans hyA.out.c1
            clear RD M2 k2 A1 L1 n1
            have SZ := L2.out.call (L2.out.g ▸ size_any B q2 Z2 _ y.name HFY.out.name L2.out.at' hG2.out.ok)
            rw [down_size hd2] at SZ
            unfold ptr at SZ
            have HSZ := Lib.hid SZ
            clear SZ
            go_wp2_with fail
            refine HSZ.out.mono ?_
            rintro e q3 ⟨Z3, rfl, M3, k3⟩
            have L3 := Lib.hid M3; have A3 := Lib.hid (k3 _ _ A2.out)
            have n3 : q3.cell? ⟨b2, o2 + j * 8 + 1, none⟩ = some (.string y.name) := (M3.below.cell (p := ⟨b2, o2 + j * 8 + 1, none⟩) hb2B).trans hyA.out.c1
            clear HSZ M3 k3 A2 L2 n2
            have SY := L3.out.call (L3.out.g ▸ sync_any B q3 Z3 _ y.name HFY.out.name L3.out.at' hG2.out.ok)
            rw [down_sync hd2] at SY
            unfold ptr at SY
            have HSY := Lib.hid SY
            clear SY
            go_wp2_with fail
            refine HSY.out.mono ?_
            rintro e q4 ⟨Z4, rfl, M4, k4⟩
            have L4 := Lib.hid M4; have A4 := Lib.hid (k4 _ _ A3.out)
            have n4 : q4.cell? ⟨b2, o2 + j * 8 + 1, none⟩ = some (.string y.name) := (M4.below.cell (p := ⟨b2, o2 + j * 8 + 1, none⟩) hb2B).trans hyA.out.c1
            clear HSY M4 k4 A3 L3 n3
            have SD := L4.out.call (L4.out.g ▸ syncDir_any B q4 Z4 _ L4.out.at' hG2.out.ok)
            rw [down_syncDir hd2] at SD
            unfold ptr at SD
            have HSD := Lib.hid SD
            clear SD
            go_wp2_with fail
            refine HSD.out.mono ?_
            rintro e q5 ⟨Z5, rfl, M5, k5⟩
            have L5 := Lib.hid M5; have A5 := Lib.hid (k5 _ _ A4.out)
            have n5 : q5.cell? ⟨b2, o2 + j * 8 + 1, none⟩ = some (.string y.name) := (M5.below.cell (p := ⟨b2, o2 + j * 8 + 1, none⟩) hb2B).trans hyA.out.c1
            clear HSD M5 k5 A4 L4 n4
            have CR := L5.out.call (L5.out.g ▸ create_any B q5 Z5 _ y.name HFY.out.name L5.out.at' hG2.out.ok (by have := hG2.out.bcalls; omega) (by have := hG2.out.bfiles; omega))
            rw [down_create hd2] at CR
            unfold ptr at CR
            have HCR := Lib.hid CR
            clear CR
            go_wp2_with fail
            refine HCR.out.mono ?_
            rintro e q6 ⟨Z6, rfl, M6, k6⟩
            have L6 := Lib.hid M6; have A6 := Lib.hid (k6 _ _ A5.out)
            clear HCR M6 k6 A5 L5 n5
            have FI := Lib.hid (L6.out.files hG2.out)
            unfold ptr at FI
            go_wp2_with fail
            refine FI.out.mono ?_
            rintro e q7 ⟨vf, rfl, M7, hf7, k7⟩
            have L7 := Lib.hid M7; have A7 := Lib.hid (k7 _ _ A6.out); have F7 := Lib.hid hf7
            clear FI M7 hf7 k7 A6 L6
            have FS := Lib.hid (files_yes q7 vf _ _ _ F7.out.row A7.out.row (by rw [still_files hst2]; exact same_refl _) (by rw [told_length]; have := hG2.out.ok.nnow; omega))
            go_wp2_with fail
            refine FS.out.mono ?_
            rintro e q8 ⟨rfl, hb8⟩
            have L8 : Hid (Live B w0 Y0.g q8 Z6 D2) := Lib.hid ⟨L7.out.at'.below hb8, L7.out.g, L7.out.below.trans (hb8.mono L7.out.size), L7.out.le⟩
            have A8 := Lib.hid (A7.out.below hb8)
            clear FS hb8 A7 L7
            have CA := calls_any B q8 Z6 _ L8.out.at'
            rw [L8.out.g, hcl2] at CA
            unfold ptr at CA
            have HCA := Lib.hid CA
            clear CA
            go_wp2_with fail
            refine HCA.out.mono ?_
            rintro e q9 ⟨rfl, rfl⟩
            clear HCA
            go_wp2
            go_roundw
            case rel => exact ⟨j + 1, Z6, by omega, by omega, by go_num, L8, A8⟩
            case measure => simp [RowKit.intOf]; omega
          · by_cases ej : j < l2.length
            · have hx1 : (j : Int) < (l2.length : Int) := by omega
              have hx2 : ¬ (j : Int) < 40 := by omega
              have RS := Lib.hid (LQ.out.call (by have := restart_good LQ.out.at' hG2.out; exact this))
              go_wp2_with fail
              rw [LQ.out.g] at RS
              unfold ptr at RS
              refine RS.out.mono ?_
              rintro e q1 ⟨Z1, rfl, M1, _⟩
              rw [er2]
              have L1 := Lib.hid M1
              clear RS M1
              have RS := restart_good L1.out.at' (good_restart hG2.out)
              rw [L1.out.g, er3] at RS
              unfold ptr at RS
              have HRS := Lib.hid (L1.out.call RS)
              clear RS
              go_wp2_with fail
              refine HRS.out.mono ?_
              rintro e q2 ⟨Z2, rfl, M2, _⟩
              have L2 := Lib.hid M2
              clear HRS M2
              have DN := down_any B q2 Z2 _ L2.out.at'
              rw [L2.out.g, hd3] at DN
              unfold ptr at DN
              have HDN := Lib.hid DN
              clear DN
              go_wp2_with fail
              refine HDN.out.mono ?_
              rintro e q3 ⟨rfl, rfl⟩
              clear HDN
              have LI := Lib.hid (L2.out.list hG3.out)
              rw [el4] at LI
              unfold ptr at LI
              go_wp2_with fail
              refine LI.out.mono ?_
              rintro e q4 ⟨Z4, vl, rfl, M4, _, _⟩
              have L4 := Lib.hid M4
              clear LI M4
              have F1 := Lib.hid (L4.out.files hG4.out)
              unfold ptr at F1
              go_wp2_with fail
              refine F1.out.mono ?_
              rintro e q5 ⟨va, rfl, M5, hA5, _⟩
              have L5 := Lib.hid M5; have A5 := Lib.hid hA5
              clear F1 M5 hA5
              have F2 := Lib.hid (L5.out.files hG4.out)
              unfold ptr at F2
              go_wp2_with fail
              refine F2.out.mono ?_
              rintro e q6 ⟨vb, rfl, M6, hB6, hk6'⟩
              have L6 := Lib.hid M6; have A6 := Lib.hid (hk6' _ _ A5.out); have B6 := Lib.hid hB6
              clear F2 M6 hB6 hk6' A5
              have BG := Lib.hid (begins_yes q6 va vb _ _ A6.out.row B6.out.row (fun t ht => ⟨t, ht, rfl, Nat.le_refl _, List.take_length⟩) (by rw [told_length]; have := hG4.out.ok.nnow; omega) (by rw [told_length]; have := hG4.out.ok.nnow; omega) (told_each hG4.out) (told_each hG4.out))
              go_wp2_with fail
              refine BG.out.mono ?_
              rintro e q7 ⟨rfl, hb7⟩
              have HB7 := Lib.hid hb7
              clear BG hb7
              go_wp2_with fail
              refine (awake_any q7).mono ?_
              rintro e q8 ⟨rfl, hb8⟩
              have hfin : Below w.heap.size w q8 := by
                have b1 := HW0.out.trans (L6.out.below.mono hBw)
                have b2 := b1.trans (HB7.out.mono b1.size)
                exact b2.trans (hb8.mono b2.size)
              have HFIN := Lib.hid hfin
              clear hfin hb8
              go_wp2
              go_ret
              exact ⟨rfl, HFIN.out⟩
            · have hx1 : ¬ (j : Int) < (l2.length : Int) := by omega
              have RS := Lib.hid (LQ.out.call (by have := restart_good LQ.out.at' hG2.out; exact this))
              go_wp2_with fail
              rw [LQ.out.g] at RS
              unfold ptr at RS
              refine RS.out.mono ?_
              rintro e q1 ⟨Z1, rfl, M1, _⟩
              rw [er2]
              have L1 := Lib.hid M1
              clear RS M1
              have RS := restart_good L1.out.at' (good_restart hG2.out)
              rw [L1.out.g, er3] at RS
              unfold ptr at RS
              have HRS := Lib.hid (L1.out.call RS)
              clear RS
              go_wp2_with fail
              refine HRS.out.mono ?_
              rintro e q2 ⟨Z2, rfl, M2, _⟩
              have L2 := Lib.hid M2
              clear HRS M2
              have DN := down_any B q2 Z2 _ L2.out.at'
              rw [L2.out.g, hd3] at DN
              unfold ptr at DN
              have HDN := Lib.hid DN
              clear DN
              go_wp2_with fail
              refine HDN.out.mono ?_
              rintro e q3 ⟨rfl, rfl⟩
              clear HDN
              have LI := Lib.hid (L2.out.list hG3.out)
              rw [el4] at LI
              unfold ptr at LI
              go_wp2_with fail
              refine LI.out.mono ?_
              rintro e q4 ⟨Z4, vl, rfl, M4, _, _⟩
              have L4 := Lib.hid M4
              clear LI M4
              have F1 := Lib.hid (L4.out.files hG4.out)
              unfold ptr at F1
              go_wp2_with fail
              refine F1.out.mono ?_
              rintro e q5 ⟨va, rfl, M5, hA5, _⟩
              have L5 := Lib.hid M5; have A5 := Lib.hid hA5
              clear F1 M5 hA5
              have F2 := Lib.hid (L5.out.files hG4.out)
              unfold ptr at F2
              go_wp2_with fail
              refine F2.out.mono ?_
              rintro e q6 ⟨vb, rfl, M6, hB6, hk6'⟩
              have L6 := Lib.hid M6; have A6 := Lib.hid (hk6' _ _ A5.out); have B6 := Lib.hid hB6
              clear F2 M6 hB6 hk6' A5
              have BG := Lib.hid (begins_yes q6 va vb _ _ A6.out.row B6.out.row (fun t ht => ⟨t, ht, rfl, Nat.le_refl _, List.take_length⟩) (by rw [told_length]; have := hG4.out.ok.nnow; omega) (by rw [told_length]; have := hG4.out.ok.nnow; omega) (told_each hG4.out) (told_each hG4.out))
              go_wp2_with fail
              refine BG.out.mono ?_
              rintro e q7 ⟨rfl, hb7⟩
              have HB7 := Lib.hid hb7
              clear BG hb7
              go_wp2_with fail
              refine (awake_any q7).mono ?_
              rintro e q8 ⟨rfl, hb8⟩
              have hfin : Below w.heap.size w q8 := by
                have b1 := HW0.out.trans (L6.out.below.mono hBw)
                have b2 := b1.trans (HB7.out.mono b1.size)
                exact b2.trans (hb8.mono b2.size)
              have HFIN := Lib.hid hfin
              clear hfin hb8
              go_wp2
              go_ret
              exact ⟨rfl, HFIN.out⟩
      · have hx1 : ¬ (k : Int) < (l1.length : Int) := by omega
        have hUD := hgU.out.2
        obtain ⟨D1, hD1⟩ : ∃ D1 : Dk, D1 = { D with left := 1, next := c } := ⟨_, rfl⟩
        have hg1 : Good 999900 D1 := by rw [hD1]; exact Good.like (D' := { D with left := 1, next := c }) hgU.out.1 rfl rfl rfl rfl rfl rfl 999900 (by omega) (by have := hgU.out.1.bcalls; show D.calls + _ ≤ _; omega) (by show (1 : Nat) ≤ _; omega)
        obtain ⟨D2, el2, hd2, hst2, hcl2, hct2⟩ := plan_list hUD c
        rw [← hD1] at el2 hst2 hcl2 hct2
        have hG2 : Hid (Good (999898 + 1) D2) := Lib.hid (by rw [hct2]; exact good_count hg1)
        have HG1 := Lib.hid hg1
        have er2 : (restartN D2).1 = 0 := by unfold restartN; rw [hd2]; rfl
        have hup3 : Up (restartN D2).2 := by unfold restartN; rw [hd2]; exact ⟨rfl, rfl⟩
        have hd3 : (restartN D2).2.down = false := hup3.1
        have er3 : restartN (restartN D2).2 = (5, (restartN D2).2) := by
          have := hd3
          generalize (restartN D2).2 = E at this
          unfold restartN; rw [this]; rfl
        have hG3 : Hid (Good (999898 + 1) (restartN D2).2) := Lib.hid (good_restart hG2.out)
        obtain ⟨D4, el4, hct4⟩ := up_list hup3
        have hG4 : Hid (Good 999898 D4) := Lib.hid (by rw [hct4]; exact good_count hG3.out)
        have PL := L.out.call (L.out.g ▸ plan_one B wr Y D c (.slice va c.2.length vcap) (L.out.keep HK0.out (fun a n c' he hne => HKB.out a n c' he hne)) L.out.at')
        rw [← hD1] at PL
        unfold ptr crashV at PL
        have HPL := Lib.hid PL
        have kx0 : wr.cell? ⟨w.heap.size, 0, none⟩ = some (.int .i64 c.1) := (L.out.below.cell (p := ⟨w.heap.size, 0, none⟩) hBx).trans HX0.out
        have kx1 : wr.cell? ⟨w.heap.size, 1, none⟩ = some (.slice va c.2.length vcap) := (L.out.below.cell (p := ⟨w.heap.size, 1, none⟩) hBx).trans HX1.out
        clear PL hD1 hUD hg1
        go_wp2_with fail
        refine HPL.out.mono ?_
        rintro e w5 ⟨Y5, rfl, M5, _⟩
        have L5 := Lib.hid M5
        clear HPL M5 kx0 kx1
        have FI := Lib.hid (L5.out.files HG1.out)
        unfold ptr at FI
        go_wp2_with fail
        refine FI.out.mono ?_
        rintro e w6 ⟨vW, rfl, M6, h6, _⟩
        have L6 := Lib.hid M6; have A6 := Lib.hid h6
        clear FI M6 h6
        have CA := calls_any B w6 Y5 _ L6.out.at'
        rw [L6.out.g] at CA
        unfold ptr at CA
        have HCA := Lib.hid CA
        clear CA
        go_wp2_with fail
        refine HCA.out.mono ?_
        rintro e w7 ⟨rfl, rfl⟩
        clear HCA
        have LI := L6.out.list HG1.out
        rw [el2] at LI
        unfold ptr at LI
        have HLI := Lib.hid LI
        clear LI
        go_wp2_with fail
        refine HLI.out.mono ?_
        rintro e w8 ⟨Y8, vl8, rfl, M8, _, k8⟩
        have L8 := Lib.hid M8; have A8 := Lib.hid (k8 _ _ A6.out)
        clear HLI M8 k8 A6
        have DN := down_any B w8 Y8 _ L8.out.at'
        rw [L8.out.g, hd2] at DN
        unfold ptr at DN
        have HDN := Lib.hid DN
        clear DN
        go_wp2_with fail
        refine HDN.out.mono ?_
        rintro e w9 ⟨rfl, rfl⟩
        clear HDN
        have CA := calls_any B w9 Y8 _ L8.out.at'
        rw [L8.out.g, hcl2] at CA
        unfold ptr at CA
        have HCA := Lib.hid CA
        have hcb := HG1.out.bcalls
        obtain ⟨nc, hnc⟩ : ∃ nc, nc = D1.calls := ⟨_, rfl⟩
        have hwc : IntKind.i64.wrap ((D1.calls : Int) + 1) = (D1.calls : Int) + 1 := by rw [IntKind.wrap_i64]; omega
        have hcc : (((D1.calls + 1 : Nat) : Int)) = (D1.calls : Int) + 1 := by omega
        have kx0 : w9.cell? ⟨w.heap.size, 0, none⟩ = some (.int .i64 c.1) := (L8.out.below.cell (p := ⟨w.heap.size, 0, none⟩) hBx).trans HX0.out
        have kx1 : w9.cell? ⟨w.heap.size, 1, none⟩ = some (.slice va c.2.length vcap) := (L8.out.below.cell (p := ⟨w.heap.size, 1, none⟩) hBx).trans HX1.out
        clear CA
        go_wp2_with fail
        refine HCA.out.mono ?_
        rintro e w10 ⟨rfl, rfl⟩
        clear HCA
        have PU := L8.out.call (L8.out.g ▸ pull_any B w10 Y8 _ c (.slice va c.2.length vcap) (L8.out.keep HK0.out (fun a n c' he hne => HKB.out a n c' he hne)) L8.out.at')
        rw [down_pull hd2] at PU
        unfold ptr crashV at PU
        have HPU := Lib.hid PU
        clear PU
        go_wp2_with fail
        refine HPU.out.mono ?_
        rintro e w11 ⟨Y11, rfl, M11, k11⟩
        have L11 := Lib.hid M11; have A11 := Lib.hid (k11 _ _ A8.out)
        clear HPU M11 k11 A8 L8 kx0 kx1
        have CO := L11.out.call (L11.out.g ▸ corrupt_any B w11 Y11 _ ⟨#[97]⟩ ⟨#[]⟩ 0 sz1 (by unfold maxLen; decide) L11.out.at' hG2.out.ok)
        rw [down_corrupt hd2] at CO
        unfold ptr at CO
        have HCO := Lib.hid CO
        clear CO
        go_wp2_with fail
        refine HCO.out.mono ?_
        rintro e w12 ⟨Y12, rfl, M12, k12⟩
        have L12 := Lib.hid M12; have A12 := Lib.hid (k12 _ _ A11.out)
        obtain ⟨wa, wc, hvW, _⟩ := A12.out.row
        subst hvW
        clear HCO M12 k12 A11 L11
        go_wp2
        go_loopw [14] (fun s14 wr => ∃ (j : Nat) (Y' : Lay), j ≤ 40 ∧ j ≤ l2.length ∧ s14 = .int .i64 j ∧ Hid (Live B w0 Y0.g wr Y' D2) ∧ Hid (Has wr Y' (.slice wa (filesN D1).length wc) (filesN D1))) (fun s14 _ => 40 - (RowKit.intOf s14).toNat)
        case atStart => exact ⟨0, Y12, by omega, by omega, rfl, L12, A12⟩
        case round =>
          obtain ⟨j, YQ, hj40, hjl2, rfl, LQ, HAS⟩ := hrel
          by_cases hjl' : j < l2.length ∧ j < 40
          · obtain ⟨hjl, hj40'⟩ := hjl'
            have hji : (j : Int) < (l2.length : Int) := by omega
            have hj4 : (j : Int) < 40 := by omega
            obtain ⟨y, hy⟩ : ∃ y, l2[j]? = some y := ⟨_, List.getElem?_eq_getElem hjl⟩
            have hym := List.mem_of_getElem? hy
            obtain ⟨a2, cc2, hv2, _, hcell2, hfit2⟩ := HO2.out
            injection hv2 with z1 z2 z3
            obtain ⟨b2, o2, rfl, hb2, hat2⟩ := hcell2 (List.ne_nil_of_mem hym)
            subst z1
            have hfy := hfit2 y hym
            have hyA := Lib.hid (hat2 j y hy)
            have hb2B : b2 < B := by have := HB0.out; omega
            have cy := fun (p : Nat) => LQ.out.below.cell (p := ⟨b2, o2 + j * 8 + p, none⟩) hb2B
            have y0 : wr.cell? ⟨b2, o2 + j * 8, none⟩ = some (.int .i64 y.kind) := (LQ.out.below.cell (p := ⟨b2, o2 + j * 8, none⟩) hb2B).trans hyA.out.c0
            have y1 : wr.cell? ⟨b2, o2 + j * 8 + 1, none⟩ = some (.string y.name) := (cy 1).trans hyA.out.c1
            have y2 : wr.cell? ⟨b2, o2 + j * 8 + 2, none⟩ = some (.string y.other) := (cy 2).trans hyA.out.c2
            have y3 : wr.cell? ⟨b2, o2 + j * 8 + 3, none⟩ = some (.string y.data) := (cy 3).trans hyA.out.c3
            have y4 : wr.cell? ⟨b2, o2 + j * 8 + 4, none⟩ = some (.int .i64 y.a) := (cy 4).trans hyA.out.c4
            have y5 : wr.cell? ⟨b2, o2 + j * 8 + 5, none⟩ = some (.int .i64 y.b) := (cy 5).trans hyA.out.c5
            have y6 : wr.cell? ⟨b2, o2 + j * 8 + 6, none⟩ = some (.int .i64 y.c) := (cy 6).trans hyA.out.c6
            have y7 : wr.cell? ⟨b2, o2 + j * 8 + 7, none⟩ = some (.slice y.ka y.kn y.kc) := (cy 7).trans hyA.out.c7
            have HFY := Lib.hid hfy
            clear hcell2 hat2 hy hym hfit2 z2 z3 cy hfy
            have DO := LQ.out.do hG2.out y HFY.out
            rw [down_do hd2] at DO
            unfold OpX.val ptr at DO
            have HDO := Lib.hid DO
            clear DO
            go_wp2_with fail
            refine HDO.out.mono ?_
            rintro e q1 ⟨Z1, rfl, M1, k1⟩
            have L1 := Lib.hid M1; have A1 := Lib.hid (k1 _ _ HAS.out)
            have n1 : q1.cell? ⟨b2, o2 + j * 8 + 1, none⟩ = some (.string y.name) := (M1.below.cell (p := ⟨b2, o2 + j * 8 + 1, none⟩) hb2B).trans hyA.out.c1
            clear HDO M1 k1 y0 y1 y2 y3 y4 y5 y6 y7
            have RD := Lib.hid (L1.out.call (L1.out.g ▸ read_no B q1 Z1 _ _ y.name 0 0 8 HFY.out.name L1.out.at' hG2.out.ok (down_openF hd2 _) (by decide)))
            unfold ptr at RD
            go_wp2_with fail
            refine RD.out.mono ?_
            rintro e q2 ⟨Z2, rfl, M2, k2⟩
            have L2 := Lib.hid M2; have A2 := Lib.hid (k2 _ _ A1.out)
            have n2 : q2.cell? ⟨b2, o2 + j * 8 + 1, none⟩ = some (.string y.name) := (M2.below.cell (p := ⟨b2, o2 + j * 8 + 1, none⟩) hb2B).trans hyA.out.c1
            clear RD M2 k2 A1 L1 n1
            have SZ := L2.out.call (L2.out.g ▸ size_any B q2 Z2 _ y.name HFY.out.name L2.out.at' hG2.out.ok)
            rw [down_size hd2] at SZ
            unfold ptr at SZ
            have HSZ := Lib.hid SZ
            clear SZ
            go_wp2_with fail
            refine HSZ.out.mono ?_
            rintro e q3 ⟨Z3, rfl, M3, k3⟩
            have L3 := Lib.hid M3; have A3 := Lib.hid (k3 _ _ A2.out)
            have n3 : q3.cell? ⟨b2, o2 + j * 8 + 1, none⟩ = some (.string y.name) := (M3.below.cell (p := ⟨b2, o2 + j * 8 + 1, none⟩) hb2B).trans hyA.out.c1
            clear HSZ M3 k3 A2 L2 n2
            have SY := L3.out.call (L3.out.g ▸ sync_any B q3 Z3 _ y.name HFY.out.name L3.out.at' hG2.out.ok)
            rw [down_sync hd2] at SY
            unfold ptr at SY
            have HSY := Lib.hid SY
            clear SY
            go_wp2_with fail
            refine HSY.out.mono ?_
            rintro e q4 ⟨Z4, rfl, M4, k4⟩
            have L4 := Lib.hid M4; have A4 := Lib.hid (k4 _ _ A3.out)
            have n4 : q4.cell? ⟨b2, o2 + j * 8 + 1, none⟩ = some (.string y.name) := (M4.below.cell (p := ⟨b2, o2 + j * 8 + 1, none⟩) hb2B).trans hyA.out.c1
            clear HSY M4 k4 A3 L3 n3
            have SD := L4.out.call (L4.out.g ▸ syncDir_any B q4 Z4 _ L4.out.at' hG2.out.ok)
            rw [down_syncDir hd2] at SD
            unfold ptr at SD
            have HSD := Lib.hid SD
            clear SD
            go_wp2_with fail
            refine HSD.out.mono ?_
            rintro e q5 ⟨Z5, rfl, M5, k5⟩
            have L5 := Lib.hid M5; have A5 := Lib.hid (k5 _ _ A4.out)
            have n5 : q5.cell? ⟨b2, o2 + j * 8 + 1, none⟩ = some (.string y.name) := (M5.below.cell (p := ⟨b2, o2 + j * 8 + 1, none⟩) hb2B).trans hyA.out.c1
            clear HSD M5 k5 A4 L4 n4
            have CR := L5.out.call (L5.out.g ▸ create_any B q5 Z5 _ y.name HFY.out.name L5.out.at' hG2.out.ok (by have := hG2.out.bcalls; omega) (by have := hG2.out.bfiles; omega))
            rw [down_create hd2] at CR
            unfold ptr at CR
            have HCR := Lib.hid CR
            clear CR
            go_wp2_with fail
            refine HCR.out.mono ?_
            rintro e q6 ⟨Z6, rfl, M6, k6⟩
            have L6 := Lib.hid M6; have A6 := Lib.hid (k6 _ _ A5.out)
            clear HCR M6 k6 A5 L5 n5
            have FI := Lib.hid (L6.out.files hG2.out)
            unfold ptr at FI
            go_wp2_with fail
            refine FI.out.mono ?_
            rintro e q7 ⟨vf, rfl, M7, hf7, k7⟩
            have L7 := Lib.hid M7; have A7 := Lib.hid (k7 _ _ A6.out); have F7 := Lib.hid hf7
            clear FI M7 hf7 k7 A6 L6
            have FS := Lib.hid (files_yes q7 vf _ _ _ F7.out.row A7.out.row (by rw [still_files hst2]; exact same_refl _) (by rw [told_length]; have := hG2.out.ok.nnow; omega))
            go_wp2_with fail
            refine FS.out.mono ?_
            rintro e q8 ⟨rfl, hb8⟩
            have L8 : Hid (Live B w0 Y0.g q8 Z6 D2) := Lib.hid ⟨L7.out.at'.below hb8, L7.out.g, L7.out.below.trans (hb8.mono L7.out.size), L7.out.le⟩
            have A8 := Lib.hid (A7.out.below hb8)
            clear FS hb8 A7 L7
            have CA := calls_any B q8 Z6 _ L8.out.at'
            rw [L8.out.g, hcl2] at CA
            unfold ptr at CA
            have HCA := Lib.hid CA
            clear CA
            go_wp2_with fail
            refine HCA.out.mono ?_
            rintro e q9 ⟨rfl, rfl⟩
            clear HCA
            go_wp2
            go_roundw
            case rel => exact ⟨j + 1, Z6, by omega, by omega, by go_num, L8, A8⟩
            case measure => simp [RowKit.intOf]; omega
          · by_cases ej : j < l2.length
            · have hx1 : (j : Int) < (l2.length : Int) := by omega
              have hx2 : ¬ (j : Int) < 40 := by omega
              have RS := Lib.hid (LQ.out.call (by have := restart_good LQ.out.at' hG2.out; exact this))
              go_wp2_with fail
              rw [LQ.out.g] at RS
              unfold ptr at RS
              refine RS.out.mono ?_
              rintro e q1 ⟨Z1, rfl, M1, _⟩
              rw [er2]
              have L1 := Lib.hid M1
              clear RS M1
              have RS := restart_good L1.out.at' (good_restart hG2.out)
              rw [L1.out.g, er3] at RS
              unfold ptr at RS
              have HRS := Lib.hid (L1.out.call RS)
              clear RS
              go_wp2_with fail
              refine HRS.out.mono ?_
              rintro e q2 ⟨Z2, rfl, M2, _⟩
              have L2 := Lib.hid M2
              clear HRS M2
              have DN := down_any B q2 Z2 _ L2.out.at'
              rw [L2.out.g, hd3] at DN
              unfold ptr at DN
              have HDN := Lib.hid DN
              clear DN
              go_wp2_with fail
              refine HDN.out.mono ?_
              rintro e q3 ⟨rfl, rfl⟩
              clear HDN
              have LI := Lib.hid (L2.out.list hG3.out)
              rw [el4] at LI
              unfold ptr at LI
              go_wp2_with fail
              refine LI.out.mono ?_
              rintro e q4 ⟨Z4, vl, rfl, M4, _, _⟩
              have L4 := Lib.hid M4
              clear LI M4
              have F1 := Lib.hid (L4.out.files hG4.out)
              unfold ptr at F1
              go_wp2_with fail
              refine F1.out.mono ?_
              rintro e q5 ⟨va, rfl, M5, hA5, _⟩
              have L5 := Lib.hid M5; have A5 := Lib.hid hA5
              clear F1 M5 hA5
              have F2 := Lib.hid (L5.out.files hG4.out)
              unfold ptr at F2
              go_wp2_with fail
              refine F2.out.mono ?_
              rintro e q6 ⟨vb, rfl, M6, hB6, hk6'⟩
              have L6 := Lib.hid M6; have A6 := Lib.hid (hk6' _ _ A5.out); have B6 := Lib.hid hB6
              clear F2 M6 hB6 hk6' A5
              have BG := Lib.hid (begins_yes q6 va vb _ _ A6.out.row B6.out.row (fun t ht => ⟨t, ht, rfl, Nat.le_refl _, List.take_length⟩) (by rw [told_length]; have := hG4.out.ok.nnow; omega) (by rw [told_length]; have := hG4.out.ok.nnow; omega) (told_each hG4.out) (told_each hG4.out))
              go_wp2_with fail
              refine BG.out.mono ?_
              rintro e q7 ⟨rfl, hb7⟩
              have HB7 := Lib.hid hb7
              clear BG hb7
              go_wp2_with fail
              refine (awake_any q7).mono ?_
              rintro e q8 ⟨rfl, hb8⟩
              have hfin : Below w.heap.size w q8 := by
                have b1 := HW0.out.trans (L6.out.below.mono hBw)
                have b2 := b1.trans (HB7.out.mono b1.size)
                exact b2.trans (hb8.mono b2.size)
              have HFIN := Lib.hid hfin
              clear hfin hb8
              go_wp2
              go_ret
              exact ⟨rfl, HFIN.out⟩
            · have hx1 : ¬ (j : Int) < (l2.length : Int) := by omega
              have RS := Lib.hid (LQ.out.call (by have := restart_good LQ.out.at' hG2.out; exact this))
              go_wp2_with fail
              rw [LQ.out.g] at RS
              unfold ptr at RS
              refine RS.out.mono ?_
              rintro e q1 ⟨Z1, rfl, M1, _⟩
              rw [er2]
              have L1 := Lib.hid M1
              clear RS M1
              have RS := restart_good L1.out.at' (good_restart hG2.out)
              rw [L1.out.g, er3] at RS
              unfold ptr at RS
              have HRS := Lib.hid (L1.out.call RS)
              clear RS
              go_wp2_with fail
              refine HRS.out.mono ?_
              rintro e q2 ⟨Z2, rfl, M2, _⟩
              have L2 := Lib.hid M2
              clear HRS M2
              have DN := down_any B q2 Z2 _ L2.out.at'
              rw [L2.out.g, hd3] at DN
              unfold ptr at DN
              have HDN := Lib.hid DN
              clear DN
              go_wp2_with fail
              refine HDN.out.mono ?_
              rintro e q3 ⟨rfl, rfl⟩
              clear HDN
              have LI := Lib.hid (L2.out.list hG3.out)
              rw [el4] at LI
              unfold ptr at LI
              go_wp2_with fail
              refine LI.out.mono ?_
              rintro e q4 ⟨Z4, vl, rfl, M4, _, _⟩
              have L4 := Lib.hid M4
              clear LI M4
              have F1 := Lib.hid (L4.out.files hG4.out)
              unfold ptr at F1
              go_wp2_with fail
              refine F1.out.mono ?_
              rintro e q5 ⟨va, rfl, M5, hA5, _⟩
              have L5 := Lib.hid M5; have A5 := Lib.hid hA5
              clear F1 M5 hA5
              have F2 := Lib.hid (L5.out.files hG4.out)
              unfold ptr at F2
              go_wp2_with fail
              refine F2.out.mono ?_
              rintro e q6 ⟨vb, rfl, M6, hB6, hk6'⟩
              have L6 := Lib.hid M6; have A6 := Lib.hid (hk6' _ _ A5.out); have B6 := Lib.hid hB6
              clear F2 M6 hB6 hk6' A5
              have BG := Lib.hid (begins_yes q6 va vb _ _ A6.out.row B6.out.row (fun t ht => ⟨t, ht, rfl, Nat.le_refl _, List.take_length⟩) (by rw [told_length]; have := hG4.out.ok.nnow; omega) (by rw [told_length]; have := hG4.out.ok.nnow; omega) (told_each hG4.out) (told_each hG4.out))
              go_wp2_with fail
              refine BG.out.mono ?_
              rintro e q7 ⟨rfl, hb7⟩
              have HB7 := Lib.hid hb7
              clear BG hb7
              go_wp2_with fail
              refine (awake_any q7).mono ?_
              rintro e q8 ⟨rfl, hb8⟩
              have hfin : Below w.heap.size w q8 := by
                have b1 := HW0.out.trans (L6.out.below.mono hBw)
                have b2 := b1.trans (HB7.out.mono b1.size)
                exact b2.trans (hb8.mono b2.size)
              have HFIN := Lib.hid hfin
              clear hfin hb8
              go_wp2
              go_ret
              exact ⟨rfl, HFIN.out⟩
end Go.Proofs.Ytcfdfpjemonhoaa.Dk
