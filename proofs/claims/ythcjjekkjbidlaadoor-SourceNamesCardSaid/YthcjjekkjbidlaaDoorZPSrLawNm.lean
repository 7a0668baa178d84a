import Derived.Test.YthcjjekkjbidlaaDoorZPSrNmOk
import Derived.Test.YthcjjekkjbidlaaDoorZPSrNil
import Derived.Test.YthcjjekkjbidlaaDoorZPSrHonSt
set_option linter.unusedSimpArgs false
set_option linter.unusedVariables false
/-
  The law of SourceNames: a full folder, the deepest path, no tree.
-/
namespace Go.Proofs.YthcjjekkjbidlaaDoor.Sr
open Go.RowKit Go.Maps Go.WideMaps Go.Proofs.YthcjjekkjbidlaaDoor.Rf Go.Proofs.YthcjjekkjbidlaaDoor.Nm Go.Proofs.YthcjjekkjbidlaaDoor.St

theorem ck {k : Nat} {o : VOp × Int} (h : ops[k]? = some o) : verr o.1 (vat k) = o.2 := vchk_at ops_ok h
theorem op1 {i : Nat} (h : i < 256) : ops[i]? = some (.add [nmI i] 1, 0) := by
  rw [ops, List.getElem?_append_left (by simp; omega), List.getElem?_append_left (by simp; omega), List.getElem?_append_left (by simp; omega), List.getElem?_map, List.getElem?_range h]; rfl
theorem op2 {i : Nat} (h : i < 15) : ops[260 + i]? = some (.add (List.replicate (i + 2) [120]) 2, 0) := by
  rw [ops, List.getElem?_append_left (by simp; omega), List.getElem?_append_right (by simp)]
  have : 260 + i - ((List.range 256).map (fun i => ((VOp.add [nmI i] 1, 0) : VOp × Int)) ++ [(VOp.add [[122, 122]] 1, 3), (VOp.move [[97, 97]] [[122, 122]], 0), (VOp.drop [[97, 98]], 0), (VOp.add [[120]] 2, 0)]).length = i := by simp
  rw [this, List.getElem?_map, List.getElem?_range h]; rfl
def px (k : Nat) : List UInt8 := pathOf (List.replicate k [120])
theorem px_succ (k : Nat) : (⟨(px k).toArray⟩ : ByteArray) ++ ⟨#[47, 120]⟩ = ⟨(px (k + 1)).toArray⟩ := by
  apply Go.Proofs.YthcjjekkjbidlaaDoor.Rd.ba_ext
  simp [px, pathOf, List.replicate_succ', List.flatMap_append]
theorem sp1 : (List.range 256).all (fun i => decide (splitP (47 :: nmI i) = some [nmI i])) = true := by decide +kernel
theorem sp2 : (List.range 17).all (fun i => i == 0 || decide (splitP (px i) = some (List.replicate i [120]))) = true := by decide +kernel
theorem split_one {p : List UInt8} {l : PN} (h : splitP p = some l) : splitE p = 0 ∧ splitL p = l := by
  rw [splitE, splitL, h]; exact ⟨rfl, rfl⟩
theorem path1 {i : Nat} (h : i < 256) : splitE (47 :: nmI i) = 0 ∧ splitL (47 :: nmI i) = [nmI i] := by
  have := List.all_eq_true.1 sp1 i (List.mem_range.2 h)
  exact split_one (of_decide_eq_true this)
theorem path2 {i : Nat} (h : i < 17) (h0 : i ≠ 0) : splitE (px i) = 0 ∧ splitL (px i) = List.replicate i [120] := by
  have := List.all_eq_true.1 sp2 i (List.mem_range.2 h)
  rw [Bool.or_eq_true] at this
  refine split_one (of_decide_eq_true (this.resolve_left ?_))
  simpa using h0
theorem path17 : splitE (px 17) = 10 := by decide +kernel
theorem px_len {k : Nat} : (px k).length = 2 * k := by
  simp [px, pathOf, List.length_flatMap]; omega
theorem u8_of {x : Nat} (h : x < 256) : (((UInt8.ofNat x).toNat : Nat) : Int) = x := by rw [UInt8.toNat_ofNat_of_lt' (by show x < 256; exact h)]
theorem nmI_cells {i : Nat} (h : i < 256) : (#[Value.int .u8 (97 + (i : Int) / 16), Value.int .u8 (97 + (i : Int) % 16)] : Array Value) = (Lib.byteCells (nmI i)).toArray := by
  have h1 : (97 + UInt8.ofNat (i / 16)) = UInt8.ofNat (97 + i / 16) := by
    apply UInt8.toNat_inj.1
    rw [UInt8.toNat_add, UInt8.toNat_ofNat_of_lt' (by show i / 16 < 256; omega), UInt8.toNat_ofNat_of_lt' (by show 97 + i / 16 < 256; omega)]
    show (97 + i / 16) % 256 = _; omega
  have h2 : (97 + UInt8.ofNat (i % 16)) = UInt8.ofNat (97 + i % 16) := by
    apply UInt8.toNat_inj.1
    rw [UInt8.toNat_add, UInt8.toNat_ofNat_of_lt' (by show i % 16 < 256; omega), UInt8.toNat_ofNat_of_lt' (by show 97 + i % 16 < 256; omega)]
    show (97 + i % 16) % 256 = _; omega
  rw [nmI, h1, h2]
  simp only [Lib.byteCells, List.map_cons, List.map_nil]
  rw [u8_of (by omega), u8_of (by omega)]
  have e1 : ((97 + i / 16 : Nat) : Int) = 97 + (i : Int) / 16 := by omega
  have e2 : ((97 + i % 16 : Nat) : Int) = 97 + (i : Int) % 16 := by omega
  rw [e1, e2]
theorem conv2 (w : World) {i : Nat} (h : i < 256) : (convert 38 9 (.slice (some ⟨w.heap.size, 0, none⟩) 2 2)).run Tryd.prog (w.alloc (.cells #[.int .u8 (97 + (i : Int) / 16), .int .u8 (97 + (i : Int) % 16)] 5)) = .ok (.string ⟨(nmI i).toArray⟩) (w.alloc (.cells #[.int .u8 (97 + (i : Int) / 16), .int .u8 (97 + (i : Int) % 16)] 5)) := by
  refine run_convert_bytes_back _ _ _ 5 ⟨w.heap.size, 0, none⟩ 2 (nmI i) Tryd.underlying38 Tryd.underlying5 Tryd.underlying9 (fun j hj => ?_)
  rw [nmI_cells h, Addr.add_lit]
  have h2 := range_block (MapKept.heap_alloc w (.cells (Lib.byteCells (nmI i)).toArray 5)).1
  exact h2 j _ (by rw [Lib.byteCells, List.getElem?_map, List.getElem?_eq_getElem hj]; rfl)
theorem slash (i : Nat) : (⟨#[47]⟩ : ByteArray) ++ ⟨(nmI i).toArray⟩ = ⟨(47 :: nmI i).toArray⟩ := by
  apply Go.Proofs.YthcjjekkjbidlaaDoor.Rd.ba_ext; simp
theorem mk_gen (w : World) (g : Nat) (hg : g ≤ 1099511627776) : ∃ (W : World) (D : List UInt8), (Instr.makeSlice 38 (.int .i64 (g : Int)) (.int .i64 (g : Int))).run Tryd.prog w = .ok (.slice (some ⟨w.heap.size, 0, none⟩) g g) W ∧ Below w.heap.size w W ∧ D.length = g ∧
    (convert 38 9 (.slice (some ⟨w.heap.size, 0, none⟩) g g)).run Tryd.prog W = .ok (.string ⟨D.toArray⟩) W := by
  have hm := run_make_row' (P := Tryd.prog) 38 5 (.int .u8 0) 1 Tryd.underlying38 (by kernel_rfl) rfl .i64 .i64 g (by omega) (by omega) w
  have hz : madeCells #[.int .u8 0] g = (Lib.byteCells (List.replicate g 0)).toArray := by
    apply Array.ext
    · simp [size_madeCells, Lib.byteCells_length]
    · intro j h1 h2
      simp [madeCells, Lib.byteCells, Nat.mod_one]
  rw [hz] at hm
  refine ⟨_, List.replicate g 0, hm, (Below.refl _ _).alloc (Nat.le_refl _) _, by simp, ?_⟩
  have h2 := range_block (MapKept.heap_alloc w (.cells (Lib.byteCells (List.replicate g 0)).toArray 5)).1
  have h3 := run_convert_bytes_back (w.alloc (.cells (Lib.byteCells (List.replicate g 0)).toArray 5)) 38 9 5 ⟨w.heap.size, 0, none⟩ g (List.replicate g 0) Tryd.underlying38 Tryd.underlying5 Tryd.underlying9 (fun j hj => by
    rw [Addr.add_lit]
    exact h2 j _ (by rw [Lib.byteCells, List.getElem?_map, List.getElem?_eq_getElem hj]; rfl))
  rw [List.length_replicate] at h3
  exact h3
theorem mk_big (w : World) : ∃ (W : World) (D : List UInt8), (Instr.makeSlice 38 (.int .i64 1048577) (.int .i64 1048577)).run Tryd.prog w = .ok (.slice (some ⟨w.heap.size, 0, none⟩) 1048577 1048577) W ∧ Below w.heap.size w W ∧ D.length = 1048577 ∧
    (convert 38 9 (.slice (some ⟨w.heap.size, 0, none⟩) 1048577 1048577)).run Tryd.prog W = .ok (.string ⟨D.toArray⟩) W := mk_gen w 1048577 (by omega)
theorem nm_start {w w1 : World} {r p m : Nat} (h : TreeAt w.heap.size w1 r (newT p m)) (hb : Below w.heap.size w w1) : NmSt w w1 r 0 (fun _ _ => False) := ⟨_, h, rfl, hb, good_new p m, fun _ _ h => h.elim⟩

set_option linter.unusedSimpArgs false in
set_option maxHeartbeats 16000000 in
set_option maxRecDepth 100000 in
theorem closed_law (w : World) : Calls Tryd.prog 3 #[] w fun e w' => e = .returned (.bool true) ∧ Below w.heap.size w w' := by
  have N1 := Lib.hid (nil_stat w ⟨#[47]⟩)
  go_enter Tryd.func3, Tryd.ntmps3
  go_wp2_with fail
  refine N1.out.mono ?_
  rintro ex w1 ⟨rfl, hb1⟩
  have HB1 := Lib.hid hb1
  clear hb1 N1
  go_wp2_with (first
    | (refine Sh.wpList_store_new rfl rfl 25 (.tmp 2) (.tmp 15) rfl #[.int .u8 0, .int .i64 0, .int .u64 0, .int .i64 0] rfl rfl infoSt rfl (oneSt _ _ _ _ rfl rfl rfl rfl) ?_
       intro w2 hq2 hb2 hs2
       have HB2 := Lib.hid (HB1.out.trans (hb2.mono HB1.out.size))
       clear hq2 hb2 hs2)
    | fail)
  have N2 := Lib.hid (nil_read w2 ⟨#[47]⟩)
  refine N2.out.mono ?_
  rintro ex w3 ⟨rfl, hb3⟩
  have HB3 := Lib.hid (HB2.out.trans (hb3.mono HB2.out.size))
  have N3 := Lib.hid (nil_drop w3 ⟨#[47, 97]⟩)
  clear hb3 N2 HB1 HB2
  go_wp2_with fail
  refine N3.out.mono ?_
  rintro ex w4 ⟨rfl, hb4⟩
  have HB4 := Lib.hid (HB3.out.trans (hb4.mono HB3.out.size))
  have N4 := Lib.hid (nil_now w4)
  clear hb4 N3 HB3
  go_wp2_with fail
  refine N4.out.mono ?_
  rintro ex w5 ⟨rfl, hb5⟩
  have HB5 := Lib.hid (HB4.out.trans (hb5.mono HB4.out.size))
  have N5 := Lib.hid (nil_reads w5)
  clear hb5 N4 HB4
  go_wp2_with fail
  refine N5.out.mono ?_
  rintro ex w6 ⟨rfl, hb6⟩
  have HB6 := Lib.hid (HB5.out.trans (hb6.mono HB5.out.size))
  have N6 := Lib.hid (nil_value w6)
  clear hb6 N5 HB5
  go_wp2_with fail
  refine N6.out.mono ?_
  rintro ex w7 ⟨rfl, hb7⟩
  have HB7 := Lib.hid (HB6.out.trans (hb7.mono HB6.out.size))
  have N7 := Lib.hid (nil_twin w7)
  clear hb7 N6 HB6
  go_wp2_with fail
  refine N7.out.mono ?_
  rintro ex w8 ⟨rfl, hb8⟩
  have HB8 := Lib.hid (HB7.out.trans (hb8.mono HB7.out.size))
  have TN := Lib.hid (tree_new w8)
  clear hb8 N7 HB7
  go_wp2_with fail
  refine TN.out.mono ?_
  rintro ex w9 ⟨r, p, m, rfl, ht9, hb9⟩
  have HS9 := Lib.hid (nm_start (ht9.mono HB8.out.size) (HB8.out.trans (hb9.mono HB8.out.size)))
  clear ht9 hb9 TN HB8
  unfold ptr
  go_wp2
  go_loopw [7] (fun v7 wr => ∃ i : Nat, i ≤ 256 ∧ v7 = .int .i64 (i : Int) ∧ Hid (NmSt w wr r i (fun _ _ => False))) (fun v7 _ => 256 - (RowKit.intOf v7).toNat)
  case atStart => exact ⟨0, by omega, rfl, HS9⟩
  case round =>
    obtain ⟨i, hi, rfl, HS⟩ := hrel
    clear HS9
    by_cases hil : (i : Int) < 256
    · have hi2 : i < 256 := by omega
      have hcv := conv2 wr hi2
      have HS1 := Lib.hid (HS.out.below ((Below.refl wr.heap.size wr).alloc (Nat.le_refl _) (.cells #[.int .u8 (97 + (i : Int) / 16), .int .u8 (97 + (i : Int) % 16)] 5)))
      have hsl := slash i
      have FL := HS1.out.file ck (op1 hi2) (path1 hi2).1 (path1 hi2).2 (by simp [nmI]) (by omega)
      have FL := Lib.hid FL
      unfold ptr at FL
      go_wp2_with fail
      refine FL.out.mono ?_
      rintro ex wb ⟨rfl, hsb⟩
      have HSB := Lib.hid hsb
      clear hsb FL HS1 HS hcv hsl
      go_wp2
      refine ⟨⟨i + 1, by omega, by push_cast; rfl, HSB⟩, ?_⟩
      show 256 - ((i : Int) + 1).toNat < 256 - ((i : Int)).toNat
      omega
    · have hie : i = 256 := by omega
      subst hie
      have CA1 := Lib.hid (HS.out.file ck (show ops[256]? = some (.add [[122, 122]] 1, 3) by kernel_rfl) (split_one (show splitP [47, 122, 122] = some [[122, 122]] by decide +kernel)).1 (split_one (show splitP [47, 122, 122] = some [[122, 122]] by decide +kernel)).2 (by simp) (by omega))
      unfold ptr at CA1
      go_wp2_with fail
      refine CA1.out.mono ?_
      rintro ex v1 ⟨rfl, hst⟩
      have ST1 := Lib.hid hst
      clear hst CA1 HS
      have CA2 := Lib.hid (ST1.out.move ck (show ops[257]? = some (.move [[97, 97]] [[122, 122]], 0) by kernel_rfl) (split_one (show splitP [47, 97, 97] = some [[97, 97]] by decide +kernel)).1 (split_one (show splitP [47, 97, 97] = some [[97, 97]] by decide +kernel)).2 (split_one (show splitP [47, 122, 122] = some [[122, 122]] by decide +kernel)).1 (split_one (show splitP [47, 122, 122] = some [[122, 122]] by decide +kernel)).2 (by simp) (by simp) (by omega))
      unfold ptr at CA2
      go_wp2_with fail
      refine CA2.out.mono ?_
      rintro ex v2 ⟨rfl, hst⟩
      have ST2 := Lib.hid hst
      clear hst CA2 ST1
      have CA3 := Lib.hid (ST2.out.drop ck (show ops[258]? = some (.drop [[97, 98]], 0) by kernel_rfl) (split_one (show splitP [47, 97, 98] = some [[97, 98]] by decide +kernel)).1 (split_one (show splitP [47, 97, 98] = some [[97, 98]] by decide +kernel)).2 (by simp))
      unfold ptr at CA3
      go_wp2_with fail
      refine CA3.out.mono ?_
      rintro ex v3 ⟨rfl, hst⟩
      have ST3 := Lib.hid hst
      clear hst CA3 ST2
      have CA4 := Lib.hid (ST3.out.folder ck (show ops[259]? = some (.add [[120]] 2, 0) by kernel_rfl) (split_one (show splitP [47, 120] = some [[120]] by decide +kernel)).1 (split_one (show splitP [47, 120] = some [[120]] by decide +kernel)).2 (by simp) (by omega))
      unfold ptr at CA4
      go_wp2_with fail
      refine CA4.out.mono ?_
      rintro ex v4 ⟨rfl, hst⟩
      have ST4 := Lib.hid hst
      clear hst CA4 ST3
      go_wp2
      go_loopw [8, 9] (fun v8 v9 wr => ∃ j : Nat, j ≤ 15 ∧ v8 = .string ⟨(px (j + 1)).toArray⟩ ∧ v9 = .int .i64 ((j : Int) + 2) ∧ Hid (NmSt w wr r (260 + j) (fun _ _ => False))) (fun _ v9 _ => 17 - (RowKit.intOf v9).toNat)
      case atStart => exact ⟨0, by omega, rfl, rfl, ST4⟩
      case round =>
        obtain ⟨j, hj, rfl, rfl, HS⟩ := hrel
        clear ST4
        by_cases hjl : (j : Int) + 2 ≤ 16
        · have hj2 : j < 15 := by omega
          have hpx := px_succ (j + 1)
          have hsz : ¬ 9223372036854775807 < (px (j + 1)).length + 2 := by rw [px_len]; omega
          have FD := Lib.hid (HS.out.folder ck (op2 hj2) (path2 (i := j + 2) (by omega) (by omega)).1 (path2 (i := j + 2) (by omega) (by omega)).2 (by rw [px_len]; omega) (by omega))
          unfold ptr at FD
          go_wp2_with fail
          refine FD.out.mono ?_
          rintro ex wb ⟨rfl, hsb⟩
          have HSB := Lib.hid hsb
          clear hsb FD HS hpx hsz
          go_wp2
          refine ⟨⟨j + 1, by omega, rfl, by push_cast; congr 1, HSB⟩, ?_⟩
          show 17 - ((j : Int) + 2 + 1).toNat < 17 - ((j : Int) + 2).toNat
          omega
        have hj15 : j = 15 := by omega
        subst hj15
        have CA5 := Lib.hid (HS.out.drop ck (show ops[275]? = some (.drop [[97, 99]], 0) by kernel_rfl) (split_one (show splitP [47, 97, 99] = some [[97, 99]] by decide +kernel)).1 (split_one (show splitP [47, 97, 99] = some [[97, 99]] by decide +kernel)).2 (by simp))
        unfold ptr at CA5
        go_wp2_with fail
        refine CA5.out.mono ?_
        rintro ex v5 ⟨rfl, hst⟩
        have ST5 := Lib.hid hst
        clear hst CA5 HS
        have CA6 := Lib.hid (ST5.out.folder ck (show ops[276]? = some (.add [[109]] 2, 0) by kernel_rfl) (split_one (show splitP [47, 109] = some [[109]] by decide +kernel)).1 (split_one (show splitP [47, 109] = some [[109]] by decide +kernel)).2 (by simp) (by omega))
        unfold ptr at CA6
        go_wp2_with fail
        refine CA6.out.mono ?_
        rintro ex v6 ⟨rfl, hst⟩
        have ST6 := Lib.hid hst
        clear hst CA6 ST5
        have CA7 := Lib.hid (ST6.out.folder ck (show ops[277]? = some (.add [[109], [110]] 2, 0) by kernel_rfl) (split_one (show splitP [47, 109, 47, 110] = some [[109], [110]] by decide +kernel)).1 (split_one (show splitP [47, 109, 47, 110] = some [[109], [110]] by decide +kernel)).2 (by simp) (by omega))
        unfold ptr at CA7
        go_wp2_with fail
        refine CA7.out.mono ?_
        rintro ex v7 ⟨rfl, hst⟩
        have ST7 := Lib.hid hst
        clear hst CA7 ST6
        have CA8 := Lib.hid (ST7.out.move ck (show ops[278]? = some (.move [[120], [120]] [[109], [110], [120]], 10) by kernel_rfl) (split_one (show splitP [47, 120, 47, 120] = some [[120], [120]] by decide +kernel)).1 (split_one (show splitP [47, 120, 47, 120] = some [[120], [120]] by decide +kernel)).2 (split_one (show splitP [47, 109, 47, 110, 47, 120] = some [[109], [110], [120]] by decide +kernel)).1 (split_one (show splitP [47, 109, 47, 110, 47, 120] = some [[109], [110], [120]] by decide +kernel)).2 (by simp) (by simp) (by omega))
        unfold ptr at CA8
        go_wp2_with fail
        refine CA8.out.mono ?_
        rintro ex v8 ⟨rfl, hst⟩
        have ST8 := Lib.hid hst
        clear hst CA8 ST7
        have CA9 := Lib.hid (ST8.out.move ck (show ops[279]? = some (.move [[120], [120]] [[109], [120]], 0) by kernel_rfl) (split_one (show splitP [47, 120, 47, 120] = some [[120], [120]] by decide +kernel)).1 (split_one (show splitP [47, 120, 47, 120] = some [[120], [120]] by decide +kernel)).2 (split_one (show splitP [47, 109, 47, 120] = some [[109], [120]] by decide +kernel)).1 (split_one (show splitP [47, 109, 47, 120] = some [[109], [120]] by decide +kernel)).2 (by simp) (by simp) (by omega))
        unfold ptr at CA9
        go_wp2_with fail
        refine CA9.out.mono ?_
        rintro ex v9 ⟨rfl, hst⟩
        have ST9 := Lib.hid hst
        clear hst CA9 ST8
        have CA10 := Lib.hid (ST9.out.move ck (show ops[280]? = some (.move [[109], [120]] [[120], [120]], 0) by kernel_rfl) (split_one (show splitP [47, 109, 47, 120] = some [[109], [120]] by decide +kernel)).1 (split_one (show splitP [47, 109, 47, 120] = some [[109], [120]] by decide +kernel)).2 (split_one (show splitP [47, 120, 47, 120] = some [[120], [120]] by decide +kernel)).1 (split_one (show splitP [47, 120, 47, 120] = some [[120], [120]] by decide +kernel)).2 (by simp) (by simp) (by omega))
        unfold ptr at CA10
        go_wp2_with fail
        refine CA10.out.mono ?_
        rintro ex v10 ⟨rfl, hst⟩
        have ST10 := Lib.hid hst
        clear hst CA10 ST9
        have CS := Lib.hid (ST10.out.stat ck (show ops[281]? = some (.has [[122, 122]] 1 2 1, 0) by kernel_rfl) (split_one (show splitP [47, 122, 122] = some [[122, 122]] by decide +kernel)).1 (split_one (show splitP [47, 122, 122] = some [[122, 122]] by decide +kernel)).2 (by simp))
        unfold ptr at CS
        go_wp2_with fail
        refine CS.out.mono ?_
        rintro ex vs ⟨sz, rfl, _, hst⟩
        have SS := Lib.hid hst
        clear hst CS ST10
        go_wp2_with (first
          | (refine Sh.wpList_store_new rfl rfl 25 (.tmp 10) (.tmp 138) rfl #[.int .u8 1, .int .i64 sz, .int .u64 2, .int .i64 1] rfl rfl infoSt rfl (oneSt _ _ _ _ rfl rfl rfl rfl) ?_
             intro vt hq2 hb2 hs2
             have SB := Lib.hid (SS.out.beside hb2 hq2)
             clear hq2 hb2 hs2)
          | fail)
        clear SS
        have hpx := px_succ 16
        have hsz : ¬ 9223372036854775807 < (px 16).length + 2 := by rw [px_len]; omega
        have CF := Lib.hid (SB.out.folder_no path17 (by rw [px_len]; omega) (by omega))
        unfold ptr at CF
        go_wp2_with fail
        rw [hpx]
        refine CF.out.mono ?_
        rintro ex vf ⟨rfl, hst⟩
        have SF := Lib.hid hst
        clear hst CF SB hpx hsz
        have CA11 := Lib.hid (SF.out.move ck (show ops[282]? = some (.move [[120], [120]] [[120], [121]], 0) by kernel_rfl) (split_one (show splitP [47, 120, 47, 120] = some [[120], [120]] by decide +kernel)).1 (split_one (show splitP [47, 120, 47, 120] = some [[120], [120]] by decide +kernel)).2 (split_one (show splitP [47, 120, 47, 121] = some [[120], [121]] by decide +kernel)).1 (split_one (show splitP [47, 120, 47, 121] = some [[120], [121]] by decide +kernel)).2 (by simp) (by simp) (by omega))
        unfold ptr at CA11
        go_wp2_with fail
        refine CA11.out.mono ?_
        rintro ex v11 ⟨rfl, hst⟩
        have ST11 := Lib.hid hst
        clear hst CA11 SF
        have CA12 := Lib.hid (ST11.out.move ck (show ops[283]? = some (.move [[120], [121], [120]] [[120], [121], [121]], 0) by kernel_rfl) (split_one (show splitP [47, 120, 47, 121, 47, 120] = some [[120], [121], [120]] by decide +kernel)).1 (split_one (show splitP [47, 120, 47, 121, 47, 120] = some [[120], [121], [120]] by decide +kernel)).2 (split_one (show splitP [47, 120, 47, 121, 47, 121] = some [[120], [121], [121]] by decide +kernel)).1 (split_one (show splitP [47, 120, 47, 121, 47, 121] = some [[120], [121], [121]] by decide +kernel)).2 (by simp) (by simp) (by omega))
        unfold ptr at CA12
        go_wp2_with fail
        refine CA12.out.mono ?_
        rintro ex v12 ⟨rfl, hst⟩
        have ST12 := Lib.hid hst
        clear hst CA12 ST11
        have CA13 := Lib.hid (ST12.out.move ck (show ops[284]? = some (.move [[122, 122]] [[120], [122, 122]], 0) by kernel_rfl) (split_one (show splitP [47, 122, 122] = some [[122, 122]] by decide +kernel)).1 (split_one (show splitP [47, 122, 122] = some [[122, 122]] by decide +kernel)).2 (split_one (show splitP [47, 120, 47, 122, 122] = some [[120], [122, 122]] by decide +kernel)).1 (split_one (show splitP [47, 120, 47, 122, 122] = some [[120], [122, 122]] by decide +kernel)).2 (by simp) (by simp) (by omega))
        unfold ptr at CA13
        go_wp2_with fail
        refine CA13.out.mono ?_
        rintro ex v13 ⟨rfl, hst⟩
        have ST13 := Lib.hid hst
        clear hst CA13 ST12
        obtain ⟨T, _, _, _, _, hS⟩ := ST13.out
        obtain ⟨hqb, _⟩ := hS _ _ ⟨rfl, rfl⟩
        have z2 : v13.cell? ⟨vs.heap.size, 2, none⟩ = some (.int .u64 2) := cell_of_heap hqb
        have z3 : v13.cell? ⟨vs.heap.size, 3, none⟩ = some (.int .i64 1) := cell_of_heap hqb
        clear hS hqb
        obtain ⟨W, D, hmk, hbm, hD, hcv⟩ := mk_big v13
        have CW := Lib.hid ((ST13.out.below hbm).write_no (d := D) (split_one (show splitP [47, 120, 47, 122, 122] = some [[120], [122, 122]] by decide +kernel)).1 (by simp) (by omega) (by omega))
        unfold ptr at CW
        clear ST13 hbm hD
        go_wp2_with fail
        refine CW.out.mono ?_
        rintro ex vz ⟨rfl, hbz⟩
        have HBZ := Lib.hid hbz
        clear hbz CW hmk hcv z2 z3
        go_wp2
        go_ret
        exact ⟨rfl, HBZ.out⟩
end Go.Proofs.YthcjjekkjbidlaaDoor.Sr
