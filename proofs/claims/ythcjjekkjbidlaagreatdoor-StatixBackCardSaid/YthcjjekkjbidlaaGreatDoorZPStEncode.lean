import Derived.Test.YthcjjekkjbidlaaGreatDoorZPStAll
import Derived.Test.YthcjjekkjbidlaaGreatDoorZPStBuilder
import Derived.Test.YthcjjekkjbidlaaGreatDoorZPStStrs
import Derived.Test.YthcjjekkjbidlaaGreatDoorZPStLen
import Derived.Deep.CutRange
import Derived.Deep.DeepCutAuto
set_option linter.unusedSimpArgs false
set_option linter.unusedVariables false
/-
  The contract of the program's Encode.
-/
namespace Go.Proofs.YthcjjekkjbidlaaGreatDoor.St
open Go.RowKit Go.Maps Go.WideMaps Go.Proofs.YthcjjekkjbidlaaGreatDoor.Rf Go.Proofs.YthcjjekkjbidlaaGreatDoor.Rd

theorem conv_row {w : World} {g o c : Nat} (l : List UInt8) (h : w.rangeAt g o (Lib.byteCells l)) : (convert 114 9 (.slice (some ⟨g, o, none⟩) l.length c)).run Tryz.prog w = .ok (.string ⟨l.toArray⟩) w :=
  run_convert_bytes_back w _ _ 5 ⟨g, o, none⟩ c l Tryz.underlying114 Tryz.underlying5 Tryz.underlying9 (fun j hj => by
    rw [Addr.add_lit]
    exact h j _ (by rw [Lib.byteCells, List.getElem?_map, List.getElem?_eq_getElem hj]; rfl))
theorem conv_at {w : World} {x : Nat} {b : UInt8} (h : w.heap[x]? = some (.cells #[.int .u8 (b.toNat : Int)] 5)) : (convert 114 9 (.slice (some ⟨x, 0, none⟩) 1 1)).run Tryz.prog w = .ok (.string ⟨[b].toArray⟩) w :=
  conv_row [b] (range_block h)
theorem conv_id {w : World} {x : Nat} {l : List UInt8} (hl : l.length = 32) (h : w.rangeAt x 6 (Lib.byteCells l)) : (convert 114 9 (.slice (some ⟨x, 6, none⟩) 32 32)).run Tryz.prog w = .ok (.string ⟨l.toArray⟩) w := by
  have := conv_row (c := 32) l h
  rwa [hl] at this
theorem und32 : Tryz.prog.underlying 42 = some (.array (Tryz.prog.arrayLen 42) (Tryz.prog.elem 42)) := by kernel_rfl
theorem elem32 : (Tryz.prog.info? (Tryz.prog.elem 42)).map (fun i => i.size) = some 1 := by kernel_rfl
theorem arr32 : Tryz.prog.arrayLen 42 = 32 := by kernel_rfl
theorem slice_id (w : World) (b : Nat) :
    (Instr.sliceAt 42 (.pointer (some ⟨b, 6, none⟩)) none none none).run Tryz.prog w = .ok (.slice (some ⟨b, 6, none⟩) 32 32) w := by
  rw [run_sliceAt_array_all (P := Tryz.prog) w 42 ⟨b, 6, none⟩ und32]
  obtain ⟨i, hi, hs⟩ := Option.map_eq_some_iff.1 elem32
  have hz : (sizeOf (Tryz.prog.elem 42)).run Tryz.prog w = .ok 1 w := by simp [sizeOf, typeInfo, hi, hs]
  rw [hz]
  simp only [Result.andThen, arr32, slicedAt]
  rw [if_neg (by omega), Addr.add_lit]
/-- An entry that may be, in single parts. -/
theorem enc_parts {e : SE} (hf : e.Fits) (hm : mayN e = 0) : ∃ (nb kb : UInt8) (sz tk : Nat), e.cells = .string ⟨e.path.toArray⟩ :: .int .u8 (nb.toNat : Int) :: .int .i64 (sz : Int) :: .int .u64 (e.ino : Int) :: .int .i64 (tk : Int) :: .int .u8 (kb.toNat : Int) :: Lib.byteCells e.id ∧
    encS e = putText e.path ++ [nb] ++ sh sz ++ sh e.ino ++ sh tk ++ [kb] ++ e.id ∧ sz ≤ 1048576 ∧ tk ≤ 1099511627776 ∧ e.path.length ≤ 4353 := by
  obtain ⟨h1, h2⟩ := mayN_zero hm
  simp only [statBad, Bool.or_eq_false_iff, decide_eq_false_iff_not] at h2
  refine ⟨UInt8.ofNat e.node, UInt8.ofNat e.kind, e.size.toNat, e.tick.toNat, ?_, rfl, by omega, by omega, (split_len h1).1⟩
  have a1 : (UInt8.ofNat e.node).toNat = e.node := UInt8.toNat_ofNat_of_lt' hf.node
  have a2 : (UInt8.ofNat e.kind).toNat = e.kind := UInt8.toNat_ofNat_of_lt' hf.kind
  rw [a1, a2, SE.cells, Int.toNat_of_nonneg (by omega), Int.toNat_of_nonneg (by omega)]
/-- What a variable of an entry reads as. -/
theorem parts_at {w : World} {x : Nat} {e : SE} {T : TypeId} {nb kb : UInt8} {sz tk : Nat} (hc : e.cells = .string ⟨e.path.toArray⟩ :: .int .u8 (nb.toNat : Int) :: .int .i64 (sz : Int) :: .int .u64 (e.ino : Int) :: .int .i64 (tk : Int) :: .int .u8 (kb.toNat : Int) :: Lib.byteCells e.id)
    (h : w.heap[x]? = some (.cells e.cells.toArray T)) : w.cell? ⟨x, 0, none⟩ = some (.string ⟨e.path.toArray⟩) ∧ w.cell? ⟨x, 1, none⟩ = some (.int .u8 (nb.toNat : Int)) ∧ w.cell? ⟨x, 2, none⟩ = some (.int .i64 (sz : Int)) ∧ w.cell? ⟨x, 3, none⟩ = some (.int .u64 (e.ino : Int)) ∧ w.cell? ⟨x, 4, none⟩ = some (.int .i64 (tk : Int)) ∧ w.cell? ⟨x, 5, none⟩ = some (.int .u8 (kb.toNat : Int)) ∧ w.rangeAt x 6 (Lib.byteCells e.id) := by
  refine ⟨?_, ?_, ?_, ?_, ?_, ?_, range_id h⟩ <;> (rw [cell_of_heap h, List.getElem?_toArray, hc]; rfl)
theorem row_ent {w : World} {B g n cap : Nat} {T : TypeId} {L : List SE} (h : w.ownsRow B T 38 (.slice (some ⟨g, 0, none⟩) n cap) L.length (cellsS L)) (hid : ∀ e ∈ L, e.id.length = 32) {i : Nat} {e : SE} (he : L[i]? = some e) : w.rangeAt g (i * 38) e.cells := fun j v hv => by
  have hil := (List.getElem?_eq_some_iff.1 he).1
  obtain ⟨g', cap', hv', _, _, _, hc⟩ := rowS_form h (by omega)
  injection hv' with e1 _ _
  injection e1 with e1
  injection e1 with e1
  subst e1
  exact hc _ _ (cellsS_at hid he hv)
/-- Behind k entries. -/
structure EncSt (w : World) (b : Nat) (xv : Value) (L : List SE) (k : Nat) (wr : World) : Prop where
  bd : ∃ v, BdAt w.heap.size b v (mst ++ sh L.length ++ (L.take k).flatMap encS) wr ∧ ∀ x ∈ ob v, x ∉ ob xv
  row : wr.ownsRow 0 44 38 xv L.length (cellsS L)
  nb : b ∉ ob xv
  be : Below w.heap.size w wr
def EncPost (w : World) (L : List SE) (e : Ending) (w' : World) : Prop := e = .returned (.tuple #[.string ⟨(encX L).toArray⟩, .int .i64 0]) ∧ Below w.heap.size w w'
theorem take_enc {L : List SE} {k : Nat} {e : SE} (h : L[k]? = some e) : (L.take (k + 1)).flatMap encS = (L.take k).flatMap encS ++ encS e := by
  rw [List.take_add_one, h, List.flatMap_append]; simp

/-- The three numbers behind a front, as far as they were put. -/
def numsP (T : List UInt8) (a b c : Nat) : Nat → List UInt8
  | 0 => T
  | 1 => T ++ sh a
  | 2 => T ++ sh a ++ sh b
  | _ => T ++ sh a ++ sh b ++ sh c
theorem numsP_len (T : List UInt8) (a b c j : Nat) : (numsP T a b c j).length ≤ T.length + 30 := by
  have h1 := sh_length a; have h2 := sh_length b; have h3 := sh_length c
  match j with
  | 0 => simp [numsP]
  | 1 => simp only [numsP, List.length_append]; omega
  | 2 => simp only [numsP, List.length_append]; omega
  | _ + 3 => simp only [numsP, List.length_append]; omega

set_option linter.unusedSimpArgs false in
set_option maxHeartbeats 16000000 in
set_option maxRecDepth 100000 in
theorem encode_any (B : Nat) (w : World) (g b : Nat) (L : List SE) (h : IndexAt B w g b L) (hm : ∀ e ∈ L, mayN e = 0) :
    Calls Tryz.prog 20 #[ptr g] w (EncPost w L) := by
  have c0 : w.cell? ⟨g, 0, none⟩ = some (.map (some b)) := cell_of_heap h.book
  have hll := h.len
  have hgw := h.lt_g
  have hlen := (h.below ((Below.refl w.heap.size w).alloc (Nat.le_refl _) (.cells #[.pointer none, .slice none 0 0] BdT))).map.len Tryz.underlying116
  simp only [toD_size, toZ_length] at hlen
  have P0 := Lib.hid (fun w => put_any w ⟨#[109, 115, 116, 49]⟩ L.length (by omega) (by decide))
  rw [show (⟨#[109, 115, 116, 49]⟩ : ByteArray).data.toList = mst from rfl] at P0
  have H := Lib.hid h; have HM := Lib.hid hm
  have HFL : Hid (∀ k, ((L.take k).flatMap encS).length ≤ 400000000) := Lib.hid (fun k => by
    have := flat_len (L := L.take k) (fun e he => h.fits e (List.mem_of_mem_take he)) (fun e he => hm e (List.mem_of_mem_take he))
    rw [List.length_take] at this; omega)
  have hshl := sh_length L.length
  have HSH : Hid ((mst ++ sh L.length).length ≤ 14) := Lib.hid (by rw [List.length_append]; show 4 + _ ≤ _; omega)
  clear h hm hshl
  unfold ptr at *
  go_enter Tryz.func20, Tryz.ntmps20
  go_wp2_with fail
  refine (P0.out _).mono ?_
  rintro ex w2 ⟨rfl, hb2⟩
  have hb02 := ((Below.refl w.heap.size w).alloc (Nat.le_refl _) (.cells #[.pointer none, .slice none 0 0] BdT)).trans (hb2.mono (by rw [one_size]; omega))
  have hbd2 := (bd_fresh w).below hb2
  have HB02 := Lib.hid hb02; have HBD2 := Lib.hid hbd2
  have WS0 := Lib.hid (write_any w.heap.size w.heap.size _ _ (mst ++ sh L.length) _ hbd2 (by have := HSH.out; simp only [List.length_nil]; omega) hb02.size)
  rw [List.nil_append] at WS0
  clear hb2 hb02 hbd2
  go_wp2_with fail
  refine WS0.out.mono ?_
  rintro ex w3 ⟨v3, rfl, hbd3, ht3, ho3⟩
  have hb03 := HB02.out.trans (ht3.below (B := w.heap.size) (by intro x hx; simp [ob, Value.ownBlock] at hx; omega) HB02.out.size)
  have HB03 := Lib.hid hb03; have HBD3 := Lib.hid hbd3
  have AL := Lib.hid (all_any B w3 g b L (H.out.below hb03))
  unfold ptr at AL
  clear ht3 ho3 hbd3 hb03
  go_wp2_with fail
  refine AL.out.mono ?_
  rintro ex w4 ⟨xv, rfl, ho4, hb4⟩
  obtain ⟨xa, xc, rfl⟩ := rowS_slice ho4
  have HB4 := Lib.hid hb4; have HO4 := Lib.hid ho4
  clear hb4 ho4
  have HST : Hid (EncSt w w.heap.size (.slice xa L.length xc) L 0 w4) := Lib.hid (by
    have hge := rowS_ge HO4.out
    have hbl := HBD3.out.lt
    refine ⟨⟨v3, ?_, fun x hx hx2 => ?_⟩, row_mono HO4.out (Nat.zero_le _), fun hx => ?_, HB03.out.trans (HB4.out.mono HB03.out.size)⟩
    · have := HBD3.out.below HB4.out
      simpa using this
    · have := row_lt HBD3.out.row x hx; have := hge x hx2; omega
    · have := hge _ hx; omega)
  clear AL HB4 HO4 HBD2 HB02 P0 c0 hlen
  go_wp2
  have SA := Lib.hid (Tryz.Builder_String_any w.heap.size w.heap.size)
  go_loopw [23] (fun v23 wr => ∃ k : Nat, k ≤ L.length ∧ v23 = .int .i64 k ∧ Hid (EncSt w w.heap.size (.slice xa L.length xc) L k wr)) (fun v23 _ => L.length - (RowKit.intOf v23).toNat)
  case atStart => exact ⟨0, by omega, rfl, HST⟩
  case round =>
    obtain ⟨k, hk, rfl, HR⟩ := hrel
    obtain ⟨wo, hwo⟩ : ∃ wo, wo = wr := ⟨_, rfl⟩
    subst hwo
    obtain ⟨vb, hbd, hdis⟩ := HR.out.bd
    by_cases hkl : (k : Int) < (L.length : Int)
    · have hk2 : k < L.length := by omega
      obtain ⟨e, he⟩ : ∃ e, L[k]? = some e := ⟨_, List.getElem?_eq_getElem hk2⟩
      have hem := List.mem_of_getElem? he
      obtain ⟨ge, cap, hv, hgl, _, _, _⟩ := rowS_form HR.out.row (by omega)
      injection hv with e1 e2 e3
      subst e1 e3
      have HENT : Hid (wo.rangeAt ge (k * 38) e.cells) := Lib.hid (row_ent HR.out.row (fun x hx => (H.out.fits x hx).id) he)
      obtain ⟨nb, kb, sz, tk, hcs, hens, hsz, htk, hpl⟩ := enc_parts (H.out.fits e hem) (HM.out e hem)
      have HTE : Hid (mst ++ sh L.length ++ (L.take (k + 1)).flatMap encS = mst ++ sh L.length ++ (L.take k).flatMap encS ++ encS e) := Lib.hid (by rw [take_enc he]; simp [List.append_assoc])
      have HENS := Lib.hid hens
      have hino := (H.out.fits e hem).ino
      have HIDL := Lib.hid (H.out.fits e hem).id
      have EOK := Lib.hid (H.out.fits e hem).en
      have HBD := Lib.hid hbd; have HDIS := Lib.hid hdis
      have KF : Hid (∀ w' : World, w'.heap[wo.heap.size]? = some (.cells e.cells.toArray 44) → w'.cell? ⟨wo.heap.size, 0, none⟩ = some (.string ⟨e.path.toArray⟩) ∧ w'.cell? ⟨wo.heap.size, 1, none⟩ = some (.int .u8 (nb.toNat : Int)) ∧ w'.cell? ⟨wo.heap.size, 2, none⟩ = some (.int .i64 (sz : Int)) ∧ w'.cell? ⟨wo.heap.size, 3, none⟩ = some (.int .u64 (e.ino : Int)) ∧ w'.cell? ⟨wo.heap.size, 4, none⟩ = some (.int .i64 (tk : Int)) ∧ w'.cell? ⟨wo.heap.size, 5, none⟩ = some (.int .u8 (kb.toNat : Int)) ∧ w'.rangeAt wo.heap.size 6 (Lib.byteCells e.id)) := Lib.hid (fun w' hw => parts_at hcs hw)
      have hpt : (putText e.path).length ≤ 4363 := by rw [putText, List.length_append]; have := sh_length e.path.length; omega
      have PT := Lib.hid (fun w => putText_any w ⟨#[]⟩ ⟨e.path.toArray⟩ (by decide) (by show e.path.length ≤ _; omega))
      simp only [ba_data, List.nil_append] at PT
      have PT : Hid (∀ w, Calls Tryz.prog 58 #[.string ⟨#[]⟩, .string ⟨e.path.toArray⟩] w fun ex w' => ex = .returned (.string ⟨(putText e.path).toArray⟩) ∧ Below w.heap.size w w') := Lib.hid (fun w => PT.out w)
      clear hens hbd hdis he hem hcs
      go_upto_region 8 with (first
        | (refine wpList_load_mid rfl _ _ rfl ge (k * 38) rfl e.cells _ HENT.out Tryz.underlying44 rfl EOK.out.infoL ?_)
        | (refine wpList_store_new (by first | rfl | rw [one_size]) rfl _ _ _ rfl e.cells.toArray rfl rfl EOK.out.info EOK.out.z EOK.out.one ?_
           intro w6 hq6 hb6 hs6
           have HQ6 := Lib.hid hq6; have HB6 := Lib.hid hb6; have HS6 := Lib.hid hs6
           clear hq6 hb6 hs6))
      try dsimp only [Act.put]
      have hnl1 : (putText e.path).length + 1 ≤ 9223372036854775775 := by omega
      go_cut [7] (fun v7 wx => v7 = .string ⟨(putText e.path ++ [nb]).toArray⟩ ∧ Below w6.heap.size w6 wx)
      case first =>
        refine wp_region_held_drew (S := (fun w' : World => w'.heap[wo.heap.size]? = some (.cells e.cells.toArray 44))) (by kernel_rfl) HQ6.out (fun hHeld => ?_)
        refine wpAnyH_take (i := 0) (v := ?_) rfl (by kernel_rfl) (by kernel_rfl) (by kernel_rfl) (fun _ _ _ h => h) (Or.inl ⟨by rfl, ?ra0⟩) hHeld ?_
        case ra0 =>
          intro wS hSw
          obtain ⟨k0, k1, k2, k3, k4, k5, k6⟩ := KF.out wS hSw
          clear hSw
          go_simp
          try with_reducible rfl
        try simp only [Act.put, List.getElem_toArray, List.getElem_cons_zero, List.getElem_cons_succ, List.setIfInBounds_toArray, List.set_cons_zero, List.set_cons_succ]
        refine wpAnyH_take (i := 1) (v := ?_) rfl (by kernel_rfl) (by kernel_rfl) (by kernel_rfl) (fun _ _ _ h => h) (Or.inl ⟨by rfl, ?ra1⟩) hHeld ?_
        case ra1 =>
          intro wS hSw
          obtain ⟨k0, k1, k2, k3, k4, k5, k6⟩ := KF.out wS hSw
          clear hSw
          go_simp
          try with_reducible rfl
        try simp only [Act.put, List.getElem_toArray, List.getElem_cons_zero, List.getElem_cons_succ, List.setIfInBounds_toArray, List.set_cons_zero, List.set_cons_succ]
        refine wpAnyH_take (i := 3) (v := ?_) rfl (by kernel_rfl) (by kernel_rfl) (by kernel_rfl) (fun _ _ _ h => h) (Or.inl ⟨by rfl, ?ra2⟩) hHeld ?_
        case ra2 =>
          intro wS hSw
          obtain ⟨k0, k1, k2, k3, k4, k5, k6⟩ := KF.out wS hSw
          clear hSw
          go_simp
          try with_reducible rfl
        try simp only [Act.put, List.getElem_toArray, List.getElem_cons_zero, List.getElem_cons_succ, List.setIfInBounds_toArray, List.set_cons_zero, List.set_cons_succ]
        refine wpAnyH_take (i := 4) (v := ?_) rfl (by kernel_rfl) (by kernel_rfl) (by kernel_rfl) (fun _ _ _ h => h) (Or.inl ⟨by rfl, ?ra3⟩) hHeld ?_
        case ra3 =>
          intro wS hSw
          obtain ⟨k0, k1, k2, k3, k4, k5, k6⟩ := KF.out wS hSw
          clear hSw
          go_simp
          try with_reducible rfl
        try simp only [Act.put, List.getElem_toArray, List.getElem_cons_zero, List.getElem_cons_succ, List.setIfInBounds_toArray, List.set_cons_zero, List.set_cons_succ]
        refine wpAnyH_take (i := 5) (v := ?_) rfl (by kernel_rfl) (by kernel_rfl) (by kernel_rfl) (fun _ _ _ h => h) (Or.inl ⟨by rfl, ?ra4⟩) hHeld ?_
        case ra4 =>
          intro wS hSw
          obtain ⟨k0, k1, k2, k3, k4, k5, k6⟩ := KF.out wS hSw
          clear hSw
          go_simp
          try with_reducible rfl
        try simp only [Act.put, List.getElem_toArray, List.getElem_cons_zero, List.getElem_cons_succ, List.setIfInBounds_toArray, List.set_cons_zero, List.set_cons_succ]
        refine wpAnyH_ready (rs := [2, 6]) (by kernel_rfl) (by simp) ?_
        refine AllReadyH.cons rfl (fun K hK => ?_) (AllReadyH.cons rfl (fun K hK => ?_) AllReadyH.nil)
        · skip
          go_simp
          refine (PT.out _).mono ?_
          rintro ex wa ⟨rfl, hbwa⟩
          have HBa := Lib.hid (((Below.refl w6.heap.size w6).drew).trans (hbwa.mono ((Below.refl w6.heap.size w6).drew).size))
          have HQa := Lib.hid ((hbwa.block _ (lt_of_heap HQ6.out)).trans HQ6.out)
          clear hbwa
          go_wp2_with fail
          refine hK.out _ _ HQa.out (fun hHeld2 => ?_)
          clear hK K hHeld
          have hHeld := hHeld2
          clear hHeld2
          try simp only [Act.put, List.getElem_toArray, List.getElem_cons_zero, List.getElem_cons_succ, List.setIfInBounds_toArray, List.set_cons_zero, List.set_cons_succ]
          refine wpAnyH_ready (rs := [6]) (by kernel_rfl) (by simp) ?_
          refine AllReadyH.cons rfl (fun K hK => ?_) AllReadyH.nil
          have HBe := Lib.hid (HBa.out.alloc HBa.out.size (.cells #[.int .u8 (nb.toNat : Int)] 5))
          have HQe := Lib.hid (at_alloc HQa.out (.cells #[.int .u8 (nb.toNat : Int)] 5))
          go_simp
          refine hK.out _ _ HQe.out (fun hHeld2 => ?_)
          clear hK K hHeld
          have hHeld := hHeld2
          clear hHeld2
          try simp only [Act.put, List.getElem_toArray, List.getElem_cons_zero, List.getElem_cons_succ, List.setIfInBounds_toArray, List.set_cons_zero, List.set_cons_succ]
          refine wpAnyH_ready (rs := [7]) (by kernel_rfl) (by simp) ?_
          refine AllReadyH.cons rfl (fun K hK => ?_) AllReadyH.nil
          have hcv := conv_at (MapKept.heap_alloc wa (.cells #[.int .u8 (nb.toNat : Int)] 5)).1
          go_simp
          clear hcv
          refine hK.out _ _ HQe.out (fun hHeld2 => ?_)
          clear hK K hHeld
          have hHeld := hHeld2
          clear hHeld2
          try simp only [Act.put, List.getElem_toArray, List.getElem_cons_zero, List.getElem_cons_succ, List.setIfInBounds_toArray, List.set_cons_zero, List.set_cons_succ]
          refine wpAnyH_take (i := 8) (v := .string ⟨(putText e.path ++ [nb]).toArray⟩) rfl (by kernel_rfl) (by kernel_rfl) (by kernel_rfl) (fun _ _ _ h => h) (Or.inl ⟨by rfl, ?ra8⟩) hHeld ?_
          case ra8 =>
            intro wS hSw
            clear hSw hHeld
            go_simp
            rw [if_neg (by omega), cat_list]
          try simp only [Act.put, List.getElem_toArray, List.getElem_cons_zero, List.getElem_cons_succ, List.setIfInBounds_toArray, List.set_cons_zero, List.set_cons_succ]
          refine wpAnyH_ready (rs := [9]) (by kernel_rfl) (by simp) ?_
          refine AllReadyH.cons rfl (fun K hK => ?_) AllReadyH.nil
          go_simp
          refine hK.out _ _ HQe.out (fun hHeld2 => ?_)
          clear hK K hHeld
          have hHeld := hHeld2
          clear hHeld2
          try simp only [Act.put, List.getElem_toArray, List.getElem_cons_zero, List.getElem_cons_succ, List.setIfInBounds_toArray, List.set_cons_zero, List.set_cons_succ]
          refine wpAnyH_done (by kernel_rfl) ?_ _
          clear hHeld
          try simp only [Act.put, List.getElem_toArray, List.getElem_cons_zero, List.getElem_cons_succ, List.setIfInBounds_toArray, List.set_cons_zero, List.set_cons_succ]
          go_wp2_with fail
          go_meet
          exact ⟨rfl, HBe.out⟩
        · skip
          have HB0 : Hid (Below w6.heap.size w6 (w6.alloc (.cells #[.int .u8 (nb.toNat : Int)] 5)).drew) := Lib.hid ((Below.refl _ _).alloc (Nat.le_refl _) (.cells #[.int .u8 (nb.toNat : Int)] 5)).drew
          have HQ0 : Hid ((w6.alloc (.cells #[.int .u8 (nb.toNat : Int)] 5)).drew.heap[wo.heap.size]? = some (.cells e.cells.toArray 44)) := Lib.hid (at_alloc (w := w6) HQ6.out (.cells #[.int .u8 (nb.toNat : Int)] 5))
          have HN0 : Hid ((w6.alloc (.cells #[.int .u8 (nb.toNat : Int)] 5)).drew.heap[w6.heap.size]? = some (.cells #[.int .u8 (nb.toNat : Int)] 5)) := Lib.hid (MapKept.heap_alloc w6 (.cells #[.int .u8 (nb.toNat : Int)] 5)).1
          go_simp
          refine hK.out _ _ HQ0.out (fun hHeld2 => ?_)
          clear hK K hHeld
          have hHeld := hHeld2
          clear hHeld2
          try simp only [Act.put, List.getElem_toArray, List.getElem_cons_zero, List.getElem_cons_succ, List.setIfInBounds_toArray, List.set_cons_zero, List.set_cons_succ]
          refine wpAnyH_ready (rs := [2, 7]) (by kernel_rfl) (by simp) ?_
          refine AllReadyH.cons rfl (fun K hK => ?_) (AllReadyH.cons rfl (fun K hK => ?_) AllReadyH.nil)
          · skip
            go_simp
            refine (PT.out _).mono ?_
            rintro ex wa ⟨rfl, hbwa⟩
            have HBe := Lib.hid (HB0.out.trans (hbwa.mono HB0.out.size))
            have HQe := Lib.hid ((hbwa.block _ (lt_of_heap HQ0.out)).trans HQ0.out)
            have hq := (hbwa.block _ (lt_of_heap HN0.out)).trans HN0.out
            have HN := Lib.hid hq
            clear hbwa hq
            go_wp2_with fail
            refine hK.out _ _ HQe.out (fun hHeld2 => ?_)
            clear hK K hHeld
            have hHeld := hHeld2
            clear hHeld2
            try simp only [Act.put, List.getElem_toArray, List.getElem_cons_zero, List.getElem_cons_succ, List.setIfInBounds_toArray, List.set_cons_zero, List.set_cons_succ]
            refine wpAnyH_ready (rs := [7]) (by kernel_rfl) (by simp) ?_
            refine AllReadyH.cons rfl (fun K hK => ?_) AllReadyH.nil
            have hcv := conv_at HN.out
            go_simp
            clear hcv
            refine hK.out _ _ HQe.out (fun hHeld2 => ?_)
            clear hK K hHeld
            have hHeld := hHeld2
            clear hHeld2
            try simp only [Act.put, List.getElem_toArray, List.getElem_cons_zero, List.getElem_cons_succ, List.setIfInBounds_toArray, List.set_cons_zero, List.set_cons_succ]
            refine wpAnyH_take (i := 8) (v := .string ⟨(putText e.path ++ [nb]).toArray⟩) rfl (by kernel_rfl) (by kernel_rfl) (by kernel_rfl) (fun _ _ _ h => h) (Or.inl ⟨by rfl, ?ra13⟩) hHeld ?_
            case ra13 =>
              intro wS hSw
              clear hSw hHeld
              go_simp
              rw [if_neg (by omega), cat_list]
            try simp only [Act.put, List.getElem_toArray, List.getElem_cons_zero, List.getElem_cons_succ, List.setIfInBounds_toArray, List.set_cons_zero, List.set_cons_succ]
            refine wpAnyH_ready (rs := [9]) (by kernel_rfl) (by simp) ?_
            refine AllReadyH.cons rfl (fun K hK => ?_) AllReadyH.nil
            go_simp
            refine hK.out _ _ HQe.out (fun hHeld2 => ?_)
            clear hK K hHeld
            have hHeld := hHeld2
            clear hHeld2
            try simp only [Act.put, List.getElem_toArray, List.getElem_cons_zero, List.getElem_cons_succ, List.setIfInBounds_toArray, List.set_cons_zero, List.set_cons_succ]
            refine wpAnyH_done (by kernel_rfl) ?_ _
            clear hHeld
            try simp only [Act.put, List.getElem_toArray, List.getElem_cons_zero, List.getElem_cons_succ, List.setIfInBounds_toArray, List.set_cons_zero, List.set_cons_succ]
            go_wp2_with fail
            go_meet
            exact ⟨rfl, HBe.out⟩
          · skip
            have hcv := conv_at HN0.out
            go_simp
            clear hcv
            refine hK.out _ _ HQ0.out (fun hHeld2 => ?_)
            clear hK K hHeld
            have hHeld := hHeld2
            clear hHeld2
            try simp only [Act.put, List.getElem_toArray, List.getElem_cons_zero, List.getElem_cons_succ, List.setIfInBounds_toArray, List.set_cons_zero, List.set_cons_succ]
            refine wpAnyH_ready (rs := [2]) (by kernel_rfl) (by simp) ?_
            refine AllReadyH.cons rfl (fun K hK => ?_) AllReadyH.nil
            go_simp
            refine (PT.out _).mono ?_
            rintro ex wa ⟨rfl, hbwa⟩
            have HBe := Lib.hid (HB0.out.trans (hbwa.mono HB0.out.size))
            have HQe := Lib.hid ((hbwa.block _ (lt_of_heap HQ0.out)).trans HQ0.out)
            clear hbwa
            go_wp2_with fail
            refine hK.out _ _ HQe.out (fun hHeld2 => ?_)
            clear hK K hHeld
            have hHeld := hHeld2
            clear hHeld2
            try simp only [Act.put, List.getElem_toArray, List.getElem_cons_zero, List.getElem_cons_succ, List.setIfInBounds_toArray, List.set_cons_zero, List.set_cons_succ]
            refine wpAnyH_take (i := 8) (v := .string ⟨(putText e.path ++ [nb]).toArray⟩) rfl (by kernel_rfl) (by kernel_rfl) (by kernel_rfl) (fun _ _ _ h => h) (Or.inl ⟨by rfl, ?ra17⟩) hHeld ?_
            case ra17 =>
              intro wS hSw
              clear hSw hHeld
              go_simp
              rw [if_neg (by omega), cat_list]
            try simp only [Act.put, List.getElem_toArray, List.getElem_cons_zero, List.getElem_cons_succ, List.setIfInBounds_toArray, List.set_cons_zero, List.set_cons_succ]
            refine wpAnyH_ready (rs := [9]) (by kernel_rfl) (by simp) ?_
            refine AllReadyH.cons rfl (fun K hK => ?_) AllReadyH.nil
            go_simp
            refine hK.out _ _ HQe.out (fun hHeld2 => ?_)
            clear hK K hHeld
            have hHeld := hHeld2
            clear hHeld2
            try simp only [Act.put, List.getElem_toArray, List.getElem_cons_zero, List.getElem_cons_succ, List.setIfInBounds_toArray, List.set_cons_zero, List.set_cons_succ]
            refine wpAnyH_done (by kernel_rfl) ?_ _
            clear hHeld
            try simp only [Act.put, List.getElem_toArray, List.getElem_cons_zero, List.getElem_cons_succ, List.setIfInBounds_toArray, List.set_cons_zero, List.set_cons_succ]
            go_wp2_with fail
            go_meet
            exact ⟨rfl, HBe.out⟩
      case rest =>
        obtain ⟨rfl, hb9⟩ := hcut
        have hq9 := (hb9.block _ (lt_of_heap HQ6.out)).trans HQ6.out
        have HQW := Lib.hid hq9; have HBW := Lib.hid (HB6.out.trans (hb9.mono HB6.out.size))
        obtain ⟨_, _, k2, k3, k4, _, _⟩ := KF.out wc hq9
        have hw1 : IntKind.u64.wrap (sz : Int) = (sz : Int) := by rw [IntKind.wrap_u64]; omega
        have hw2 : IntKind.u64.wrap (tk : Int) = (tk : Int) := by rw [IntKind.wrap_u64]; omega
        have hT1 : (putText e.path ++ [nb]).length ≤ 4364 := by rw [List.length_append, List.length_cons, List.length_nil]; omega
        obtain ⟨T1, hT⟩ : ∃ T1, T1 = putText e.path ++ [nb] := ⟨_, rfl⟩
        rw [← hT] at hT1 ⊢
        have HT := Lib.hid hT
        have i0 : ∀ w, (Instr.index 130 (.agg #[.int .u64 (sz : Int), .int .u64 (e.ino : Int), .int .u64 (tk : Int)]) (.int .i64 0)).run Tryz.prog w = .ok (.int .u64 (sz : Int)) w := fun _ => by kernel_rfl
        have i1 : ∀ w, (Instr.index 130 (.agg #[.int .u64 (sz : Int), .int .u64 (e.ino : Int), .int .u64 (tk : Int)]) (.int .i64 1)).run Tryz.prog w = .ok (.int .u64 (e.ino : Int)) w := fun _ => by kernel_rfl
        have i2 : ∀ w, (Instr.index 130 (.agg #[.int .u64 (sz : Int), .int .u64 (e.ino : Int), .int .u64 (tk : Int)]) (.int .i64 2)).run Tryz.prog w = .ok (.int .u64 (tk : Int)) w := fun _ => by kernel_rfl
        clear hb9 hq9 hT hnl1 PT HB6 HQ6 HS6
        go_wp2
        go_loopw [7, 48] (fun v7 v48 wq => ∃ j : Nat, j ≤ 3 ∧ v48 = .int .i64 j ∧ v7 = .string ⟨(numsP T1 sz e.ino tk j).toArray⟩ ∧ Hid (Below wc.heap.size wc wq)) (fun _ v48 _ => 3 - (RowKit.intOf v48).toNat)
        case atStart => exact ⟨0, by omega, rfl, rfl, Lib.hid (Below.refl _ _)⟩
        case round =>
          obtain ⟨j, hj, rfl, rfl, HBQ⟩ := hrel
          have hnl := numsP_len T1 sz e.ino tk j
          obtain rfl | rfl | rfl | rfl : j = 0 ∨ j = 1 ∨ j = 2 ∨ j = 3 := by omega
          · have PU := Lib.hid (put_any wr ⟨(numsP T1 sz e.ino tk 0).toArray⟩ sz (by omega) (by show (numsP T1 sz e.ino tk 0).length ≤ _; omega))
            rw [ba_data] at PU
            go_wp2_with fail
            refine PU.out.mono ?_
            rintro ex wp ⟨rfl, hbp⟩
            go_wp2
            go_roundw
            case rel => exact ⟨1, by omega, rfl, rfl, Lib.hid (HBQ.out.trans (hbp.mono HBQ.out.size))⟩
            case measure => simp [RowKit.intOf]
          · have PU := Lib.hid (put_any wr ⟨(numsP T1 sz e.ino tk 1).toArray⟩ e.ino hino (by show (numsP T1 sz e.ino tk 1).length ≤ _; omega))
            rw [ba_data] at PU
            go_wp2_with fail
            refine PU.out.mono ?_
            rintro ex wp ⟨rfl, hbp⟩
            go_wp2
            go_roundw
            case rel => exact ⟨2, by omega, rfl, rfl, Lib.hid (HBQ.out.trans (hbp.mono HBQ.out.size))⟩
            case measure => simp [RowKit.intOf]
          · have PU := Lib.hid (put_any wr ⟨(numsP T1 sz e.ino tk 2).toArray⟩ tk (by omega) (by show (numsP T1 sz e.ino tk 2).length ≤ _; omega))
            rw [ba_data] at PU
            go_wp2_with fail
            refine PU.out.mono ?_
            rintro ex wp ⟨rfl, hbp⟩
            go_wp2
            go_roundw
            case rel => exact ⟨3, by omega, rfl, rfl, Lib.hid (HBQ.out.trans (hbp.mono HBQ.out.size))⟩
            case measure => simp [RowKit.intOf]
          · have HT3 : Hid (numsP T1 sz e.ino tk 3 ++ [kb] ++ e.id = encS e) := Lib.hid (by rw [HENS.out, HT.out]; simp [numsP])
            have hnl3 : (numsP T1 sz e.ino tk 3).length ≤ 4400 := by omega
            obtain ⟨T3, hT3⟩ : ∃ T3, T3 = numsP T1 sz e.ino tk 3 := ⟨_, rfl⟩
            rw [← hT3] at HT3 hnl3 ⊢
            clear hT3 hnl i0 i1 i2 k2 k3 k4
            obtain ⟨w9, hw9⟩ : ∃ w9, w9 = wr := ⟨_, rfl⟩
            subst hw9
            have HQ9 := Lib.hid ((HBQ.out.block _ (lt_of_heap HQW.out)).trans HQW.out)
            have HB9 := Lib.hid (HBW.out.trans (HBQ.out.mono HBW.out.size))
            have HBD9 := Lib.hid (HBD.out.below HB9.out)
            have hidl : e.id.length = 32 := HIDL.out
            have hn1 : T3.length + 1 ≤ 9223372036854775775 := by omega
            obtain ⟨T4, hT4⟩ : ∃ T4, T4 = T3 ++ [kb] := ⟨_, rfl⟩
            obtain ⟨T5, hT5⟩ : ∃ T5, T5 = T4 ++ e.id := ⟨_, rfl⟩
            have HC4 : Hid ((⟨T3.toArray⟩ : ByteArray) ++ ⟨[kb].toArray⟩ = ⟨T4.toArray⟩) := Lib.hid (by rw [cat_list, ba_data, hT4])
            have HC5 : Hid ((⟨T4.toArray⟩ : ByteArray) ++ ⟨e.id.toArray⟩ = ⟨T5.toArray⟩) := Lib.hid (by rw [cat_list, ba_data, hT5])
            have hl4 : T4.length = T3.length + 1 := by rw [hT4]; simp
            have hl5 : T5.length = T4.length + 32 := by rw [hT5, List.length_append, hidl]
            have HT5 : Hid (T5 = encS e) := Lib.hid (by rw [hT5, hT4]; exact HT3.out)
            have hn2 : T4.length + 32 ≤ 9223372036854775775 := by omega
            clear hT4 hT5 HT3
            have WS : Hid (∀ w', Below w9.heap.size w9 w' → Calls Tryz.prog 56 #[.pointer (some ⟨w.heap.size, 0, none⟩), .string ⟨T5.toArray⟩] w' (WrPost w.heap.size w.heap.size vb (mst ++ sh L.length ++ (L.take k).flatMap encS ++ T5) T5.length w')) := Lib.hid (fun w' hb => write_any w.heap.size w.heap.size vb _ T5 w' (HBD9.out.below hb) (by
              have h1 := HFL.out k; have h2 := HSH.out
              have h3 : (mst ++ sh L.length ++ (L.take k).flatMap encS).length = (mst ++ sh L.length).length + ((L.take k).flatMap encS).length := List.length_append
              omega) (Nat.le_trans HR.out.be.size (Nat.le_trans HB9.out.size hb.size)))
            have EQZ : Hid (∀ wy wz : World, Turn (w.heap.size :: ob vb) wy wz → wy.heap[wo.heap.size]? = some (.cells e.cells.toArray 44) → wz.heap[wo.heap.size]? = some (.cells e.cells.toArray 44)) := Lib.hid (fun wy wz ht hq => (ht.block _ (lt_of_heap hq) (fun hx => by
              rcases List.mem_cons.1 hx with hx | hx
              · have := HBD.out.lt; omega
              · have := row_lt HBD.out.row _ hx; omega)).trans hq)
            go_wp2_with fail
            refine wp_region_held_drew (S := (fun w' : World => w'.heap[wo.heap.size]? = some (.cells e.cells.toArray 44))) (by kernel_rfl) HQ9.out (fun hHeld => ?_)
            refine wpAnyH_take (i := 0) (v := ?_) rfl (by kernel_rfl) (by kernel_rfl) (by kernel_rfl) (fun _ _ _ h => h) (Or.inl ⟨by rfl, ?rb0⟩) hHeld ?_
            case rb0 =>
              intro wS hSw
              obtain ⟨k0, k1, k2, k3, k4, k5, k6⟩ := KF.out wS hSw
              clear hSw
              go_simp
              try with_reducible rfl
            try simp only [Act.put, List.getElem_toArray, List.getElem_cons_zero, List.getElem_cons_succ, List.setIfInBounds_toArray, List.set_cons_zero, List.set_cons_succ]
            refine wpAnyH_take (i := 1) (v := ?_) rfl (by kernel_rfl) (by kernel_rfl) (by kernel_rfl) (fun _ _ _ h => h) (Or.inl ⟨by rfl, ?rb1⟩) hHeld ?_
            case rb1 =>
              intro wS hSw
              obtain ⟨k0, k1, k2, k3, k4, k5, k6⟩ := KF.out wS hSw
              clear hSw
              go_simp
              try with_reducible rfl
            try simp only [Act.put, List.getElem_toArray, List.getElem_cons_zero, List.getElem_cons_succ, List.setIfInBounds_toArray, List.set_cons_zero, List.set_cons_succ]
            refine wpAnyH_take (i := 2) (v := ?_) rfl (by kernel_rfl) (by kernel_rfl) (by kernel_rfl) (fun _ _ _ h => h) (Or.inl ⟨by rfl, ?rb2⟩) hHeld ?_
            case rb2 =>
              intro wS hSw
              obtain ⟨k0, k1, k2, k3, k4, k5, k6⟩ := KF.out wS hSw
              clear hSw
              go_simp
              try with_reducible rfl
            try simp only [Act.put, List.getElem_toArray, List.getElem_cons_zero, List.getElem_cons_succ, List.setIfInBounds_toArray, List.set_cons_zero, List.set_cons_succ]
            refine wpAnyH_take (i := 6) (v := ?_) rfl (by kernel_rfl) (by kernel_rfl) (by kernel_rfl) (fun _ _ _ h => h) (Or.inl ⟨by rfl, ?rb3⟩) hHeld ?_
            case rb3 =>
              intro wS hSw
              obtain ⟨k0, k1, k2, k3, k4, k5, k6⟩ := KF.out wS hSw
              clear hSw
              go_simp
              try with_reducible rfl
            try simp only [Act.put, List.getElem_toArray, List.getElem_cons_zero, List.getElem_cons_succ, List.setIfInBounds_toArray, List.set_cons_zero, List.set_cons_succ]
            refine wpAnyH_take (i := 7) (v := (.slice (some ⟨wo.heap.size, 6, none⟩) 32 32)) rfl (by kernel_rfl) (by kernel_rfl) (by kernel_rfl) (fun _ _ _ h => h) (Or.inl ⟨by rfl, ?rb4⟩) hHeld ?_
            case rb4 =>
              intro wS hSw
              clear hSw hHeld
              have hsl := slice_id wS wo.heap.size
              go_simp
              try with_reducible rfl
            try simp only [Act.put, List.getElem_toArray, List.getElem_cons_zero, List.getElem_cons_succ, List.setIfInBounds_toArray, List.set_cons_zero, List.set_cons_succ]
            refine wpAnyH_take (i := 8) (v := .string ⟨e.id.toArray⟩) rfl (by kernel_rfl) (by kernel_rfl) (by kernel_rfl) (fun _ _ _ h => h) (Or.inl ⟨by rfl, ?rb5⟩) hHeld ?_
            case rb5 =>
              intro wS hSw
              obtain ⟨k0, k1, k2, k3, k4, k5, k6⟩ := KF.out wS hSw
              clear hSw
              have hcv := conv_id HIDL.out k6
              go_simp
              try with_reducible rfl
            try simp only [Act.put, List.getElem_toArray, List.getElem_cons_zero, List.getElem_cons_succ, List.setIfInBounds_toArray, List.set_cons_zero, List.set_cons_succ]
            refine wpAnyH_ready (rs := [3]) (by kernel_rfl) (by simp) ?_
            refine AllReadyH.cons rfl (fun K hK => ?_) AllReadyH.nil
            have HBe : Hid (Below w9.heap.size w9 (w9.alloc (.cells #[.int .u8 (kb.toNat : Int)] 5)).drew) := Lib.hid ((Below.refl _ _).alloc (Nat.le_refl _) (.cells #[.int .u8 (kb.toNat : Int)] 5)).drew
            have HQe : Hid ((w9.alloc (.cells #[.int .u8 (kb.toNat : Int)] 5)).drew.heap[wo.heap.size]? = some (.cells e.cells.toArray 44)) := Lib.hid (at_alloc (w := w9) HQ9.out (.cells #[.int .u8 (kb.toNat : Int)] 5))
            go_simp
            refine hK.out _ _ HQe.out (fun hHeld2 => ?_)
            clear hK K hHeld
            have hHeld := hHeld2
            clear hHeld2
            try simp only [Act.put, List.getElem_toArray, List.getElem_cons_zero, List.getElem_cons_succ, List.setIfInBounds_toArray, List.set_cons_zero, List.set_cons_succ]
            refine wpAnyH_ready (rs := [4]) (by kernel_rfl) (by simp) ?_
            refine AllReadyH.cons rfl (fun K hK => ?_) AllReadyH.nil
            have hn0 : (w9.alloc (.cells #[.int .u8 (kb.toNat : Int)] 5)).drew.heap[w9.heap.size]? = some (.cells #[.int .u8 (kb.toNat : Int)] 5) := (MapKept.heap_alloc w9 (.cells #[.int .u8 (kb.toNat : Int)] 5)).1
            have hcv := conv_at hn0
            clear hn0
            go_simp
            clear hcv
            refine hK.out _ _ HQe.out (fun hHeld2 => ?_)
            clear hK K hHeld
            have hHeld := hHeld2
            clear hHeld2
            try simp only [Act.put, List.getElem_toArray, List.getElem_cons_zero, List.getElem_cons_succ, List.setIfInBounds_toArray, List.set_cons_zero, List.set_cons_succ]
            refine wpAnyH_take (i := 5) (v := .string ⟨T4.toArray⟩) rfl (by kernel_rfl) (by kernel_rfl) (by kernel_rfl) (fun _ _ _ h => h) (Or.inl ⟨by rfl, ?rb8⟩) hHeld ?_
            case rb8 =>
              intro wS hSw
              clear hSw hHeld
              go_simp
              rw [if_neg (by omega), HC4.out]
            try simp only [Act.put, List.getElem_toArray, List.getElem_cons_zero, List.getElem_cons_succ, List.setIfInBounds_toArray, List.set_cons_zero, List.set_cons_succ]
            refine wpAnyH_take (i := 9) (v := .string ⟨T5.toArray⟩) rfl (by kernel_rfl) (by kernel_rfl) (by kernel_rfl) (fun _ _ _ h => h) (Or.inl ⟨by rfl, ?rb9⟩) hHeld ?_
            case rb9 =>
              intro wS hSw
              clear hSw hHeld
              go_simp
              rw [if_neg (by omega), HC5.out]
            try simp only [Act.put, List.getElem_toArray, List.getElem_cons_zero, List.getElem_cons_succ, List.setIfInBounds_toArray, List.set_cons_zero, List.set_cons_succ]
            refine wpAnyH_ready (rs := [10]) (by kernel_rfl) (by simp) ?_
            refine AllReadyH.cons rfl (fun K hK => ?_) AllReadyH.nil
            go_simp
            refine (WS.out _ HBe.out).mono ?_
            rintro ex wz ⟨vz, rfl, hbz, htz, hoz⟩
            have HBZ := Lib.hid hbz; have HTZ := Lib.hid htz; have HOZ := Lib.hid hoz
            have HQz := Lib.hid (EQZ.out _ wz HTZ.out HQe.out)
            clear hbz htz hoz
            go_wp2_with fail
            refine hK.out _ _ HQz.out (fun hHeld2 => ?_)
            clear hK K hHeld
            have hHeld := hHeld2
            clear hHeld2
            try simp only [Act.put, List.getElem_toArray, List.getElem_cons_zero, List.getElem_cons_succ, List.setIfInBounds_toArray, List.set_cons_zero, List.set_cons_succ]
            refine wpAnyH_done (by kernel_rfl) ?_ _
            clear hHeld
            try simp only [Act.put, List.getElem_toArray, List.getElem_cons_zero, List.getElem_cons_succ, List.setIfInBounds_toArray, List.set_cons_zero, List.set_cons_succ]
            go_wp2
            go_roundw
            case rel =>
              have hT9 : Turn (w.heap.size :: ob vb) wo wz := ((Turn.of_below HB9.out : Turn (w.heap.size :: ob vb) wo w9).trans (Turn.of_below (X := w.heap.size :: ob vb) HBe.out) (fun y hy => .inl hy)).trans HTZ.out (fun y hy => .inl hy)
              refine ⟨k + 1, by omega, by go_num, Lib.hid ⟨⟨vz, ?_, fun x hx hx2 => ?_⟩, ?_, HR.out.nb, ?_⟩⟩
              · rw [HTE.out, ← HT5.out]; exact HBZ.out
              · rcases HOZ.out x hx with hx | hx
                · exact HDIS.out x hx hx2
                · have := rowS_lt HR.out.row x hx2
                  have := HBe.out.size; have := HB9.out.size
                  omega
              · refine rowS_kept HR.out.row (fun x hx hl => hT9.block x hl (fun hy => ?_))
                rcases List.mem_cons.1 hy with hy | hy
                · exact HR.out.nb (hy ▸ hx)
                · exact HDIS.out x hy hx
              · refine HR.out.be.trans (hT9.below (B := w.heap.size) (fun x hx => ?_) HR.out.be.size)
                rcases List.mem_cons.1 hx with hx | hx
                · omega
                · exact row_ge HBD.out.row x hx
            case measure => simp [RowKit.intOf]; omega
    · obtain rfl : k = L.length := by omega
      have hbs := hbd.is
      have HE : Hid (mst ++ sh L.length ++ (L.take L.length).flatMap encS = encX L) := Lib.hid (by rw [List.take_length]; rfl)
      rw [HE.out] at hbs
      have SR := Lib.hid (SA.out (encX L) wo hbs HR.out.be.size)
      go_wp2_with fail
      refine SR.out.mono ?_
      rintro ex wz ⟨rfl, hbz⟩
      have HBZ := Lib.hid hbz
      clear hbz
      go_wp2
      go_ret2
      exact ⟨rfl, HR.out.be.trans HBZ.out⟩
end Go.Proofs.YthcjjekkjbidlaaGreatDoor.St
