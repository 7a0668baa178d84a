import Derived.Test.YthcjjekkjbidlaaGreatDoorZPShQuick
import Derived.Test.YthcjjekkjbidlaaGreatDoorZPShHexPlain
import Derived.Lib.BufSteps
import Derived.Lib.BufferRead
set_option linter.unusedSimpArgs false
set_option linter.unusedVariables false
/-
  The contracts of bytes as digits: the program's and the reference's.
-/
namespace Go.Proofs.YthcjjekkjbidlaaGreatDoor.Sh
open Go.RowKit Go.Maps Go.Proofs.YthcjjekkjbidlaaGreatDoor.Rf Go.Proofs.YthcjjekkjbidlaaGreatDoor.Rd Go.Proofs.YthcjjekkjbidlaaGreatDoor.St

theorem src_two (w : World) (a b : UInt8) : ∀ j u, (Lib.byteCells [a, b])[j]? = some u → (w.alloc (.cells #[.int .u8 (a.toNat : Int), .int .u8 (b.toNat : Int)] 5)).cell? ((⟨w.heap.size, 0, none⟩ : Addr).add j) = some u := by
  intro j u hj
  have hj2 : j < 2 := (List.getElem?_eq_some_iff.1 hj).1
  rw [Addr.add_lit, cell_of_heap (at_new _ _), ← hj]
  match j, hj2 with
  | 0, _ => rfl
  | 1, _ => rfl
/-- The digits. -/
def digL : List UInt8 := [48, 49, 50, 51, 52, 53, 54, 55, 56, 57, 97, 98, 99, 100, 101, 102]
theorem digL_at (i : Nat) (hi : i < 16) : digL[i]? = some (hx i) := by
  have : ∀ i : Fin 16, digL[i.val]? = some (hx i.val) := by decide
  exact this ⟨i, hi⟩
abbrev T16 : TypeId := 242
abbrev digC : Array Value := (Lib.byteCells digL).toArray
theorem info16 : (Tryz.prog.info? T16).map (·.size) = some digC.size := by kernel_rfl
set_option maxHeartbeats 2000000 in
set_option maxRecDepth 100000 in
theorem digits_any (w : World) :
    Calls Tryz.prog 173 #[] w fun e w' => e = .returned (.agg digC) ∧ Below w.heap.size w w' := by
  have ON := Lib.hid (oneId digL)
  go_enter Tryz.func173, Tryz.ntmps173
  go_wp2_with (first
    | (refine wpList_build_is rfl T16 _ rfl digC (by kernel_rfl) ?_)
    | (refine wpList_store_new rfl rfl T16 (.tmp 0) (.tmp 1) rfl digC rfl rfl info16 rfl ON.out ?_
       intro w3 hq3 hb3 hs3
       have HQ3 := Lib.hid hq3; have HB3 := Lib.hid hb3
       clear hq3 hb3 hs3))
  refine bodyPost_ret (v := .agg digC) (results_cell_row rfl _ _ w.heap.size T16 _ (0, 0) _ rfl HQ3.out Tryz.underlying242 rfl info16) rfl ⟨rfl, HB3.out⟩
theorem and15 (b : UInt8) : bits .and .u8 (b.toNat : Int) 15 = ((b.toNat % 16 : Nat) : Int) := by
  rw [u8_and15 _ (by omega) (by have := UInt8.toNat_lt b; omega)]; omega
theorem rowM_own {w : World} {B : Nat} {g cap n : Nat} {l : List UInt8} (hn : n = l.length) (h : w.ownsRow B 5 1 (.slice (some ⟨g, 0, none⟩) n cap) n (Lib.byteCells l)) : RowM w B (.slice (some ⟨g, 0, none⟩) n cap) l := by
  subst hn
  obtain ⟨h1, ⟨hv, _⟩ | ⟨g', cap', cur, hv, hg, hh, hc, hm, hsz, ht⟩⟩ := h
  · cases hv
  · injection hv with e1 e2 e3
    injection e1 with e1
    injection e1 with e1
    subst e1 e3
    rw [Nat.mul_one] at ht hsz
    exact ⟨g, cap, cur, (0, 0), rfl, hg, hh, .inl (Nat.zero_le _), hc, hm, hsz, ht⟩
set_option linter.unusedSimpArgs false in
set_option maxHeartbeats 4000000 in
set_option maxRecDepth 100000 in
theorem hex_any (w : World) (l : List UInt8) (hl : l.length ≤ 1000) :
    Calls Tryz.prog 146 #[.string ⟨l.toArray⟩] w fun e w' => e = .returned (.string ⟨(hexs l).toArray⟩) ∧ Below w.heap.size w w' := by
  have hs : (⟨l.toArray⟩ : ByteArray).size = l.length := rfl
  obtain ⟨ib, hib, hbzz⟩ := Option.map_eq_some_iff.1 infoByte
  obtain ⟨hbz, hb1, hb2⟩ : ib.zero = some (.int .u8 0) ∧ ib.size = 1 ∧ ib.bytes = 1 := by injection hbzz with a b; injection b with b c; exact ⟨a, b, c⟩
  have HIB := Lib.hid (And.intro hib (And.intro hbz (And.intro hb1 hb2)))
  have ON := Lib.hid (oneId digL)
  clear hbzz hib hbz hb1 hb2
  go_enter Tryz.func146, Tryz.ntmps146
  go_wp2_with fail
  refine (digits_any w).mono ?_
  rintro e w1 ⟨rfl, hb1⟩
  have HB1 := Lib.hid hb1
  obtain ⟨a, ha⟩ : ∃ a, a = w1.heap.size := ⟨_, rfl⟩
  have hwa : w.heap.size ≤ a := by rw [ha]; exact hb1.size
  clear hb1
  go_wp2_with (first
    | (refine wpList_store_new rfl rfl T16 (.tmp 3) (.tmp 7) rfl digC rfl rfl info16 rfl ON.out ?_
       intro w2 hq2 hb2 hs2
       have HD2 : Hid (w2.heap[a]? = some (.cells digC T16)) := Lib.hid (by rw [ha]; exact hq2)
       have HB2 : Hid (Below w.heap.size w w2) := Lib.hid (HB1.out.trans (hb2.mono HB1.out.size))
       rw [← ha]
       obtain ⟨w3, hmk, ho3, hg3⟩ := run_make_own (P := Tryz.prog) w2 (a + 1) 114 5 ib (.int .u8 0) 1 Tryz.underlying114 HIB.out.1 HIB.out.2.1 HIB.out.2.2.1 .i64 .i64 (2 * l.length) (by rw [HIB.out.2.2.2]; omega) (by unfold maxLen; omega) (by have := lt_of_heap HD2.out; omega)
       have hb23 : Below w2.heap.size w2 w3 := ⟨hg3.os, hg3.tape, hg3.output, hg3.size, fun k hk => hg3.block k hk (by simp)⟩
       have HD3 : Hid (w3.heap[a]? = some (.cells digC T16)) := Lib.hid ((hb23.block a (lt_of_heap HD2.out)).trans HD2.out)
       have HB3 : Hid (Below w.heap.size w w3) := Lib.hid (HB2.out.trans (hb23.mono HB2.out.size))
       have HO3 := Lib.hid ho3
       obtain ⟨w4, hw4⟩ : ∃ w4, w4 = Lib.bytesWorld w3 5 ⟨l.toArray⟩ := ⟨_, rfl⟩
       have hcv : (convert 9 114 (.string ⟨l.toArray⟩)).run Tryz.prog w3 = .ok (.slice (some ⟨w3.heap.size, 0, none⟩) l.length (grownCap w3 l.length 0 5)) w4 := by
         rw [hw4]; exact Lib.run_convert_string_bytes (P := Tryz.prog) w3 9 114 5 ⟨l.toArray⟩ Tryz.underlying9 Tryz.underlying114 Tryz.underlying5
       have HM4 : Hid (RowM w4 (a + 1) (.slice (some ⟨w3.heap.size, 0, none⟩) l.length (grownCap w3 l.length 0 5)) l) := Lib.hid (by rw [hw4]; exact rowM_conv w3 (a + 1) (by have := lt_of_heap HD3.out; omega) l (by unfold maxLen; omega))
       have hb34 : Below w3.heap.size w3 w4 := by rw [hw4]; exact bytesWorld_below _ _ _
       have HD4 : Hid (w4.heap[a]? = some (.cells digC T16)) := Lib.hid ((hb34.block a (lt_of_heap HD3.out)).trans HD3.out)
       have HB4 : Hid (Below w.heap.size w w4) := Lib.hid (HB3.out.trans (hb34.mono HB3.out.size))
       have HO4 : Hid (w4.ownsRow (a + 1) 5 1 (.slice (some ⟨w2.heap.size, 0, none⟩) 0 (2 * l.length)) 0 []) := Lib.hid (row_kept HO3.out (fun x _ hx => hb34.block x hx))
       have hne : w2.heap.size < w3.heap.size := row_lt HO3.out w2.heap.size (by simp [ob, Value.ownBlock])
       rw [show ((2 * l.length : Nat) : Int) = 2 * (l.length : Int) by omega] at hmk
       clear hq2 hb2 hs2 ho3 hg3 hb23 hb34 hw4 HO3 HD3 HB3 HD2 HB2))
  rw [← ha]
  obtain ⟨gm, hgm⟩ : ∃ g, g = w3.heap.size := ⟨_, rfl⟩
  obtain ⟨gb, hgb⟩ : ∃ g, g = w2.heap.size := ⟨_, rfl⟩
  obtain ⟨cm, hcm⟩ : ∃ c, c = grownCap w3 l.length 0 5 := ⟨_, rfl⟩
  rw [← hgm, ← hcm] at HM4 ⊢
  rw [← hgb] at HO4 ⊢
  have HR4 : Hid (RowM w4 (a + 1) (.slice (some ⟨gb, 0, none⟩) 0 (2 * l.length)) []) := Lib.hid (rowM_own rfl HO4.out)
  have hgg : gb ≠ gm := by omega
  clear hcv hmk ha hgm hgb hcm HO4 HB1 hne
  go_loopw [4, 15] (fun v4 v15 wr => ∃ i : Nat, i ≤ l.length ∧ v15 = .int .i64 (i : Int) ∧ Hid (RowM wr (a + 1) v4 (hexs (l.take i)) ∧ (∀ x ∈ ob v4, x ≠ gm)) ∧ Hid (RowM wr (a + 1) (.slice (some ⟨gm, 0, none⟩) l.length cm) l) ∧ Hid (wr.heap[a]? = some (.cells digC T16)) ∧ Hid (Below w.heap.size w wr)) (fun _ v15 _ => l.length - (RowKit.intOf v15).toNat)
  case atStart => exact ⟨0, Nat.zero_le _, rfl, Lib.hid ⟨HR4.out, by intro x hx; simp [ob, Value.ownBlock] at hx; omega⟩, HM4, HD4, HB4⟩
  case round =>
    obtain ⟨i, hi, rfl, HO, HM, HD, HB⟩ := hrel
    by_cases hlt : (i : Int) < (l.length : Int)
    · have hil : i < l.length := by omega
      obtain ⟨b, hb⟩ : ∃ b, b = l[i] := ⟨_, rfl⟩
      have cb : wr.cell? ⟨gm, i, none⟩ = some (.int .u8 (b.toNat : Int)) := by
        have := HM.out.range i (.int .u8 (b.toNat : Int)) (by rw [Lib.byteCells, List.getElem?_map, List.getElem?_eq_getElem hil, hb]; rfl)
        rwa [Nat.zero_add] at this
      have hbb := UInt8.toNat_lt b
      obtain ⟨p, hp⟩ : ∃ p, p = b.toNat / 16 := ⟨_, rfl⟩
      obtain ⟨r, hr⟩ : ∃ r, r = b.toNat % 16 := ⟨_, rfl⟩
      have p16 : p < 16 := by omega
      have r16 : r < 16 := by omega
      have ep : (b.toNat : Int) / 16 = (p : Int) := by omega
      have er : bits .and .u8 (b.toNat : Int) 15 = (r : Int) := by rw [and15, hr]
      have pi : (p : Int) < 16 := by omega
      have ri : (r : Int) < 16 := by omega
      have HH2 : Hid (hexs (l.take i) ++ [hx p, hx r] = hexs (l.take (i + 1))) := Lib.hid (by rw [List.take_succ_eq_append_getElem hil, hexs_snoc, ← hb, hp, hr])
      obtain ⟨xp, hxp⟩ : ∃ x, x = hx p := ⟨_, rfl⟩
      obtain ⟨xr, hxr⟩ : ∃ x, x = hx r := ⟨_, rfl⟩
      rw [← hxp, ← hxr] at HH2
      have HDP : Hid (∀ w' : World, w'.heap[a]? = some (.cells digC T16) → w'.cell? ⟨a, p, none⟩ = some (.int .u8 (xp.toNat : Int)) ∧ w'.cell? ⟨a, r, none⟩ = some (.int .u8 (xr.toNat : Int))) := Lib.hid (fun w' h => ⟨by rw [cell_of_heap h, bc_get (digL_at p p16), hxp], by rw [cell_of_heap h, bc_get (digL_at r r16), hxr]⟩)
      have HSR := Lib.hid (src_two wr.drew xp xr)
      have hs0 := HDP.out wr.drew HD.out
      have HLN : Hid ((hexs (l.take i)).length = 2 * i) := Lib.hid (by rw [hexs_length, List.length_take]; omega)
      obtain ⟨WA, hWA⟩ : ∃ WA, WA = (wr.alloc (.cells #[.int .u8 (xp.toNat : Int), .int .u8 (xr.toNat : Int)] 5)).drew := ⟨_, rfl⟩
      have hbA : Below wr.heap.size wr WA := by rw [hWA]; exact ((Below.refl wr.heap.size wr).alloc (Nat.le_refl _) _).drew
      have HOA : Hid (RowM WA (a + 1) u4 (hexs (l.take i)) ∧ (∀ x ∈ ob u4, x ≠ gm)) := Lib.hid ⟨HO.out.1.below hbA, HO.out.2⟩
      have HMA : Hid (RowM WA (a + 1) (.slice (some ⟨gm, 0, none⟩) l.length cm) l) := Lib.hid (HM.out.below hbA)
      have HDA : Hid (WA.heap[a]? = some (.cells digC T16)) := Lib.hid ((hbA.block a (lt_of_heap HD.out)).trans HD.out)
      have HBA : Hid (Below w.heap.size w WA) := Lib.hid (HB.out.trans (hbA.mono HB.out.size))
      have HWA := Lib.hid hWA
      clear hb hp hr hxp hxr hWA hbA HO HM HD HB
      go_wp2
      refine wp_region_held_drew (S := (fun w' : World => w'.cell? ⟨a, p, none⟩ = some (.int .u8 (xp.toNat : Int)) ∧ w'.cell? ⟨a, r, none⟩ = some (.int .u8 (xr.toNat : Int)))) (by kernel_rfl) hs0 (fun hHeld => ?_)
      clear hs0 cb
      refine wpAnyH_take (i := 0) (v := ?_) rfl (by kernel_rfl) (by kernel_rfl) (by kernel_rfl) (fun _ _ _ h => h) (Or.inl ⟨by rfl, ?rf0⟩) hHeld ?_
      case rf0 =>
        intro wS hSw
        have k0 := hSw.1
        have k1 := hSw.2
        clear hSw
        go_simp
        try with_reducible rfl
      try simp only [Act.put, List.getElem_toArray, List.getElem_cons_zero, List.getElem_cons_succ, List.setIfInBounds_toArray, List.set_cons_zero, List.set_cons_succ]
      refine wpAnyH_take (i := 1) (v := ?_) rfl (by kernel_rfl) (by kernel_rfl) (by kernel_rfl) (fun _ _ _ h => h) (Or.inl ⟨by rfl, ?rf1⟩) hHeld ?_
      case rf1 =>
        intro wS hSw
        have k0 := hSw.1
        have k1 := hSw.2
        clear hSw
        go_simp
        try with_reducible rfl
      try simp only [Act.put, List.getElem_toArray, List.getElem_cons_zero, List.getElem_cons_succ, List.setIfInBounds_toArray, List.set_cons_zero, List.set_cons_succ]
      refine wpAnyH_take (i := 2) (v := ?_) rfl (by kernel_rfl) (by kernel_rfl) (by kernel_rfl) (fun _ _ _ h => h) (Or.inl ⟨by rfl, ?rf2⟩) hHeld ?_
      case rf2 =>
        intro wS hSw
        have k0 := hSw.1
        have k1 := hSw.2
        clear hSw
        go_simp
        try with_reducible rfl
      try simp only [Act.put, List.getElem_toArray, List.getElem_cons_zero, List.getElem_cons_succ, List.setIfInBounds_toArray, List.set_cons_zero, List.set_cons_succ]
      refine wpAnyH_take (i := 3) (v := ?_) rfl (by kernel_rfl) (by kernel_rfl) (by kernel_rfl) (fun _ _ _ h => h) (Or.inl ⟨by rfl, ?rf3⟩) hHeld ?_
      case rf3 =>
        intro wS hSw
        have k0 := hSw.1
        have k1 := hSw.2
        clear hSw
        go_simp
        try with_reducible rfl
      try simp only [Act.put, List.getElem_toArray, List.getElem_cons_zero, List.getElem_cons_succ, List.setIfInBounds_toArray, List.set_cons_zero, List.set_cons_succ]
      refine wpAnyH_take (i := 4) (v := ?_) rfl (by kernel_rfl) (by kernel_rfl) (by kernel_rfl) (fun _ _ _ h => h) (Or.inl ⟨by rfl, ?rf4⟩) hHeld ?_
      case rf4 =>
        intro wS hSw
        have k0 := hSw.1
        have k1 := hSw.2
        clear hSw
        go_simp
        try with_reducible rfl
      try simp only [Act.put, List.getElem_toArray, List.getElem_cons_zero, List.getElem_cons_succ, List.setIfInBounds_toArray, List.set_cons_zero, List.set_cons_succ]
      refine wpAnyH_take (i := 5) (v := ?_) rfl (by kernel_rfl) (by kernel_rfl) (by kernel_rfl) (fun _ _ _ h => h) (Or.inl ⟨by rfl, ?rf5⟩) hHeld ?_
      case rf5 =>
        intro wS hSw
        have k0 := hSw.1
        have k1 := hSw.2
        clear hSw
        go_simp
        try with_reducible rfl
      try simp only [Act.put, List.getElem_toArray, List.getElem_cons_zero, List.getElem_cons_succ, List.setIfInBounds_toArray, List.set_cons_zero, List.set_cons_succ]
      refine wpAnyH_take (i := 6) (v := ?_) rfl (by kernel_rfl) (by kernel_rfl) (by kernel_rfl) (fun _ _ _ h => h) (Or.inl ⟨by rfl, ?rf6⟩) hHeld ?_
      case rf6 =>
        intro wS hSw
        have k0 := hSw.1
        have k1 := hSw.2
        clear hSw
        go_simp
        try with_reducible rfl
      try simp only [Act.put, List.getElem_toArray, List.getElem_cons_zero, List.getElem_cons_succ, List.setIfInBounds_toArray, List.set_cons_zero, List.set_cons_succ]
      refine wpAnyH_take (i := 7) (v := ?_) rfl (by kernel_rfl) (by kernel_rfl) (by kernel_rfl) (fun _ _ _ h => h) (Or.inl ⟨by rfl, ?rf7⟩) hHeld ?_
      case rf7 =>
        intro wS hSw
        have k0 := hSw.1
        have k1 := hSw.2
        clear hSw
        go_simp
        try with_reducible rfl
      try simp only [Act.put, List.getElem_toArray, List.getElem_cons_zero, List.getElem_cons_succ, List.setIfInBounds_toArray, List.set_cons_zero, List.set_cons_succ]
      refine wpAnyH_take (i := 8) (v := ?_) rfl (by kernel_rfl) (by kernel_rfl) (by kernel_rfl) (fun _ _ _ h => h) (Or.inl ⟨by rfl, ?rf8⟩) hHeld ?_
      case rf8 =>
        intro wS hSw
        have k0 := hSw.1
        have k1 := hSw.2
        clear hSw
        go_simp
        try with_reducible rfl
      try simp only [Act.put, List.getElem_toArray, List.getElem_cons_zero, List.getElem_cons_succ, List.setIfInBounds_toArray, List.set_cons_zero, List.set_cons_succ]
      refine wpAnyH_ready (rs := [9]) (by kernel_rfl) (by simp) ?_
      refine AllReadyH.cons rfl (fun K hK => ?_) AllReadyH.nil
      go_simp
      rw [← HWA.out]
      refine hK.out _ _ (HDP.out _ HDA.out) (fun hHeld2 => ?_)
      clear hK K hHeld hHeld2
      try simp only [Act.put, List.getElem_toArray, List.getElem_cons_zero, List.getElem_cons_succ, List.setIfInBounds_toArray, List.set_cons_zero, List.set_cons_succ]
      refine wpAnyH_ready (rs := [10]) (by kernel_rfl) (by simp) ?_
      refine AllReadyH.cons rfl (fun K hK => ?_) AllReadyH.nil
      refine step_wp rfl ?_
      refine wp_append_MB (B := a + 1) (.tmp 19) (.tmp 28) 114 rfl ib Tryz.underlying114 HIB.out.1 HIB.out.2.1 HIB.out.2.2.1 HIB.out.2.2.2 u4 (hexs (l.take i)) [xp, xr] ⟨wr.heap.size, 0, none⟩ 2 2 rfl (by rw [HWA.out]; exact HSR.out) rfl HOA.out.1 rfl (by rw [HLN.out]; simp; omega) (by have := lt_of_heap HDA.out; omega) ?_
      intro v' w' ho' hg' hx'
      rw [HH2.out] at ho'
      have hkk : ∀ k, k < WA.heap.size → k ∉ ob u4 → w'.heap[k]? = WA.heap[k]? := fun k hk hn => hg'.block k hk (fun e => hn (by rw [ob, ← e]; simp))
      have hlo := HOA.out.1.lt
      have HO2 : Hid (RowM w' (a + 1) v' (hexs (l.take (i + 1))) ∧ (∀ x ∈ ob v', x ≠ gm)) := Lib.hid ⟨ho', fun x hx => by
        rcases hx' x hx with h | h
        · exact HOA.out.2 x h
        · have := (HMA.out.lt gm (by simp [ob, Value.ownBlock])).2; omega⟩
      have HM2 : Hid (RowM w' (a + 1) (.slice (some ⟨gm, 0, none⟩) l.length cm) l) := Lib.hid (HMA.out.kept (fun x hx hxl => hkk x hxl (fun hm => HOA.out.2 x hm (by simpa [ob, Value.ownBlock] using hx))))
      have HD2 : Hid (w'.heap[a]? = some (.cells digC T16)) := Lib.hid ((hkk a (lt_of_heap HDA.out) (fun hm => by have := (hlo a hm).1; omega)).trans HDA.out)
      have HB2 : Hid (Below w.heap.size w w') := Lib.hid (HBA.out.trans ⟨hg'.os, hg'.tape, hg'.output, hg'.size, fun k hk => hkk k (Nat.lt_of_lt_of_le hk HBA.out.size) (fun hm => by have := (hlo k hm).1; omega)⟩)
      clear ho' hg' hx' hkk hlo
      refine hK.out _ _ (HDP.out _ HD2.out) (fun hHeld => ?_)
      clear hK K
      try simp only [Act.put, List.getElem_toArray, List.getElem_cons_zero, List.getElem_cons_succ, List.setIfInBounds_toArray, List.set_cons_zero, List.set_cons_succ]
      refine wpAnyH_take (i := 11) (v := ?_) rfl (by kernel_rfl) (by kernel_rfl) (by kernel_rfl) (fun _ _ _ h => h) (Or.inl ⟨by rfl, ?rf11⟩) hHeld ?_
      case rf11 =>
        intro wS hSw
        have k0 := hSw.1
        have k1 := hSw.2
        clear hSw
        go_simp
        try with_reducible rfl
      try simp only [Act.put, List.getElem_toArray, List.getElem_cons_zero, List.getElem_cons_succ, List.setIfInBounds_toArray, List.set_cons_zero, List.set_cons_succ]
      refine wpAnyH_done (by kernel_rfl) ?_ _
      try simp only [Act.put, List.getElem_toArray, List.getElem_cons_zero, List.getElem_cons_succ, List.setIfInBounds_toArray, List.set_cons_zero, List.set_cons_succ]
      clear hHeld ep er
      go_wp2
      go_roundw
      case rel => exact ⟨i + 1, by omega, by go_num, HO2, HM2, HD2, HB2⟩
      case measure => simp [RowKit.intOf]; omega
    · obtain rfl : i = l.length := by omega
      rw [List.take_length] at HO
      have hcv := HO.out.1.conv
      clear hlt
      go_wp2
      go_ret
      exact ⟨rfl, HB.out⟩
end Go.Proofs.YthcjjekkjbidlaaGreatDoor.Sh
