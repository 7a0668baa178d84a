import Derived.Test.YtkeegnhjemhblaaGreatDoorZPRbRise
import Derived.Test.YtkeegnhjemhblaaGreatDoorZPRbAsk
import Derived.Test.YtkeegnhjemhblaaGreatDoorZPDrRef
set_option linter.unusedSimpArgs false
set_option linter.unusedVariables false
/-
  The plain law of the doubles dropped: of each run of equal neighbours the first stays.
-/
namespace Go.Proofs.YtkeegnhjemhblaaGreatDoor.Rb
open Go.RowKit Go.Maps Go.WideMaps Go.Proofs.YtkeegnhjemhblaaGreatDoor.Rf

/-- Does the name at place i stay? -/
def stays (l : List (List UInt8)) (i : Nat) : Bool := i == 0 || !(l[i]? == l[i - 1]?)
/-- What stays of the first n. -/
def ddN (l : List (List UInt8)) (n : Nat) : List (List UInt8) := (List.range n).filterMap fun i => if stays l i then l[i]? else none
theorem ddN_succ (l : List (List UInt8)) (n : Nat) : ddN l (n + 1) = ddN l n ++ (if stays l n then l[n]?.toList else []) := by
  rw [ddN, List.range_succ, List.filterMap_append, ← ddN]
  congr 1
  by_cases h : stays l n = true
  · cases hn : l[n]? <;> simp [h, hn]
  · simp [h]
theorem ddN_in {l : List (List UInt8)} {n : Nat} {x : List UInt8} (hs : stays l n = true) (hx : l[n]? = some x) : ddN l (n + 1) = ddN l n ++ [x] := by
  rw [ddN_succ, if_pos hs, hx]; rfl
theorem ddN_out {l : List (List UInt8)} {n : Nat} (hs : stays l n = false) : ddN l (n + 1) = ddN l n := by
  rw [ddN_succ, if_neg (by rw [hs]; decide), List.append_nil]
theorem ddN_len (l : List (List UInt8)) (n : Nat) : (ddN l n).length ≤ n := by
  have := List.length_filterMap_le (fun i => if stays l i then l[i]? else none) (List.range n)
  rwa [List.length_range] at this
theorem stays_ne {l : List (List UInt8)} {i : Nat} {x y : List UInt8} (hx : l[i + 1]? = some x) (hy : l[i]? = some y) : stays l (i + 1) = !(x == y) := by
  rw [stays, Nat.add_sub_cancel, hx, hy]; rfl
/-- The first n are all kept while no neighbours are equal. -/
theorem ddN_all {l : List (List UInt8)} {n : Nat} (hn : n ≤ l.length) (h : ∀ i, i < n → stays l i = true) : ddN l n = l.take n := by
  induction n with
  | zero => rfl
  | succ n ih =>
    rw [ddN_in (h n (by omega)) (List.getElem?_eq_getElem (by omega)), ih (by omega) (fun i hi => h i (by omega)), List.take_add_one, List.getElem?_eq_getElem (by omega)]
    rfl
theorem ddN_mem {l : List (List UInt8)} {n : Nat} {x : List UInt8} (h : x ∈ ddN l n) : x ∈ l := by
  obtain ⟨i, _, hi⟩ := List.mem_filterMap.1 h
  by_cases hs : stays l i = true
  · rw [if_pos hs] at hi; exact List.mem_of_getElem? hi
  · rw [if_neg hs] at hi; cases hi
end Go.Proofs.YtkeegnhjemhblaaGreatDoor.Rb
/-
  The contract of the reference's Roots. Printed by genroots.py.
-/
set_option linter.unusedSimpArgs false
namespace Go.Proofs.YtkeegnhjemhblaaGreatDoor.Rb
open Go.RowKit Go.Maps Go.WideMaps Go.Proofs.YtkeegnhjemhblaaGreatDoor.Rf

/-- All snapshots' names, branch by branch. -/
def allC (K : BK) : Ids := K.flatMap fun p => p.2.map En.c
theorem allC_append (A B : BK) : allC (A ++ B) = allC A ++ allC B := List.flatMap_append
theorem allC_one (p : List UInt8 × List En) : allC [p] = p.2.map En.c := by simp [allC]
theorem allC_len : ∀ {K : BK}, (∀ p ∈ K, p.2.length ≤ 4096) → (allC K).length ≤ K.length * 4096
  | [], _ => by simp [allC]
  | p :: r, h => by
    have h1 := allC_len (K := r) (fun q hq => h q (List.mem_cons_of_mem _ hq))
    have h2 := h p (List.mem_cons_self ..)
    rw [show p :: r = [p] ++ r from rfl, allC_append, allC_one, List.length_append, List.length_map, List.length_append, List.length_singleton]; omega
theorem allC_32 {K : BK} (ok : OkB K) : Is32 (allC K) := fun x hx => by
  obtain ⟨p, hp, hx⟩ := List.mem_flatMap.1 hx
  obtain ⟨e, he, rfl⟩ := List.mem_map.1 hx
  exact (ok.ent p hp e he).1
theorem eq_ids (w : World) {x y : List UInt8} (hx : x.length = 32) (hy : y.length = 32) : (Op.equalIn 10000 IdT (.agg (Lib.byteCells x).toArray) (.agg (Lib.byteCells y).toArray)).run Tryz.prog w = .ok (x == y) w := by
  have hb := run_equalIn_bytes (P := Tryz.prog) w 9998 81 5 32 Tryz.underlying81 Tryz.underlying5 rsize8 x y hx hy
  exact hb
set_option maxHeartbeats 8000000 in
set_option maxRecDepth 100000 in
theorem rroots_any (B : Nat) (w : World) (r : Nat) (v : Value) (Z : BM) (ok : OkB (plainB Z)) (h : RBk B w r v Z) :
    Calls Tryz.prog 50 #[ptr r] w fun e w' => ∃ v' R, e = .returned v' ∧ w'.ownsRow w.heap.size IdT 32 v' (ddN R R.length).length (idsC (ddN R R.length)) ∧ Below w.heap.size w w' ∧ R.Perm (allC (plainB Z)) ∧ Ris R := by
  obtain ⟨i0, hi0, hz0, hz1, hz2⟩ := info_parts' infoId
  have hz3 : zeroId.cells.size = 32 := zeroId_size
  obtain ⟨va, vc, rfl⟩ := rowS_slice h.row
  have H := Lib.hid h; have HOK := Lib.hid ok
  have HZL : Hid (Z.length ≤ 64) := Lib.hid (by have := ok.size; rwa [plain_length] at this)
  have KV : Hid (∀ w' : World, Below w.heap.size w w' → w'.cell? ⟨r, 0, none⟩ = some (.slice va Z.length vc)) := Lib.hid (fun w' hb => cell_of_heap (h.below hb).book)
  have HAL : Hid (∀ i, (allC (plainB (Z.take i))).length ≤ i * 4096) := Lib.hid (fun i => by
    have h1 := allC_len (K := plainB (Z.take i)) (fun p hp => ok.len p (by rw [plainB, mapM', List.map_take] at hp; exact List.mem_of_mem_take hp))
    rw [plain_length, List.length_take] at h1
    have h3 : min i Z.length * 4096 ≤ i * 4096 := Nat.mul_le_mul_right _ (Nat.min_le_left ..)
    omega)
  have HTK : Hid (∀ i p, Z[i]? = some p → plainB (Z.take (i + 1)) = plainB (Z.take i) ++ [(p.1, p.2.2)]) := Lib.hid (fun i p hp => by
    rw [List.take_add_one, hp]; simp [plainB, mapM'])
  clear h ok
  unfold ptr
  go_enter Tryz.func50, Tryz.ntmps50
  go_wp2_with fail
  go_loopw [3, 4, 5] (fun u3 u4 u5 wr => ∃ i : Nat, i ≤ Z.length ∧ u4 = .int .i64 (i : Int) ∧ Hid (wr.ownsRow w.heap.size IdT 32 u3 (allC (plainB (Z.take i))).length (idsC (allC (plainB (Z.take i))))) ∧ Hid (Below w.heap.size w wr)) (fun _ u4 _ _ => Z.length - (RowKit.intOf u4).toNat)
  case atStart => exact ⟨0, Nat.zero_le _, rfl, Lib.hid (World.ownsRow_nil _ _ _ _), Lib.hid (Below.refl _ _)⟩
  case round =>
    obtain ⟨i, hi, rfl, HO, HB⟩ := hrel
    obtain ⟨wo, hwo⟩ : ∃ wo, wo = wr := ⟨_, rfl⟩
    subst hwo
    have k0 := KV.out wo HB.out
    have hZL : Z.length ≤ 64 := HZL.out
    by_cases hil : (i : Int) < (Z.length : Int)
    · have hi2 : i < Z.length := by omega
      have h0 : (0 : Int) ≤ (i : Int) := by omega
      obtain ⟨p, hp⟩ : ∃ p, Z[i]? = some p := ⟨_, List.getElem?_eq_getElem hi2⟩
      have hpm := List.mem_of_getElem? hp
      have hrow := H.out.each p hpm
      have hne := HOK.out.ne _ (plain_mem hpm)
      have hent := HOK.out.ent _ (plain_mem hpm)
      have hlen := HOK.out.len _ (plain_mem hpm)
      dsimp only at hne hent hlen
      obtain ⟨m, hm⟩ : ∃ m, m = p.2.2.length := ⟨_, rfl⟩
      have hm0 : m ≠ 0 := by rw [hm]; intro e; exact hne (List.eq_nil_of_length_eq_zero e)
      rw [← hm] at hrow
      obtain ⟨ge, ce, hpv, hgl, _, hrc⟩ := rowS_form hrow hm0
      rw [hpv] at hrow
      have HROW := Lib.hid hrow
      obtain ⟨g, c, hvv, _⟩ := H.out.cells (by omega)
      injection hvv with e1 _ e3
      subst e1 e3
      have KC : Hid (∀ w' : World, Below w.heap.size w w' → w'.cell? ⟨r, 0, none⟩ = some (.slice (some ⟨g, 0, none⟩) Z.length vc) ∧ w'.cell? ⟨g, i * 2 + 1, none⟩ = some (.slice (some ⟨ge, 0, none⟩) m ce)) := Lib.hid (fun w' hb => by
        obtain ⟨g', c', hv', _, hc⟩ := (H.out.below hb).cells (by omega)
        injection hv' with e1 _ _
        injection e1 with e1
        injection e1 with e1
        subst e1
        obtain ⟨q1, q2⟩ := hc i p hp
        exact ⟨KV.out w' hb, by rw [q2, hpv]⟩)
      have HTK1 := Lib.hid (HTK.out i p hp)
      have HM := Lib.hid hm; have HENT := Lib.hid hent; have HM4 : Hid (m ≤ 4096) := Lib.hid (by rw [hm]; exact hlen)
      have HM0 := Lib.hid hm0
      have HAL1 := Lib.hid (HAL.out i)
      obtain ⟨A, hA⟩ : ∃ A, A = allC (plainB (Z.take i)) := ⟨_, rfl⟩
      rw [← hA] at HO HAL1
      have HTK2 : Hid (allC (plainB (Z.take (i + 1))) = A ++ p.2.2.map En.c) := Lib.hid (by rw [HTK1.out, allC_append, allC_one, hA])
      clear hp hpm hrow hne hent hlen hm hpv hgl hrc HTK1 hA hm0
      go_wp2
      go_loopw [3, 5] (fun u3 u5 wr => ∃ j : Nat, j ≤ m ∧ u5 = .int .i64 (j : Int) ∧ Hid (wr.ownsRow w.heap.size IdT 32 u3 (A ++ (p.2.2.take j).map En.c).length (idsC (A ++ (p.2.2.take j).map En.c))) ∧ Hid (Below w.heap.size w wr)) (fun _ u5 _ => m - (RowKit.intOf u5).toNat)
      case atStart => exact ⟨0, by omega, rfl, Lib.hid (by simpa using HO.out), HB⟩
      case round =>
        obtain ⟨j, hj, rfl, HO, HB⟩ := hrel
        obtain ⟨z0, z2⟩ := KC.out wr HB.out
        have hm4 : m ≤ 4096 := HM4.out
        by_cases hjm : (j : Int) < (m : Int)
        · have hj0 : (0 : Int) ≤ (j : Int) := by omega
          obtain ⟨e, he⟩ : ∃ e, p.2.2[j]? = some e := ⟨_, List.getElem?_eq_getElem (by rw [← HM.out]; omega)⟩
          have HEC : Hid (e.c.length = 32) := Lib.hid (HENT.out e (List.mem_of_getElem? he)).1
          have HRG : Hid (wr.rangeAt ge (j * 33) (Lib.byteCells e.c)) := Lib.hid (row_bytes HROW.out HM0.out (fun e he => (HENT.out e he).1) he HB.out).1
          have HTJ : Hid (A ++ (p.2.2.take (j + 1)).map En.c = (A ++ (p.2.2.take j).map En.c) ++ [e.c]) := Lib.hid (by rw [List.take_add_one, he]; simp)
          have HDL : Hid ((A ++ (p.2.2.take j).map En.c).length ≤ i * 4096 + 4096) := Lib.hid (by
            have := HAL1.out; have := HM4.out
            rw [List.length_append, List.length_map, List.length_take]; omega)
          have HI64 : Hid (i ≤ 64) := Lib.hid (by have := HZL.out; omega)
          obtain ⟨AJ, hAJ⟩ : ∃ AJ, AJ = A ++ (p.2.2.take j).map En.c := ⟨_, rfl⟩
          rw [← hAJ] at HO HTJ HDL
          clear he hAJ
          go_wp2_with (first
            | (refine wpList_load_mid rfl _ _ rfl ge (j * 33) rfl (Lib.byteCells e.c) _ HRG.out Tryz.underlying81 rfl (infoIdX HEC.out) ?_)
            | (refine wpList_oneH 32 (by decide) (by decide) rfl 94 IdT (.tmp 42) (Lib.byteCells e.c) i0 _ rfl rfl Tryz.underlying94 hi0 hz0 hz1 (by rw [bytes_len, HEC.out]) ?_
               intro yd wd hhd hgd hyd hsd
               have HHd := Lib.hid hhd; have HGd := Lib.hid hgd; have HSd := Lib.hid hsd
               clear hhd hgd hyd hsd)
            | (refine wpList_appendN 32 (by decide) rfl _ _ 94 rfl w.heap.size IdT i0 _ 32 Tryz.underlying94 hi0 hz0 hz1 hz2 hz3 u3 AJ.length (idsC AJ) rfl (rowS_kept HO.out (fun x _ hl => HGd.out.block x hl (fun h => nomatch h))) _ 1 (Lib.byteCells e.c) rfl HHd.out (by rw [bytes_len, HEC.out]) (bytes_one e.c) (by have := HDL.out; have := HI64.out; unfold maxLen; omega) (by have := HDL.out; have := HI64.out; omega) (Nat.le_trans HB.out.size (Nat.le_of_lt HSd.out)) ?_
               intro vd xd hod hgd hvd
               have HOe := Lib.hid hod; have HKe := Lib.hid hgd
               clear hod hgd hvd)
            | fail)
          go_roundw
          case rel =>
            refine ⟨j + 1, by omega, by go_num, Lib.hid ?_, Lib.hid ?_⟩
            · rw [HTJ.out, idsC_append, idsC_one, List.length_append]; exact HOe.out
            · exact (HB.out.grown HGd.out HB.out.size (fun k hk => nomatch hk)).grown HKe.out (Nat.le_trans HB.out.size HGd.out.size) (fun x hx => rowS_ge HO.out x (by simp [ob, hx]))
          case measure => simp [RowKit.intOf]; omega
        · obtain rfl : j = m := by omega
          have HE : Hid (A ++ (p.2.2.take j).map En.c = allC (plainB (Z.take (i + 1)))) := Lib.hid (by rw [HTK2.out, HM.out, List.take_length])
          rw [HE.out] at HO
          go_wp2
          go_roundw
          case rel => exact ⟨i + 1, by omega, by go_num, HO, HB⟩
          case measure => simp [RowKit.intOf]; omega
    · obtain rfl : i = Z.length := by omega
      rw [List.take_length] at HO
      have HAL1 : Hid ((allC (plainB Z)).length ≤ 262144) := Lib.hid (by have h1 := HAL.out Z.length; have := HZL.out; rw [List.take_length] at h1; omega)
      have CR := Lib.hid (rising_any (allC (plainB Z)) wo u3 HAL1.out (allC_32 HOK.out) (own_in HO.out))
      go_wp2_with fail
      refine CR.out.mono ?_
      rintro e w3 ⟨v3, R, rfl, ho3, hb3, hp3, hr3⟩
      obtain ⟨a3, c3, rfl⟩ := rowS_slice ho3
      have HO3 := Lib.hid ho3; have HP3 := Lib.hid hp3; have HR3 := Lib.hid hr3
      have HB3 : Hid (Below w.heap.size w w3) := Lib.hid (HB.out.trans (hb3.mono HB.out.size))
      have H32 : Hid (Is32 R) := Lib.hid ((allC_32 HOK.out).perm hp3)
      have HRL : Hid (R.length ≤ 262144) := Lib.hid (by rw [hp3.length_eq]; exact HAL1.out)
      clear CR ho3 hb3 hp3 hr3
      go_wp2_with fail
      go_loopw [6, 7] (fun u6 u7 wr => ∃ i : Nat, i ≤ R.length ∧ u7 = .int .i64 (i : Int) ∧ Hid (wr.ownsRow w3.heap.size IdT 32 u6 (ddN R i).length (idsC (ddN R i))) ∧ Hid (Below w3.heap.size w3 wr)) (fun _ u7 _ => R.length - (RowKit.intOf u7).toNat)
      case atStart => exact ⟨0, Nat.zero_le _, rfl, Lib.hid (World.ownsRow_nil _ _ _ _), Lib.hid (Below.refl _ _)⟩
      case round =>
        obtain ⟨i, hi, rfl, HO, HB⟩ := hrel
        obtain ⟨wq, hwq⟩ : ∃ wq, wq = wr := ⟨_, rfl⟩
        subst hwq
        have hrl : R.length ≤ 262144 := HRL.out
        by_cases hir : (i : Int) < (R.length : Int)
        · have h0 : (0 : Int) ≤ (i : Int) := by omega
          have hi2 : i < R.length := by omega
          have hrne : R ≠ [] := by rintro rfl; simp at hi2
          obtain ⟨g, c, hv, hh, _⟩ := hold_own HO3.out hrne
          injection hv with e1 _ e3
          subst e1 e3
          have HH := Lib.hid hh
          obtain ⟨x, hx⟩ : ∃ x, R[i]? = some x := ⟨_, List.getElem?_eq_getElem hi2⟩
          have HXI := Lib.hid hx
          have HX32 : Hid (x.length = 32) := Lib.hid (H32.out x (List.mem_of_getElem? hx))
          have HDL : Hid ((ddN R i).length ≤ 262144) := Lib.hid (Nat.le_trans (ddN_len R i) (by have := HRL.out; omega))
          have HRX : Hid (∀ w', Below wq.heap.size wq w' → w'.rangeAt g (i * 32) (Lib.byteCells x)) := Lib.hid (fun w' hb => by
            have := (HH.out.below (HB.out.trans (hb.mono HB.out.size))).range H32.out hx
            rwa [Nat.zero_add] at this)
          clear hh hx hrne
          by_cases hz : i = 0
          · subst hz
            have HST : Hid (stays R 0 = true) := Lib.hid rfl
            have HRG : Hid (wq.drew.rangeAt g (0 * 32) (Lib.byteCells x)) := Lib.hid (HRX.out _ (Below.refl _ _).drew)
            have HOl : Hid (wq.drew.ownsRow w3.heap.size IdT 32 u6 (ddN R 0).length (idsC (ddN R 0))) := Lib.hid (rowS_kept HO.out (fun x _ hl => rfl))
            have HBl : Hid (Below w3.heap.size w3 wq.drew) := Lib.hid HB.out.drew
            have KR : Hid (∀ w' : World, Below wq.heap.size wq w' → w'.rangeAt g (0 * 32) (Lib.byteCells x) ∧ w'.rangeAt g (0 * 32) (Lib.byteCells x)) := Lib.hid (fun w' hb => ⟨HRX.out w' hb, HRX.out w' hb⟩)
            go_upto_region 14 with (fail)
            refine wp_region_held_drew (S := (fun w' : World => w'.rangeAt g (0 * 32) (Lib.byteCells x) ∧ w'.rangeAt g (0 * 32) (Lib.byteCells x))) (by kernel_rfl) (KR.out _ (Below.refl _ _).drew) (fun hHeld => ?_)
            refine wpAnyH_take (i := 0) (v := ?_) rfl (by kernel_rfl) (by kernel_rfl) (by kernel_rfl) (fun _ _ _ h => h) (Or.inl ⟨by rfl, ?q0⟩) hHeld ?_
            case q0 =>
              intro wS hSw
              obtain ⟨z0, z1⟩ := hSw
              go_simp
              try with_reducible rfl
            try simp only [Act.put, List.getElem_toArray, List.getElem_cons_zero, List.getElem_cons_succ, List.setIfInBounds_toArray, List.set_cons_zero, List.set_cons_succ]
            refine wpAnyH_take (i := 1) (v := ?_) rfl (by kernel_rfl) (by kernel_rfl) (by kernel_rfl) (fun _ _ _ h => h) (Or.inl ⟨by rfl, ?q1⟩) hHeld ?_
            case q1 =>
              intro wS hSw
              obtain ⟨z0, z1⟩ := hSw
              go_simp
              try with_reducible rfl
            try simp only [Act.put, List.getElem_toArray, List.getElem_cons_zero, List.getElem_cons_succ, List.setIfInBounds_toArray, List.set_cons_zero, List.set_cons_succ]
            refine wpAnyH_take (i := 2) (v := ?_) rfl (by kernel_rfl) (by kernel_rfl) (by kernel_rfl) (fun _ _ _ h => h) (Or.inl ⟨by rfl, ?q2⟩) hHeld ?_
            case q2 =>
              intro wS hSw
              obtain ⟨z0, z1⟩ := hSw
              go_simp
              try with_reducible rfl
            try simp only [Act.put, List.getElem_toArray, List.getElem_cons_zero, List.getElem_cons_succ, List.setIfInBounds_toArray, List.set_cons_zero, List.set_cons_succ]
            refine wpAnyH_take (i := 3) (v := undef) rfl (by kernel_rfl) (by kernel_rfl) (by kernel_rfl) (fun _ _ _ h => h) (Or.inr ⟨by rfl, rfl⟩) hHeld ?_
            try simp only [Act.put, List.getElem_toArray, List.getElem_cons_zero, List.getElem_cons_succ, List.setIfInBounds_toArray, List.set_cons_zero, List.set_cons_succ]
            refine wpAnyH_take (i := 4) (v := undef) rfl (by kernel_rfl) (by kernel_rfl) (by kernel_rfl) (fun _ _ _ h => h) (Or.inr ⟨by rfl, rfl⟩) hHeld ?_
            try simp only [Act.put, List.getElem_toArray, List.getElem_cons_zero, List.getElem_cons_succ, List.setIfInBounds_toArray, List.set_cons_zero, List.set_cons_succ]
            refine wpAnyH_take (i := 5) (v := undef) rfl (by kernel_rfl) (by kernel_rfl) (by kernel_rfl) (fun _ _ _ h => h) (Or.inr ⟨by rfl, rfl⟩) hHeld ?_
            try simp only [Act.put, List.getElem_toArray, List.getElem_cons_zero, List.getElem_cons_succ, List.setIfInBounds_toArray, List.set_cons_zero, List.set_cons_succ]
            refine wpAnyH_take (i := 6) (v := undef) rfl (by kernel_rfl) (by kernel_rfl) (by kernel_rfl) (fun _ _ _ h => h) (Or.inr ⟨by rfl, rfl⟩) hHeld ?_
            try simp only [Act.put, List.getElem_toArray, List.getElem_cons_zero, List.getElem_cons_succ, List.setIfInBounds_toArray, List.set_cons_zero, List.set_cons_succ]
            refine wpAnyH_take (i := 7) (v := undef) rfl (by kernel_rfl) (by kernel_rfl) (by kernel_rfl) (fun _ _ _ h => h) (Or.inr ⟨by rfl, rfl⟩) hHeld ?_
            try simp only [Act.put, List.getElem_toArray, List.getElem_cons_zero, List.getElem_cons_succ, List.setIfInBounds_toArray, List.set_cons_zero, List.set_cons_succ]
            refine wpAnyH_take (i := 8) (v := undef) rfl (by kernel_rfl) (by kernel_rfl) (by kernel_rfl) (fun _ _ _ h => h) (Or.inr ⟨by rfl, rfl⟩) hHeld ?_
            try simp only [Act.put, List.getElem_toArray, List.getElem_cons_zero, List.getElem_cons_succ, List.setIfInBounds_toArray, List.set_cons_zero, List.set_cons_succ]
            refine wpAnyH_take (i := 9) (v := undef) rfl (by kernel_rfl) (by kernel_rfl) (by kernel_rfl) (fun _ _ _ h => h) (Or.inr ⟨by rfl, rfl⟩) hHeld ?_
            try simp only [Act.put, List.getElem_toArray, List.getElem_cons_zero, List.getElem_cons_succ, List.setIfInBounds_toArray, List.set_cons_zero, List.set_cons_succ]
            refine wpAnyH_take (i := 10) (v := undef) rfl (by kernel_rfl) (by kernel_rfl) (by kernel_rfl) (fun _ _ _ h => h) (Or.inr ⟨by rfl, rfl⟩) hHeld ?_
            try simp only [Act.put, List.getElem_toArray, List.getElem_cons_zero, List.getElem_cons_succ, List.setIfInBounds_toArray, List.set_cons_zero, List.set_cons_succ]
            refine wpAnyH_take (i := 11) (v := undef) rfl (by kernel_rfl) (by kernel_rfl) (by kernel_rfl) (fun _ _ _ h => h) (Or.inr ⟨by rfl, rfl⟩) hHeld ?_
            try simp only [Act.put, List.getElem_toArray, List.getElem_cons_zero, List.getElem_cons_succ, List.setIfInBounds_toArray, List.set_cons_zero, List.set_cons_succ]
            refine wpAnyH_take (i := 12) (v := undef) rfl (by kernel_rfl) (by kernel_rfl) (by kernel_rfl) (fun _ _ _ h => h) (Or.inr ⟨by rfl, rfl⟩) hHeld ?_
            try simp only [Act.put, List.getElem_toArray, List.getElem_cons_zero, List.getElem_cons_succ, List.setIfInBounds_toArray, List.set_cons_zero, List.set_cons_succ]
            refine wpAnyH_take (i := 13) (v := ?_) rfl (by kernel_rfl) (by kernel_rfl) (by kernel_rfl) (fun _ _ _ h => h) (Or.inl ⟨by rfl, ?q13⟩) hHeld ?_
            case q13 =>
              intro wS hSw
              obtain ⟨z0, z1⟩ := hSw
              go_simp
              try with_reducible rfl
            try simp only [Act.put, List.getElem_toArray, List.getElem_cons_zero, List.getElem_cons_succ, List.setIfInBounds_toArray, List.set_cons_zero, List.set_cons_succ]
            refine wpAnyH_done (by kernel_rfl) ?_ _
            clear hHeld
            try simp only [Act.put, List.getElem_toArray, List.getElem_cons_zero, List.getElem_cons_succ, List.setIfInBounds_toArray, List.set_cons_zero, List.set_cons_succ]
            go_wp2_with (first
          | (refine wpList_load_mid rfl _ _ rfl g (0 * 32) rfl (Lib.byteCells x) _ HRG.out Tryz.underlying81 rfl (infoIdX HX32.out) ?_)
          | (refine wpList_oneH 32 (by decide) (by decide) rfl 94 IdT (.tmp 71) (Lib.byteCells x) i0 _ rfl rfl Tryz.underlying94 hi0 hz0 hz1 (by rw [bytes_len, HX32.out]) ?_
             intro yd wd hhd hgd hyd hsd
             have HHd := Lib.hid hhd; have HGd := Lib.hid hgd; have HSd := Lib.hid hsd
             clear hhd hgd hyd hsd)
          | (refine wpList_appendN 32 (by decide) rfl _ _ 94 rfl w3.heap.size IdT i0 _ 32 Tryz.underlying94 hi0 hz0 hz1 hz2 hz3 u6 (ddN R 0).length (idsC (ddN R 0)) rfl (rowS_kept HOl.out (fun x _ hl => HGd.out.block x hl (fun h => nomatch h))) _ 1 (Lib.byteCells x) rfl HHd.out (by rw [bytes_len, HX32.out]) (bytes_one x) (by have := HDL.out; unfold maxLen; omega) (by have := HDL.out; omega) (Nat.le_trans HBl.out.size (Nat.le_of_lt HSd.out)) ?_
             intro vd xd hod hgd hvd
             have HOe := Lib.hid hod; have HKe := Lib.hid hgd
             clear hod hgd hvd)
          | fail)
            go_roundw
            case rel =>
              refine ⟨0 + 1, by omega, by go_num, Lib.hid ?_, Lib.hid ?_⟩
              · rw [ddN_in HST.out HXI.out, idsC_append, idsC_one, List.length_append]; exact HOe.out
              · exact (HBl.out.grown HGd.out HBl.out.size (fun k hk => nomatch hk)).grown HKe.out (Nat.le_trans HBl.out.size HGd.out.size) (fun x hx => rowS_ge HO.out x (by simp [ob, hx]))
            case measure => simp [RowKit.intOf]; omega
          · obtain ⟨y, hy⟩ : ∃ y, R[i - 1]? = some y := ⟨_, List.getElem?_eq_getElem (by omega)⟩
            have HY32 : Hid (y.length = 32) := Lib.hid (H32.out y (List.mem_of_getElem? hy))
            have KR : Hid (∀ w' : World, Below wq.heap.size wq w' → w'.rangeAt g (i * 32) (Lib.byteCells x) ∧ w'.rangeAt g ((i - 1) * 32) (Lib.byteCells y)) := Lib.hid (fun w' hb => ⟨HRX.out w' hb, by
              have := (HH.out.below (HB.out.trans (hb.mono HB.out.size))).range H32.out hy
              rwa [Nat.zero_add] at this⟩)
            have HSTY : Hid (stays R i = !(x == y)) := Lib.hid (by
              have := stays_ne (l := R) (i := i - 1) (x := x) (y := y) (by rw [Nat.sub_add_cancel (by omega)]; exact HXI.out) hy
              rwa [Nat.sub_add_cancel (by omega)] at this)
            have hzi : ((i : Int) == 0) = false := by simp; omega
            have hsub : IntKind.i64.wrap ((i : Int) - 1) = ((i - 1 : Nat) : Int) := by rw [IntKind.wrap_i64]; omega
            have hs0 : (0 : Int) ≤ ((i - 1 : Nat) : Int) := by omega
            have hs1 : ((i - 1 : Nat) : Int) < (R.length : Int) := by omega
            have hE := fun w : World => eq_ids w HX32.out HY32.out
            have HRG : Hid (wq.drew.rangeAt g (i * 32) (Lib.byteCells x)) := Lib.hid (HRX.out _ (Below.refl _ _).drew)
            have HOl : Hid (wq.drew.ownsRow w3.heap.size IdT 32 u6 (ddN R i).length (idsC (ddN R i))) := Lib.hid (rowS_kept HO.out (fun x _ hl => rfl))
            have HBl : Hid (Below w3.heap.size w3 wq.drew) := Lib.hid HB.out.drew
            clear hy hz
            obtain ⟨q, hq⟩ : ∃ q, q = (x == y) := ⟨_, rfl⟩
            rw [← hq] at HSTY hE
            clear hq
            go_upto_region 14 with (fail)
            refine wp_region_held_drew (S := (fun w' : World => w'.rangeAt g (i * 32) (Lib.byteCells x) ∧ w'.rangeAt g ((i - 1) * 32) (Lib.byteCells y))) (by kernel_rfl) (KR.out _ (Below.refl _ _).drew) (fun hHeld => ?_)
            refine wpAnyH_take (i := 0) (v := ?_) rfl (by kernel_rfl) (by kernel_rfl) (by kernel_rfl) (fun _ _ _ h => h) (Or.inl ⟨by rfl, ?q0⟩) hHeld ?_
            case q0 =>
              intro wS hSw
              obtain ⟨z0, z1⟩ := hSw
              go_simp
              try with_reducible rfl
            try simp only [Act.put, List.getElem_toArray, List.getElem_cons_zero, List.getElem_cons_succ, List.setIfInBounds_toArray, List.set_cons_zero, List.set_cons_succ]
            refine wpAnyH_take (i := 1) (v := ?_) rfl (by kernel_rfl) (by kernel_rfl) (by kernel_rfl) (fun _ _ _ h => h) (Or.inl ⟨by rfl, ?q1⟩) hHeld ?_
            case q1 =>
              intro wS hSw
              obtain ⟨z0, z1⟩ := hSw
              go_simp
              try with_reducible rfl
            try simp only [Act.put, List.getElem_toArray, List.getElem_cons_zero, List.getElem_cons_succ, List.setIfInBounds_toArray, List.set_cons_zero, List.set_cons_succ]
            refine wpAnyH_take (i := 2) (v := ?_) rfl (by kernel_rfl) (by kernel_rfl) (by kernel_rfl) (fun _ _ _ h => h) (Or.inl ⟨by rfl, ?q2⟩) hHeld ?_
            case q2 =>
              intro wS hSw
              obtain ⟨z0, z1⟩ := hSw
              go_simp
              try with_reducible rfl
            try simp only [Act.put, List.getElem_toArray, List.getElem_cons_zero, List.getElem_cons_succ, List.setIfInBounds_toArray, List.set_cons_zero, List.set_cons_succ]
            refine wpAnyH_take (i := 3) (v := ?_) rfl (by kernel_rfl) (by kernel_rfl) (by kernel_rfl) (fun _ _ _ h => h) (Or.inl ⟨by rfl, ?q3⟩) hHeld ?_
            case q3 =>
              intro wS hSw
              obtain ⟨z0, z1⟩ := hSw
              go_simp
              try with_reducible rfl
            try simp only [Act.put, List.getElem_toArray, List.getElem_cons_zero, List.getElem_cons_succ, List.setIfInBounds_toArray, List.set_cons_zero, List.set_cons_succ]
            refine wpAnyH_take (i := 4) (v := ?_) rfl (by kernel_rfl) (by kernel_rfl) (by kernel_rfl) (fun _ _ _ h => h) (Or.inl ⟨by rfl, ?q4⟩) hHeld ?_
            case q4 =>
              intro wS hSw
              obtain ⟨z0, z1⟩ := hSw
              go_simp
              try with_reducible rfl
            try simp only [Act.put, List.getElem_toArray, List.getElem_cons_zero, List.getElem_cons_succ, List.setIfInBounds_toArray, List.set_cons_zero, List.set_cons_succ]
            refine wpAnyH_take (i := 5) (v := ?_) rfl (by kernel_rfl) (by kernel_rfl) (by kernel_rfl) (fun _ _ _ h => h) (Or.inl ⟨by rfl, ?q5⟩) hHeld ?_
            case q5 =>
              intro wS hSw
              obtain ⟨z0, z1⟩ := hSw
              go_simp
              try with_reducible rfl
            try simp only [Act.put, List.getElem_toArray, List.getElem_cons_zero, List.getElem_cons_succ, List.setIfInBounds_toArray, List.set_cons_zero, List.set_cons_succ]
            refine' wpAnyH_take (i := 6) (v := _) rfl (by kernel_rfl) (by kernel_rfl) (by kernel_rfl) (fun _ _ _ h => h) (yieldsIf_load_mid (by rfl) _ _ rfl g (i * 32) rfl (Lib.byteCells x) _ ?q6S ?q6u ?q6d ?q6i) hHeld ?q6x
            case q6S =>
              intro wS hSw
              exact hSw.1
            case q6u => exact Tryz.underlying81
            case q6d => rfl
            case q6i => exact (infoIdX HX32.out)
            try simp only [Act.put, List.getElem_toArray, List.getElem_cons_zero, List.getElem_cons_succ, List.setIfInBounds_toArray, List.set_cons_zero, List.set_cons_succ]
            refine wpAnyH_take (i := 7) (v := ?_) rfl (by kernel_rfl) (by kernel_rfl) (by kernel_rfl) (fun _ _ _ h => h) (Or.inl ⟨by rfl, ?q7⟩) hHeld ?_
            case q7 =>
              intro wS hSw
              obtain ⟨z0, z1⟩ := hSw
              go_simp
              try with_reducible rfl
            try simp only [Act.put, List.getElem_toArray, List.getElem_cons_zero, List.getElem_cons_succ, List.setIfInBounds_toArray, List.set_cons_zero, List.set_cons_succ]
            refine wpAnyH_take (i := 8) (v := ?_) rfl (by kernel_rfl) (by kernel_rfl) (by kernel_rfl) (fun _ _ _ h => h) (Or.inl ⟨by rfl, ?q8⟩) hHeld ?_
            case q8 =>
              intro wS hSw
              obtain ⟨z0, z1⟩ := hSw
              go_simp
              try with_reducible rfl
            try simp only [Act.put, List.getElem_toArray, List.getElem_cons_zero, List.getElem_cons_succ, List.setIfInBounds_toArray, List.set_cons_zero, List.set_cons_succ]
            refine wpAnyH_take (i := 9) (v := ?_) rfl (by kernel_rfl) (by kernel_rfl) (by kernel_rfl) (fun _ _ _ h => h) (Or.inl ⟨by rfl, ?q9⟩) hHeld ?_
            case q9 =>
              intro wS hSw
              obtain ⟨z0, z1⟩ := hSw
              go_simp
              try with_reducible rfl
            try simp only [Act.put, List.getElem_toArray, List.getElem_cons_zero, List.getElem_cons_succ, List.setIfInBounds_toArray, List.set_cons_zero, List.set_cons_succ]
            refine wpAnyH_take (i := 10) (v := ?_) rfl (by kernel_rfl) (by kernel_rfl) (by kernel_rfl) (fun _ _ _ h => h) (Or.inl ⟨by rfl, ?q10⟩) hHeld ?_
            case q10 =>
              intro wS hSw
              obtain ⟨z0, z1⟩ := hSw
              go_simp
              try with_reducible rfl
            try simp only [Act.put, List.getElem_toArray, List.getElem_cons_zero, List.getElem_cons_succ, List.setIfInBounds_toArray, List.set_cons_zero, List.set_cons_succ]
            refine' wpAnyH_take (i := 11) (v := _) rfl (by kernel_rfl) (by kernel_rfl) (by kernel_rfl) (fun _ _ _ h => h) (yieldsIf_load_mid (by rfl) _ _ rfl g ((i - 1) * 32) rfl (Lib.byteCells y) _ ?q11S ?q11u ?q11d ?q11i) hHeld ?q11x
            case q11S =>
              intro wS hSw
              exact hSw.2
            case q11u => exact Tryz.underlying81
            case q11d => rfl
            case q11i => exact (infoIdX HY32.out)
            try simp only [Act.put, List.getElem_toArray, List.getElem_cons_zero, List.getElem_cons_succ, List.setIfInBounds_toArray, List.set_cons_zero, List.set_cons_succ]
            refine wpAnyH_take (i := 12) (v := ?_) rfl (by kernel_rfl) (by kernel_rfl) (by kernel_rfl) (fun _ _ _ h => h) (Or.inl ⟨by rfl, ?q12⟩) hHeld ?_
            case q12 =>
              intro wS hSw
              obtain ⟨z0, z1⟩ := hSw
              go_simp
              try with_reducible rfl
            try simp only [Act.put, List.getElem_toArray, List.getElem_cons_zero, List.getElem_cons_succ, List.setIfInBounds_toArray, List.set_cons_zero, List.set_cons_succ]
            refine wpAnyH_take (i := 13) (v := ?_) rfl (by kernel_rfl) (by kernel_rfl) (by kernel_rfl) (fun _ _ _ h => h) (Or.inl ⟨by rfl, ?q13⟩) hHeld ?_
            case q13 =>
              intro wS hSw
              obtain ⟨z0, z1⟩ := hSw
              go_simp
              try with_reducible rfl
            try simp only [Act.put, List.getElem_toArray, List.getElem_cons_zero, List.getElem_cons_succ, List.setIfInBounds_toArray, List.set_cons_zero, List.set_cons_succ]
            refine wpAnyH_done (by kernel_rfl) ?_ _
            clear hHeld
            try simp only [Act.put, List.getElem_toArray, List.getElem_cons_zero, List.getElem_cons_succ, List.setIfInBounds_toArray, List.set_cons_zero, List.set_cons_succ]
            cases q with
            | true =>
              have HST : Hid (stays R i = false) := Lib.hid HSTY.out
              go_wp2
              go_roundw
              case rel => exact ⟨i + 1, by omega, by go_num, Lib.hid (by rw [ddN_out HST.out]; exact HOl.out), HBl⟩
              case measure => simp [RowKit.intOf]; omega
            | false =>
              have HST : Hid (stays R i = true) := Lib.hid HSTY.out
              go_wp2_with (first
          | (refine wpList_load_mid rfl _ _ rfl g (i * 32) rfl (Lib.byteCells x) _ HRG.out Tryz.underlying81 rfl (infoIdX HX32.out) ?_)
          | (refine wpList_oneH 32 (by decide) (by decide) rfl 94 IdT (.tmp 71) (Lib.byteCells x) i0 _ rfl rfl Tryz.underlying94 hi0 hz0 hz1 (by rw [bytes_len, HX32.out]) ?_
             intro yd wd hhd hgd hyd hsd
             have HHd := Lib.hid hhd; have HGd := Lib.hid hgd; have HSd := Lib.hid hsd
             clear hhd hgd hyd hsd)
          | (refine wpList_appendN 32 (by decide) rfl _ _ 94 rfl w3.heap.size IdT i0 _ 32 Tryz.underlying94 hi0 hz0 hz1 hz2 hz3 u6 (ddN R i).length (idsC (ddN R i)) rfl (rowS_kept HOl.out (fun x _ hl => HGd.out.block x hl (fun h => nomatch h))) _ 1 (Lib.byteCells x) rfl HHd.out (by rw [bytes_len, HX32.out]) (bytes_one x) (by have := HDL.out; unfold maxLen; omega) (by have := HDL.out; omega) (Nat.le_trans HBl.out.size (Nat.le_of_lt HSd.out)) ?_
             intro vd xd hod hgd hvd
             have HOe := Lib.hid hod; have HKe := Lib.hid hgd
             clear hod hgd hvd)
          | fail)
              go_roundw
              case rel =>
                refine ⟨i + 1, by omega, by go_num, Lib.hid ?_, Lib.hid ?_⟩
                · rw [ddN_in HST.out HXI.out, idsC_append, idsC_one, List.length_append]; exact HOe.out
                · exact (HBl.out.grown HGd.out HBl.out.size (fun k hk => nomatch hk)).grown HKe.out (Nat.le_trans HBl.out.size HGd.out.size) (fun x hx => rowS_ge HO.out x (by simp [ob, hx]))
              case measure => simp [RowKit.intOf]; omega
        · obtain rfl : i = R.length := by omega
          go_wp2
          go_ret
          exact ⟨_, rfl, R, row_mono HO.out HB3.out.size, HB3.out.trans (HB.out.mono HB3.out.size), HP3.out, HR3.out⟩
end Go.Proofs.YtkeegnhjemhblaaGreatDoor.Rb
