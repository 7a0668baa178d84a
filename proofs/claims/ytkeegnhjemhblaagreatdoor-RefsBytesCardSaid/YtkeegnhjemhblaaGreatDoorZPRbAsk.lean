import Derived.Test.YtkeegnhjemhblaaGreatDoorZPDrRef
import Derived.Test.YtkeegnhjemhblaaGreatDoorZPRbIds
import Derived.Test.YtkeegnhjemhblaaGreatDoorZPRbHeld
set_option linter.unusedSimpArgs false
set_option linter.unusedVariables false
/-
  What is told of a branch, by both books, in one form.
-/
set_option linter.unusedSimpArgs false
namespace Go.Proofs.YtkeegnhjemhblaaGreatDoor.Rb
open Go.RowKit Go.Maps Go.WideMaps Go.Proofs.YtkeegnhjemhblaaGreatDoor.Rf

def rowOf (K : BK) (k : List UInt8) : List En := (getM K k).getD []
def codeOf (K : BK) (k : List UInt8) : Int := if (getM K k).isSome then 0 else 6
def tipOf (K : BK) (k : List UInt8) : En := (rowOf K k).getLast?.getD enZ
theorem tip_split {K : BK} (ok : OkB K) {k : List UInt8} {l : List En} (h : getM K k = some l) : ∃ pl, l = pl ++ [tipOf K k] := by
  have hne := ok.ne (k, l) (getM_mem h)
  dsimp only at hne
  refine ⟨l.dropLast, ?_⟩
  have : tipOf K k = l.getLast hne := by rw [tipOf, rowOf, h]; simp [List.getLast?_eq_some_getLast hne]
  rw [this, List.dropLast_concat_getLast]
theorem row_32 {K : BK} (ok : OkB K) (k : List UInt8) : ∀ e ∈ rowOf K k, e.c.length = 32 := fun e he => by
  rw [rowOf] at he
  cases h : getM K k with
  | none => rw [h] at he; cases he
  | some l => rw [h] at he; exact (ok.ent (k, l) (getM_mem h) e he).1
theorem row_len {K : BK} (ok : OkB K) (k : List UInt8) : (rowOf K k).length ≤ 4096 := by
  rw [rowOf]
  cases h : getM K k with
  | none => simp
  | some l => exact ok.len (k, l) (getM_mem h)
theorem enZ_len : enZ.c.length = 32 := by decide
theorem tip_32 {K : BK} (ok : OkB K) (k : List UInt8) : (tipOf K k).c.length = 32 := by
  cases h : getM K k with
  | none => rw [tipOf, rowOf, h]; exact enZ_len
  | some l =>
    obtain ⟨pl, hl⟩ := tip_split ok h
    exact (ok.ent (k, l) (getM_mem h) _ (by dsimp only; rw [hl]; simp)).1
section
variable {X : Spect} {B : Nat} {w : World} {K : BK} {Z : BM}
theorem ask_log {g b : Nat} (h : BookAt X B w g b Z) (e : plainB Z = K) (ok : OkB K) (k : List UInt8) (hk : k.length ≤ maxLen) :
    Calls Tryz.prog 51 #[ptr g, .string ⟨k.toArray⟩] w fun e w' => ∃ v, e = .returned (.tuple #[v, .int .i64 (codeOf K k)]) ∧ w'.ownsRow w.heap.size 84 33 v (rowOf K k).length (cellsL (rowOf K k)) ∧ Below w.heap.size w w' := by
  subst e
  refine (bookLog_any B w g b Z ⟨k.toArray⟩ hk h ok).mono ?_
  rintro e w' ⟨hb, hp⟩
  have hk' : (⟨k.toArray⟩ : ByteArray).data.toList = k := rfl
  rw [hk'] at hp
  rw [codeOf, rowOf, plain_get]
  cases hg : getM Z k with
  | none => rw [hg] at hp; exact ⟨_, hp, World.ownsRow_nil _ _ _ _, hb⟩
  | some p =>
    rw [hg] at hp
    obtain ⟨v', he, ho⟩ := hp
    exact ⟨v', he, ho, hb⟩
theorem ask_rlog {r : Nat} {v : Value} (h : RBk B w r v Z) (e : plainB Z = K) (ok : OkB K) (k : List UInt8) :
    Calls Tryz.prog 52 #[ptr r, .string ⟨k.toArray⟩] w fun e w' => ∃ v, e = .returned (.tuple #[v, .int .i64 (codeOf K k)]) ∧ (∀ W r1 v1, RBk B W r1 v1 Z → W.ownsRow B EnT 33 v (rowOf K k).length (cellsL (rowOf K k))) ∧ Below w.heap.size w w' := by
  subst e
  refine (rlog_any B w r v Z k (by have := ok.size; rw [plain_length] at this; omega) h).mono ?_
  rintro e w' ⟨rfl, hb⟩
  rw [codeOf, rowOf, plain_get, logV]
  cases hg : getM Z k with
  | none => exact ⟨_, rfl, fun _ _ _ _ => World.ownsRow_nil _ _ _ _, hb⟩
  | some p => exact ⟨_, rfl, fun _ _ _ h => h.each _ (getM_mem hg), hb⟩
theorem ask_tip {g b : Nat} (h : BookAt X B w g b Z) (e : plainB Z = K) (ok : OkB K) (k : List UInt8) (hk : k.length ≤ maxLen) :
    Calls Tryz.prog 53 #[ptr g, .string ⟨k.toArray⟩] w fun e w' => e = .returned (.tuple #[enV (tipOf K k), .int .i64 (codeOf K k)]) ∧ Below w.heap.size w w' := by
  subst e
  have hk' : (⟨k.toArray⟩ : ByteArray).data.toList = k := rfl
  cases hg : getM Z k with
  | none =>
    have e1 : tipOf (plainB Z) k = enZ := by rw [tipOf, rowOf, plain_get, hg]; rfl
    have e2 : codeOf (plainB Z) k = 6 := by rw [codeOf, plain_get, hg]; rfl
    rw [e1, e2]
    exact tip_none B w g b Z ⟨k.toArray⟩ hk h (by rw [hk']; exact hg)
  | some p =>
    obtain ⟨pv, l⟩ := p
    have hp : getM (plainB Z) k = some l := by rw [plain_get, hg]; rfl
    obtain ⟨pl, hl⟩ := tip_split ok hp
    have e2 : codeOf (plainB Z) k = 0 := by rw [codeOf, hp]; rfl
    rw [e2]
    exact tip_any B w g b Z ⟨k.toArray⟩ pv pl _ hk h ok (by rw [hk', hg, ← hl])
theorem ask_rtip {r : Nat} {v : Value} (h : RBk B w r v Z) (e : plainB Z = K) (ok : OkB K) (k : List UInt8) :
    Calls Tryz.prog 54 #[ptr r, .string ⟨k.toArray⟩] w fun e w' => e = .returned (.tuple #[enV (tipOf K k), .int .i64 (codeOf K k)]) ∧ Below w.heap.size w w' := by
  subst e
  cases hg : getM Z k with
  | none =>
    have e1 : tipOf (plainB Z) k = enZ := by rw [tipOf, rowOf, plain_get, hg]; rfl
    have e2 : codeOf (plainB Z) k = 6 := by rw [codeOf, plain_get, hg]; rfl
    rw [e1, e2]
    exact rtip_none B w r v Z k h (by have := ok.size; rw [plain_length] at this; omega) hg
  | some p =>
    obtain ⟨pv, l⟩ := p
    have hp : getM (plainB Z) k = some l := by rw [plain_get, hg]; rfl
    obtain ⟨pl, hl⟩ := tip_split ok hp
    have e2 : codeOf (plainB Z) k = 0 := by rw [codeOf, hp]; rfl
    rw [e2]
    exact rtip_some B w r v Z k pv pl _ h ok (by rw [hg, ← hl])
end
end Go.Proofs.YtkeegnhjemhblaaGreatDoor.Rb
/-
  The contract of the reference's Rising. Printed by genrise.py.
-/
set_option linter.unusedSimpArgs false
namespace Go.Proofs.YtkeegnhjemhblaaGreatDoor.Rb
open Go.RowKit Go.Maps Go.WideMaps Go.Proofs.YtkeegnhjemhblaaGreatDoor.Rf

def lenV : Value → Nat
  | .slice _ n _ => n
  | _ => 0
set_option maxHeartbeats 8000000 in
set_option maxRecDepth 100000 in
theorem rising_step (N : Nat) (IH : ∀ (L : Ids) (w : World) (x : Value), L.length < N → L.length ≤ 262144 → Is32 L → InI w x L →
      Calls Tryz.prog 115 #[x] w fun e w' => ∃ v R, e = .returned v ∧ w'.ownsRow w.heap.size IdT 32 v R.length (idsC R) ∧ Below w.heap.size w w' ∧ R.Perm L ∧ Ris R)
    (L : Ids) (w : World) (x : Value) (hN : L.length ≤ N) (hm : L.length ≤ 262144) (h32 : Is32 L) (h : InI w x L) :
    Calls Tryz.prog 115 #[x] w fun e w' => ∃ v R, e = .returned v ∧ w'.ownsRow w.heap.size IdT 32 v R.length (idsC R) ∧ Below w.heap.size w w' ∧ R.Perm L ∧ Ris R := by
  obtain ⟨i0, hi0, hz0, hz1, hz2⟩ := info_parts' infoId
  have hz3 : zeroId.cells.size = 32 := zeroId_size
  by_cases hs : L.length < 2
  · obtain ⟨xa, xc, rfl⟩ := h.form
    have h2 : (L.length : Int) < 2 := by omega
    obtain ⟨wa, hwa⟩ : ∃ wa, wa = w.alloc (.cells #[] IdT) := ⟨_, rfl⟩
    have HWA := Lib.hid hwa
    have HBA : Hid (Below w.heap.size w wa) := Lib.hid (by rw [hwa]; exact (Below.refl _ _).alloc (Nat.le_refl _) _)
    have HOA : Hid (wa.ownsRow w.heap.size IdT 32 (.slice (some ⟨w.heap.size, 0, none⟩) 0 0) 0 []) := Lib.hid (by rw [hwa]; exact own_noneN 32 w IdT)
    have HH : Hid (HoldN wa (.slice xa L.length xc) L.length (idsC L)) := Lib.hid (h.below HBA.out).hold
    have HLL := Lib.hid (idsC_length h32)
    have HRIS : Hid (Ris L) := Lib.hid (by
      rcases L with _ | ⟨a, _ | ⟨b, r⟩⟩
      · exact List.Pairwise.nil
      · exact List.pairwise_singleton _ _
      · simp at hs; omega)
    have HSM : Hid (L.length < 2) := Lib.hid hs
    clear hwa h hs hN h32
    go_enter Tryz.func115, Tryz.ntmps115
    go_wp2_with (first
      | (at_builtin; refine wpList_appendN 32 (by decide) rfl _ _ 94 rfl w.heap.size IdT i0 _ 32 Tryz.underlying94 hi0 hz0 hz1 hz2 hz3 (.slice (some ⟨w.heap.size, 0, none⟩) 0 0) 0 [] rfl (by have h := HOA.out; rw [HWA.out] at h; exact h) _ L.length (idsC L) rfl (by have h := HH.out; rw [HWA.out] at h; exact h) HLL.out (idsC_ones L) (by have := HSM.out; unfold maxLen; omega) (by have := HSM.out; omega) (by have h := HBA.out.size; rw [HWA.out] at h; exact h) ?_
         intro x5 w5 ho5 hg5 hv5
         rw [Nat.zero_add, List.nil_append] at ho5
         have HO5 := Lib.hid ho5
         have HB5 : Hid (Below w.heap.size w w5) := Lib.hid (HBA.out.grown (by rw [HWA.out]; exact hg5) HBA.out.size (fun k hk => Nat.le_of_eq (by simpa [Value.ownBlock] using hk)))
         clear ho5 hg5 hv5)
      | fail)
    go_ret
    exact ⟨_, L, rfl, HO5.out, HB5.out, List.Perm.refl _, HRIS.out⟩
  · have h2 : ¬ (L.length : Int) < 2 := by omega
    obtain ⟨g, off, c, rfl, hh⟩ : ∃ g off c, x = slI g off c L ∧ HoldI w g off c L := by
      rcases h with h | ⟨_, rfl⟩
      · exact h
      · exact absurd (by decide : ([] : Ids).length < 2) hs
    obtain ⟨m, hm2⟩ : ∃ m, m = L.length / 2 := ⟨_, rfl⟩
    have hm1 : 0 < m ∧ m < L.length := by omega
    have hw : wrap64 (m : Int) = (m : Int) := by unfold wrap64; omega
    have hd : (L.length : Int).tdiv 2 = (m : Int) := by rw [hm2]; exact (Int.ofNat_tdiv _ _).symm
    obtain ⟨f1, f2⟩ := hh.front (i := m) (by omega) h32
    have IHA := Lib.hid (IH (L.take m) w (slI g off c (L.take m)) (by rw [List.length_take]; omega) (by rw [List.length_take]; omega) (h32.take m) (.inl ⟨_, _, _, rfl, f2⟩))
    have BK : Hid (∀ w', Below w.heap.size w w' → ∃ off' c', (∀ w', (Instr.slice 94 (slI g off c L) (some (.int .i64 (m : Int))) none none).run Tryz.prog w' = .ok (slI g off' c' (L.drop m)) w') ∧
        Calls Tryz.prog 115 #[slI g off' c' (L.drop m)] w' fun e w2 => ∃ v R, e = .returned v ∧ w2.ownsRow w'.heap.size IdT 32 v R.length (idsC R) ∧ Below w'.heap.size w' w2 ∧ R.Perm (L.drop m) ∧ Ris R) := Lib.hid (fun w' hb => by
      obtain ⟨o2, c2, k1, k2⟩ := (hh.below hb).back (i := m) (by omega) h32
      exact ⟨o2, c2, k1, IH (L.drop m) w' _ (by rw [List.length_drop]; omega) (by rw [List.length_drop]; omega) (h32.drop m) (.inl ⟨_, _, _, rfl, k2⟩)⟩)
    have HF1 := Lib.hid f1
    have H32 := Lib.hid h32
    have HTD : Hid ((L.take m) ++ (L.drop m) = L) := Lib.hid (List.take_append_drop _ _)
    have HM : Hid (0 < m ∧ m < L.length ∧ L.length ≤ 262144) := Lib.hid ⟨hm1.1, hm1.2, hm⟩
    clear f1 f2 hh h h32 IH hN hs hm2 hm1 hm
    go_enter Tryz.func115, Tryz.ntmps115
    go_wp2_with (first
      | (refine wpList_want_run (by rfl) (slI g off c (L.take m)) (by
          refine exec_sliceN 94 (.tmp 12) none (some (.tmp 15)) (slI g off c L) _ none (some (.int .i64 (m : Int))) undI rfl rfl rfl ?_ (HF1.out _)
          simp only [Option.map_some]; go_simp) ?_)
      | fail)
    refine IHA.out.mono ?_
    rintro e w1 ⟨v1, RA, rfl, ho1, hb1, hp1, hr1⟩
    obtain ⟨o2, c2, k1, CB⟩ := BK.out w1 hb1
    have hra : RA ≠ [] := fun e => by
      have h1 := hp1.length_eq
      have := HM.out
      rw [e, List.length_take] at h1; simp at h1; omega
    obtain ⟨ga, ca, rfl, hha, _⟩ := hold_own ho1 hra
    have HHA := Lib.hid hha; have HB1 := Lib.hid hb1; have HPA := Lib.hid hp1; have HRA := Lib.hid hr1; have HK1 := Lib.hid k1; have HCB := Lib.hid CB; have HNA := Lib.hid hra
    have A32 : Hid (Is32 RA) := Lib.hid ((H32.out.take m).perm hp1)
    clear IHA BK hha hb1 hp1 hr1 k1 CB hra ho1
    go_wp2_with (first
      | (refine wpList_want_run (by rfl) (slI g o2 c2 (L.drop m)) (by
          refine exec_sliceN 94 (.tmp 18) (some (.tmp 21)) none (slI g off c L) _ (some (.int .i64 (m : Int))) none undI rfl rfl ?_ rfl (HK1.out _)
          simp only [Option.map_some]; go_simp) ?_)
      | fail)
    refine HCB.out.mono ?_
    rintro e w2 ⟨v2, RB, rfl, ho2, hb2, hp2, hr2⟩
    have hrb : RB ≠ [] := fun e => by
      have h1 := hp2.length_eq
      have := HM.out
      rw [e, List.length_drop] at h1; simp at h1; omega
    obtain ⟨gb, cb, rfl, hhb, _⟩ := hold_own ho2 hrb
    have HHB := Lib.hid hhb; have HB2 := Lib.hid hb2; have HPB := Lib.hid hp2; have HRB := Lib.hid hr2
    have B32 : Hid (Is32 RB) := Lib.hid ((H32.out.drop m).perm hp2)
    have HHA2 : Hid (HoldI w2 ga 0 ca RA) := Lib.hid (HHA.out.below hb2)
    have HBW : Hid (Below w.heap.size w w2) := Lib.hid (HB1.out.trans (hb2.mono HB1.out.size))
    have HLEN : Hid ((RA ++ RB).length ≤ 262144) := Lib.hid (by
      have h1 := HPA.out.length_eq; have h2 := HPB.out.length_eq; have := HM.out
      rw [List.length_take] at h1; rw [List.length_drop] at h2; rw [List.length_append]; omega)
    clear HCB hhb hb2 hp2 hr2 hrb ho2 HK1
    go_wp2_with fail
    go_loopw [3, 4, 5] (fun u3 u4 u5 wr => ∃ (A Bq out : Ids) (oa xa ob_ xb : Nat), u3 = slI ga oa xa A ∧ u4 = slI gb ob_ xb Bq ∧ Hid (Mrg (RA ++ RB) out A Bq) ∧ Hid (wr.ownsRow w2.heap.size IdT 32 u5 out.length (idsC out)) ∧ Hid (Below w2.heap.size w2 wr) ∧ Hid (HoldI w2 ga oa xa A ∧ HoldI w2 gb ob_ xb Bq)) (fun u3 u4 _ _ => lenV u3 + lenV u4)
    case atStart => exact ⟨RA, RB, [], 0, ca, 0, cb, rfl, rfl, Lib.hid (Mrg.start HRA.out HRB.out), Lib.hid (World.ownsRow_nil _ _ _ _), Lib.hid (Below.refl _ _), Lib.hid ⟨HHA2.out, HHB.out⟩⟩
    case round =>
      obtain ⟨A, Bq, out, oa, xa, ob_, xb, rfl, rfl, HMG, HO, HB, HAB⟩ := hrel
      have HL32 : Hid (Is32 A ∧ Is32 Bq ∧ Is32 out) := Lib.hid (by
        have hq := (A32.out.append B32.out).sub (fun x hx => HMG.out.perm.mem_iff.1 hx)
        exact ⟨hq.sub (fun x hx => by simp [hx]), hq.sub (fun x hx => by simp [hx]), hq.sub (fun x hx => by simp [hx])⟩)
      have HLT : Hid (out.length + (A.length + Bq.length) ≤ 262144) := Lib.hid (by
        have h1 := HMG.out.perm.length_eq; have := HLEN.out
        simp only [List.length_append] at h1 this; omega)
      obtain ⟨wo, hwo⟩ : ∃ wo, wo = wr := ⟨_, rfl⟩
      subst hwo
      by_cases hA : A = []
      · have hla : ¬ ((A.length : Int) > 0) := by rw [hA]; simp
        have HD := Lib.hid (HMG.out.done (.inl hA))
        have HX1 : Hid (HoldN wo (slI ga oa xa A) A.length (idsC A)) := Lib.hid (HAB.out.1.below HB.out).hold
        have HX2 : Hid (∀ w', Below w2.heap.size w2 w' → HoldN w' (slI gb ob_ xb Bq) Bq.length (idsC Bq)) := Lib.hid (fun w' hb => (HAB.out.2.below hb).hold)
        have HLA := Lib.hid (idsC_length HL32.out.1); have HLB := Lib.hid (idsC_length HL32.out.2.1)
        clear hA
        go_wp2_with (first
          | (refine wpList_appendN 32 (by decide) rfl _ _ 94 rfl w2.heap.size IdT i0 _ 32 Tryz.underlying94 hi0 hz0 hz1 hz2 hz3 u5 out.length (idsC out) rfl HO.out (slI ga oa xa A) A.length (idsC A) rfl HX1.out HLA.out (idsC_ones A) (by have := HLT.out; unfold maxLen; omega) (by have := HLT.out; omega) HB.out.size ?_
             intro va wa hoa hga hva
             have HOA := Lib.hid hoa
             have HBA : Hid (Below w2.heap.size w2 wa) := Lib.hid (HB.out.grown hga HB.out.size (fun k hk => rowS_ge HO.out k (by simp [ob, hk])))
             clear hoa hga hva)
          | (refine wpList_appendN 32 (by decide) rfl _ _ 94 rfl w2.heap.size IdT i0 _ 32 Tryz.underlying94 hi0 hz0 hz1 hz2 hz3 va (out.length + A.length) (idsC out ++ idsC A) rfl HOA.out (slI gb ob_ xb Bq) Bq.length (idsC Bq) rfl (HX2.out _ HBA.out) HLB.out (idsC_ones Bq) (by have := HLT.out; unfold maxLen; omega) (by have := HLT.out; omega) HBA.out.size ?_
             intro vz wz hoz hgz hvz
             have HOZ := Lib.hid hoz
             have HBZ : Hid (Below w2.heap.size w2 wz) := Lib.hid (HBA.out.grown hgz HBA.out.size (fun k hk => rowS_ge HOA.out k (by simp [ob, hk])))
             clear hoz hgz hvz)
          | fail)
        go_ret
        exact ⟨_, rfl, out ++ A ++ Bq, by rw [idsC_append, idsC_append, List.length_append, List.length_append]; exact row_mono HOZ.out HBW.out.size, HBW.out.trans (HBZ.out.mono HBW.out.size), HD.out.1.trans ((HPA.out.append HPB.out).trans (by rw [HTD.out])), HD.out.2⟩
      by_cases hB : Bq = []
      · have hla : (A.length : Int) > 0 := by have := List.length_pos_iff.2 hA; omega
        have hlb : ¬ ((Bq.length : Int) > 0) := by rw [hB]; simp
        have HD := Lib.hid (HMG.out.done (.inr hB))
        have HX1 : Hid (HoldN wo (slI ga oa xa A) A.length (idsC A)) := Lib.hid (HAB.out.1.below HB.out).hold
        have HX2 : Hid (∀ w', Below w2.heap.size w2 w' → HoldN w' (slI gb ob_ xb Bq) Bq.length (idsC Bq)) := Lib.hid (fun w' hb => (HAB.out.2.below hb).hold)
        have HLA := Lib.hid (idsC_length HL32.out.1); have HLB := Lib.hid (idsC_length HL32.out.2.1)
        clear hA hB
        go_wp2_with (first
          | (refine wpList_appendN 32 (by decide) rfl _ _ 94 rfl w2.heap.size IdT i0 _ 32 Tryz.underlying94 hi0 hz0 hz1 hz2 hz3 u5 out.length (idsC out) rfl HO.out (slI ga oa xa A) A.length (idsC A) rfl HX1.out HLA.out (idsC_ones A) (by have := HLT.out; unfold maxLen; omega) (by have := HLT.out; omega) HB.out.size ?_
             intro va wa hoa hga hva
             have HOA := Lib.hid hoa
             have HBA : Hid (Below w2.heap.size w2 wa) := Lib.hid (HB.out.grown hga HB.out.size (fun k hk => rowS_ge HO.out k (by simp [ob, hk])))
             clear hoa hga hva)
          | (refine wpList_appendN 32 (by decide) rfl _ _ 94 rfl w2.heap.size IdT i0 _ 32 Tryz.underlying94 hi0 hz0 hz1 hz2 hz3 va (out.length + A.length) (idsC out ++ idsC A) rfl HOA.out (slI gb ob_ xb Bq) Bq.length (idsC Bq) rfl (HX2.out _ HBA.out) HLB.out (idsC_ones Bq) (by have := HLT.out; unfold maxLen; omega) (by have := HLT.out; omega) HBA.out.size ?_
             intro vz wz hoz hgz hvz
             have HOZ := Lib.hid hoz
             have HBZ : Hid (Below w2.heap.size w2 wz) := Lib.hid (HBA.out.grown hgz HBA.out.size (fun k hk => rowS_ge HOA.out k (by simp [ob, hk])))
             clear hoz hgz hvz)
          | fail)
        go_ret
        exact ⟨_, rfl, out ++ A ++ Bq, by rw [idsC_append, idsC_append, List.length_append, List.length_append]; exact row_mono HOZ.out HBW.out.size, HBW.out.trans (HBZ.out.mono HBW.out.size), HD.out.1.trans ((HPA.out.append HPB.out).trans (by rw [HTD.out])), HD.out.2⟩
      obtain ⟨x, A', hax⟩ := List.exists_cons_of_ne_nil hA
      obtain ⟨y, B', hby⟩ := List.exists_cons_of_ne_nil hB
      have hx32 : Hid (x.length = 32) := Lib.hid (HL32.out.1 x (by rw [hax]; exact List.mem_cons_self ..))
      have hy32 : Hid (y.length = 32) := Lib.hid (HL32.out.2.1 y (by rw [hby]; exact List.mem_cons_self ..))
      have HEA : Hid (A = x :: A.tail) := Lib.hid (by rw [hax]; rfl)
      have HEB : Hid (Bq = y :: Bq.tail) := Lib.hid (by rw [hby]; rfl)
      have HM2 : Hid (Mrg (RA ++ RB) out (x :: A.tail) (y :: Bq.tail)) := Lib.hid (by rw [← HEA.out, ← HEB.out]; exact HMG.out)
      have KR : Hid (∀ w' : World, Below wo.heap.size wo w' → w'.rangeAt gb ob_ (Lib.byteCells y) ∧ w'.rangeAt ga oa (Lib.byteCells x)) := Lib.hid (fun w' hb => by
        have hb3 := HB.out.trans (hb.mono HB.out.size)
        refine ⟨?_, ?_⟩
        · have := (HAB.out.2.below hb3).range HL32.out.2.1 (i := 0) (x := y) (by rw [HEB.out]; rfl)
          rwa [Nat.zero_mul, Nat.add_zero] at this
        · have := (HAB.out.1.below hb3).range HL32.out.1 (i := 0) (x := x) (by rw [HEA.out]; rfl)
          rwa [Nat.zero_mul, Nat.add_zero] at this)
      have hp1 : 0 < A.length := List.length_pos_iff.2 hA
      have hp2 : 0 < Bq.length := List.length_pos_iff.2 hB
      have HPOS : Hid (0 < A.length ∧ 0 < Bq.length) := Lib.hid ⟨hp1, hp2⟩
      have hla : (A.length : Int) > 0 := by omega
      have hlb : (Bq.length : Int) > 0 := by omega
      clear hA hB hax hby
      go_upto_region 7 with (fail)
      refine wp_region_held_drew (S := (fun w' : World => w'.rangeAt gb ob_ (Lib.byteCells y) ∧ w'.rangeAt ga oa (Lib.byteCells x))) (by kernel_rfl) (KR.out _ (Below.refl _ _).drew) (fun hHeld => ?_)
      refine wpAnyH_take (i := 0) (v := ?_) rfl (by kernel_rfl) (by kernel_rfl) (by kernel_rfl) (fun _ _ _ h => h) (Or.inl ⟨by rfl, ?q0⟩) hHeld ?_
      case q0 =>
        intro wS hSw
        obtain ⟨z0, z1⟩ := hSw
        go_simp
        try with_reducible rfl
      try simp only [Act.put, List.getElem_toArray, List.getElem_cons_zero, List.getElem_cons_succ, List.setIfInBounds_toArray, List.set_cons_zero, List.set_cons_succ]
      refine wpAnyH_take (i := 1) (v := ?_) rfl (by kernel_rfl) (by kernel_rfl) (by kernel_rfl) (fun _ _ _ h => h) (Or.inl ⟨by rfl, ?q1⟩) hHeld ?_
      case q1 =>
        intro wS hSw
        obtain ⟨z0, z1⟩ := hSw
        go_simp
        try with_reducible rfl
      try simp only [Act.put, List.getElem_toArray, List.getElem_cons_zero, List.getElem_cons_succ, List.setIfInBounds_toArray, List.set_cons_zero, List.set_cons_succ]
      refine' wpAnyH_take (i := 2) (v := _) rfl (by kernel_rfl) (by kernel_rfl) (by kernel_rfl) (fun _ _ _ h => h) (yieldsIf_load_mid (by rfl) _ _ rfl gb ob_ rfl (Lib.byteCells y) _ ?q2S ?q2u ?q2d ?q2i) hHeld ?q2x
      case q2S =>
        intro wS hSw
        exact hSw.1
      case q2u => exact Tryz.underlying81
      case q2d => rfl
      case q2i => exact (infoIdX hy32.out)
      try simp only [Act.put, List.getElem_toArray, List.getElem_cons_zero, List.getElem_cons_succ, List.setIfInBounds_toArray, List.set_cons_zero, List.set_cons_succ]
      refine wpAnyH_take (i := 3) (v := ?_) rfl (by kernel_rfl) (by kernel_rfl) (by kernel_rfl) (fun _ _ _ h => h) (Or.inl ⟨by rfl, ?q3⟩) hHeld ?_
      case q3 =>
        intro wS hSw
        obtain ⟨z0, z1⟩ := hSw
        go_simp
        try with_reducible rfl
      try simp only [Act.put, List.getElem_toArray, List.getElem_cons_zero, List.getElem_cons_succ, List.setIfInBounds_toArray, List.set_cons_zero, List.set_cons_succ]
      refine wpAnyH_take (i := 4) (v := ?_) rfl (by kernel_rfl) (by kernel_rfl) (by kernel_rfl) (fun _ _ _ h => h) (Or.inl ⟨by rfl, ?q4⟩) hHeld ?_
      case q4 =>
        intro wS hSw
        obtain ⟨z0, z1⟩ := hSw
        go_simp
        try with_reducible rfl
      try simp only [Act.put, List.getElem_toArray, List.getElem_cons_zero, List.getElem_cons_succ, List.setIfInBounds_toArray, List.set_cons_zero, List.set_cons_succ]
      refine' wpAnyH_take (i := 5) (v := _) rfl (by kernel_rfl) (by kernel_rfl) (by kernel_rfl) (fun _ _ _ h => h) (yieldsIf_load_mid (by rfl) _ _ rfl ga oa rfl (Lib.byteCells x) _ ?q5S ?q5u ?q5d ?q5i) hHeld ?q5x
      case q5S =>
        intro wS hSw
        exact hSw.2
      case q5u => exact Tryz.underlying81
      case q5d => rfl
      case q5i => exact (infoIdX hx32.out)
      try simp only [Act.put, List.getElem_toArray, List.getElem_cons_zero, List.getElem_cons_succ, List.setIfInBounds_toArray, List.set_cons_zero, List.set_cons_succ]
      refine wpAnyH_ready (rs := [6]) (by kernel_rfl) (by simp) ?_
      refine AllReadyH.cons rfl (fun K hK => ?_) AllReadyH.nil
      refine step_wp rfl ?_
      go_simp
      refine (rless_any _ y x hy32.out hx32.out).mono ?_
      rintro e wl ⟨rfl, hbl⟩
      have HBL : Hid (Below wo.heap.size wo wl) := Lib.hid (Below.trans (Below.refl _ _).drew hbl)
      clear hbl
      refine hK.out _ _ (KR.out _ HBL.out) (fun hHeld2 => ?_)
      clear hK K hHeld
      have hHeld := hHeld2
      clear hHeld2
      try simp only [Act.put, List.getElem_toArray, List.getElem_cons_zero, List.getElem_cons_succ, List.setIfInBounds_toArray, List.set_cons_zero, List.set_cons_succ]
      refine wpAnyH_done (by kernel_rfl) ?_ _
      clear hHeld
      try simp only [Act.put, List.getElem_toArray, List.getElem_cons_zero, List.getElem_cons_succ, List.setIfInBounds_toArray, List.set_cons_zero, List.set_cons_succ]
      cases hlt : lt y x with
      | true =>
        have HLT1 := Lib.hid hlt
        have HRG : Hid (wl.rangeAt gb ob_ (Lib.byteCells y)) := Lib.hid ((KR.out wl HBL.out).1)
        have HOl := Lib.hid (rowS_kept HO.out (fun x _ hl => HBL.out.block x hl))
        obtain ⟨o4, c4, k4, h4⟩ := HAB.out.2.back (i := 1) (by omega) HL32.out.2.1
        rw [List.drop_one] at k4 h4
        have HK4 : Hid (∀ w', (Instr.slice 94 (slI gb ob_ xb Bq) (some (.int .i64 (1 : Int))) none none).run Tryz.prog w' = .ok (slI gb o4 c4 (Bq.tail)) w') := Lib.hid k4
        have HH4 := Lib.hid h4
        have HBl : Hid (Below w2.heap.size w2 wl) := Lib.hid (HB.out.trans (HBL.out.mono HB.out.size))
        clear k4 h4
        go_wp2_with (first
          | (refine wpList_load_mid rfl _ _ rfl gb ob_ rfl (Lib.byteCells y) _ HRG.out Tryz.underlying81 rfl (infoIdX hy32.out) ?_)
          | (refine wpList_oneH 32 (by decide) (by decide) rfl 94 IdT (.tmp 42) (Lib.byteCells y) i0 _ rfl rfl Tryz.underlying94 hi0 hz0 hz1 (by rw [bytes_len, hy32.out]) ?_
             intro yd wd hhd hgd hyd hsd
             have HHd := Lib.hid hhd; have HGd := Lib.hid hgd; have HSd := Lib.hid hsd
             clear hhd hgd hyd hsd)
          | (refine wpList_appendN 32 (by decide) rfl _ _ 94 rfl w2.heap.size IdT i0 _ 32 Tryz.underlying94 hi0 hz0 hz1 hz2 hz3 u5 out.length (idsC out) rfl (rowS_kept HOl.out (fun x _ hl => HGd.out.block x hl (fun h => nomatch h))) _ 1 (Lib.byteCells y) rfl HHd.out (by rw [bytes_len, hy32.out]) (bytes_one y) (by have := HLT.out; have := HPOS.out; unfold maxLen; omega) (by have := HLT.out; have := HPOS.out; omega) (Nat.le_trans HBl.out.size (Nat.le_of_lt HSd.out)) ?_
             intro vd xd hod hgd hvd
             have HOe := Lib.hid hod; have HKe := Lib.hid hgd
             clear hod hgd hvd)
          | (refine wpList_want_run (by rfl) (slI gb o4 c4 (Bq.tail)) (by
              refine exec_sliceN 94 (.tmp 45) (some (.const (.int .i64 1))) none (slI gb ob_ xb Bq) _ (some (.int .i64 (1 : Int))) none undI rfl rfl rfl rfl (HK4.out _)) ?_)
          | fail)
        go_roundw
        case rel =>
          refine ⟨A, Bq.tail, out ++ [y], oa, xa, o4, c4, rfl, rfl, Lib.hid ?_, Lib.hid ?_, Lib.hid ?_, Lib.hid ⟨HAB.out.1, HH4.out⟩⟩
          · have hm := HM2.out.right HLT1.out
            rw [← HEA.out] at hm
            exact hm
          · rw [idsC_append, idsC_one, List.length_append]; exact HOe.out
          · exact (HBl.out.grown HGd.out HBl.out.size (fun k hk => nomatch hk)).grown HKe.out (Nat.le_trans HBl.out.size HGd.out.size) (fun x hx => rowS_ge HO.out x (by simp [ob, hx]))
        case measure =>
          have := HPOS.out
          simp only [lenV, List.length_tail]; omega
      | false =>
        have HLT1 := Lib.hid hlt
        have HRG : Hid (wl.rangeAt ga oa (Lib.byteCells x)) := Lib.hid ((KR.out wl HBL.out).2)
        have HOl := Lib.hid (rowS_kept HO.out (fun x _ hl => HBL.out.block x hl))
        obtain ⟨o4, c4, k4, h4⟩ := HAB.out.1.back (i := 1) (by omega) HL32.out.1
        rw [List.drop_one] at k4 h4
        have HK4 : Hid (∀ w', (Instr.slice 94 (slI ga oa xa A) (some (.int .i64 (1 : Int))) none none).run Tryz.prog w' = .ok (slI ga o4 c4 (A.tail)) w') := Lib.hid k4
        have HH4 := Lib.hid h4
        have HBl : Hid (Below w2.heap.size w2 wl) := Lib.hid (HB.out.trans (HBL.out.mono HB.out.size))
        clear k4 h4
        go_wp2_with (first
          | (refine wpList_load_mid rfl _ _ rfl ga oa rfl (Lib.byteCells x) _ HRG.out Tryz.underlying81 rfl (infoIdX hx32.out) ?_)
          | (refine wpList_oneH 32 (by decide) (by decide) rfl 94 IdT (.tmp 50) (Lib.byteCells x) i0 _ rfl rfl Tryz.underlying94 hi0 hz0 hz1 (by rw [bytes_len, hx32.out]) ?_
             intro yd wd hhd hgd hyd hsd
             have HHd := Lib.hid hhd; have HGd := Lib.hid hgd; have HSd := Lib.hid hsd
             clear hhd hgd hyd hsd)
          | (refine wpList_appendN 32 (by decide) rfl _ _ 94 rfl w2.heap.size IdT i0 _ 32 Tryz.underlying94 hi0 hz0 hz1 hz2 hz3 u5 out.length (idsC out) rfl (rowS_kept HOl.out (fun x _ hl => HGd.out.block x hl (fun h => nomatch h))) _ 1 (Lib.byteCells x) rfl HHd.out (by rw [bytes_len, hx32.out]) (bytes_one x) (by have := HLT.out; have := HPOS.out; unfold maxLen; omega) (by have := HLT.out; have := HPOS.out; omega) (Nat.le_trans HBl.out.size (Nat.le_of_lt HSd.out)) ?_
             intro vd xd hod hgd hvd
             have HOe := Lib.hid hod; have HKe := Lib.hid hgd
             clear hod hgd hvd)
          | (refine wpList_want_run (by rfl) (slI ga o4 c4 (A.tail)) (by
              refine exec_sliceN 94 (.tmp 53) (some (.const (.int .i64 1))) none (slI ga oa xa A) _ (some (.int .i64 (1 : Int))) none undI rfl rfl rfl rfl (HK4.out _)) ?_)
          | fail)
        go_roundw
        case rel =>
          refine ⟨A.tail, Bq, out ++ [x], o4, c4, ob_, xb, rfl, rfl, Lib.hid ?_, Lib.hid ?_, Lib.hid ?_, Lib.hid ⟨HH4.out, HAB.out.2⟩⟩
          · have hm := HM2.out.left HLT1.out
            rw [← HEB.out] at hm
            exact hm
          · rw [idsC_append, idsC_one, List.length_append]; exact HOe.out
          · exact (HBl.out.grown HGd.out HBl.out.size (fun k hk => nomatch hk)).grown HKe.out (Nat.le_trans HBl.out.size HGd.out.size) (fun x hx => rowS_ge HO.out x (by simp [ob, hx]))
        case measure =>
          have := HPOS.out
          simp only [lenV, List.length_tail]; omega
theorem rising_any (L : Ids) (w : World) (x : Value) (hm : L.length ≤ 262144) (h32 : Is32 L) (h : InI w x L) :
    Calls Tryz.prog 115 #[x] w fun e w' => ∃ v R, e = .returned v ∧ w'.ownsRow w.heap.size IdT 32 v R.length (idsC R) ∧ Below w.heap.size w w' ∧ R.Perm L ∧ Ris R := by
  have H : ∀ (N : Nat) (L : Ids) (w : World) (x : Value), L.length < N → L.length ≤ 262144 → Is32 L → InI w x L →
      Calls Tryz.prog 115 #[x] w fun e w' => ∃ v R, e = .returned v ∧ w'.ownsRow w.heap.size IdT 32 v R.length (idsC R) ∧ Below w.heap.size w w' ∧ R.Perm L ∧ Ris R := by
    intro N
    induction N with
    | zero => intro L w x h; omega
    | succ N ih => intro L w x hN hm h32 h; exact rising_step N ih L w x (by omega) hm h32 h
  exact H (L.length + 1) L w x (by omega) hm h32 h
end Go.Proofs.YtkeegnhjemhblaaGreatDoor.Rb
