import Derived.Test.YthcjjekkjbidlaaGreatDoorZPStDec3
import Derived.Laws.EntriesVeiled
import Derived.WalkLawsBesides
set_option linter.unusedSimpArgs false
set_option linter.unusedVariables false
/-
  The contract of the program's Decode, at any bytes.
-/
namespace Go.Proofs.YthcjjekkjbidlaaGreatDoor.St
open Go.RowKit Go.Maps Go.WideMaps Go.Proofs.YthcjjekkjbidlaaGreatDoor.Rf Go.Proofs.YthcjjekkjbidlaaGreatDoor.Rd

def DecPost (w : World) : Option (List SE) → Ending → World → Prop
  | some L, e, w' => ∃ g b, e = .returned (.tuple #[ptr g, .int .i64 0]) ∧ IndexAt w.heap.size w' g b L ∧ Below w.heap.size w w'
  | none, e, w' => e = .returned (.tuple #[.pointer none, .int .i64 4]) ∧ Below w.heap.size w w'
/-- What comes out, from a place in the loop on. -/
def endOf : Option (List SE × List UInt8) → Option (List SE)
  | some (L, []) => some L
  | _ => none
def decEnd (ok : Bool) (n : Nat) (last : List UInt8) (S : List SE) (R : List UInt8) : Option (List SE) :=
  if ok then endOf (decGo n last S R) else none
theorem decX_eq (s : List UInt8) : decX s = decEnd (Lib.hasPrefix s mst && numB 65536 (cutT s mst)) (shN (cutT s mst)) [] [] (shR (cutT s mst)) := by
  have hp : s.take 4 = mst ↔ Lib.hasPrefix s mst = true := by
    rw [Lib.hasPrefix, List.isPrefixOf_iff_prefix, List.prefix_iff_eq_take]
    exact eq_comm
  rw [decX, decEnd]
  by_cases h : Lib.hasPrefix s mst = true
  · have hc : cutT s mst = s.drop 4 := by rw [cutT, if_pos h]; rfl
    rw [hc, h, Bool.true_and]
    by_cases hn : numB 65536 (s.drop 4) = true
    · rw [if_pos ⟨hp.2 h, hn⟩, if_pos hn]
      cases decGo (shN (s.drop 4)) [] [] (shR (s.drop 4)) with
      | none => rfl
      | some p => obtain ⟨L, R⟩ := p; cases R <;> rfl
    · rw [if_neg (fun x => hn x.2), if_neg hn]
  · rw [if_neg (fun x => h (hp.1 x.1)), if_neg (by simp [h])]
theorem decEnd_false (n : Nat) (last : List UInt8) (S : List SE) (R : List UInt8) : decEnd false n last S R = none := rfl
theorem decEnd_step (n : Nat) (last : List UInt8) (S : List SE) (R : List UInt8) : decEnd true (n + 1) last S R = decEnd (entB R && lt last (entE R).path && decide ((setX (entE R) S).1 = 0)) n (entE R).path (setX (entE R) S).2 (r7 R) := by
  rw [decEnd, if_pos rfl, decGo, decEnd]
  cases (entB R && lt last (entE R).path && decide ((setX (entE R) S).1 = 0)) <;> rfl

theorem fin_ok {A q r g b B : Nat} {w W : World} {R : List UInt8} {ok : Bool} {S : List SE} (hd : DSt A q r W R ok) (hi : IndexAt (r + 2) W g b S) (hb : Below B w W) (hA : B ≤ A) (x : Bool) :
    DSt A q r (W.setCell ⟨A, 0, none⟩ (.bool x)) R x ∧ IndexAt (r + 2) (W.setCell ⟨A, 0, none⟩ (.bool x)) g b S ∧ Below B w (W.setCell ⟨A, 0, none⟩ (.bool x)) := by
  have h1 := hd.Aq; have h2 := hd.qr; have h3 := hi.baseg; have h4 := hi.baseb
  refine ⟨hd.turn ((Turn.refl [A] W).setCell (.inl (by simp)) _) (by intro y hy; simp at hy; omega) (hd.ov.set x) ((Below.heap_setCell _ _ _ _ (by show q ≠ A; omega)).trans hd.rd), hi.kept (Below.heap_setCell _ _ _ _ (by show g ≠ A; omega)) (Below.heap_setCell _ _ _ _ (by show b ≠ A; omega)), hb.setCell (p := ⟨A, 0, none⟩) hA _⟩

set_option linter.unusedSimpArgs false in
set_option maxHeartbeats 16000000 in
set_option maxRecDepth 100000 in
theorem decode_any (w : World) (s : List UInt8) (hs : s.length ≤ 140737488355328) :
    Calls Tryz.prog 21 #[.string ⟨s.toArray⟩] w (DecPost w (decX s)) := by
  have CT := Lib.hid (cut_any s mst w hs)
  have CT : Hid (Calls Tryz.prog 60 #[.string ⟨s.toArray⟩, .string ⟨#[109, 115, 116, 49]⟩] w fun e w' => e = .returned (.tuple #[.string ⟨(cutT s mst).toArray⟩, .bool (Lib.hasPrefix s mst)]) ∧ w' = w) := CT
  have hDX := decX_eq s
  have htl : (cutT s mst).length ≤ 140737488355328 := by unfold cutT; split <;> (try rw [List.length_drop]) <;> omega
  generalize cutT s mst = t at *
  generalize Lib.hasPrefix s mst = ok0 at *
  have HDX := Lib.hid hDX
  clear hDX
  go_enter Tryz.func21, Tryz.ntmps21
  go_wp2_with fail
  refine CT.out.mono ?_
  rintro ex wx ⟨rfl, hwx⟩
  obtain rfl : w = wx := hwx.symm
  clear CT
  go_wp2_with fail
  obtain ⟨W1, hW1⟩ : ∃ W1, W1 = w.alloc (.cells #[.bool ok0] 4) := ⟨_, rfl⟩
  have ho1 : OkAt W1 w.heap.size ok0 := by rw [hW1]; exact (MapKept.heap_alloc w _).1
  have hb1 : Below w.heap.size w W1 := by rw [hW1]; exact (Below.refl _ _).alloc (Nat.le_refl _) _
  have RN := Lib.hid (reader_new W1 t)
  rw [← hW1]
  refine RN.out.mono ?_
  rintro ex w2 ⟨rfl, hw2⟩
  have hrd2 : ReaderAt w2 W1.heap.size t := by rw [hw2]; exact (MapKept.heap_alloc W1 _).1
  have hb2 : Below W1.heap.size W1 w2 := by rw [hw2]; exact (Below.refl _ _).alloc (Nat.le_refl _) _
  obtain ⟨q, hq⟩ : ∃ q, q = W1.heap.size := ⟨_, rfl⟩
  obtain ⟨A, hA⟩ : ∃ A, A = w.heap.size := ⟨_, rfl⟩
  rw [← hq] at hrd2 hb2 ⊢
  rw [← hA] at ho1 ⊢
  have hAq : A < q := by rw [hq]; exact lt_of_heap ho1
  have ho2 : OkAt w2 A ok0 := (hb2.block _ hAq).trans ho1
  have hb02 : Below w.heap.size w w2 := hb1.trans (hb2.mono (by omega))
  have HO2 := Lib.hid ho2; have HRD2 := Lib.hid hrd2; have HB02 := Lib.hid hb02; have HAQ := Lib.hid hAq; have HA := Lib.hid hA
  clear RN ho2 hrd2 hb02 hAq hA hq hw2 hb2 hb1 ho1 hW1
  unfold ptr
  go_wp2_with fail
  obtain ⟨W3, hW3⟩ : ∃ W3, W3 = (w2.alloc (.cells #[.pointer (some ⟨q, 0, none⟩)] 133)).alloc (.cells #[.func (.func 62) #[] #[.pointer (some ⟨A, 0, none⟩)]] 135) := ⟨_, rfl⟩
  rw [← hW3]
  obtain ⟨r, hr⟩ : ∃ r, r = w2.heap.size := ⟨_, rfl⟩
  rw [← hr]
  have hq2 := lt_of_heap HRD2.out
  have hs3 : W3.heap.size = r + 2 := by rw [hW3, one_size, one_size, hr]
  have hb3 : Below w2.heap.size w2 W3 := by rw [hW3]; exact ((Below.refl _ _).alloc (Nat.le_refl _) _).alloc (by rw [one_size]; omega) _
  have hrv : W3.heap[r]? = some (.cells #[ptr q] 133) := by rw [hW3, hr]; exact at_alloc (MapKept.heap_alloc w2 _).1 _
  have hkv : W3.heap[r + 1]? = some (.cells #[.func (.func 62) #[] #[ptr A]] 135) := by
    have := (MapKept.heap_alloc (w2.alloc (.cells #[.pointer (some ⟨q, 0, none⟩)] 133)) (.cells #[.func (.func 62) #[] #[.pointer (some ⟨A, 0, none⟩)]] 135)).1
    rw [one_size, ← hr] at this
    rw [hW3]; exact this
  have hd3 : DSt A q r W3 t ok0 := ⟨HO2.out.below hb3, (hb3.block _ hq2).trans HRD2.out, hrv, hkv, HAQ.out, by omega⟩
  have hb03 : Below w.heap.size w W3 := HB02.out.trans (hb3.mono HB02.out.size)
  have NU := Lib.hid (number_any A q r W3 t ok0 65536 htl hd3)
  have HD3 := Lib.hid hd3; have HB03 := Lib.hid hb03; have HS3 := Lib.hid hs3
  unfold ptr at NU
  clear hW3 hr hq2 hs3 hb3 hrv hkv hd3 hb03 HO2 HRD2 HB02
  refine NU.out.mono ?_
  rintro ex w4 ⟨rfl, hd4, ht4⟩
  have hb04 : Below w.heap.size w w4 := HB03.out.trans (ht4.below (by intro x hx; simp at hx; have := HA.out; have := HAQ.out; omega) HB03.out.size)
  have HD4 := Lib.hid hd4; have HB04 := Lib.hid hb04
  have NW := Lib.hid (new_any w4)
  have hnb := shN_lt t
  obtain ⟨n, hn⟩ : ∃ n, n = shN t := ⟨_, rfl⟩
  rw [← hn] at hnb ⊢
  have HN := Lib.hid hn
  clear hd4 ht4 hb04 NU hn
  go_wp2_with fail
  refine NW.out.mono ?_
  rintro ex w5 ⟨g, b, rfl, hix5, hb5⟩
  have hr4 : r + 2 ≤ w4.heap.size := lt_of_heap HD4.out.kv
  have HD5 := Lib.hid (HD4.out.below hb5)
  have HIX5 := Lib.hid (hix5.mono hr4)
  have HB05 := Lib.hid (HB04.out.trans (hb5.mono HB04.out.size))
  have HEQ : Hid (decX s = decEnd (ok0 && numB 65536 t) n [] [] (shR t)) := Lib.hid (by rw [HDX.out, HN.out])
  have HRL : Hid ((shR t).length ≤ 140737488355328) := Lib.hid (by have := shR_le t; omega)
  clear hix5 hb5 hr4 NW HD4 HB04 HD3 HB03 HS3 HDX HN
  generalize shR t = R0 at *
  generalize (ok0 && numB 65536 t) = ok1 at *
  unfold ptr
  go_wp2
  go_loopw [12, 13] (fun v12 v13 wr => ∃ (i : Nat) (last R : List UInt8) (S : List SE) (ok : Bool), i ≤ n ∧ v13 = .int .u64 i ∧ v12 = .string ⟨last.toArray⟩ ∧ Hid (DSt A q r wr R ok) ∧ Hid (IndexAt (r + 2) wr g b S) ∧ Hid (Below w.heap.size w wr) ∧ Hid (R.length ≤ 140737488355328) ∧ Hid (decX s = decEnd ok (n - i) last S R)) (fun _ v13 _ => n - (RowKit.intOf v13).toNat)
  case atStart => exact ⟨0, [], R0, [], ok1, by omega, rfl, rfl, HD5, HIX5, HB05, HRL, HEQ⟩
  case round =>
    obtain ⟨i, last, R, S, ok, hin, rfl, rfl, HD, HIX, HB, HR, HE⟩ := hrel
    obtain ⟨wo, hwo⟩ : ∃ wo, wo = wr := ⟨_, rfl⟩
    subst hwo
    have cA : wo.cell? ⟨A, 0, none⟩ = some (.bool ok) := cell_of_heap HD.out.ov
    by_cases hgo : i < n ∧ ok = true
    · obtain ⟨hin2, rfl⟩ := hgo
      have hin3 : (i : Int) < (n : Int) := by omega
      have cr : wo.cell? ⟨r, 0, none⟩ = some (.pointer (some ⟨q, 0, none⟩)) := cell_of_heap HD.out.rv
      have hl0 := HR.out
      have hl1 : (r1 R).length ≤ 140737488355328 := Nat.le_trans (txR_le 65536 R) hl0
      have hl2 : (r2 R).length ≤ 140737488355328 := Nat.le_trans (tkR_le 1 _) hl1
      have hl3 : (r3 R).length ≤ 140737488355328 := Nat.le_trans (shR_le _) hl2
      have hl4 : (r4 R).length ≤ 140737488355328 := Nat.le_trans (shR_le _) hl3
      have hl5 : (r5 R).length ≤ 140737488355328 := Nat.le_trans (shR_le _) hl4
      have hl6 : (r6 R).length ≤ 140737488355328 := Nat.le_trans (tkR_le 1 _) hl5
      have HL7 : Hid ((r7 R).length ≤ 140737488355328) := Lib.hid (Nat.le_trans (tkR_le 32 _) hl6)
      have HL1 := Lib.hid hl1; have HL2 := Lib.hid hl2; have HL3 := Lib.hid hl3; have HL4 := Lib.hid hl4; have HL6 := Lib.hid hl6
      have HFE := Lib.hid (ent_fits hl0)
      have TX := Lib.hid (text_any wo q R 65536 (by decide) hl0 HD.out.rd)
      obtain ⟨p, hp⟩ : ∃ p, p = txT 65536 R := ⟨_, rfl⟩
      rw [← hp] at TX
      have HP := Lib.hid hp
      have HCE := Lib.hid (txE_dec 65536 R)
      generalize txE 65536 R = ce at *
      clear hl0 hl1 hl2 hl3 hl4 hl5 hl6 hp
      unfold ptr at TX
      go_wp2_with fail
      refine TX.out.mono ?_
      rintro ex w1 ⟨rfl, hr1, t1⟩
      have hAq := HD.out.Aq
      have ho1 : OkAt w1 A true := (t1.block _ (lt_of_heap HD.out.ov) (by simp; omega)).trans HD.out.ov
      have hd1 : DSt A q r w1 (r1 R) true := HD.out.turn t1 (by intro x hx; simp at hx; have := HD.out.qr; omega) ho1 hr1
      have KC := Lib.hid (keepc_any w1 A true ce ho1)
      rw [HCE.out, Bool.true_and] at KC
      have ck : w1.cell? ⟨r + 1, 0, none⟩ = some (.func (.func 62) #[] #[.pointer (some ⟨A, 0, none⟩)]) := cell_of_heap hd1.kv
      have HD1 := Lib.hid hd1; have HT1 := Lib.hid t1
      unfold ptr at KC
      clear hr1 t1 ho1 hd1 TX cr cA HCE
      go_wp2_with fail
      refine KC.out.mono ?_
      rintro ex w2 ⟨rfl, ho2, t2⟩
      have hd2 : DSt A q r w2 (r1 R) (txB 65536 R) := HD1.out.turn t2 (by intro x hx; simp at hx; have := HD1.out.qr; omega) ho2 ((t2.block _ (lt_of_heap HD1.out.rd) (by simp; omega)).trans HD1.out.rd)
      have hT2 : Turn [A, q] wo w2 := (HT1.out.mono (Y := [A, q]) (by simp)).trans (t2.mono (Y := [A, q]) (by simp)) (fun y hy => .inl hy)
      have hbg := HIX.out.baseg; have hbb := HIX.out.baseb; have hqr := HD.out.qr
      have hix2 : IndexAt (r + 2) w2 g b S := HIX.out.kept (hT2.block _ HIX.out.lt_g (by simp; omega)) (hT2.block _ HIX.out.lt_b (by simp; omega))
      have hb2 : Below w.heap.size w w2 := HB.out.trans (hT2.below (by intro x hx; simp at hx; have := HA.out; omega) HB.out.size)
      have HD2 := Lib.hid hd2; have HIX2 := Lib.hid hix2; have HB2 := Lib.hid hb2
      have Z0 := Lib.hid (show (SE.cells ⟨p, 0, 0, 0, 0, 0, List.replicate 32 0⟩).length = 38 from cells_size (by simp))
      have ZI : Hid ((Tryz.prog.info? 44).map (·.size) = some (SE.cells ⟨p, 0, 0, 0, 0, 0, List.replicate 32 0⟩).toArray.size) := Lib.hid (infoEn (by simp))
      have ZS : Hid (38 = (SE.cells ⟨p, 0, 0, 0, 0, 0, List.replicate 32 0⟩).toArray.size) := Lib.hid (by rw [List.size_toArray, Z0.out])
      clear ho2 t2 hd2 hT2 hix2 hb2 KC ck hAq hbg hbb hqr
      go_wp2_with (first
        | (refine wpList_build0 rfl (.tmp 46) rfl p rfl ?_)
        | (refine wpList_store_new (by first | rfl | rw [one_size]) rfl _ _ _ rfl (SE.cells ⟨p, 0, 0, 0, 0, 0, List.replicate 32 0⟩).toArray rfl rfl ZI.out ZS.out (cells_all _) ?_
           intro w3 hq3 hb3 hs3
           have HQ3 := Lib.hid hq3; have HB3 := Lib.hid hb3
           clear hq3 hb3 hs3))
      obtain ⟨E, hE⟩ : ∃ E, E = w2.heap.size := ⟨_, rfl⟩
      have st3 : BdSt w A q r g b E S w3 (r1 R) (txB 65536 R) ⟨p, 0, 0, 0, 0, 0, List.replicate 32 0⟩ := by
        have hk := lt_of_heap HD2.out.kv
        have hg := HIX2.out.lt_g; have hb := HIX2.out.lt_b
        exact ⟨HD2.out.below HB3.out, HIX2.out.below HB3.out, by rw [hE]; exact HQ3.out, HB2.out.trans (HB3.out.mono HB2.out.size), by omega, by omega, by omega, by rw [HA.out]; omega⟩
      rw [← hE]
      have ST3 := Lib.hid st3
      clear st3 hE HQ3 HB3 HD2 HIX2 HB2 Z0 ZI ZS
      unfold ptr at *
      refine (takec_any A q r _ (r1 R) _ 1 (by decide) ST3.out.ds).mono ?_
      rintro ex w4 ⟨vt, rfl, hvt, dt, tt⟩
      obtain ⟨gt, capt, nd, hnd, rfl, ct⟩ := tk_one hvt
      have HND := Lib.hid hnd
      clear hnd
      have st4 := ST3.out.step dt tt
      have ST4 := Lib.hid st4
      obtain ⟨ce1, ce2, ce3, ce4, ce5⟩ := cell_ent st4.he
      have fe := st4.fz 1
      have SA4 := Lib.hid (st4.ent (Turn.setCell (Turn.refl [E] w4) (p := ⟨E, 1, none⟩) (.inl (by simp)) _) (ent1 st4.he nd))
      clear hvt dt tt st4
      go_wp2_with fail
      clear ct ce1 ce2 ce3 ce4 ce5 fe
      refine (number_any A q r _ (r2 R) _ 1048576 HL2.out SA4.out.ds).mono ?_
      rintro ex w5 ⟨rfl, dt, tt⟩
      have st5 := SA4.out.step dt tt
      have ST5 := Lib.hid st5
      obtain ⟨ce1, ce2, ce3, ce4, ce5⟩ := cell_ent st5.he
      have fe := st5.fz 2
      have SA5 := Lib.hid (st5.ent (Turn.setCell (Turn.refl [E] w5) (p := ⟨E, 2, none⟩) (.inl (by simp)) _) (ent2 st5.he (wrap64 (shN (r2 R) : Int))))
      clear dt tt st5
      go_wp2_with fail
      clear ce1 ce2 ce3 ce4 ce5 fe
      refine (number_any A q r _ (r3 R) _ 18446744073709551615 HL3.out SA5.out.ds).mono ?_
      rintro ex w6 ⟨rfl, dt, tt⟩
      have st6 := SA5.out.step dt tt
      have ST6 := Lib.hid st6
      obtain ⟨ce1, ce2, ce3, ce4, ce5⟩ := cell_ent st6.he
      have fe := st6.fz 3
      have SA6 := Lib.hid (st6.ent (Turn.setCell (Turn.refl [E] w6) (p := ⟨E, 3, none⟩) (.inl (by simp)) _) (ent3 st6.he (shN (r3 R))))
      clear dt tt st6
      go_wp2_with fail
      clear ce1 ce2 ce3 ce4 ce5 fe
      refine (number_any A q r _ (r4 R) _ 1099511627776 HL4.out SA6.out.ds).mono ?_
      rintro ex w7 ⟨rfl, dt, tt⟩
      have st7 := SA6.out.step dt tt
      have ST7 := Lib.hid st7
      obtain ⟨ce1, ce2, ce3, ce4, ce5⟩ := cell_ent st7.he
      have fe := st7.fz 4
      have SA7 := Lib.hid (st7.ent (Turn.setCell (Turn.refl [E] w7) (p := ⟨E, 4, none⟩) (.inl (by simp)) _) (ent4 st7.he (wrap64 (shN (r4 R) : Int))))
      clear dt tt st7
      go_wp2_with fail
      clear ce1 ce2 ce3 ce4 ce5 fe
      refine (takec_any A q r _ (r5 R) _ 1 (by decide) SA7.out.ds).mono ?_
      rintro ex w8 ⟨vt, rfl, hvt, dt, tt⟩
      obtain ⟨gt, capt, kd, hkd, rfl, ct⟩ := tk_one hvt
      have HKD := Lib.hid hkd
      clear hkd
      have st8 := SA7.out.step dt tt
      have ST8 := Lib.hid st8
      obtain ⟨ce1, ce2, ce3, ce4, ce5⟩ := cell_ent st8.he
      have fe := st8.fz 5
      have SA8 := Lib.hid (st8.ent (Turn.setCell (Turn.refl [E] w8) (p := ⟨E, 5, none⟩) (.inl (by simp)) _) (ent5 st8.he kd))
      clear hvt dt tt st8
      go_wp2_with fail
      clear ct ce1 ce2 ce3 ce4 ce5 fe
      refine (takec_any A q r _ (r6 R) _ 32 (by decide) SA8.out.ds).mono ?_
      rintro ex w9 ⟨vt, rfl, hvt, dt, tt⟩
      obtain ⟨gt, capt, rfl, hrg⟩ := tk_id hvt
      have st9 := SA8.out.step dt tt
      have ST9 := Lib.hid st9
      obtain ⟨idb, hidb⟩ : ∃ idb, idb = tkF 32 (r6 R) := ⟨_, rfl⟩
      rw [← hidb] at hrg
      have hidl : idb.length = 32 := by rw [hidb, tkF_len]
      have harr : (Instr.arrayAt 42 (.slice (some ⟨gt, 0, none⟩) 32 capt)).run Tryz.prog w9 = .ok (.pointer (some ⟨gt, 0, none⟩)) w9 := run_arrayAt w9 _ _ 32 _ _ _ Tryz.underlying42 (by decide)
      have HRG := Lib.hid hrg; have HIL := Lib.hid hidl; have HIDB := Lib.hid hidb
      have HI32 := Lib.hid (info_id hidl)
      have HI33 : Hid ((Tryz.prog.info? 42).map (·.size) = some (Lib.byteCells idb).toArray.size) := Lib.hid (by rw [List.size_toArray]; exact info_id hidl)
      have E6 := Lib.hid (ent6 st9.he (by simp) idb hidl)
      have HTH : Hid (w9.there E 6 (Lib.byteCells idb).toArray.size) := Lib.hid (by rw [List.size_toArray, Lib.byteCells_length, hidl]; exact E6.out.2.1)
      have HONE : Hid ((Lib.byteCells idb).toArray.all (·.oneCell') = true) := Lib.hid (all_oneCell_toArray (fun v hv => by obtain ⟨c, _, rfl⟩ := List.mem_map.1 hv; rfl))
      clear hvt dt tt st9 hrg hidl hidb
      go_upto_region 21 with (first
        | (refine wpList_load_mid rfl _ _ rfl gt 0 rfl (Lib.byteCells idb) _ HRG.out Tryz.underlying42 rfl HI32.out ?_)
        | (refine wpList_store_mid rfl _ _ _ rfl E 6 (Lib.byteCells idb).toArray rfl rfl HTH.out HI33.out HONE.out ?_
           simp only [List.toList_toArray]
           obtain ⟨q6, _, u6⟩ := E6.out
           generalize w9.setCells E 6 (Lib.byteCells idb) = w10 at q6 u6 ⊢
           have HQ6 := Lib.hid q6; have HU6 := Lib.hid u6
           clear q6 u6))
      try dsimp only [Act.put]
      have st10 := ST9.out.ent HU6.out HQ6.out
      obtain ⟨e, he⟩ : ∃ e, e = entE R := ⟨_, rfl⟩
      have hee : (⟨p, nd, wrap64 (shN (r2 R) : Int), shN (r3 R), wrap64 (shN (r4 R) : Int), kd, idb⟩ : SE) = e := by
        rw [he, HP.out, HND.out, HKD.out, HIDB.out, ← IntWalk.i64_left, ← IntWalk.i64_left]; rfl
      have hok : ((((((txB 65536 R && tkB 1 (r1 R)) && numB 1048576 (r2 R)) && numB 18446744073709551615 (r3 R)) && numB 1099511627776 (r4 R)) && tkB 1 (r5 R)) && tkB 32 (r6 R)) = entB R := by
        rw [entB]; simp only [Bool.and_assoc]
      have st11 : BdSt w A q r g b E S w10 (r7 R) (entB R) e := by rw [← hee, ← hok]; exact st10
      have hpe : p = e.path := by rw [← hee]
      have hfe : e.Fits := by rw [he]; exact HFE.out
      have HDE : Hid (decX s = decEnd (entB R && lt last e.path && decide ((setX e S).1 = 0)) (n - (i + 1)) e.path (setX e S).2 (r7 R)) := Lib.hid (by
        rw [HE.out, show n - i = (n - (i + 1)) + 1 by omega, decEnd_step, ← he])
      have ST := Lib.hid st11; have HFT := Lib.hid hfe; have HPE := Lib.hid hpe
      clear st10 hee hok st11 hpe hfe he harr HE ST9 SA8 E6 HQ6 HU6 HP HND HKD HIDB HFE
      generalize entB R = eb at *
      have hwA : w.heap.size ≤ A := ST.out.wa
      have HWA := Lib.hid hwA
      obtain ⟨cA, fA, _, _⟩ := ST.out.cells
      have hi1 : (i : Int) + 1 < 18446744073709551616 := by omega
      cases eb with
      | false =>
        have HDF : Hid (decX s = none) := Lib.hid (by rw [HDE.out, Bool.false_and, Bool.false_and, decEnd_false])
        go_wp2
        go_roundw
        case rel =>
          obtain ⟨f1, f2, f3⟩ := fin_ok ST.out.ds ST.out.ix ST.out.be HWA.out false
          exact ⟨i + 1, p, r7 R, S, _, by omega, by go_num, rfl, Lib.hid f1, Lib.hid f2, Lib.hid f3, HL7, Lib.hid (by rw [HDF.out, decEnd_false])⟩
        case measure => simp [RowKit.intOf]; omega
      | true =>
        cases hlt : lt last e.path with
        | false =>
          have HDF : Hid (decX s = none) := Lib.hid (by rw [HDE.out, hlt, Bool.and_false, Bool.false_and, decEnd_false])
          have hor : Op.bytesLess p last = true ∨ (Op.bytesLess p last = false ∧ (p == last) = true) := by
            by_cases hq : e.path = last
            · exact .inr ⟨by rw [lt_less, HPE.out, hq]; exact lt_irrefl _, by rw [HPE.out, hq]; simp⟩
            · rcases lt_total hq with h | h
              · exact .inl (by rw [lt_less, HPE.out]; exact h)
              · rw [h] at hlt; cases hlt
          clear hlt
          rcases hor with hlp | ⟨hlp, hlq⟩
          · go_wp2
            go_roundw
            case rel =>
              obtain ⟨f1, f2, f3⟩ := fin_ok ST.out.ds ST.out.ix ST.out.be HWA.out false
              exact ⟨i + 1, p, r7 R, S, _, by omega, by go_num, rfl, Lib.hid f1, Lib.hid f2, Lib.hid f3, HL7, Lib.hid (by rw [HDF.out, decEnd_false])⟩
            case measure => simp [RowKit.intOf]; omega
          · go_wp2
            go_roundw
            case rel =>
              obtain ⟨f1, f2, f3⟩ := fin_ok ST.out.ds ST.out.ix ST.out.be HWA.out false
              exact ⟨i + 1, p, r7 R, S, _, by omega, by go_num, rfl, Lib.hid f1, Lib.hid f2, Lib.hid f3, HL7, Lib.hid (by rw [HDF.out, decEnd_false])⟩
            case measure => simp [RowKit.intOf]; omega
        | true =>
          have hlp : Op.bytesLess p last = false := by rw [lt_less, HPE.out]; exact lt_asymm hlt
          have hlq : (p == last) = false := by rw [HPE.out, beq_eq_false_iff_ne]; exact fun e1 => lt_ne hlt e1.symm
          have HDT : Hid (decX s = decEnd (decide ((setX e S).1 = 0)) (n - (i + 1)) p (setX e S).2 (r7 R)) := Lib.hid (by rw [HDE.out, hlt, Bool.true_and, Bool.true_and, HPE.out])
          clear hlt
          have SE0 := Lib.hid (set_any (r + 2) w10 g b S e HFT.out ST.out.ix)
          obtain ⟨c, hc⟩ : ∃ c, c = (setX e S).1 := ⟨_, rfl⟩
          obtain ⟨S', hS'⟩ : ∃ S', S' = (setX e S).2 := ⟨_, rfl⟩
          rw [← hc, ← hS'] at SE0 HDT
          have HRE : Hid (w10.rangeAt E 0 e.cells) := Lib.hid (range_block ST.out.he)
          have EOK := Lib.hid HFT.out.en
          unfold ptr at SE0
          clear hc hS' HDE
          go_wp2_with (first
            | (go_guarded; refine wp_load_mid 44 (.tmp 16) rfl E 0 rfl e.cells _ HRE.out Tryz.underlying44 rfl EOK.out.infoL ?_)
            | fail)
          refine SE0.out.mono ?_
          rintro ex w11 ⟨rfl, hix, ht⟩
          have hbb := ST.out.ix.baseb
          have hAq := ST.out.ds.Aq; have hqr := ST.out.ds.qr
          have hd11 : DSt A q r w11 (r7 R) true := ST.out.ds.turn ht (by intro x hx; simp at hx; omega) ((ht.block _ (lt_of_heap ST.out.ds.ov) (by simp; omega)).trans ST.out.ds.ov) ((ht.block _ (lt_of_heap ST.out.ds.rd) (by simp; omega)).trans ST.out.ds.rd)
          have hb11 : Below w.heap.size w w11 := ST.out.be.trans (ht.below (by intro x hx; simp at hx; omega) ST.out.be.size)
          have HD11 := Lib.hid hd11; have HIX11 := Lib.hid hix; have HB11 := Lib.hid hb11
          have cA2 : w11.cell? ⟨A, 0, none⟩ = some (.bool true) := cell_of_heap hd11.ov
          have fA2 : w11.frozen? ⟨A, 0, none⟩ = false := frozen_of_heap hd11.ov
          clear hd11 hix hb11 ht hbb hAq hqr SE0
          by_cases hc0 : c = 0
          · subst hc0
            go_wp2
            go_roundw
            case rel =>
              obtain ⟨f1, f2, f3⟩ := fin_ok HD11.out HIX11.out HB11.out HWA.out true
              exact ⟨i + 1, p, r7 R, S', _, by omega, by go_num, rfl, Lib.hid f1, Lib.hid f2, Lib.hid f3, HL7, Lib.hid (by rw [HDT.out]; rfl)⟩
            case measure => simp [RowKit.intOf]; omega
          · have hcb : (c == 0) = false := by rw [beq_eq_false_iff_ne]; exact hc0
            have HDF : Hid (decX s = none) := Lib.hid (by rw [HDT.out, decide_eq_false hc0, decEnd_false])
            clear hc0
            go_wp2
            go_roundw
            case rel =>
              obtain ⟨f1, f2, f3⟩ := fin_ok HD11.out HIX11.out HB11.out HWA.out false
              exact ⟨i + 1, p, r7 R, S', _, by omega, by go_num, rfl, Lib.hid f1, Lib.hid f2, Lib.hid f3, HL7, Lib.hid (by rw [HDF.out, decEnd_false])⟩
            case measure => simp [RowKit.intOf]; omega
    · have HEX : Hid (decX s = if ok = true ∧ R = [] then some S else none) := Lib.hid (by
        rw [HE.out, decEnd]
        cases ok with
        | false => simp
        | true =>
          have hi : i = n := by
            rcases Nat.lt_or_ge i n with h | h
            · exact absurd ⟨h, rfl⟩ hgo
            · omega
          rw [hi, Nat.sub_self, decGo, if_pos rfl]
          cases R <;> simp [endOf])
      cases ok with
      | false =>
        have hdx : Hid (decX s = none) := Lib.hid (by rw [HEX.out]; simp)
        by_cases hlt : (i : Int) < (n : Int)
        · go_wp2
          go_ret2
          rw [hdx.out]
          exact ⟨rfl, HB.out⟩
        · go_wp2
          go_ret2
          rw [hdx.out]
          exact ⟨rfl, HB.out⟩
      | true =>
        have hlt : ¬ (i : Int) < (n : Int) := fun h => hgo ⟨by omega, rfl⟩
        have cr : wo.cell? ⟨r, 0, none⟩ = some (.pointer (some ⟨q, 0, none⟩)) := cell_of_heap HD.out.rv
        have EN := Lib.hid (end_any wo q R HD.out.rd)
        unfold ptr at EN
        by_cases hR : R = []
        · have hdx : Hid (decX s = some S) := Lib.hid (by rw [HEX.out, if_pos ⟨rfl, hR⟩])
          rw [if_pos hR] at EN
          clear hgo hR HEX
          go_wp2_with fail
          refine EN.out.mono ?_
          rintro ex wx ⟨rfl, hwx⟩
          obtain rfl : wo = wx := hwx.symm
          go_wp2
          go_ret2
          rw [hdx.out]
          have hle : w.heap.size ≤ r + 2 := by have := HA.out; have := HAQ.out; have := HD.out.qr; omega
          exact ⟨g, b, rfl, HIX.out.mono hle, HB.out⟩
        · have hdx : Hid (decX s = none) := Lib.hid (by rw [HEX.out, if_neg (fun h => hR h.2)])
          rw [if_neg hR] at EN
          clear hgo hR HEX
          go_wp2_with fail
          refine EN.out.mono ?_
          rintro ex wx ⟨rfl, hwx⟩
          obtain rfl : wo = wx := hwx.symm
          go_wp2
          go_ret2
          rw [hdx.out]
          exact ⟨rfl, HB.out⟩
end Go.Proofs.YthcjjekkjbidlaaGreatDoor.St
