import Derived.Test.YthcjjekkjbidlaaGreatDoorZPSrNew
import Derived.Test.YthcjjekkjbidlaaGreatDoorZPShCheck
import Derived.Test.YthcjjekkjbidlaaGreatDoorZPStLawNames
import Derived.Test.YthcjjekkjbidlaaGreatDoorZPStTold
import Derived.Test.YthcjjekkjbidlaaGreatDoorZPStBackEnd
set_option linter.unusedSimpArgs false
set_option linter.unusedVariables false
/-
  The walk of the law StatixBack.
-/
namespace Go.Proofs.YthcjjekkjbidlaaGreatDoor.St
open Go.RowKit Go.Maps Go.WideMaps Go.Proofs.YthcjjekkjbidlaaGreatDoor.Rf Go.Proofs.YthcjjekkjbidlaaGreatDoor.Rd

theorem row_slice {w : World} {B : Nat} {e : TypeId} {s : Nat} {v : Value} {n : Nat} {xs : List Value} (h : w.ownsRow B e s v n xs) : ∃ a cap, v = .slice a n cap := by
  obtain ⟨_, ⟨rfl, rfl⟩ | ⟨g, cap, cur, rfl, _⟩⟩ := h
  · exact ⟨_, _, rfl⟩
  · exact ⟨_, _, rfl⟩
theorem drop_rem {L : List SE} {k : Nat} {x : SE} (h : L[k]? = some x) : remL x.path (L.drop k) = L.drop (k + 1) ∧ getE x.path (L.drop k) = 0 := by
  obtain ⟨hk, rfl⟩ := List.getElem?_eq_some_iff.1 h
  rw [List.drop_eq_getElem_cons hk]
  have h0 := lt_irrefl L[k].path
  constructor
  · rw [remL, if_neg (by rw [h0]; simp), if_pos rfl]
  · have hg : getL L[k].path (L[k] :: L.drop (k + 1)) = some L[k] := by rw [getL, if_neg (by rw [h0]; simp), if_pos rfl]
    rw [getE, hg]; rfl
structure L3St (w : World) (B5 B7 B8 gx bx gz bz : Nat) (Lx : List SE) (v8 v9 : Value) (k : Nat) (W : World) : Prop where
  ix : IndexAt w.heap.size W gx bx (Lx.drop k)
  iz : IndexAt B5 W gz bz Lx
  r8 : W.ownsRow B7 44 38 v8 Lx.length (cellsS Lx)
  r9 : W.ownsRow B8 44 38 v9 Lx.length (cellsS Lx)
  lt : bx < B5 ∧ B5 ≤ B7 ∧ B7 ≤ B8
  be : Below w.heap.size w W
section
variable {w : World} {B5 B7 B8 gx bx gz bz : Nat} {Lx : List SE} {v8 v9 : Value} {k : Nat} {W W' : World}
theorem L3St.below (h : L3St w B5 B7 B8 gx bx gz bz Lx v8 v9 k W) (hb : Below W.heap.size W W') : L3St w B5 B7 B8 gx bx gz bz Lx v8 v9 k W' :=
  ⟨h.ix.below hb, h.iz.below hb, rowS_kept h.r8 (fun x _ hx => hb.block x hx), rowS_kept h.r9 (fun x _ hx => hb.block x hx), h.lt, h.be.trans (hb.mono h.be.size)⟩
theorem L3St.drop (h : L3St w B5 B7 B8 gx bx gz bz Lx v8 v9 k W) (hi : IndexAt w.heap.size W' gx bx (Lx.drop (k + 1))) (ht : Turn [bx] W W') : L3St w B5 B7 B8 gx bx gz bz Lx v8 v9 (k + 1) W' := by
  obtain ⟨l1, l2, l3⟩ := h.lt
  have z1 := h.iz.baseg; have z2 := h.iz.baseb
  exact ⟨hi, Go.Proofs.YthcjjekkjbidlaaGreatDoor.Sr.index_turn h.iz ht (by simp; omega) (by simp; omega), rowS_kept h.r8 (fun x hx hl => ht.block x hl (by have := rowS_ge h.r8 x hx; simp; omega)), rowS_kept h.r9 (fun x hx hl => ht.block x hl (by have := rowS_ge h.r9 x hx; simp; omega)), h.lt,
    h.be.trans (ht.below (fun y hy => by simp at hy; subst hy; exact h.ix.baseb) h.be.size)⟩
end
set_option linter.unusedSimpArgs false in
set_option maxHeartbeats 40000000 in
set_option maxRecDepth 100000 in
theorem back_law (w : World) (v0 : Value) (its : List It) (h : ItemsAt w v0 its) (at_ : Int) (by_ : UInt8) (ha : -9223372036854775808 ≤ at_ ∧ at_ < 9223372036854775808) :
    Calls Tryz.prog 8 #[v0, .int .i64 at_, .int .u8 (by_.toNat : Int)] w fun e w' => e = .returned (.bool true) ∧ Below w.heap.size w w' := by
  obtain ⟨la, lc, rfl, hlm, hlc, hlf⟩ := h
  have HLC := Lib.hid hlc; have HLF := Lib.hid hlf
  unfold maxLen at hlm
  have AW := Lib.hid (Go.Proofs.YthcjjekkjbidlaaGreatDoor.Sr.awake_any w)
  have hmm := @run_makeMap Tryz.prog
  clear hlc hlf
  go_enter Tryz.func8, Tryz.ntmps8
  go_wp2_with fail
  refine AW.out.mono ?_
  rintro ex w1 ⟨rfl, hb1⟩
  have HB1 := Lib.hid hb1
  have NW := Lib.hid (new_any w1)
  clear hb1 AW
  go_wp2_with fail
  refine NW.out.mono ?_
  rintro ex w2 ⟨gx, bx, rfl, hi2, hb2⟩
  have HI2 := Lib.hid hi2; have HB2 := Lib.hid (HB1.out.trans (hb2.mono HB1.out.size)); have HS12 := Lib.hid hb2.size
  have NW2 := Lib.hid (new_any w2)
  clear hi2 hb2 NW
  unfold ptr at *
  go_wp2_with fail
  refine NW2.out.mono ?_
  rintro ex w3 ⟨gy, ey, rfl, hi3, hb3⟩
  have HST : Hid (BkSt w gx bx (b1 its 0).1 gy ey [] w3.heap.size (b1 its 0).2 (w3.alloc (.map #[] 0))) := Lib.hid (by
    have hx3 := HI2.out.below hb3
    have l1 := HI2.out.lt_g; have l2 := HI2.out.lt_b; have l3 := hi3.baseg; have l4 := hi3.baseb; have l5 := hi3.lt_g; have l6 := hi3.lt_b; have l7 := hb3.size
    have z1 := HB1.out.size; have z2 := HS12.out
    refine ⟨(hx3.mono z1).below ((Below.refl _ _).alloc (Nat.le_refl _) _), (hi3.mono (by omega)).below ((Below.refl _ _).alloc (Nat.le_refl _) _), map_tight (enc := encI) (m := ([] : MV Nat)) (World.ownsMap_made w3 Tryz.prog 9 Rv) (by decide), by omega, ?_, (HB2.out.trans (hb3.mono HB2.out.size)).alloc (by omega) _⟩
    refine ⟨by omega, by omega, by omega, by omega, by omega, by omega, by omega⟩)
  obtain ⟨bm, hbm⟩ : ∃ bm, bm = w3.heap.size := ⟨_, rfl⟩
  clear hi3 hb3 NW2 HI2 HB2 HB1
  unfold ptr at *
  go_wp2
  rw [← hbm] at HST ⊢
  clear hbm
  go_loopw [10] (fun v10 wr => ∃ i : Nat, i ≤ its.length ∧ i ≤ 100 ∧ v10 = .int .i64 (i : Int) ∧ Hid (BkSt w gx bx (b1 its i).1 gy ey [] bm (b1 its i).2 wr)) (fun v10 _ => 100 - (RowKit.intOf v10).toNat)
  case atStart => exact ⟨0, by omega, by omega, rfl, HST⟩
  case round =>
    obtain ⟨i, hi, hi1, rfl, HS⟩ := hrel
    by_cases hgo : i < its.length ∧ i < 100
    · obtain ⟨hi2, hi3⟩ := hgo
      have hil : (i : Int) < (its.length : Int) := by omega
      have hic : (i : Int) < 100 := by omega
      obtain ⟨x, hx⟩ : ∃ x, its[i]? = some x := ⟨_, List.getElem?_eq_getElem hi2⟩
      have hxm := List.mem_of_getElem? hx
      have HXF := Lib.hid (HLF.out x hxm)
      obtain ⟨b, o, rfl, hb, hat⟩ := HLC.out (List.ne_nil_of_mem hxm)
      have HAT : Hid (∀ W, Below w.heap.size w W → W.rangeAt b (o + i * 7) x.cells) := Lib.hid (fun W hbW j u hu => (hbW.cell (p := ⟨b, o + i * 7 + j, none⟩) hb).trans (hat i x hx j u hu))
      have HOK := Lib.hid (b1_ok its i)
      have HRG := Lib.hid (HAT.out wr HS.out.be)
      have INX := Lib.hid (fun w' => in_any w' x HXF.out)
      have hpl := HXF.out.path
      have HB1X : Hid (b1 its (i + 1) = if mayN x.se = 0 then (insL x.se (b1 its i).1, putM (b1 its i).2 x.path i) else b1 its i) := Lib.hid (by rw [b1, hx])
      have HML := Lib.hid (b1_length its i)
      clear hx hxm hat
      go_wp2_with (first
        | (refine wpList_load_mid rfl _ _ rfl b (o + i * 7) rfl x.cells _ HRG.out Tryz.underlying33 rfl (infoIt x) ?_)
        | fail)
      refine (INX.out wr).mono ?_
      rintro ex w4 ⟨rfl, hb4⟩
      have HS4 := Lib.hid (HS.out.below hb4)
      have SX := Lib.hid (set_any w.heap.size w4 gx bx (b1 its i).1 x.se (It.fits HXF.out) HS4.out.ix)
      clear hb4 INX
      unfold ptr at *
      go_wp2_with fail
      refine SX.out.mono ?_
      rintro ex w5 ⟨rfl, hi5, ht5⟩
      have HS5 := Lib.hid (HS4.out.setx hi5 ht5)
      have hlx : (b1 its i).1.length < 65536 := by have := HOK.out.len; omega
      clear hi5 ht5 SX HS4
      by_cases hm : mayN x.se = 0
      · rw [setX_ok hm hlx] at HS5 ⊢
        have HB1Y : Hid (b1 its (i + 1) = (insL x.se (b1 its i).1, putM (b1 its i).2 x.path i)) := Lib.hid (by rw [HB1X.out, if_pos hm])
        have HRG5 := Lib.hid (HAT.out w5 HS5.out.be)
        have hpc : w5.cell? ⟨b, o + i * 7, none⟩ = some (.string ⟨x.path.toArray⟩) := HRG5.out 0 _ rfl
        obtain ⟨w6, hrun6, hmap6, ht6⟩ := last_store HS5.out.im x.path (by unfold maxLen; omega) i (by have := put_len (b1 its i).2 x.path i; have := HML.out; omega)
        have HS6 := Lib.hid (HS5.out.setm hmap6 ht6)
        clear hmap6 ht6
        go_wp2
        go_roundw
        case rel => exact ⟨i + 1, by omega, by omega, by go_num, by rw [HB1Y.out]; exact HS6⟩
        case measure => simp [RowKit.intOf]; omega
      · rw [setX_no hm] at HS5 ⊢
        have HB1Y : Hid (b1 its (i + 1) = b1 its i) := Lib.hid (by rw [HB1X.out, if_neg hm])
        have hmz : ((mayN x.se : Int) == 0) = false := by simpa using hm
        go_wp2
        go_roundw
        case rel => exact ⟨i + 1, by omega, by omega, by go_num, by rw [HB1Y.out]; exact HS5⟩
        case measure => simp [RowKit.intOf]; omega
    · rcases Nat.lt_or_ge i its.length with hil | hil
      · have hf1 : (i : Int) < (its.length : Int) := by omega
        have hf2 : ¬ ((i : Int) < 100) := by omega
        have HMI : Hid (min (its.length : Int) 100 = (i : Int)) := Lib.hid (by omega)
        have HMN : Hid (i ≤ its.length ∧ i ≤ 100) := Lib.hid ⟨hi, hi1⟩
        have HML := Lib.hid (b1_length its i)
        have HLS : Hid (∀ p j, getM (b1 its i).2 p = some j → j < i ∧ ∃ x, its[j]? = some x ∧ x.path = p ∧ mayN x.se = 0) := Lib.hid (b1_ok its i).last
        have HMY : Hid (∀ e ∈ (b1 its i).1, mayN e = 0) := Lib.hid (b1_ok its i).may
        have HLL : Hid ((b1 its i).1.length ≤ i) := Lib.hid (b1_ok its i).len
        have HBS := Lib.hid (b2_same its i)
        clear hgo hil hi hi1
        go_wp2
        rw [HMI.out]
        clear HMI hf1 hf2
        generalize hLx : (b1 its i).1 = Lx at *
        generalize hM : (b1 its i).2 = M at *
        clear hLx hM
        go_loopw [11] (fun v11 wr => ∃ j : Nat, j ≤ i ∧ v11 = .int .i64 ((i : Int) - 1 - (j : Int)) ∧ Hid (BkSt w gx bx Lx gy ey (b2 its M i j) bm M wr)) (fun v11 _ => (RowKit.intOf v11 + 1).toNat)
        case atStart => exact ⟨0, by omega, by simp, HS⟩
        case round =>
          obtain ⟨j, hj, rfl, HS⟩ := hrel
          by_cases hgo : j < i
          · obtain ⟨hn, hn1⟩ := HMN.out
            obtain ⟨k, hk⟩ : ∃ k : Nat, k = i - 1 - j := ⟨_, rfl⟩
            have hki : (i : Int) - 1 - (j : Int) = (k : Int) := by omega
            have hk2 : k < its.length := by omega
            have hkl : (k : Int) < (its.length : Int) := by omega
            have HKJ : Hid (k + 1 = i - j) := Lib.hid (by omega)
            rw [hki]
            obtain ⟨x, hx⟩ : ∃ x, its[k]? = some x := ⟨_, List.getElem?_eq_getElem hk2⟩
            have hxm := List.mem_of_getElem? hx
            have HXF := Lib.hid (HLF.out x hxm)
            obtain ⟨b, o, rfl, hb, hat⟩ := HLC.out (List.ne_nil_of_mem hxm)
            have HAT : Hid (∀ W, Below w.heap.size w W → W.rangeAt b (o + k * 7) x.cells) := Lib.hid (fun W hbW u v hu => (hbW.cell (p := ⟨b, o + k * 7 + u, none⟩) hb).trans (hat k x hx u v hu))
            have HRG := Lib.hid (HAT.out wr HS.out.be)
            have hpc : wr.cell? ⟨b, o + k * 7, none⟩ = some (.string ⟨x.path.toArray⟩) := HRG.out 0 _ rfl
            have INX := Lib.hid (fun w' => in_any w' x HXF.out)
            have HPL : Hid (x.path.length ≤ maxLen) := Lib.hid (by have := HXF.out.path; unfold maxLen; omega)
            have HB2X : Hid (b2 its M i (j + 1) = if getM M x.path = some k then insL x.se (b2 its M i j) else b2 its M i j) := Lib.hid (by rw [b2, ← hk, hx])
            have HBL := Lib.hid (b2_srt its M i j)
            have HX := Lib.hid hx
            clear hx hxm hat hk hki hn hn1 hj
            cases hg : getM M x.path with
            | none =>
              have HGM := Lib.hid hg
              have HB2Y : Hid (b2 its M i (j + 1) = b2 its M i j) := Lib.hid (by rw [HB2X.out, if_neg (by rw [hg]; simp)])
              clear hg
              go_wp2_with (first
                | (refine wpList_last HS.out.im x.path HPL.out rfl _ _ rfl rfl rfl ?_; rw [HGM.out]; dsimp only [Option.map, Option.getD, Option.isSome])
                | fail)
              go_roundw
              case rel => exact ⟨j + 1, by have := HKJ.out; omega, by have := HKJ.out; go_num, by rw [HB2Y.out]; exact HS⟩
              case measure => have := HKJ.out; simp [RowKit.intOf]
            | some q =>
              have HGM := Lib.hid hg
              obtain ⟨hq1, y, hy1, hy2, hy3⟩ := HLS.out x.path q hg
              by_cases hqk : q = k
              · subst hqk
                have HMX : Hid (mayN x.se = 0) := Lib.hid (by rw [HX.out] at hy1; obtain rfl := Option.some.inj hy1; exact hy3)
                have HB2Y : Hid (b2 its M i (j + 1) = insL x.se (b2 its M i j)) := Lib.hid (by rw [HB2X.out, if_pos hg])
                clear hg hq1 hy1 hy2 hy3
                go_wp2_with (first
                  | (refine wpList_last HS.out.im x.path HPL.out rfl _ _ rfl rfl rfl ?_; rw [HGM.out]; dsimp only [Option.map, Option.getD, Option.isSome, encI])
                  | (go_guarded; refine wp_load_mid 33 (.tmp 85) rfl b (o + q * 7) rfl x.cells _ HRG.out Tryz.underlying33 rfl (infoIt x) ?_)
                  | fail)
                refine (INX.out wr).mono ?_
                rintro ex w4 ⟨rfl, hb4⟩
                have HS4 := Lib.hid (HS.out.below hb4)
                have SX := Lib.hid (set_any w.heap.size w4 gy ey (b2 its M i j) x.se (It.fits HXF.out) HS4.out.iy)
                rw [setX_ok HMX.out (by have := HBL.out.2; have := HKJ.out; have := HMN.out.2; omega)] at SX
                clear hb4 INX
                unfold ptr at *
                go_wp2_with fail
                refine SX.out.mono ?_
                rintro ex w5 ⟨rfl, hi5, ht5⟩
                have HS5 := Lib.hid (HS4.out.sety hi5 ht5)
                clear hi5 ht5 SX HS4
                go_wp2_with fail
                go_roundw
                case rel => exact ⟨j + 1, by have := HKJ.out; omega, by have := HKJ.out; go_num, by rw [HB2Y.out]; exact HS5⟩
                case measure => have := HKJ.out; simp [RowKit.intOf]
              · have HB2Y : Hid (b2 its M i (j + 1) = b2 its M i j) := Lib.hid (by rw [HB2X.out, if_neg (by rw [hg]; simpa using hqk)])
                have hqn : ((q : Int) == (k : Int)) = false := by simp; omega
                clear hg hq1 hy1 hy2 hy3
                go_wp2_with (first
                  | (refine wpList_last HS.out.im x.path HPL.out rfl _ _ rfl rfl rfl ?_; rw [HGM.out]; dsimp only [Option.map, Option.getD, Option.isSome, encI])
                  | fail)
                go_roundw
                case rel => exact ⟨j + 1, by have := HKJ.out; omega, by have := HKJ.out; go_num, by rw [HB2Y.out]; exact HS⟩
                case measure => have := HKJ.out; simp [RowKit.intOf]
          · obtain rfl : j = i := by omega
            have hneg : ¬ (0 ≤ (j : Int) - 1 - (j : Int)) := by omega
            rw [HBS.out] at HS
            have HFI := Lib.hid HS.out.ix.fits
            have HXL := Lib.hid (encX_len HS.out.ix.fits HMY.out HS.out.ix.len)
            have HDE := Lib.hid (dec_enc HS.out.ix.srt HS.out.ix.fits HMY.out HS.out.ix.len)
            have EX := Lib.hid (encode_any w.heap.size wr gx bx Lx HS.out.ix HMY.out)
            have EY := Lib.hid (fun W h => encode_any w.heap.size W gy ey Lx h HMY.out)
            have EZ := Lib.hid (fun B W g b h => encode_any B W g b Lx h HMY.out)
            clear HBS hgo hneg
            unfold ptr EncPost at *
            generalize hE : encX Lx = E at *
            have hE2 := Lib.hid hE
            clear hE
            have hlm := HS.out.im.len Tryz.underlying112
            have DE := Lib.hid (fun w' => decode_any w' E (by have := HXL.out; omega))
            rw [HDE.out] at DE
            unfold DecPost ptr at DE
            go_wp2_with fail
            refine EX.out.mono ?_
            rintro ex w4 ⟨rfl, hb4⟩
            have HS4 := Lib.hid (HS.out.below hb4)
            have EY4 := Lib.hid (EY.out w4 HS4.out.iy)
            clear hb4 EX EY
            go_wp2_with fail
            refine EY4.out.mono ?_
            rintro ex w5 ⟨rfl, hb5⟩
            have HS5 := Lib.hid (HS4.out.below hb5)
            clear hb5 EY4 HS4
            go_wp2_with fail
            refine (DE.out w5).mono ?_
            rintro ex w6 ⟨gz, bz, rfl, hiz, hb6⟩
            have HS6 := Lib.hid (HS5.out.below hb6)
            have HIZ := Lib.hid hiz
            have HZS : Hid (bx < w5.heap.size ∧ w5.heap.size ≤ w6.heap.size) := Lib.hid ⟨HS5.out.ix.lt_b, hb6.size⟩
            have LX := Lib.hid (len_any w.heap.size w6 gx bx Lx HS6.out.ix)
            have hlen := HS6.out.im.len Tryz.underlying112
            simp only [toD_size, HML.out] at hlen
            clear hb6 hiz DE HS5 hlm
            unfold ptr at *
            go_wp2_with fail
            refine LX.out.mono ?_
            rintro ex w7 ⟨rfl, rfl⟩
            have AX := Lib.hid (all_any w.heap.size w7 gx bx Lx HS6.out.ix)
            have AZ := Lib.hid (fun W h => all_any w5.heap.size W gz bz Lx h)
            clear LX
            unfold ptr AllPost at *
            go_wp2_with fail
            refine AX.out.mono ?_
            rintro ex w8 ⟨v8, rfl, hr8, hb8⟩
            obtain ⟨a8, c8, rfl⟩ := row_slice hr8
            have HS8 := Lib.hid (HS6.out.below hb8)
            have HIZ8 := Lib.hid (HIZ.out.below hb8)
            have AZ8 := Lib.hid (AZ.out w8 HIZ8.out)
            have HR8 := Lib.hid hr8
            have HZ8 := Lib.hid hb8.size
            clear hr8 hb8 HS6 HIZ AX AZ
            go_wp2_with fail
            refine AZ8.out.mono ?_
            rintro ex w9 ⟨v9, rfl, hr9, hb9⟩
            obtain ⟨a9, c9, rfl⟩ := row_slice hr9
            have HS9 := Lib.hid (HS8.out.below hb9)
            have HIZ9 := Lib.hid (HIZ8.out.below hb9)
            have HR89 := Lib.hid (rowS_kept HR8.out (fun x _ hx => hb9.block x hx))
            have HR9 := Lib.hid hr9
            clear hr9 hb9 HS8 HIZ8 AZ8 HR8
            go_wp2
            have HL39 : Hid (L3St w w5.heap.size w7.heap.size w8.heap.size gx bx gz bz Lx (.slice a8 Lx.length c8) (.slice a9 Lx.length c9) 0 w9) := Lib.hid ⟨HS9.out.ix, HIZ9.out, HR89.out, HR9.out, ⟨HZS.out.1, HZS.out.2, HZ8.out⟩, HS9.out.be⟩
            have HZQ := Lib.hid HZS.out.1
            clear HS9 HIZ9 HR89 HR9 HZS HZ8
            go_loopw [22] (fun v22 wr => ∃ k : Nat, k ≤ Lx.length ∧ v22 = .int .i64 (k : Int) ∧ Hid (L3St w w5.heap.size w7.heap.size w8.heap.size gx bx gz bz Lx (.slice a8 Lx.length c8) (.slice a9 Lx.length c9) k wr)) (fun v22 _ => Lx.length - (RowKit.intOf v22).toNat)
            case atStart => exact ⟨0, by omega, rfl, HL39⟩
            case round =>
              obtain ⟨k, hk, rfl, HL3⟩ := hrel
              by_cases hgo : k < Lx.length
              · have hkl : (k : Int) < (Lx.length : Int) := by omega
                have hl100 : Lx.length ≤ 100 := by have := HLL.out; have := HMN.out.2; omega
                obtain ⟨x, hx⟩ : ∃ x, Lx[k]? = some x := ⟨_, List.getElem?_eq_getElem hgo⟩
                have HXF := Lib.hid (HFI.out x (List.mem_of_getElem? hx))
                have HX38 := Lib.hid HXF.out.id
                have HEN := Lib.hid HXF.out.en
                obtain ⟨g8, d8, hv8, hg8, _, _, _⟩ := rowS_form HL3.out.r8 (by omega)
                injection hv8 with e1 e2 e3
                subst e1 e3
                clear e2 hg8
                obtain ⟨g9, d9, hv9, hg9, _, _, _⟩ := rowS_form HL3.out.r9 (by omega)
                injection hv9 with e1 e2 e3
                subst e1 e3
                clear e2 hg9
                have KS : Hid (∀ j W, L3St w w5.heap.size w7.heap.size w8.heap.size gx bx gz bz Lx (.slice (some ⟨g8, 0, none⟩) Lx.length c8) (.slice (some ⟨g9, 0, none⟩) Lx.length c9) j W → W.rangeAt g8 (k * 38) x.cells ∧ W.rangeAt g9 (k * 38) x.cells) := Lib.hid (fun j W h => ⟨row_ent h.r8 (fun e he => (HFI.out e he).id) hx, row_ent h.r9 (fun e he => (HFI.out e he).id) hx⟩)
                have DR : Hid (∀ W, L3St w w5.heap.size w7.heap.size w8.heap.size gx bx gz bz Lx (.slice (some ⟨g8, 0, none⟩) Lx.length c8) (.slice (some ⟨g9, 0, none⟩) Lx.length c9) k W → Calls Tryz.prog 16 #[.pointer (some ⟨gx, 0, none⟩), .string ⟨x.path.toArray⟩] W fun e w' => e = .returned (.int .i64 0) ∧ L3St w w5.heap.size w7.heap.size w8.heap.size gx bx gz bz Lx (.slice (some ⟨g8, 0, none⟩) Lx.length c8) (.slice (some ⟨g9, 0, none⟩) Lx.length c9) (k + 1) w') := Lib.hid (fun W h => by
                  have := drop_any w.heap.size W gx bx (Lx.drop k) ⟨x.path.toArray⟩ (by show x.path.length ≤ _; have := HXF.out.path; unfold maxLen; omega) h.ix
                  rw [ba_data, (drop_rem hx).1, (drop_rem hx).2] at this
                  exact this.mono (fun e w' ⟨a1, a2, a3⟩ => ⟨a1, h.drop a2 a3⟩))
                clear hx
                go_upto_region 29 with (fail)
                refine wp_region_held_drew (S := (fun w' : World => w'.rangeAt g8 (k * 38) x.cells ∧ w'.rangeAt g9 (k * 38) x.cells)) (by kernel_rfl) (KS.out k _ (HL3.out.below (Below.refl wr.heap.size wr).drew)) (fun hHeld => ?_)
                refine wpAnyH_take (i := 0) (v := ?_) rfl (by kernel_rfl) (by kernel_rfl) (by kernel_rfl) (fun _ _ _ h => h) (Or.inl ⟨by rfl, ?b3_0⟩) hHeld ?_
                case b3_0 =>
                  intro wS hSw
                  have h8 := hSw.1
                  have h9 := hSw.2
                  have hp : wS.cell? ⟨g8, k * 38, none⟩ = some (.string ⟨x.path.toArray⟩) := h8 0 _ rfl
                  clear hSw
                  go_simp
                  try with_reducible rfl
                try simp only [Act.put, List.getElem_toArray, List.getElem_cons_zero, List.getElem_cons_succ, List.setIfInBounds_toArray, List.set_cons_zero, List.set_cons_succ]
                refine wpAnyH_take (i := 1) (v := ?_) rfl (by kernel_rfl) (by kernel_rfl) (by kernel_rfl) (fun _ _ _ h => h) (Or.inl ⟨by rfl, ?b3_1⟩) hHeld ?_
                case b3_1 =>
                  intro wS hSw
                  have h8 := hSw.1
                  have h9 := hSw.2
                  have hp : wS.cell? ⟨g8, k * 38, none⟩ = some (.string ⟨x.path.toArray⟩) := h8 0 _ rfl
                  clear hSw
                  go_simp
                  try with_reducible rfl
                try simp only [Act.put, List.getElem_toArray, List.getElem_cons_zero, List.getElem_cons_succ, List.setIfInBounds_toArray, List.set_cons_zero, List.set_cons_succ]
                refine wpAnyH_take (i := 2) (v := ?_) rfl (by kernel_rfl) (by kernel_rfl) (by kernel_rfl) (fun _ _ _ h => h) (Or.inl ⟨by rfl, ?b3_2⟩) hHeld ?_
                case b3_2 =>
                  intro wS hSw
                  have h8 := hSw.1
                  have h9 := hSw.2
                  have hp : wS.cell? ⟨g8, k * 38, none⟩ = some (.string ⟨x.path.toArray⟩) := h8 0 _ rfl
                  clear hSw
                  go_simp
                  try with_reducible rfl
                try simp only [Act.put, List.getElem_toArray, List.getElem_cons_zero, List.getElem_cons_succ, List.setIfInBounds_toArray, List.set_cons_zero, List.set_cons_succ]
                refine' wpAnyH_take (i := 3) (v := _) rfl (by kernel_rfl) (by kernel_rfl) (by kernel_rfl) (fun _ _ _ h => h) (yieldsIf_load_mid (by rfl) _ _ rfl g8 (k * 38) rfl x.cells _ ?b3_3S ?b3_3u ?b3_3d ?b3_3i) hHeld ?b3_3x
                case b3_3S =>
                  intro wS hSw
                  exact hSw.1
                case b3_3u => exact Tryz.underlying44
                case b3_3d => rfl
                case b3_3i => exact HEN.out.infoL
                try simp only [Act.put, List.getElem_toArray, List.getElem_cons_zero, List.getElem_cons_succ, List.setIfInBounds_toArray, List.set_cons_zero, List.set_cons_succ]
                refine wpAnyH_take (i := 4) (v := ?_) rfl (by kernel_rfl) (by kernel_rfl) (by kernel_rfl) (fun _ _ _ h => h) (Or.inl ⟨by rfl, ?b3_4⟩) hHeld ?_
                case b3_4 =>
                  intro wS hSw
                  have h8 := hSw.1
                  have h9 := hSw.2
                  have hp : wS.cell? ⟨g8, k * 38, none⟩ = some (.string ⟨x.path.toArray⟩) := h8 0 _ rfl
                  clear hSw
                  go_simp
                  try with_reducible rfl
                try simp only [Act.put, List.getElem_toArray, List.getElem_cons_zero, List.getElem_cons_succ, List.setIfInBounds_toArray, List.set_cons_zero, List.set_cons_succ]
                refine wpAnyH_take (i := 5) (v := ?_) rfl (by kernel_rfl) (by kernel_rfl) (by kernel_rfl) (fun _ _ _ h => h) (Or.inl ⟨by rfl, ?b3_5⟩) hHeld ?_
                case b3_5 =>
                  intro wS hSw
                  have h8 := hSw.1
                  have h9 := hSw.2
                  have hp : wS.cell? ⟨g8, k * 38, none⟩ = some (.string ⟨x.path.toArray⟩) := h8 0 _ rfl
                  clear hSw
                  go_simp
                  try with_reducible rfl
                try simp only [Act.put, List.getElem_toArray, List.getElem_cons_zero, List.getElem_cons_succ, List.setIfInBounds_toArray, List.set_cons_zero, List.set_cons_succ]
                refine wpAnyH_take (i := 6) (v := ?_) rfl (by kernel_rfl) (by kernel_rfl) (by kernel_rfl) (fun _ _ _ h => h) (Or.inl ⟨by rfl, ?b3_6⟩) hHeld ?_
                case b3_6 =>
                  intro wS hSw
                  have h8 := hSw.1
                  have h9 := hSw.2
                  have hp : wS.cell? ⟨g8, k * 38, none⟩ = some (.string ⟨x.path.toArray⟩) := h8 0 _ rfl
                  clear hSw
                  go_simp
                  try with_reducible rfl
                try simp only [Act.put, List.getElem_toArray, List.getElem_cons_zero, List.getElem_cons_succ, List.setIfInBounds_toArray, List.set_cons_zero, List.set_cons_succ]
                refine' wpAnyH_take (i := 7) (v := _) rfl (by kernel_rfl) (by kernel_rfl) (by kernel_rfl) (fun _ _ _ h => h) (yieldsIf_load_mid (by rfl) _ _ rfl g9 (k * 38) rfl x.cells _ ?b3_7S ?b3_7u ?b3_7d ?b3_7i) hHeld ?b3_7x
                case b3_7S =>
                  intro wS hSw
                  exact hSw.2
                case b3_7u => exact Tryz.underlying44
                case b3_7d => rfl
                case b3_7i => exact HEN.out.infoL
                try simp only [Act.put, List.getElem_toArray, List.getElem_cons_zero, List.getElem_cons_succ, List.setIfInBounds_toArray, List.set_cons_zero, List.set_cons_succ]
                refine wpAnyH_take (i := 8) (v := .bool false) rfl (by kernel_rfl) (by kernel_rfl) (by kernel_rfl) (fun _ _ _ h => h) (Or.inl ⟨by rfl, ?b3_8⟩) hHeld ?_
                case b3_8 =>
                  intro wS hSw
                  exact exec_self (.tmp 150) (.tmp 154) x HX38.out rfl rfl rfl
                try simp only [Act.put, List.getElem_toArray, List.getElem_cons_zero, List.getElem_cons_succ, List.setIfInBounds_toArray, List.set_cons_zero, List.set_cons_succ]
                refine wpAnyH_take (i := 9) (v := ?_) rfl (by kernel_rfl) (by kernel_rfl) (by kernel_rfl) (fun _ _ _ h => h) (Or.inl ⟨by rfl, ?b3_9⟩) hHeld ?_
                case b3_9 =>
                  intro wS hSw
                  have h8 := hSw.1
                  have h9 := hSw.2
                  have hp : wS.cell? ⟨g8, k * 38, none⟩ = some (.string ⟨x.path.toArray⟩) := h8 0 _ rfl
                  clear hSw
                  go_simp
                  try with_reducible rfl
                try simp only [Act.put, List.getElem_toArray, List.getElem_cons_zero, List.getElem_cons_succ, List.setIfInBounds_toArray, List.set_cons_zero, List.set_cons_succ]
                refine wpAnyH_take (i := 10) (v := ?_) rfl (by kernel_rfl) (by kernel_rfl) (by kernel_rfl) (fun _ _ _ h => h) (Or.inl ⟨by rfl, ?b3_10⟩) hHeld ?_
                case b3_10 =>
                  intro wS hSw
                  have h8 := hSw.1
                  have h9 := hSw.2
                  have hp : wS.cell? ⟨g8, k * 38, none⟩ = some (.string ⟨x.path.toArray⟩) := h8 0 _ rfl
                  clear hSw
                  go_simp
                  try with_reducible rfl
                try simp only [Act.put, List.getElem_toArray, List.getElem_cons_zero, List.getElem_cons_succ, List.setIfInBounds_toArray, List.set_cons_zero, List.set_cons_succ]
                refine wpAnyH_take (i := 11) (v := ?_) rfl (by kernel_rfl) (by kernel_rfl) (by kernel_rfl) (fun _ _ _ h => h) (Or.inl ⟨by rfl, ?b3_11⟩) hHeld ?_
                case b3_11 =>
                  intro wS hSw
                  have h8 := hSw.1
                  have h9 := hSw.2
                  have hp : wS.cell? ⟨g8, k * 38, none⟩ = some (.string ⟨x.path.toArray⟩) := h8 0 _ rfl
                  clear hSw
                  go_simp
                  try with_reducible rfl
                try simp only [Act.put, List.getElem_toArray, List.getElem_cons_zero, List.getElem_cons_succ, List.setIfInBounds_toArray, List.set_cons_zero, List.set_cons_succ]
                refine wpAnyH_take (i := 12) (v := ?_) rfl (by kernel_rfl) (by kernel_rfl) (by kernel_rfl) (fun _ _ _ h => h) (Or.inl ⟨by rfl, ?b3_12⟩) hHeld ?_
                case b3_12 =>
                  intro wS hSw
                  have h8 := hSw.1
                  have h9 := hSw.2
                  have hp : wS.cell? ⟨g8, k * 38, none⟩ = some (.string ⟨x.path.toArray⟩) := h8 0 _ rfl
                  clear hSw
                  go_simp
                  try with_reducible rfl
                try simp only [Act.put, List.getElem_toArray, List.getElem_cons_zero, List.getElem_cons_succ, List.setIfInBounds_toArray, List.set_cons_zero, List.set_cons_succ]
                refine wpAnyH_take (i := 13) (v := ?_) rfl (by kernel_rfl) (by kernel_rfl) (by kernel_rfl) (fun _ _ _ h => h) (Or.inl ⟨by rfl, ?b3_13⟩) hHeld ?_
                case b3_13 =>
                  intro wS hSw
                  have h8 := hSw.1
                  have h9 := hSw.2
                  have hp : wS.cell? ⟨g8, k * 38, none⟩ = some (.string ⟨x.path.toArray⟩) := h8 0 _ rfl
                  clear hSw
                  go_simp
                  try with_reducible rfl
                try simp only [Act.put, List.getElem_toArray, List.getElem_cons_zero, List.getElem_cons_succ, List.setIfInBounds_toArray, List.set_cons_zero, List.set_cons_succ]
                refine wpAnyH_take (i := 14) (v := ?_) rfl (by kernel_rfl) (by kernel_rfl) (by kernel_rfl) (fun _ _ _ h => h) (Or.inl ⟨by rfl, ?b3_14⟩) hHeld ?_
                case b3_14 =>
                  intro wS hSw
                  have h8 := hSw.1
                  have h9 := hSw.2
                  have hp : wS.cell? ⟨g8, k * 38, none⟩ = some (.string ⟨x.path.toArray⟩) := h8 0 _ rfl
                  clear hSw
                  go_simp
                  try with_reducible rfl
                try simp only [Act.put, List.getElem_toArray, List.getElem_cons_zero, List.getElem_cons_succ, List.setIfInBounds_toArray, List.set_cons_zero, List.set_cons_succ]
                refine wpAnyH_take (i := 15) (v := ?_) rfl (by kernel_rfl) (by kernel_rfl) (by kernel_rfl) (fun _ _ _ h => h) (Or.inl ⟨by rfl, ?b3_15⟩) hHeld ?_
                case b3_15 =>
                  intro wS hSw
                  have h8 := hSw.1
                  have h9 := hSw.2
                  have hp : wS.cell? ⟨g8, k * 38, none⟩ = some (.string ⟨x.path.toArray⟩) := h8 0 _ rfl
                  clear hSw
                  go_simp
                  try with_reducible rfl
                try simp only [Act.put, List.getElem_toArray, List.getElem_cons_zero, List.getElem_cons_succ, List.setIfInBounds_toArray, List.set_cons_zero, List.set_cons_succ]
                refine wpAnyH_ready (rs := [16]) (by kernel_rfl) (by simp) ?_
                refine AllReadyH.cons rfl (fun K hK => ?_) AllReadyH.nil
                go_simp
                refine (DR.out _ (HL3.out.below (Below.refl wr.heap.size wr).drew)).mono ?_
                rintro ex w10 ⟨rfl, hl10⟩
                have HL10 := Lib.hid hl10
                clear hl10
                go_wp2_with fail
                refine hK.out _ _ (KS.out _ _ HL10.out) (fun hHeld2 => ?_)
                clear hK K hHeld
                have hHeld := hHeld2
                clear hHeld2
                try simp only [Act.put, List.getElem_toArray, List.getElem_cons_zero, List.getElem_cons_succ, List.setIfInBounds_toArray, List.set_cons_zero, List.set_cons_succ]
                refine wpAnyH_take (i := 17) (v := ?_) rfl (by kernel_rfl) (by kernel_rfl) (by kernel_rfl) (fun _ _ _ h => h) (Or.inl ⟨by rfl, ?b3_17⟩) hHeld ?_
                case b3_17 =>
                  intro wS hSw
                  have h8 := hSw.1
                  have h9 := hSw.2
                  have hp : wS.cell? ⟨g8, k * 38, none⟩ = some (.string ⟨x.path.toArray⟩) := h8 0 _ rfl
                  clear hSw
                  go_simp
                  try with_reducible rfl
                try simp only [Act.put, List.getElem_toArray, List.getElem_cons_zero, List.getElem_cons_succ, List.setIfInBounds_toArray, List.set_cons_zero, List.set_cons_succ]
                refine wpAnyH_take (i := 18) (v := ?_) rfl (by kernel_rfl) (by kernel_rfl) (by kernel_rfl) (fun _ _ _ h => h) (Or.inl ⟨by rfl, ?b3_18⟩) hHeld ?_
                case b3_18 =>
                  intro wS hSw
                  have h8 := hSw.1
                  have h9 := hSw.2
                  have hp : wS.cell? ⟨g8, k * 38, none⟩ = some (.string ⟨x.path.toArray⟩) := h8 0 _ rfl
                  clear hSw
                  go_simp
                  try with_reducible rfl
                try simp only [Act.put, List.getElem_toArray, List.getElem_cons_zero, List.getElem_cons_succ, List.setIfInBounds_toArray, List.set_cons_zero, List.set_cons_succ]
                refine wpAnyH_done (by kernel_rfl) ?_ _
                clear hHeld
                try simp only [Act.put, List.getElem_toArray, List.getElem_cons_zero, List.getElem_cons_succ, List.setIfInBounds_toArray, List.set_cons_zero, List.set_cons_succ]
                go_wp2
                go_roundw
                case rel => exact ⟨k + 1, by omega, by go_num, HL10⟩
                case measure => simp [RowKit.intOf]; omega
              · obtain rfl : k = Lx.length := by omega
                have hnlt : ¬ ((Lx.length : Int) < (Lx.length : Int)) := by omega
                have EZ1 := Lib.hid (EZ.out w5.heap.size wr gz bz HL3.out.iz)
                have NM := Lib.hid (fun W => Sh.name_any W E (by have := HXL.out; omega))
                have hnl : (Sh.nameL E).length ≤ 1000 := by rw [Sh.nameL, List.length_append, List.length_append, Sh.hexs_length, Sh.sum_length]; decide
                have CK := Lib.hid (fun W => Sh.check_any W (Sh.nameL E) E (by omega) (by have := HXL.out; omega))
                have hck : Sh.chkE (Sh.nameL E) E = 0 := by rw [Sh.chkE, if_pos (Sh.nameL_is _), if_pos rfl, HDE.out]; rfl
                rw [hck] at CK
                have LX := Lib.hid (fun W h => len_any w.heap.size W gx bx (Lx.drop Lx.length) h)
                rw [List.drop_length] at LX
                have CC := Lib.hid (fun W s hs => Sh.check_any W (Sh.nameL E) s (by omega) hs)
                obtain ⟨nm, hnm⟩ : ∃ nm, nm = Sh.nameL E := ⟨_, rfl⟩
                rw [← hnm] at NM CK CC
                have HNM := Lib.hid hnm
                clear EZ hnm hck hnl
                unfold ptr at *
                go_wp2_with fail
                refine EZ1.out.mono ?_
                rintro ex w10 ⟨rfl, hb10⟩
                have HL10 := Lib.hid (HL3.out.below hb10)
                clear hb10 EZ1
                go_wp2_with fail
                refine (NM.out w10).mono ?_
                rintro ex w11 ⟨rfl, hb11⟩
                have HL11 := Lib.hid (HL10.out.below hb11)
                have LX1 := Lib.hid (LX.out w11 (by have := HL11.out.ix; rwa [List.drop_length] at this))
                clear hb11 NM LX
                go_wp2_with fail
                refine LX1.out.mono ?_
                rintro ex w12 ⟨rfl, rfl⟩
                go_wp2_with fail
                refine (CK.out w12).mono ?_
                rintro ex w13 ⟨rfl, hb13⟩
                have HB13 := Lib.hid (HL11.out.be.trans (hb13.mono HL11.out.be.size))
                clear hb13 LX1 CK
                by_cases hby : by_.toNat = 0
                · have hb0 : (by_.toNat : Int) = 0 := by omega
                  go_wp2_with fail
                  go_ret
                  exact ⟨rfl, HB13.out⟩
                · have hb0 : ((by_.toNat : Int) == 0) = false := by simp; omega
                  have he0 : 0 < E.length := by rw [← hE2.out, encX, List.length_append, List.length_append]; show 0 < 4 + _ + _; omega
                  have hel : E.length ≤ 400000000 := HXL.out
                  have hek : ¬ ((E.length : Int) = 0) := by omega
                  obtain ⟨W14, hW14⟩ : ∃ W, W = Lib.bytesWorld w13 5 ⟨E.toArray⟩ := ⟨_, rfl⟩
                  have hcv : (convert 9 114 (.string ⟨E.toArray⟩)).run Tryz.prog w13 = .ok (.slice (some ⟨w13.heap.size, 0, none⟩) E.length (grownCap w13 E.length 0 5)) W14 := by
                    rw [hW14]; exact Lib.run_convert_string_bytes (P := Tryz.prog) w13 9 114 5 ⟨E.toArray⟩ Tryz.underlying9 Tryz.underlying114 Tryz.underlying5
                  have HRM : Hid (RowM W14 w.heap.size (.slice (some ⟨w13.heap.size, 0, none⟩) E.length (grownCap w13 E.length 0 5)) E) := Lib.hid (by rw [hW14]; exact rowM_conv w13 w.heap.size HB13.out.size E (by unfold maxLen; omega))
                  have HB14 : Hid (Below w.heap.size w W14) := Lib.hid (by rw [hW14]; exact HB13.out.trans ((bytesWorld_below w13 _ ⟨E.toArray⟩).mono HB13.out.size))
                  generalize grownCap w13 E.length 0 5 = cap at *
                  have HFZ : Hid (∀ p, p < E.length → W14.frozen? ⟨w13.heap.size, p, none⟩ = false) := Lib.hid (fun p hp => by rw [hW14]; exact conv_frozen w13 E p hp)
                  have HG13 : Hid (w.heap.size ≤ w13.heap.size ∧ w13.heap.size < W14.heap.size) := Lib.hid ⟨HB13.out.size, by rw [hW14, Lib.bytesWorld_size]; omega⟩
                  clear hW14
                  generalize w13.heap.size = gc at *
                  go_upto_region 39 with (fail)
                  obtain ⟨p, hpl, hpe⟩ := at_ok at_ (E.length : Int) (by omega) (by omega)
                  rw [hpe]
                  clear hpe
                  have hp2 : p < E.length := by omega
                  obtain ⟨by2, hby2⟩ : ∃ b2 : UInt8, (b2.toNat : Int) = bits .xor .u8 (E[p].toNat : Int) (by_.toNat : Int) := ⟨E[p] ^^^ by_, by rw [u8_xor_nat _ _ (UInt8.toNat_lt _) (UInt8.toNat_lt _), UInt8.toNat_xor]⟩
                  have hpc : W14.cell? ⟨gc, p, none⟩ = some (.int .u8 (E[p].toNat : Int)) := by
                    have := HRM.out.range p _ (by rw [Lib.byteCells, List.getElem?_map, List.getElem?_eq_getElem hp2]; rfl)
                    rwa [Nat.zero_add] at this
                  have hpf := HFZ.out p hp2
                  go_upto_region 40 with (fail)
                  rw [← hby2]
                  obtain ⟨W15, hW15⟩ : ∃ W, W = W14.setCell ⟨gc, p, none⟩ (.int .u8 (by2.toNat : Int)) := ⟨_, rfl⟩
                  rw [← hW15]
                  have HB15 : Hid (Below w.heap.size w W15) := Lib.hid (by
                    have ht : Turn [gc] W14 W15 := by rw [hW15]; exact (Turn.refl _ _).setCell (.inl (by simp)) _
                    exact HB14.out.trans (ht.below (fun y hy => by simp at hy; subst hy; exact HG13.out.1) HB14.out.size))
                  have HG15 : Hid (gc < W15.heap.size) := Lib.hid (by have : W15.heap.size = W14.heap.size := by rw [hW15]; simp [World.setCell]
                                                                      rw [this]; exact HG13.out.2)
                  have HRC : Hid (∀ W, Below W15.heap.size W15 W → W.rangeAt gc 0 (Lib.byteCells (E.set p by2))) := Lib.hid (fun W hb u v hu => by
                    have h0 : W15.rangeAt gc 0 (Lib.byteCells (E.set p by2)) := by rw [hW15]; exact set_range p by2 HRM.out.range
                    exact (hb.cell (p := ⟨gc, 0 + u, none⟩) HG15.out).trans (h0 u v hu))
                  have HCV : Hid (∀ W, Below W15.heap.size W15 W → (convert 114 9 (.slice (some ⟨gc, 0, none⟩) E.length cap)).run Tryz.prog W = .ok (.string ⟨(E.set p by2).toArray⟩) W) := Lib.hid (fun W hb => by
                    have := conv_row (c := cap) _ (HRC.out W hb)
                    rwa [List.length_set] at this)
                  have HCL : Hid ((E.set p by2).length ≤ 140737488351232) := Lib.hid (by rw [List.length_set]; omega)
                  clear hpf hpc hW15 hby2 HRC
                  generalize E.set p by2 = C at *
                  have hcv2 := HCV.out W15 (Below.refl _ _)
                  have CC1 := Lib.hid (CC.out W15 C HCL.out)
                  clear CC
                  by_cases hs : Sh.nameL C = Sh.nameL E
                  · have QC := Lib.hid (fun W => Sh.quick_any W C HCL.out)
                    have QE := Lib.hid (fun W => Sh.quick_any W E (by omega))
                    rw [Sh.sumV, Sh.nameL_eq hs] at QC
                    unfold Sh.sumV at QE
                    obtain ⟨d, hd, hd9⟩ : ∃ d : Int, d = Sh.chkE nm C ∧ (d == 9) = false := ⟨_, rfl, by rw [HNM.out, Sh.chkE, if_pos (Sh.nameL_is _), if_pos hs]; split <;> rfl⟩
                    rw [← hd] at CC1
                    clear hd hs
                    have hsl := Sh.sum_length E
                    generalize Sh.sum E = sm at *
                    go_wp2_with fail
                    refine CC1.out.mono ?_
                    rintro ex w16 ⟨rfl, hb16⟩
                    have hcv3 := HCV.out w16 hb16
                    have HB16 := Lib.hid (HB15.out.trans (hb16.mono HB15.out.size))
                    clear hb16 CC1
                    go_wp2_with fail
                    refine (QC.out w16).mono ?_
                    rintro ex w17 ⟨rfl, hb17⟩
                    have HB17 := Lib.hid (HB16.out.trans (hb17.mono HB16.out.size))
                    clear hb17 QC
                    go_wp2_with fail
                    refine (QE.out w17).mono ?_
                    rintro ex w18 ⟨rfl, hb18⟩
                    have HB18 := Lib.hid (HB17.out.trans (hb18.mono HB17.out.size))
                    clear hb18 QE
                    go_wp2_with (first
                      | (go_guarded; refine wp_eqB (.tmp 222) (.tmp 224) sm hsl rfl rfl rfl ?_)
                      | fail)
                    go_ret
                    exact ⟨rfl, HB18.out⟩
                  · have hd : Sh.chkE nm C = 9 := by rw [HNM.out, Sh.chkE, if_pos (Sh.nameL_is _), if_neg hs]
                    rw [hd] at CC1
                    clear hd hs
                    go_wp2_with fail
                    refine CC1.out.mono ?_
                    rintro ex w16 ⟨rfl, hb16⟩
                    have HB16 := Lib.hid (HB15.out.trans (hb16.mono HB15.out.size))
                    clear hb16 CC1
                    go_wp2_with fail
                    go_ret
                    exact ⟨rfl, HB16.out⟩
      · have hf1 : ¬ ((i : Int) < (its.length : Int)) := by omega
        have hf2 : True := trivial
        have HMI : Hid (min (its.length : Int) 100 = (i : Int)) := Lib.hid (by omega)
        have HMN : Hid (i ≤ its.length ∧ i ≤ 100) := Lib.hid ⟨hi, hi1⟩
        have HML := Lib.hid (b1_length its i)
        have HLS : Hid (∀ p j, getM (b1 its i).2 p = some j → j < i ∧ ∃ x, its[j]? = some x ∧ x.path = p ∧ mayN x.se = 0) := Lib.hid (b1_ok its i).last
        have HMY : Hid (∀ e ∈ (b1 its i).1, mayN e = 0) := Lib.hid (b1_ok its i).may
        have HLL : Hid ((b1 its i).1.length ≤ i) := Lib.hid (b1_ok its i).len
        have HBS := Lib.hid (b2_same its i)
        clear hgo hil hi hi1
        go_wp2
        rw [HMI.out]
        clear HMI hf1 hf2
        generalize hLx : (b1 its i).1 = Lx at *
        generalize hM : (b1 its i).2 = M at *
        clear hLx hM
        go_loopw [11] (fun v11 wr => ∃ j : Nat, j ≤ i ∧ v11 = .int .i64 ((i : Int) - 1 - (j : Int)) ∧ Hid (BkSt w gx bx Lx gy ey (b2 its M i j) bm M wr)) (fun v11 _ => (RowKit.intOf v11 + 1).toNat)
        case atStart => exact ⟨0, by omega, by simp, HS⟩
        case round =>
          obtain ⟨j, hj, rfl, HS⟩ := hrel
          by_cases hgo : j < i
          · obtain ⟨hn, hn1⟩ := HMN.out
            obtain ⟨k, hk⟩ : ∃ k : Nat, k = i - 1 - j := ⟨_, rfl⟩
            have hki : (i : Int) - 1 - (j : Int) = (k : Int) := by omega
            have hk2 : k < its.length := by omega
            have hkl : (k : Int) < (its.length : Int) := by omega
            have HKJ : Hid (k + 1 = i - j) := Lib.hid (by omega)
            rw [hki]
            obtain ⟨x, hx⟩ : ∃ x, its[k]? = some x := ⟨_, List.getElem?_eq_getElem hk2⟩
            have hxm := List.mem_of_getElem? hx
            have HXF := Lib.hid (HLF.out x hxm)
            obtain ⟨b, o, rfl, hb, hat⟩ := HLC.out (List.ne_nil_of_mem hxm)
            have HAT : Hid (∀ W, Below w.heap.size w W → W.rangeAt b (o + k * 7) x.cells) := Lib.hid (fun W hbW u v hu => (hbW.cell (p := ⟨b, o + k * 7 + u, none⟩) hb).trans (hat k x hx u v hu))
            have HRG := Lib.hid (HAT.out wr HS.out.be)
            have hpc : wr.cell? ⟨b, o + k * 7, none⟩ = some (.string ⟨x.path.toArray⟩) := HRG.out 0 _ rfl
            have INX := Lib.hid (fun w' => in_any w' x HXF.out)
            have HPL : Hid (x.path.length ≤ maxLen) := Lib.hid (by have := HXF.out.path; unfold maxLen; omega)
            have HB2X : Hid (b2 its M i (j + 1) = if getM M x.path = some k then insL x.se (b2 its M i j) else b2 its M i j) := Lib.hid (by rw [b2, ← hk, hx])
            have HBL := Lib.hid (b2_srt its M i j)
            have HX := Lib.hid hx
            clear hx hxm hat hk hki hn hn1 hj
            cases hg : getM M x.path with
            | none =>
              have HGM := Lib.hid hg
              have HB2Y : Hid (b2 its M i (j + 1) = b2 its M i j) := Lib.hid (by rw [HB2X.out, if_neg (by rw [hg]; simp)])
              clear hg
              go_wp2_with (first
                | (refine wpList_last HS.out.im x.path HPL.out rfl _ _ rfl rfl rfl ?_; rw [HGM.out]; dsimp only [Option.map, Option.getD, Option.isSome])
                | fail)
              go_roundw
              case rel => exact ⟨j + 1, by have := HKJ.out; omega, by have := HKJ.out; go_num, by rw [HB2Y.out]; exact HS⟩
              case measure => have := HKJ.out; simp [RowKit.intOf]
            | some q =>
              have HGM := Lib.hid hg
              obtain ⟨hq1, y, hy1, hy2, hy3⟩ := HLS.out x.path q hg
              by_cases hqk : q = k
              · subst hqk
                have HMX : Hid (mayN x.se = 0) := Lib.hid (by rw [HX.out] at hy1; obtain rfl := Option.some.inj hy1; exact hy3)
                have HB2Y : Hid (b2 its M i (j + 1) = insL x.se (b2 its M i j)) := Lib.hid (by rw [HB2X.out, if_pos hg])
                clear hg hq1 hy1 hy2 hy3
                go_wp2_with (first
                  | (refine wpList_last HS.out.im x.path HPL.out rfl _ _ rfl rfl rfl ?_; rw [HGM.out]; dsimp only [Option.map, Option.getD, Option.isSome, encI])
                  | (go_guarded; refine wp_load_mid 33 (.tmp 85) rfl b (o + q * 7) rfl x.cells _ HRG.out Tryz.underlying33 rfl (infoIt x) ?_)
                  | fail)
                refine (INX.out wr).mono ?_
                rintro ex w4 ⟨rfl, hb4⟩
                have HS4 := Lib.hid (HS.out.below hb4)
                have SX := Lib.hid (set_any w.heap.size w4 gy ey (b2 its M i j) x.se (It.fits HXF.out) HS4.out.iy)
                rw [setX_ok HMX.out (by have := HBL.out.2; have := HKJ.out; have := HMN.out.2; omega)] at SX
                clear hb4 INX
                unfold ptr at *
                go_wp2_with fail
                refine SX.out.mono ?_
                rintro ex w5 ⟨rfl, hi5, ht5⟩
                have HS5 := Lib.hid (HS4.out.sety hi5 ht5)
                clear hi5 ht5 SX HS4
                go_wp2_with fail
                go_roundw
                case rel => exact ⟨j + 1, by have := HKJ.out; omega, by have := HKJ.out; go_num, by rw [HB2Y.out]; exact HS5⟩
                case measure => have := HKJ.out; simp [RowKit.intOf]
              · have HB2Y : Hid (b2 its M i (j + 1) = b2 its M i j) := Lib.hid (by rw [HB2X.out, if_neg (by rw [hg]; simpa using hqk)])
                have hqn : ((q : Int) == (k : Int)) = false := by simp; omega
                clear hg hq1 hy1 hy2 hy3
                go_wp2_with (first
                  | (refine wpList_last HS.out.im x.path HPL.out rfl _ _ rfl rfl rfl ?_; rw [HGM.out]; dsimp only [Option.map, Option.getD, Option.isSome, encI])
                  | fail)
                go_roundw
                case rel => exact ⟨j + 1, by have := HKJ.out; omega, by have := HKJ.out; go_num, by rw [HB2Y.out]; exact HS⟩
                case measure => have := HKJ.out; simp [RowKit.intOf]
          · obtain rfl : j = i := by omega
            have hneg : ¬ (0 ≤ (j : Int) - 1 - (j : Int)) := by omega
            rw [HBS.out] at HS
            have HFI := Lib.hid HS.out.ix.fits
            have HXL := Lib.hid (encX_len HS.out.ix.fits HMY.out HS.out.ix.len)
            have HDE := Lib.hid (dec_enc HS.out.ix.srt HS.out.ix.fits HMY.out HS.out.ix.len)
            have EX := Lib.hid (encode_any w.heap.size wr gx bx Lx HS.out.ix HMY.out)
            have EY := Lib.hid (fun W h => encode_any w.heap.size W gy ey Lx h HMY.out)
            have EZ := Lib.hid (fun B W g b h => encode_any B W g b Lx h HMY.out)
            clear HBS hgo hneg
            unfold ptr EncPost at *
            generalize hE : encX Lx = E at *
            have hE2 := Lib.hid hE
            clear hE
            have hlm := HS.out.im.len Tryz.underlying112
            have DE := Lib.hid (fun w' => decode_any w' E (by have := HXL.out; omega))
            rw [HDE.out] at DE
            unfold DecPost ptr at DE
            go_wp2_with fail
            refine EX.out.mono ?_
            rintro ex w4 ⟨rfl, hb4⟩
            have HS4 := Lib.hid (HS.out.below hb4)
            have EY4 := Lib.hid (EY.out w4 HS4.out.iy)
            clear hb4 EX EY
            go_wp2_with fail
            refine EY4.out.mono ?_
            rintro ex w5 ⟨rfl, hb5⟩
            have HS5 := Lib.hid (HS4.out.below hb5)
            clear hb5 EY4 HS4
            go_wp2_with fail
            refine (DE.out w5).mono ?_
            rintro ex w6 ⟨gz, bz, rfl, hiz, hb6⟩
            have HS6 := Lib.hid (HS5.out.below hb6)
            have HIZ := Lib.hid hiz
            have HZS : Hid (bx < w5.heap.size ∧ w5.heap.size ≤ w6.heap.size) := Lib.hid ⟨HS5.out.ix.lt_b, hb6.size⟩
            have LX := Lib.hid (len_any w.heap.size w6 gx bx Lx HS6.out.ix)
            have hlen := HS6.out.im.len Tryz.underlying112
            simp only [toD_size, HML.out] at hlen
            clear hb6 hiz DE HS5 hlm
            unfold ptr at *
            go_wp2_with fail
            refine LX.out.mono ?_
            rintro ex w7 ⟨rfl, rfl⟩
            have AX := Lib.hid (all_any w.heap.size w7 gx bx Lx HS6.out.ix)
            have AZ := Lib.hid (fun W h => all_any w5.heap.size W gz bz Lx h)
            clear LX
            unfold ptr AllPost at *
            go_wp2_with fail
            refine AX.out.mono ?_
            rintro ex w8 ⟨v8, rfl, hr8, hb8⟩
            obtain ⟨a8, c8, rfl⟩ := row_slice hr8
            have HS8 := Lib.hid (HS6.out.below hb8)
            have HIZ8 := Lib.hid (HIZ.out.below hb8)
            have AZ8 := Lib.hid (AZ.out w8 HIZ8.out)
            have HR8 := Lib.hid hr8
            have HZ8 := Lib.hid hb8.size
            clear hr8 hb8 HS6 HIZ AX AZ
            go_wp2_with fail
            refine AZ8.out.mono ?_
            rintro ex w9 ⟨v9, rfl, hr9, hb9⟩
            obtain ⟨a9, c9, rfl⟩ := row_slice hr9
            have HS9 := Lib.hid (HS8.out.below hb9)
            have HIZ9 := Lib.hid (HIZ8.out.below hb9)
            have HR89 := Lib.hid (rowS_kept HR8.out (fun x _ hx => hb9.block x hx))
            have HR9 := Lib.hid hr9
            clear hr9 hb9 HS8 HIZ8 AZ8 HR8
            go_wp2
            have HL39 : Hid (L3St w w5.heap.size w7.heap.size w8.heap.size gx bx gz bz Lx (.slice a8 Lx.length c8) (.slice a9 Lx.length c9) 0 w9) := Lib.hid ⟨HS9.out.ix, HIZ9.out, HR89.out, HR9.out, ⟨HZS.out.1, HZS.out.2, HZ8.out⟩, HS9.out.be⟩
            have HZQ := Lib.hid HZS.out.1
            clear HS9 HIZ9 HR89 HR9 HZS HZ8
            go_loopw [22] (fun v22 wr => ∃ k : Nat, k ≤ Lx.length ∧ v22 = .int .i64 (k : Int) ∧ Hid (L3St w w5.heap.size w7.heap.size w8.heap.size gx bx gz bz Lx (.slice a8 Lx.length c8) (.slice a9 Lx.length c9) k wr)) (fun v22 _ => Lx.length - (RowKit.intOf v22).toNat)
            case atStart => exact ⟨0, by omega, rfl, HL39⟩
            case round =>
              obtain ⟨k, hk, rfl, HL3⟩ := hrel
              by_cases hgo : k < Lx.length
              · have hkl : (k : Int) < (Lx.length : Int) := by omega
                have hl100 : Lx.length ≤ 100 := by have := HLL.out; have := HMN.out.2; omega
                obtain ⟨x, hx⟩ : ∃ x, Lx[k]? = some x := ⟨_, List.getElem?_eq_getElem hgo⟩
                have HXF := Lib.hid (HFI.out x (List.mem_of_getElem? hx))
                have HX38 := Lib.hid HXF.out.id
                have HEN := Lib.hid HXF.out.en
                obtain ⟨g8, d8, hv8, hg8, _, _, _⟩ := rowS_form HL3.out.r8 (by omega)
                injection hv8 with e1 e2 e3
                subst e1 e3
                clear e2 hg8
                obtain ⟨g9, d9, hv9, hg9, _, _, _⟩ := rowS_form HL3.out.r9 (by omega)
                injection hv9 with e1 e2 e3
                subst e1 e3
                clear e2 hg9
                have KS : Hid (∀ j W, L3St w w5.heap.size w7.heap.size w8.heap.size gx bx gz bz Lx (.slice (some ⟨g8, 0, none⟩) Lx.length c8) (.slice (some ⟨g9, 0, none⟩) Lx.length c9) j W → W.rangeAt g8 (k * 38) x.cells ∧ W.rangeAt g9 (k * 38) x.cells) := Lib.hid (fun j W h => ⟨row_ent h.r8 (fun e he => (HFI.out e he).id) hx, row_ent h.r9 (fun e he => (HFI.out e he).id) hx⟩)
                have DR : Hid (∀ W, L3St w w5.heap.size w7.heap.size w8.heap.size gx bx gz bz Lx (.slice (some ⟨g8, 0, none⟩) Lx.length c8) (.slice (some ⟨g9, 0, none⟩) Lx.length c9) k W → Calls Tryz.prog 16 #[.pointer (some ⟨gx, 0, none⟩), .string ⟨x.path.toArray⟩] W fun e w' => e = .returned (.int .i64 0) ∧ L3St w w5.heap.size w7.heap.size w8.heap.size gx bx gz bz Lx (.slice (some ⟨g8, 0, none⟩) Lx.length c8) (.slice (some ⟨g9, 0, none⟩) Lx.length c9) (k + 1) w') := Lib.hid (fun W h => by
                  have := drop_any w.heap.size W gx bx (Lx.drop k) ⟨x.path.toArray⟩ (by show x.path.length ≤ _; have := HXF.out.path; unfold maxLen; omega) h.ix
                  rw [ba_data, (drop_rem hx).1, (drop_rem hx).2] at this
                  exact this.mono (fun e w' ⟨a1, a2, a3⟩ => ⟨a1, h.drop a2 a3⟩))
                clear hx
                go_upto_region 29 with (fail)
                refine wp_region_held_drew (S := (fun w' : World => w'.rangeAt g8 (k * 38) x.cells ∧ w'.rangeAt g9 (k * 38) x.cells)) (by kernel_rfl) (KS.out k _ (HL3.out.below (Below.refl wr.heap.size wr).drew)) (fun hHeld => ?_)
                refine wpAnyH_take (i := 0) (v := ?_) rfl (by kernel_rfl) (by kernel_rfl) (by kernel_rfl) (fun _ _ _ h => h) (Or.inl ⟨by rfl, ?c3_0⟩) hHeld ?_
                case c3_0 =>
                  intro wS hSw
                  have h8 := hSw.1
                  have h9 := hSw.2
                  have hp : wS.cell? ⟨g8, k * 38, none⟩ = some (.string ⟨x.path.toArray⟩) := h8 0 _ rfl
                  clear hSw
                  go_simp
                  try with_reducible rfl
                try simp only [Act.put, List.getElem_toArray, List.getElem_cons_zero, List.getElem_cons_succ, List.setIfInBounds_toArray, List.set_cons_zero, List.set_cons_succ]
                refine wpAnyH_take (i := 1) (v := ?_) rfl (by kernel_rfl) (by kernel_rfl) (by kernel_rfl) (fun _ _ _ h => h) (Or.inl ⟨by rfl, ?c3_1⟩) hHeld ?_
                case c3_1 =>
                  intro wS hSw
                  have h8 := hSw.1
                  have h9 := hSw.2
                  have hp : wS.cell? ⟨g8, k * 38, none⟩ = some (.string ⟨x.path.toArray⟩) := h8 0 _ rfl
                  clear hSw
                  go_simp
                  try with_reducible rfl
                try simp only [Act.put, List.getElem_toArray, List.getElem_cons_zero, List.getElem_cons_succ, List.setIfInBounds_toArray, List.set_cons_zero, List.set_cons_succ]
                refine wpAnyH_take (i := 2) (v := ?_) rfl (by kernel_rfl) (by kernel_rfl) (by kernel_rfl) (fun _ _ _ h => h) (Or.inl ⟨by rfl, ?c3_2⟩) hHeld ?_
                case c3_2 =>
                  intro wS hSw
                  have h8 := hSw.1
                  have h9 := hSw.2
                  have hp : wS.cell? ⟨g8, k * 38, none⟩ = some (.string ⟨x.path.toArray⟩) := h8 0 _ rfl
                  clear hSw
                  go_simp
                  try with_reducible rfl
                try simp only [Act.put, List.getElem_toArray, List.getElem_cons_zero, List.getElem_cons_succ, List.setIfInBounds_toArray, List.set_cons_zero, List.set_cons_succ]
                refine' wpAnyH_take (i := 3) (v := _) rfl (by kernel_rfl) (by kernel_rfl) (by kernel_rfl) (fun _ _ _ h => h) (yieldsIf_load_mid (by rfl) _ _ rfl g8 (k * 38) rfl x.cells _ ?c3_3S ?c3_3u ?c3_3d ?c3_3i) hHeld ?c3_3x
                case c3_3S =>
                  intro wS hSw
                  exact hSw.1
                case c3_3u => exact Tryz.underlying44
                case c3_3d => rfl
                case c3_3i => exact HEN.out.infoL
                try simp only [Act.put, List.getElem_toArray, List.getElem_cons_zero, List.getElem_cons_succ, List.setIfInBounds_toArray, List.set_cons_zero, List.set_cons_succ]
                refine wpAnyH_take (i := 4) (v := ?_) rfl (by kernel_rfl) (by kernel_rfl) (by kernel_rfl) (fun _ _ _ h => h) (Or.inl ⟨by rfl, ?c3_4⟩) hHeld ?_
                case c3_4 =>
                  intro wS hSw
                  have h8 := hSw.1
                  have h9 := hSw.2
                  have hp : wS.cell? ⟨g8, k * 38, none⟩ = some (.string ⟨x.path.toArray⟩) := h8 0 _ rfl
                  clear hSw
                  go_simp
                  try with_reducible rfl
                try simp only [Act.put, List.getElem_toArray, List.getElem_cons_zero, List.getElem_cons_succ, List.setIfInBounds_toArray, List.set_cons_zero, List.set_cons_succ]
                refine wpAnyH_take (i := 5) (v := ?_) rfl (by kernel_rfl) (by kernel_rfl) (by kernel_rfl) (fun _ _ _ h => h) (Or.inl ⟨by rfl, ?c3_5⟩) hHeld ?_
                case c3_5 =>
                  intro wS hSw
                  have h8 := hSw.1
                  have h9 := hSw.2
                  have hp : wS.cell? ⟨g8, k * 38, none⟩ = some (.string ⟨x.path.toArray⟩) := h8 0 _ rfl
                  clear hSw
                  go_simp
                  try with_reducible rfl
                try simp only [Act.put, List.getElem_toArray, List.getElem_cons_zero, List.getElem_cons_succ, List.setIfInBounds_toArray, List.set_cons_zero, List.set_cons_succ]
                refine wpAnyH_take (i := 6) (v := ?_) rfl (by kernel_rfl) (by kernel_rfl) (by kernel_rfl) (fun _ _ _ h => h) (Or.inl ⟨by rfl, ?c3_6⟩) hHeld ?_
                case c3_6 =>
                  intro wS hSw
                  have h8 := hSw.1
                  have h9 := hSw.2
                  have hp : wS.cell? ⟨g8, k * 38, none⟩ = some (.string ⟨x.path.toArray⟩) := h8 0 _ rfl
                  clear hSw
                  go_simp
                  try with_reducible rfl
                try simp only [Act.put, List.getElem_toArray, List.getElem_cons_zero, List.getElem_cons_succ, List.setIfInBounds_toArray, List.set_cons_zero, List.set_cons_succ]
                refine' wpAnyH_take (i := 7) (v := _) rfl (by kernel_rfl) (by kernel_rfl) (by kernel_rfl) (fun _ _ _ h => h) (yieldsIf_load_mid (by rfl) _ _ rfl g9 (k * 38) rfl x.cells _ ?c3_7S ?c3_7u ?c3_7d ?c3_7i) hHeld ?c3_7x
                case c3_7S =>
                  intro wS hSw
                  exact hSw.2
                case c3_7u => exact Tryz.underlying44
                case c3_7d => rfl
                case c3_7i => exact HEN.out.infoL
                try simp only [Act.put, List.getElem_toArray, List.getElem_cons_zero, List.getElem_cons_succ, List.setIfInBounds_toArray, List.set_cons_zero, List.set_cons_succ]
                refine wpAnyH_take (i := 8) (v := .bool false) rfl (by kernel_rfl) (by kernel_rfl) (by kernel_rfl) (fun _ _ _ h => h) (Or.inl ⟨by rfl, ?c3_8⟩) hHeld ?_
                case c3_8 =>
                  intro wS hSw
                  exact exec_self (.tmp 150) (.tmp 154) x HX38.out rfl rfl rfl
                try simp only [Act.put, List.getElem_toArray, List.getElem_cons_zero, List.getElem_cons_succ, List.setIfInBounds_toArray, List.set_cons_zero, List.set_cons_succ]
                refine wpAnyH_take (i := 9) (v := ?_) rfl (by kernel_rfl) (by kernel_rfl) (by kernel_rfl) (fun _ _ _ h => h) (Or.inl ⟨by rfl, ?c3_9⟩) hHeld ?_
                case c3_9 =>
                  intro wS hSw
                  have h8 := hSw.1
                  have h9 := hSw.2
                  have hp : wS.cell? ⟨g8, k * 38, none⟩ = some (.string ⟨x.path.toArray⟩) := h8 0 _ rfl
                  clear hSw
                  go_simp
                  try with_reducible rfl
                try simp only [Act.put, List.getElem_toArray, List.getElem_cons_zero, List.getElem_cons_succ, List.setIfInBounds_toArray, List.set_cons_zero, List.set_cons_succ]
                refine wpAnyH_take (i := 10) (v := ?_) rfl (by kernel_rfl) (by kernel_rfl) (by kernel_rfl) (fun _ _ _ h => h) (Or.inl ⟨by rfl, ?c3_10⟩) hHeld ?_
                case c3_10 =>
                  intro wS hSw
                  have h8 := hSw.1
                  have h9 := hSw.2
                  have hp : wS.cell? ⟨g8, k * 38, none⟩ = some (.string ⟨x.path.toArray⟩) := h8 0 _ rfl
                  clear hSw
                  go_simp
                  try with_reducible rfl
                try simp only [Act.put, List.getElem_toArray, List.getElem_cons_zero, List.getElem_cons_succ, List.setIfInBounds_toArray, List.set_cons_zero, List.set_cons_succ]
                refine wpAnyH_take (i := 11) (v := ?_) rfl (by kernel_rfl) (by kernel_rfl) (by kernel_rfl) (fun _ _ _ h => h) (Or.inl ⟨by rfl, ?c3_11⟩) hHeld ?_
                case c3_11 =>
                  intro wS hSw
                  have h8 := hSw.1
                  have h9 := hSw.2
                  have hp : wS.cell? ⟨g8, k * 38, none⟩ = some (.string ⟨x.path.toArray⟩) := h8 0 _ rfl
                  clear hSw
                  go_simp
                  try with_reducible rfl
                try simp only [Act.put, List.getElem_toArray, List.getElem_cons_zero, List.getElem_cons_succ, List.setIfInBounds_toArray, List.set_cons_zero, List.set_cons_succ]
                refine wpAnyH_take (i := 12) (v := ?_) rfl (by kernel_rfl) (by kernel_rfl) (by kernel_rfl) (fun _ _ _ h => h) (Or.inl ⟨by rfl, ?c3_12⟩) hHeld ?_
                case c3_12 =>
                  intro wS hSw
                  have h8 := hSw.1
                  have h9 := hSw.2
                  have hp : wS.cell? ⟨g8, k * 38, none⟩ = some (.string ⟨x.path.toArray⟩) := h8 0 _ rfl
                  clear hSw
                  go_simp
                  try with_reducible rfl
                try simp only [Act.put, List.getElem_toArray, List.getElem_cons_zero, List.getElem_cons_succ, List.setIfInBounds_toArray, List.set_cons_zero, List.set_cons_succ]
                refine wpAnyH_take (i := 13) (v := ?_) rfl (by kernel_rfl) (by kernel_rfl) (by kernel_rfl) (fun _ _ _ h => h) (Or.inl ⟨by rfl, ?c3_13⟩) hHeld ?_
                case c3_13 =>
                  intro wS hSw
                  have h8 := hSw.1
                  have h9 := hSw.2
                  have hp : wS.cell? ⟨g8, k * 38, none⟩ = some (.string ⟨x.path.toArray⟩) := h8 0 _ rfl
                  clear hSw
                  go_simp
                  try with_reducible rfl
                try simp only [Act.put, List.getElem_toArray, List.getElem_cons_zero, List.getElem_cons_succ, List.setIfInBounds_toArray, List.set_cons_zero, List.set_cons_succ]
                refine wpAnyH_take (i := 14) (v := ?_) rfl (by kernel_rfl) (by kernel_rfl) (by kernel_rfl) (fun _ _ _ h => h) (Or.inl ⟨by rfl, ?c3_14⟩) hHeld ?_
                case c3_14 =>
                  intro wS hSw
                  have h8 := hSw.1
                  have h9 := hSw.2
                  have hp : wS.cell? ⟨g8, k * 38, none⟩ = some (.string ⟨x.path.toArray⟩) := h8 0 _ rfl
                  clear hSw
                  go_simp
                  try with_reducible rfl
                try simp only [Act.put, List.getElem_toArray, List.getElem_cons_zero, List.getElem_cons_succ, List.setIfInBounds_toArray, List.set_cons_zero, List.set_cons_succ]
                refine wpAnyH_take (i := 15) (v := ?_) rfl (by kernel_rfl) (by kernel_rfl) (by kernel_rfl) (fun _ _ _ h => h) (Or.inl ⟨by rfl, ?c3_15⟩) hHeld ?_
                case c3_15 =>
                  intro wS hSw
                  have h8 := hSw.1
                  have h9 := hSw.2
                  have hp : wS.cell? ⟨g8, k * 38, none⟩ = some (.string ⟨x.path.toArray⟩) := h8 0 _ rfl
                  clear hSw
                  go_simp
                  try with_reducible rfl
                try simp only [Act.put, List.getElem_toArray, List.getElem_cons_zero, List.getElem_cons_succ, List.setIfInBounds_toArray, List.set_cons_zero, List.set_cons_succ]
                refine wpAnyH_ready (rs := [16]) (by kernel_rfl) (by simp) ?_
                refine AllReadyH.cons rfl (fun K hK => ?_) AllReadyH.nil
                go_simp
                refine (DR.out _ (HL3.out.below (Below.refl wr.heap.size wr).drew)).mono ?_
                rintro ex w10 ⟨rfl, hl10⟩
                have HL10 := Lib.hid hl10
                clear hl10
                go_wp2_with fail
                refine hK.out _ _ (KS.out _ _ HL10.out) (fun hHeld2 => ?_)
                clear hK K hHeld
                have hHeld := hHeld2
                clear hHeld2
                try simp only [Act.put, List.getElem_toArray, List.getElem_cons_zero, List.getElem_cons_succ, List.setIfInBounds_toArray, List.set_cons_zero, List.set_cons_succ]
                refine wpAnyH_take (i := 17) (v := ?_) rfl (by kernel_rfl) (by kernel_rfl) (by kernel_rfl) (fun _ _ _ h => h) (Or.inl ⟨by rfl, ?c3_17⟩) hHeld ?_
                case c3_17 =>
                  intro wS hSw
                  have h8 := hSw.1
                  have h9 := hSw.2
                  have hp : wS.cell? ⟨g8, k * 38, none⟩ = some (.string ⟨x.path.toArray⟩) := h8 0 _ rfl
                  clear hSw
                  go_simp
                  try with_reducible rfl
                try simp only [Act.put, List.getElem_toArray, List.getElem_cons_zero, List.getElem_cons_succ, List.setIfInBounds_toArray, List.set_cons_zero, List.set_cons_succ]
                refine wpAnyH_take (i := 18) (v := ?_) rfl (by kernel_rfl) (by kernel_rfl) (by kernel_rfl) (fun _ _ _ h => h) (Or.inl ⟨by rfl, ?c3_18⟩) hHeld ?_
                case c3_18 =>
                  intro wS hSw
                  have h8 := hSw.1
                  have h9 := hSw.2
                  have hp : wS.cell? ⟨g8, k * 38, none⟩ = some (.string ⟨x.path.toArray⟩) := h8 0 _ rfl
                  clear hSw
                  go_simp
                  try with_reducible rfl
                try simp only [Act.put, List.getElem_toArray, List.getElem_cons_zero, List.getElem_cons_succ, List.setIfInBounds_toArray, List.set_cons_zero, List.set_cons_succ]
                refine wpAnyH_done (by kernel_rfl) ?_ _
                clear hHeld
                try simp only [Act.put, List.getElem_toArray, List.getElem_cons_zero, List.getElem_cons_succ, List.setIfInBounds_toArray, List.set_cons_zero, List.set_cons_succ]
                go_wp2
                go_roundw
                case rel => exact ⟨k + 1, by omega, by go_num, HL10⟩
                case measure => simp [RowKit.intOf]; omega
              · obtain rfl : k = Lx.length := by omega
                have hnlt : ¬ ((Lx.length : Int) < (Lx.length : Int)) := by omega
                have EZ1 := Lib.hid (EZ.out w5.heap.size wr gz bz HL3.out.iz)
                have NM := Lib.hid (fun W => Sh.name_any W E (by have := HXL.out; omega))
                have hnl : (Sh.nameL E).length ≤ 1000 := by rw [Sh.nameL, List.length_append, List.length_append, Sh.hexs_length, Sh.sum_length]; decide
                have CK := Lib.hid (fun W => Sh.check_any W (Sh.nameL E) E (by omega) (by have := HXL.out; omega))
                have hck : Sh.chkE (Sh.nameL E) E = 0 := by rw [Sh.chkE, if_pos (Sh.nameL_is _), if_pos rfl, HDE.out]; rfl
                rw [hck] at CK
                have LX := Lib.hid (fun W h => len_any w.heap.size W gx bx (Lx.drop Lx.length) h)
                rw [List.drop_length] at LX
                have CC := Lib.hid (fun W s hs => Sh.check_any W (Sh.nameL E) s (by omega) hs)
                obtain ⟨nm, hnm⟩ : ∃ nm, nm = Sh.nameL E := ⟨_, rfl⟩
                rw [← hnm] at NM CK CC
                have HNM := Lib.hid hnm
                clear EZ hnm hck hnl
                unfold ptr at *
                go_wp2_with fail
                refine EZ1.out.mono ?_
                rintro ex w10 ⟨rfl, hb10⟩
                have HL10 := Lib.hid (HL3.out.below hb10)
                clear hb10 EZ1
                go_wp2_with fail
                refine (NM.out w10).mono ?_
                rintro ex w11 ⟨rfl, hb11⟩
                have HL11 := Lib.hid (HL10.out.below hb11)
                have LX1 := Lib.hid (LX.out w11 (by have := HL11.out.ix; rwa [List.drop_length] at this))
                clear hb11 NM LX
                go_wp2_with fail
                refine LX1.out.mono ?_
                rintro ex w12 ⟨rfl, rfl⟩
                go_wp2_with fail
                refine (CK.out w12).mono ?_
                rintro ex w13 ⟨rfl, hb13⟩
                have HB13 := Lib.hid (HL11.out.be.trans (hb13.mono HL11.out.be.size))
                clear hb13 LX1 CK
                by_cases hby : by_.toNat = 0
                · have hb0 : (by_.toNat : Int) = 0 := by omega
                  go_wp2_with fail
                  go_ret
                  exact ⟨rfl, HB13.out⟩
                · have hb0 : ((by_.toNat : Int) == 0) = false := by simp; omega
                  have he0 : 0 < E.length := by rw [← hE2.out, encX, List.length_append, List.length_append]; show 0 < 4 + _ + _; omega
                  have hel : E.length ≤ 400000000 := HXL.out
                  have hek : ¬ ((E.length : Int) = 0) := by omega
                  obtain ⟨W14, hW14⟩ : ∃ W, W = Lib.bytesWorld w13 5 ⟨E.toArray⟩ := ⟨_, rfl⟩
                  have hcv : (convert 9 114 (.string ⟨E.toArray⟩)).run Tryz.prog w13 = .ok (.slice (some ⟨w13.heap.size, 0, none⟩) E.length (grownCap w13 E.length 0 5)) W14 := by
                    rw [hW14]; exact Lib.run_convert_string_bytes (P := Tryz.prog) w13 9 114 5 ⟨E.toArray⟩ Tryz.underlying9 Tryz.underlying114 Tryz.underlying5
                  have HRM : Hid (RowM W14 w.heap.size (.slice (some ⟨w13.heap.size, 0, none⟩) E.length (grownCap w13 E.length 0 5)) E) := Lib.hid (by rw [hW14]; exact rowM_conv w13 w.heap.size HB13.out.size E (by unfold maxLen; omega))
                  have HB14 : Hid (Below w.heap.size w W14) := Lib.hid (by rw [hW14]; exact HB13.out.trans ((bytesWorld_below w13 _ ⟨E.toArray⟩).mono HB13.out.size))
                  generalize grownCap w13 E.length 0 5 = cap at *
                  have HFZ : Hid (∀ p, p < E.length → W14.frozen? ⟨w13.heap.size, p, none⟩ = false) := Lib.hid (fun p hp => by rw [hW14]; exact conv_frozen w13 E p hp)
                  have HG13 : Hid (w.heap.size ≤ w13.heap.size ∧ w13.heap.size < W14.heap.size) := Lib.hid ⟨HB13.out.size, by rw [hW14, Lib.bytesWorld_size]; omega⟩
                  clear hW14
                  generalize w13.heap.size = gc at *
                  go_upto_region 39 with (fail)
                  obtain ⟨p, hpl, hpe⟩ := at_ok at_ (E.length : Int) (by omega) (by omega)
                  rw [hpe]
                  clear hpe
                  have hp2 : p < E.length := by omega
                  obtain ⟨by2, hby2⟩ : ∃ b2 : UInt8, (b2.toNat : Int) = bits .xor .u8 (E[p].toNat : Int) (by_.toNat : Int) := ⟨E[p] ^^^ by_, by rw [u8_xor_nat _ _ (UInt8.toNat_lt _) (UInt8.toNat_lt _), UInt8.toNat_xor]⟩
                  have hpc : W14.cell? ⟨gc, p, none⟩ = some (.int .u8 (E[p].toNat : Int)) := by
                    have := HRM.out.range p _ (by rw [Lib.byteCells, List.getElem?_map, List.getElem?_eq_getElem hp2]; rfl)
                    rwa [Nat.zero_add] at this
                  have hpf := HFZ.out p hp2
                  go_upto_region 40 with (fail)
                  rw [← hby2]
                  obtain ⟨W15, hW15⟩ : ∃ W, W = W14.setCell ⟨gc, p, none⟩ (.int .u8 (by2.toNat : Int)) := ⟨_, rfl⟩
                  rw [← hW15]
                  have HB15 : Hid (Below w.heap.size w W15) := Lib.hid (by
                    have ht : Turn [gc] W14 W15 := by rw [hW15]; exact (Turn.refl _ _).setCell (.inl (by simp)) _
                    exact HB14.out.trans (ht.below (fun y hy => by simp at hy; subst hy; exact HG13.out.1) HB14.out.size))
                  have HG15 : Hid (gc < W15.heap.size) := Lib.hid (by have : W15.heap.size = W14.heap.size := by rw [hW15]; simp [World.setCell]
                                                                      rw [this]; exact HG13.out.2)
                  have HRC : Hid (∀ W, Below W15.heap.size W15 W → W.rangeAt gc 0 (Lib.byteCells (E.set p by2))) := Lib.hid (fun W hb u v hu => by
                    have h0 : W15.rangeAt gc 0 (Lib.byteCells (E.set p by2)) := by rw [hW15]; exact set_range p by2 HRM.out.range
                    exact (hb.cell (p := ⟨gc, 0 + u, none⟩) HG15.out).trans (h0 u v hu))
                  have HCV : Hid (∀ W, Below W15.heap.size W15 W → (convert 114 9 (.slice (some ⟨gc, 0, none⟩) E.length cap)).run Tryz.prog W = .ok (.string ⟨(E.set p by2).toArray⟩) W) := Lib.hid (fun W hb => by
                    have := conv_row (c := cap) _ (HRC.out W hb)
                    rwa [List.length_set] at this)
                  have HCL : Hid ((E.set p by2).length ≤ 140737488351232) := Lib.hid (by rw [List.length_set]; omega)
                  clear hpf hpc hW15 hby2 HRC
                  generalize E.set p by2 = C at *
                  have hcv2 := HCV.out W15 (Below.refl _ _)
                  have CC1 := Lib.hid (CC.out W15 C HCL.out)
                  clear CC
                  by_cases hs : Sh.nameL C = Sh.nameL E
                  · have QC := Lib.hid (fun W => Sh.quick_any W C HCL.out)
                    have QE := Lib.hid (fun W => Sh.quick_any W E (by omega))
                    rw [Sh.sumV, Sh.nameL_eq hs] at QC
                    unfold Sh.sumV at QE
                    obtain ⟨d, hd, hd9⟩ : ∃ d : Int, d = Sh.chkE nm C ∧ (d == 9) = false := ⟨_, rfl, by rw [HNM.out, Sh.chkE, if_pos (Sh.nameL_is _), if_pos hs]; split <;> rfl⟩
                    rw [← hd] at CC1
                    clear hd hs
                    have hsl := Sh.sum_length E
                    generalize Sh.sum E = sm at *
                    go_wp2_with fail
                    refine CC1.out.mono ?_
                    rintro ex w16 ⟨rfl, hb16⟩
                    have hcv3 := HCV.out w16 hb16
                    have HB16 := Lib.hid (HB15.out.trans (hb16.mono HB15.out.size))
                    clear hb16 CC1
                    go_wp2_with fail
                    refine (QC.out w16).mono ?_
                    rintro ex w17 ⟨rfl, hb17⟩
                    have HB17 := Lib.hid (HB16.out.trans (hb17.mono HB16.out.size))
                    clear hb17 QC
                    go_wp2_with fail
                    refine (QE.out w17).mono ?_
                    rintro ex w18 ⟨rfl, hb18⟩
                    have HB18 := Lib.hid (HB17.out.trans (hb18.mono HB17.out.size))
                    clear hb18 QE
                    go_wp2_with (first
                      | (go_guarded; refine wp_eqB (.tmp 222) (.tmp 224) sm hsl rfl rfl rfl ?_)
                      | fail)
                    go_ret
                    exact ⟨rfl, HB18.out⟩
                  · have hd : Sh.chkE nm C = 9 := by rw [HNM.out, Sh.chkE, if_pos (Sh.nameL_is _), if_neg hs]
                    rw [hd] at CC1
                    clear hd hs
                    go_wp2_with fail
                    refine CC1.out.mono ?_
                    rintro ex w16 ⟨rfl, hb16⟩
                    have HB16 := Lib.hid (HB15.out.trans (hb16.mono HB15.out.size))
                    clear hb16 CC1
                    go_wp2_with fail
                    go_ret
                    exact ⟨rfl, HB16.out⟩
end Go.Proofs.YthcjjekkjbidlaaGreatDoor.St
