/-
  The walk of the statement NamesAre.
-/
import Derived.Test.YtofdhhemdoodaaaDoorNmRefJoin
import Derived.Test.YtofdhhemdoodaaaDoorNmUnder
import Derived.Test.YtofdhhemdoodaaaDoorWords
import Derived.Test.YtofdhhemdoodaaaDoorNmHex
namespace Go.Proofs.YtofdhhemdoodaaaDoor.Nm
open Go.RowKit

def TruePost (w : World) (e : Ending) (w' : World) : Prop := e = .returned (.bool true) ∧ Below w.heap.size w w'

theorem reads_of_strs {w : World} {A : Option Addr} {n c : Nat} {ns : List (List UInt8)} (hl : ns.length = n) (h : StrsAt w (.slice A n c) ns) : Wd.Reads w w.heap.size 1 A n (ns.map sv) := by
  obtain ⟨a, cap, e, _, h⟩ := h
  injection e with e1 e2 e3
  subst e1
  refine ⟨by simp [hl], fun hn => ?_⟩
  obtain ⟨b, o, rfl, hb, hc⟩ := h (by intro e; rw [e] at hl; simp at hl; omega)
  refine ⟨_, rfl, hb, fun j u hu => ?_⟩
  rw [List.getElem?_map] at hu
  obtain ⟨x, hx, rfl⟩ := Option.map_eq_some_iff.1 hu
  rw [Addr.add_lit]; exact hc j x hx

theorem splitL_len (p : List UInt8) : (splitL p).length ≤ 16 := by
  cases h : splitP p with
  | none => rw [splitL, h]; simp
  | some ns =>
    rw [splitL, h]
    by_cases hn : ns = []
    · subst hn; simp
    · exact (splitP_path h hn).2.2.2

/-- Only block g has turned. -/
structure Only (g : Nat) (w w' : World) : Prop where
  os : w'.os = w.os
  tape : w'.tape = w.tape
  output : w'.output = w.output
  size : w'.heap.size = w.heap.size
  block : ∀ k, k ≠ g → w'.heap[k]? = w.heap[k]?

theorem Only.refl (g : Nat) (w : World) : Only g w w := ⟨rfl, rfl, rfl, rfl, fun _ _ => rfl⟩
theorem Only.setCell {g : Nat} {a w : World} (h : Only g a w) (j : Nat) (v : Value) : Only g a (w.setCell ⟨g, j, none⟩ v) :=
  ⟨h.os, h.tape, h.output, by rw [← h.size]; simp [World.setCell], fun k hk => by rw [Below.heap_setCell _ _ _ _ (by exact hk)]; exact h.block k hk⟩
theorem Only.below {g B : Nat} {w w' : World} (h : Only g w w') (hB : B ≤ g) : Below B w w' :=
  ⟨h.os, h.tape, h.output, by rw [h.size]; exact Nat.le_refl _, fun k hk => h.block k (by omega)⟩
theorem ownsRow_only {w w' : World} {g base : Nat} {e : TypeId} {size : Nat} {v : Value} {n : Nat} {xs : List Value} (h : w.ownsRow base e size v n xs) (ho : Only g w w') (hg : g < base) : w'.ownsRow base e size v n xs := by
  obtain ⟨h1, h2⟩ := h
  refine ⟨h1, ?_⟩
  rcases h2 with h2 | ⟨k, cap, cur, a, b, c, d⟩
  · exact .inl h2
  · exact .inr ⟨k, cap, cur, a, b, by rw [ho.block k (by omega)]; exact c, d⟩

set_option maxHeartbeats 4000000 in
set_option maxRecDepth 100000 in
/-- The statement, whatever the list. -/
theorem are_any (s t : ByteArray) (A : Option Addr) (len cap : Nat) (ns : List (List UInt8)) (w : World) (hT : Tabs w) (hs : s.size ≤ 140737488355328) (ht : t.size ≤ 140737488355328)
    (hln : ns.length = len) (hl : len * 16 ≤ 140737488351232) (hns : ∀ x ∈ ns, x.length ≤ maxLen) (hv : StrsAt w (.slice A len cap) ns) :
    Calls Tryd.prog 4 #[.string s, .string t, .slice A len cap] w (TruePost w) := by
  obtain ⟨i0, hi, hz0, hz1, hz2⟩ := info_parts infoStr
  have hr0 := reads_of_strs hln hv
  have hr1 := hr0.alloc (Nat.le_refl _) (Obj.cells #[] 9)
  have hown0 : (w.alloc (.cells #[] 9)).ownsRow w.heap.size 9 1 (.slice (some ⟨w.heap.size, 0, none⟩) 0 0) 0 [] := by
    refine ⟨rfl, .inr ⟨w.heap.size, 0, #[], rfl, Nat.le_refl _, ?_, Nat.le_refl _, by unfold maxLen; omega, rfl, rfl⟩⟩
    show (w.heap.push _)[w.heap.size]? = _
    simp
  have hn1 : ∀ u ∈ ns.map sv, u.oneCell' = true := by
    intro u hu; obtain ⟨x, _, rfl⟩ := List.mem_map.1 hu; rfl
  have HC1 := Lib.hid hr1; have HN1 := Lib.hid hn1; have HLN := Lib.hid hln; have HV := Lib.hid hv
  clear hr0 hr1 hn1 hln hv
  go_enter Tryd.func4, Tryd.ntmps4
  go_wp2_with (at_builtin; refine Wd.wpList_append_any _ rfl _ _ 29 rfl w.heap.size 9 i0 (.string ByteArray.empty) 1 16 Tryd.underlying29 hi hz0 hz1 hz2 rfl (by decide) _ _ _ rfl hown0 w.heap.size A len cap (ns.map sv) rfl HC1.out HN1.out ?c3 ?c4 ?c5 ?_)
  case c3 => unfold maxLen; omega
  case c4 => omega
  case c5 => simp
  · intro v1 w1 hown1 hg1 _
    have hb1 : Below w.heap.size w w1 := ((Below.refl _ _).alloc (Nat.le_refl _) _).grown hg1 (by simp) (fun k hk => by simp [Value.ownBlock] at hk; omega)
    have hs1 := hb1.size
    go_wp2_with (at_builtin; refine wpList_append_own _ rfl _ _ 29 rfl w.heap.size 9 i0 (.string ByteArray.empty) 1 16 Tryd.underlying29 hi hz0 hz1 hz2 rfl (by decide) _ _ _ rfl (hown1.alloc _) ⟨w1.heap.size, 0, none⟩ 1 1 [.string ⟨#[35]⟩] rfl rfl ?d1 ?d2 ?d3 ?d4 ?d5 ?_)
    case d1 => exact cell_one_new _ _ _
    case d2 => intro u hu; simp at hu; subst hu; rfl
    case d3 => unfold maxLen; omega
    case d4 => omega
    case d5 => simp; omega
    · intro v2 w2 hown2 hg2 _
      have hb2 : Below w.heap.size w w2 := (hb1.alloc hs1 _).grown hg2 (by simp; omega) (fun k hk => own_ge hown1 k hk)
      obtain ⟨hlen2, ⟨_, hnil⟩ | ⟨g, cp, cur, rfl, hgg, hgh, hgn, hgc, hgs, hgt⟩⟩ := hown2
      · omega
      have hcm : ∀ (j : Nat) x, (ns ++ [[35]])[j]? = some x → w2.cell? ⟨g, j, none⟩ = some (sv x) := by
        intro j x hj
        have hj' : j < ns.length + 1 := by have := (List.getElem?_eq_some_iff.1 hj).1; simpa using this
        have hlen := HLN.out
        have e := congrArg (fun l => l[j]?) hgt
        have e0 : ns.map sv ++ [.string ⟨#[35]⟩] = (ns ++ [[35]]).map sv := by rw [List.map_append]; rfl
        simp only [e0, List.getElem?_map, hj, Option.map_some] at e
        rw [List.getElem?_take_of_lt (by omega), Array.getElem?_toList] at e
        rw [cell_of_heap hgh]; exact e
      have hgw : g < w2.heap.size := (Array.getElem?_eq_some_iff.1 hgh).1
      have hm1 : StrsAt w2 (.slice (some ⟨g, 0, none⟩) len cp) ns := by
        refine ⟨_, cp, by rw [HLN.out], by rw [HLN.out]; omega, fun _ => ⟨g, 0, rfl, hgw, fun j x hj => ?_⟩⟩
        rw [Nat.zero_add]
        exact hcm j x (by rw [List.getElem?_append_left (List.getElem?_eq_some_iff.1 hj).1]; exact hj)
      have hm2 : w2.cell? ⟨g, len, none⟩ = some (.string ⟨#[35]⟩) := hcm len [35] (by rw [← HLN.out]; simp)
      have hT2 := hT.below hb2
      have j1 := join_any _ _ w2 hm1 hns
      have HM1 := Lib.hid hm1; have J1 := Lib.hid j1; have HM2 := Lib.hid hm2
      clear hm1 j1 hg1 hg2 hown1 hown0 hlen2 hgt hgh hgs hcm hm2
      go_wp2_with fail
      refine J1.out.mono ?_
      rintro e w3 ⟨rfl, hb3⟩
      have b23 := hb3
      have b3 := hb2.trans (b23.mono hb2.size)
      have J2 := Lib.hid (ref_join _ _ w3 (hT.below b3) (HV.out.below b3))
      go_wp2_with fail
      refine J2.out.mono ?_
      rintro e w4 ⟨rfl, hb4⟩
      have b24 := b23.trans (hb4.mono b23.size)
      have b4 := hb2.trans (b24.mono hb2.size)
      have hs4 := b4.size
      go_wp2_with fail
      refine (split_any s w4 (by omega)).mono ?_
      rintro e w5 ⟨vc, rfl, hoc, hb5⟩
      have b25 := b24.trans (hb5.mono b24.size)
      have b5 := hb2.trans (b25.mono hb2.size)
      go_wp2_with fail
      refine (ref_split s w5 (hT.below b5) (by omega)).mono ?_
      rintro e w6 ⟨vd, rfl, hod, hb6⟩
      have b26 := b25.trans (hb6.mono b25.size)
      have b6 := hb2.trans (b26.mono hb2.size)
      have hoc6 := ownsRow_below hoc hb6
      go_wp2_with fail
      refine (under_any s t w6 (by omega) (by omega)).mono ?_
      rintro e w7 ⟨rfl, hb7⟩
      have b27 := b26.trans (hb7.mono b26.size)
      have b7 := hb2.trans (b27.mono hb2.size)
      go_wp2_with fail
      refine (ref_under s t w7 (hT.below b7) (by omega) (by omega)).mono ?_
      rintro e w8 ⟨rfl, hb8⟩
      have b28 := b27.trans (hb8.mono b27.size)
      have b8 := hb2.trans (b28.mono hb2.size)
      go_wp2_with fail
      refine (runes_any s w8 (by unfold maxLen; omega)).mono ?_
      rintro e w9 ⟨rfl, hb9⟩
      have b29 := b28.trans (hb9.mono b28.size)
      have b9 := hb2.trans (b29.mono hb2.size)
      go_wp2_with fail
      refine (ref_runesN s w9 (hT.below b9)).mono ?_
      rintro e w10 ⟨rfl, hb10⟩
      have b210 := b29.trans (hb10.mono b29.size)
      have b10 := hb2.trans (b210.mono hb2.size)
      have b610 : Below w6.heap.size w6 w10 := hb7.trans ((hb8.trans ((hb9.trans (hb10.mono hb9.size)).mono hb8.size)).mono hb7.size)
      have hoc10 := ownsRow_below hoc6 b610
      have hod10 := ownsRow_below hod b610
      obtain ⟨ac, cc, rfl⟩ := len_of_owns hoc
      obtain ⟨ad', cd, rfl⟩ := len_of_owns hod
      have hm10 : w10.cell? ⟨g, len, none⟩ = some (.string ⟨#[35]⟩) := by rw [b210.cell (p := ⟨g, len, none⟩) hgw]; exact HM2.out
      have SM := Lib.hid (HM1.out.below b210)
      have SL := Lib.hid (HV.out.below b10)
      have SC := Lib.hid (StrsAt.of_owns hoc10)
      have SD := Lib.hid (StrsAt.of_owns hod10)
      have HOC5 := Lib.hid hoc; have HOC := Lib.hid hoc10; have HOD := Lib.hid hod10; have h45 := hb5.size
      have hsz56 := hb6.size
      clear hoc hod hoc6 hoc10 hod10 hb3 hb4 hb5 hb6 hb7 hb8 hb9 hb10 b23 b3 b24 b4 b25 b26 b6 b27 b7 b28 b8 b29 b9 J1 J2 HM1 HM2
      have hsl16 := splitL_len s.data.toList
      generalize joinE ns = je at *
      generalize hsl : splitL s.data.toList = sl at *
      generalize splitE s.data.toList = se at *
      generalize underR s.data.toList t.data.toList = ur at *
      generalize runesN s.data.toList = rn at *
      have HSL := Lib.hid hsl
      clear hsl
      unfold sv
      go_wp2_with fail
      refine (same_any _ _ _ _ w10 SC.out SD.out).mono ?_
      rintro e w11 ⟨rfl, hb11⟩
      have SM11 := SM.out.below hb11
      have SL11 := SL.out.below hb11
      have hm11 : w11.cell? ⟨g, len, none⟩ = some (.string ⟨#[35]⟩) := by rw [hb11.cell (p := ⟨g, len, none⟩) (Nat.lt_of_lt_of_le hgw b210.size)]; exact hm10
      have esl : (sl == sl) = true := by simp
      have ens : (ns == ns) = true := by simp
      rw [esl]
      clear hm10 esl
      go_wp2_with fail
      refine (same_any _ _ _ _ w11 SM11 SL11).mono ?_
      rintro e w12 ⟨rfl, hb12⟩
      rw [ens]
      have hm12 : w12.cell? ⟨g, len, none⟩ = some (.string ⟨#[35]⟩) := by rw [hb12.cell (p := ⟨g, len, none⟩) (Nat.lt_of_lt_of_le hgw (Nat.le_trans b210.size hb11.size))]; exact hm11
      have b1012 := hb11.trans (hb12.mono hb11.size)
      have b12 := b10.trans (b1012.mono b10.size)
      have HOD12 := Lib.hid (ownsRow_below HOD.out b1012)
      have HOC12 := Lib.hid (ownsRow_below HOC.out b1012)
      clear SM SL SM11 SL11 hm11 SC SD ens hb11 hb12 b1012
      obtain ⟨hl12, ⟨enil, h0⟩ | ⟨gc, cp2, cur2, e12, hgc12, hh12, hn12, hc12, hz12, ht12⟩⟩ := HOC12.out
      · injection enil with x1 x2 x3
        subst x1
        have hod := HOD12.out
        have hbE := b12
        have hz : ¬ ((0 : Int) < (sl.length : Nat)) := by omega
        clear HOD12 HOC12 HOC HOD HOC5 b12 x2 x3 hl12 h0
        go_wp2
        go_loopw [24] (fun s24 wr => s24 = .int .i64 0 ∧ wr = w12) (fun _ _ => 0)
        case atStart => exact ⟨rfl, rfl⟩
        case round =>
          obtain ⟨rfl, rfl⟩ := hrel
          go_wp2_with fail
          refine (split_any s wr (by omega)).mono ?_
          rintro e w13 ⟨vf, rfl, hof, hb13⟩
          obtain ⟨af, cf, rfl⟩ := len_of_owns hof
          have hsf : w13.ownsRow wr.heap.size 9 1 (.slice af (splitL s.data.toList).length cf) sl.length (sl.map sv) := by rw [HSL.out] at hof ⊢; exact hof
          have hss := StrsAt.of_owns hsf
          have hsd := StrsAt.of_owns (ownsRow_below hod hb13)
          have bE13 := hbE.trans (hb13.mono hbE.size)
          clear hof hsf
          go_wp2_with fail
          refine (same_any _ _ _ _ w13 hss hsd).mono ?_
          rintro e w14 ⟨rfl, hb14⟩
          have bE14 := bE13.trans (hb14.mono bE13.size)
          have esl : (sl == sl) = true := by simp
          rw [esl]
          clear hss hsd esl
          go_wp2_with fail
          refine (check_any s w14 (by unfold maxLen; omega)).mono ?_
          rintro e w15 ⟨rfl, hb15⟩
          have bE15 := bE14.trans (hb15.mono bE14.size)
          go_wp2_with fail
          refine (ref_check s w15 (hT.below bE15)).mono ?_
          rintro e w16 ⟨rfl, hb16⟩
          have bE16 := bE15.trans (hb16.mono bE15.size)
          go_wp2_with fail
          refine (check_any t w16 (by unfold maxLen; omega)).mono ?_
          rintro e w17 ⟨rfl, hb17⟩
          have bE17 := bE16.trans (hb17.mono bE16.size)
          go_wp2_with fail
          refine (ref_check t w17 (hT.below bE17)).mono ?_
          rintro e w18 ⟨rfl, hb18⟩
          have bE18 := bE17.trans (hb18.mono bE17.size)
          go_wp2_with fail
          refine (less_any s t w18).mono ?_
          rintro e w19 ⟨rfl, rfl⟩
          go_wp2_with fail
          refine (ref_less s t _).mono ?_
          rintro e w20 ⟨rfl, rfl⟩
          go_wp2_with fail
          refine (awake_any _).mono ?_
          rintro e w21 ⟨rfl, hb21⟩
          go_wp2
          go_ret
          exact ⟨rfl, bE18.trans (hb21.mono bE18.size)⟩
      · injection e12 with x1 x2 x3
        subst x1
        subst x3
        have hgc5 : gc < w5.heap.size := by
          obtain ⟨_, ⟨e, _⟩ | ⟨g5, c5, r5, e, _, h5, _⟩⟩ := HOC5.out
          · injection e with y; cases y
          · injection e with y; injection y with y; injection y with y; subst y; exact (Array.getElem?_eq_some_iff.1 h5).1
        have hslm : sl.length ≤ cur2.size := by omega
        have hgcB : w.heap.size ≤ gc := by have := b5.size; have := hgc12; omega
        have HH := Lib.hid hh12
        clear HOC12 HOC HOD HOC5 x2 hl12 hh12 hz12 ht12
        go_wp2
        clear hm12
        go_loopw [24] (fun s24 wr => ∃ (q : Nat) (cur : Array Value), q ≤ sl.length ∧ s24 = .int .i64 q ∧ Only gc w12 wr ∧ wr.heap[gc]? = some (.cells cur 9) ∧ sl.length ≤ cur.size) (fun s24 _ => sl.length - (intOf s24).toNat)
        case atStart => exact ⟨0, cur2, by omega, rfl, Only.refl _ _, HH.out, hslm⟩
        case round =>
          obtain ⟨q, cur, hq, rfl, honly, hhr, hcr⟩ := hrel
          have hod := ownsRow_only HOD12.out honly hgc5
          have hbE := b12.trans (honly.below hgcB)
          by_cases hlt : q < sl.length
          · obtain ⟨x, hx⟩ : ∃ x, cur[q]? = some x := ⟨_, Array.getElem?_eq_getElem (by omega)⟩
            have hcell : wr.cell? ⟨gc, q, none⟩ = some x := by rw [cell_of_heap hhr]; exact hx
            have hfr : wr.frozen? ⟨gc, q, none⟩ = false := frozen_of_heap hhr
            have HR := Lib.hid hhr
            clear hhr hx hod
            go_wp2
            go_roundw
            case rel => exact ⟨q + 1, _, by omega, by go_num, honly.setCell _ _, setCell_heap _ _ _ _ _ _ HR.out, by simpa using hcr⟩
            case measure => simp [intOf]; omega
          · clear hhr
            go_wp2_with fail
            refine (split_any s wr (by omega)).mono ?_
            rintro e w13 ⟨vf, rfl, hof, hb13⟩
            obtain ⟨af, cf, rfl⟩ := len_of_owns hof
            have hsf : w13.ownsRow wr.heap.size 9 1 (.slice af (splitL s.data.toList).length cf) sl.length (sl.map sv) := by rw [HSL.out] at hof ⊢; exact hof
            have hss := StrsAt.of_owns hsf
            have hsd := StrsAt.of_owns (ownsRow_below hod hb13)
            have bE13 := hbE.trans (hb13.mono hbE.size)
            clear hof hsf
            go_wp2_with fail
            refine (same_any _ _ _ _ w13 hss hsd).mono ?_
            rintro e w14 ⟨rfl, hb14⟩
            have bE14 := bE13.trans (hb14.mono bE13.size)
            have esl : (sl == sl) = true := by simp
            rw [esl]
            clear hss hsd esl
            go_wp2_with fail
            refine (check_any s w14 (by unfold maxLen; omega)).mono ?_
            rintro e w15 ⟨rfl, hb15⟩
            have bE15 := bE14.trans (hb15.mono bE14.size)
            go_wp2_with fail
            refine (ref_check s w15 (hT.below bE15)).mono ?_
            rintro e w16 ⟨rfl, hb16⟩
            have bE16 := bE15.trans (hb16.mono bE15.size)
            go_wp2_with fail
            refine (check_any t w16 (by unfold maxLen; omega)).mono ?_
            rintro e w17 ⟨rfl, hb17⟩
            have bE17 := bE16.trans (hb17.mono bE16.size)
            go_wp2_with fail
            refine (ref_check t w17 (hT.below bE17)).mono ?_
            rintro e w18 ⟨rfl, hb18⟩
            have bE18 := bE17.trans (hb18.mono bE17.size)
            go_wp2_with fail
            refine (less_any s t w18).mono ?_
            rintro e w19 ⟨rfl, rfl⟩
            go_wp2_with fail
            refine (ref_less s t _).mono ?_
            rintro e w20 ⟨rfl, rfl⟩
            go_wp2_with fail
            refine (awake_any _).mono ?_
            rintro e w21 ⟨rfl, hb21⟩
            go_wp2
            go_ret
            exact ⟨rfl, bE18.trans (hb21.mono bE18.size)⟩
end Go.Proofs.YtofdhhemdoodaaaDoor.Nm
