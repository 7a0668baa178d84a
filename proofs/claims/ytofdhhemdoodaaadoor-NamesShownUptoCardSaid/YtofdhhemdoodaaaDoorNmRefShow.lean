/-
  The contract of the reference's Show: at every text of less than 2^43 bytes.
-/
import Derived.Test.YtofdhhemdoodaaaDoorNmReadKit
import Derived.Test.YtofdhhemdoodaaaDoorNmRef
import Derived.Test.YtofdhhemdoodaaaDoorNmRead
import Derived.Deep.QuietTactic
import Derived.BigQuiet
namespace Go.Proofs.YtofdhhemdoodaaaDoor.Nm
open Go.RowKit

/-- 'b = append(b, c0, c1, ..)' as one step of a region that draws: b's row is the call's own. -/
theorem step_append_bytes {P : Program} {ops : Array Oper} {o : Oper} {a : Act} {w : World} {K : Act → World → Prop} {Q : Exit → Act → World → Prop} {E : Prop}
    (hg : o.guard = none) (s x : Operand) (t : TypeId) (hop : o.op = Op.call { callee := Callee.builtin Builtin.append, args := #[s, x], argTypes := #[t, t] })
    (B : Nat) (e : TypeId) (i : TypeInfo) (h1 : P.underlying t = some (.slice e)) (h2 : P.info? e = some i) (h3 : i.zero = some (.int .u8 0)) (h4 : i.size = 1) (h5 : i.bytes = 1)
    (v : Value) (n : Nat) (xs : List Value) (hs : a.eval s = v) (W0 : World) (hb : Lib.OwnBuf B e v n xs W0 w)
    (L : List Value) (ad : Addr) (cc : Nat) (hx : a.eval x = .slice (some ad) L.length cc) (hc : ∀ j u, L[j]? = some u → w.cell? (ad.add j) = some u) (ho : ∀ u ∈ L, u.oneCell' = true) (hlen : n + L.length ≤ 140737488355328)
    (hK : ∀ v' w', Lib.OwnBuf B e v' (n + L.length) (xs ++ L) W0 w' → K (a.put o.dst v') w') :
    if Region.wanted o (yielded ops a.tmps) = true then Oper.wp P o a w K Q else E := by
  have hw : Region.wanted o (yielded ops a.tmps) = true := by simp [Region.wanted, hg]
  rw [if_pos hw]
  obtain ⟨v', w', hr, r2, r3, _⟩ := run_append_ownF (P := P) w B t o.type e i (.int .u8 0) 1 1 h1 h2 h3 h4 h5 rfl (by decide) v n xs hb.1 ad L.length cc L (by omega) hc ho (by unfold maxLen; omega) (by omega) hb.2.2
  unfold Oper.wp
  simp [execOp, hop, resolve, invoke, builtin, hs, hx, hr, Result.andThen]
  exact hK v' w' (hb.grown r2 r3)

theorem hd16 (d : Nat) (h : d < 16) (h2 : d < (⟨#[48, 49, 50, 51, 52, 53, 54, 55, 56, 57, 97, 98, 99, 100, 101, 102]⟩ : ByteArray).size) :
    (⟨#[48, 49, 50, 51, 52, 53, 54, 55, 56, 57, 97, 98, 99, 100, 101, 102]⟩ : ByteArray)[d] = hd d := by
  match d, h, h2 with
  | 0, _, _ | 1, _, _ | 2, _, _ | 3, _, _ | 4, _, _ | 5, _, _ | 6, _, _ | 7, _, _ | 8, _, _ | 9, _, _ | 10, _, _ | 11, _, _ | 12, _, _ | 13, _, _ | 14, _, _ | 15, _, _ => rfl
  | n + 16, h, _ => exact absurd h (by omega)

theorem ba_append' (P Q : ByteArray) : (P ++ Q).data.toList = P.data.toList ++ Q.data.toList := by simp [ByteArray.data_append]
theorem extract_tail (R : ByteArray) (k : Nat) (h : k - 1 < R.size) : (R.extract k R.size).data.toList = R.data.toList.drop k := by
  rw [Lib.extract_data]; exact List.take_of_length_le (by rw [List.length_drop, Lib.size_eq]; omega)
theorem ownBuf_bytes {B : Nat} {e : TypeId} {v : Value} {acc L : List UInt8} {W0 w : World} (h : Lib.OwnBuf B e v (acc.length + L.length) (Lib.byteCells acc ++ Lib.byteCells L) W0 w) :
    Lib.OwnBuf B e v (acc ++ L).length (Lib.byteCells (acc ++ L)) W0 w := by
  have e1 : (acc ++ L).length = acc.length + L.length := by simp
  have e2 : Lib.byteCells (acc ++ L) = Lib.byteCells acc ++ Lib.byteCells L := by rw [Lib.byteCells, List.map_append]; rfl
  rw [e1, e2]; exact h

theorem refRune_bad {l : List UInt8} (hne : l ≠ []) (h : (dec l).1 = 65533 ∧ (dec l).2 = 1) : refRune l = (0, 0) := by rw [refRune, if_neg hne, if_pos h]
theorem refRune_good {l : List UInt8} (hne : l ≠ []) (h : ¬ ((dec l).1 = 65533 ∧ (dec l).2 = 1)) : refRune l = dec l := by rw [refRune, if_neg hne, if_neg h]

set_option maxHeartbeats 4000000 in
set_option maxRecDepth 100000 in
theorem ref_show (s : ByteArray) (w : World) (hT : Tabs w) (hZ : Tz w) (hs : s.size ≤ 1099511627776) :
    Calls Tryd.prog 27 #[.string s] w fun e w' => e = .returned (.string ⟨(shown s.data.toList).toArray⟩) ∧ Below w.heap.size w w' := by
  have mixed : Tryd.prog.follows Departure.mixedOrders = true := by kernel_rfl
  obtain ⟨i0, hi, hz0, hz1, hz2⟩ := info_parts infoByte
  go_enter Tryd.func27, Tryd.ntmps27
  go_wp2
  go_loopw [0, 3] (fun v0 v3 wr => ∃ (acc : List UInt8) (R : ByteArray), v0 = .string R ∧ Lib.OwnBuf w.heap.size 5 v3 acc.length (Lib.byteCells acc) w wr ∧ R.size ≤ s.size ∧ Hid (acc ++ shown R.data.toList = shown s.data.toList) ∧ acc.length + 14 * R.size ≤ 14 * s.size) (fun v0 _ _ => strSize v0)
  case atStart => exact ⟨[], s, rfl, ⟨⟨rfl, .inl ⟨rfl, rfl⟩⟩, Below.refl _ _, Nat.le_refl _⟩, Nat.le_refl _, Lib.hid rfl, by simp⟩
  case round =>
    obtain ⟨acc, R, rfl, hown, hR, HSH, hK⟩ := hrel
    have HOWN := Lib.hid hown
    clear hown
    by_cases h0 : R.size = 0
    · have hR0 : R.data.toList = [] := List.eq_nil_of_length_eq_zero (by rw [← Lib.size_eq]; exact h0)
      have hsh := HSH.out
      rw [hR0, shown_nil, List.append_nil] at hsh
      have hcv := conv_owned _ _ _ _ _ HOWN.out.1
      rw [hsh] at hcv
      have HB := Lib.hid HOWN.out.2.1
      clear HOWN HSH hR0 hsh
      go_wp2
      go_ret
      exact ⟨rfl, HB.out⟩
    · have hpos : (0 : Int) < (R.size : Int) := by omega
      have hp0 : 0 < R.size := by omega
      have hne : R.data.toList ≠ [] := by intro e; apply h0; rw [Lib.size_eq, e]; rfl
      have hln := Lib.size_eq R
      have hwd := dec_width _ hne
      have hdb := dec_bound R.data.toList
      have hsp := showP_len ((dec R.data.toList).1, R.data.toList.take (dec R.data.toList).2)
      have hsh := HSH.out
      rw [shown_cons _ hne, ← List.append_assoc] at hsh
      have hrr := ref_rune R wr (hT.below HOWN.out.2.1)
      have hib := isBad_head _ hne
      clear HSH
      by_cases h1 : (dec R.data.toList).1 = 65533 ∧ (dec R.data.toList).2 = 1
      · rw [refRune_bad hne h1] at hrr
        have hb0 : R.data.toList.headD 0 = R[0]'hp0 := by
          have hp' : 0 < R.data.toList.length := by rw [← hln]; omega
          rw [List.headD_eq_head?_getD, List.head?_eq_getElem?, List.getElem?_eq_getElem hp']; exact (Array.getElem_toList (xs := R.data) (by omega))
        have hspe : showP ((dec R.data.toList).1, R.data.toList.take (dec R.data.toList).2) = [92, 120, hd ((R[0]'hp0).toNat / 16), hd ((R[0]'hp0).toNat % 16)] := by
          rw [showP, hib, h1.1, h1.2, ← hb0]
          cases hq : R.data.toList with
          | nil => exact absurd hq hne
          | cons x y =>
            have hx := x.toNat_lt
            show [92, 120] ++ hex (x.toNat / 16) ++ hex (x.toNat % 16) = _
            rw [hex_small (by omega), hex_small (by omega)]; rfl
        rw [hspe, h1.2] at hsh
        have HSH := Lib.hid hsh; have HLN := Lib.hid hln; have HRR := Lib.hid hrr
        clear hsh hspe hb0 hib hsp hwd hdb h1 hne hln hrr
        go_wp2_with fail
        refine HRR.out.mono ?_
        rintro e w1 ⟨rfl, hb1⟩
        have HO1 := Lib.hid (ownBuf_below HOWN.out hb1)
        clear hb1 HRR
        go_wp2
        generalize hc : R[0]'hp0 = c at *
        have hc256 := c.toNat_lt
        obtain ⟨q1, hq1⟩ : ∃ q, q = c.toNat / 16 := ⟨_, rfl⟩
        obtain ⟨q2, hq2⟩ : ∃ q, q = c.toNat % 16 := ⟨_, rfl⟩
        have k1 : q1 < 16 := by omega
        have k3 : q2 < 16 := by omega
        have e1 : IntKind.u8.wrap ((c.toNat : Int) / 16) = (q1 : Int) := by rw [IntKind.wrap_u8]; omega
        have e2 : IntKind.u8.wrap ((c.toNat : Int) % 16) = (q2 : Int) := by rw [IntKind.wrap_u8]; omega
        have e3 : (c.toNat : Int).tmod 16 = (q2 : Int) := by rw [Int.tmod_eq_emod_of_nonneg (by omega)]; omega
        have i0' : (0 : Int) ≤ (q2 : Int) := by omega
        have i1 : (q1 : Int) < 16 := by omega
        have i2 : (q2 : Int) < 16 := by omega
        have d1 := fun h2 => hd16 q1 k1 h2
        have d2 := fun h2 => hd16 q2 k3 h2
        rw [← hq1, ← hq2] at HSH
        clear hq1 hq2 hc256
        go_region_law (refine step_append_bytes rfl _ _ 49 rfl w.heap.size 5 i0 Tryd.underlying49 hi hz0 hz1 hz2 u3 acc.length (Lib.byteCells acc) (by simp [Act.eval, Act.put]) w (by first | exact ownBuf_drew (HO1.out.alloc _) | exact (ownBuf_drew HO1.out).alloc _) [.int .u8 92, .int .u8 120, .int .u8 (hd q1).toNat, .int .u8 (hd q2).toNat] ⟨w1.heap.size, 0, none⟩ 4 (by simp [Act.eval, Act.put]) (by intro j u hj; match j, hj with | 0, hj => (simp at hj; subst hj; simp [Addr.add]) | 1, hj => (simp at hj; subst hj; simp [Addr.add]) | 2, hj => (simp at hj; subst hj; simp [Addr.add]) | 3, hj => (simp at hj; subst hj; simp [Addr.add]) | n + 4, hj => simp at hj) (by intro u hu; simp at hu; rcases hu with rfl | rfl | rfl | rfl <;> rfl) (by show acc.length + 4 ≤ _; omega) ?_; intro v' w2 hob)
        all_goals
          go_simp
          go_wp2
          go_roundw
          case rel =>
            refine ⟨acc ++ [92, 120, hd q1, hd q2], R.extract 1 R.size, rfl, ownBuf_bytes (L := [92, 120, hd q1, hd q2]) hob, ?_, ?_, ?_⟩
            · rw [ByteArray.size_extract]; omega
            · refine Lib.hid ?_
              rw [extract_tail R 1 hp0]; exact HSH.out
            · rw [ByteArray.size_extract, List.length_append]; simp only [List.length_cons, List.length_nil]; omega
          case measure =>
            show (R.extract 1 R.size).size < R.size
            rw [ByteArray.size_extract]; omega
      · rw [refRune_good hne h1] at hrr
        have hspe : showP ((dec R.data.toList).1, R.data.toList.take (dec R.data.toList).2) = if (dec R.data.toList).1 = 92 then [92, 92] else if 32 ≤ (dec R.data.toList).1 ∧ (dec R.data.toList).1 ≤ 126 then [UInt8.ofNat (dec R.data.toList).1] else [92, 117] ++ hex (dec R.data.toList).1 ++ [59] := by
          rw [showP, hib, if_neg]
          intro h
          simp at h
          exact h1 h
        rw [hspe] at hsh
        generalize hr : (dec R.data.toList).1 = r at *
        generalize hwid : (dec R.data.toList).2 = wd at *
        obtain ⟨u1, u2, _⟩ := hwd
        rw [← hln] at u2
        have HRR := Lib.hid hrr; have HDB := Lib.hid hdb
        clear hrr hspe hib hsp h1 hne hln hr hwid
        have w0' : ((wd : Int) == 0) = false := by simp; omega
        have w1' : (wd : Int) ≤ (R.size : Int) := by omega
        have w2' : (0 : Int) ≤ (wd : Int) := by omega
        by_cases h92 : r = 92
        · subst h92
          rw [if_pos rfl] at hsh
          have HSH := Lib.hid hsh
          clear hsh hdb
          go_wp2_with fail
          refine HRR.out.mono ?_
          rintro e w1 ⟨rfl, hb1⟩
          have HO1 := Lib.hid (ownBuf_below HOWN.out hb1)
          clear hb1 HRR
          go_wp2_with (at_builtin; refine Lib.wpList_append_text rfl _ _ 49 9 rfl w.heap.size 5 i0 Tryd.underlying49 Tryd.underlying9 hi hz0 hz1 hz2 _ _ _ rfl w HO1.out ⟨#[92, 92]⟩ rfl (by show acc.length + 2 ≤ _; omega) ?_)
          intro v2 w2 hob
          have HOB := Lib.hid (ownBuf_text hob)
          clear hob HO1
          go_wp2
          go_roundw
          case rel =>
            refine ⟨acc ++ [92, 92], R.extract wd R.size, rfl, HOB.out, ?_, ?_, ?_⟩
            · rw [ByteArray.size_extract]; omega
            · refine Lib.hid ?_
              rw [extract_tail R wd (by omega)]; exact HSH.out
            · rw [ByteArray.size_extract, List.length_append]; simp only [List.length_cons, List.length_nil]; omega
          case measure =>
            show (R.extract wd R.size).size < R.size
            rw [ByteArray.size_extract]; omega
        · rw [if_neg h92] at hsh
          have d92 : ((r : Int) == 92) = false := by simp; omega
          by_cases hpr : 32 ≤ r ∧ r ≤ 126
          · rw [if_pos hpr] at hsh
            have HSH := Lib.hid hsh
            have d1 : decide ((32 : Int) ≤ (r : Int)) = true := by simp; omega
            have d2 : decide ((r : Int) ≤ 126) = true := by simp; omega
            have hwr : IntKind.u8.wrap (r : Int) = (r : Int) := by rw [IntKind.wrap_u8]; omega
            have HPR := Lib.hid hpr
            clear hsh hdb h92 hpr
            go_wp2_with fail
            refine HRR.out.mono ?_
            rintro e w1 ⟨rfl, hb1⟩
            have HO1 := Lib.hid (ownBuf_below HOWN.out hb1)
            clear hb1 HRR
            go_wp2_with (at_builtin; refine wpList_append_ownF _ rfl _ _ 49 rfl w.heap.size 5 i0 (.int .u8 0) 1 1 Tryd.underlying49 hi hz0 hz1 hz2 rfl (by decide) _ _ _ rfl (HO1.out.alloc _).1 ⟨w1.heap.size, 0, none⟩ 1 1 [.int .u8 (r : Int)] rfl rfl ?d1 ?d2 ?d3 ?d4 ?d5 ?_)
            case d1 => exact cell_one_new _ _ _
            case d2 => intro u hu; simp at hu; subst hu; rfl
            case d3 => unfold maxLen; omega
            case d4 => omega
            case d5 => exact (HO1.out.alloc _).2.2
            intro v2 w2 hob1 hob2 _
            have hob := (HO1.out.alloc (.cells #[.int .u8 (r : Int)] 5)).grown hob1 hob2
            clear hob1 hob2
            have HOB := Lib.hid (ownBuf_byte (x := UInt8.ofNat r) (by rw [byte_ofNat (by have := HPR.out; omega)]) hob)
            clear hob HO1
            go_wp2
            go_roundw
            case rel =>
              refine ⟨acc ++ [UInt8.ofNat r], R.extract wd R.size, rfl, HOB.out, ?_, ?_, ?_⟩
              · rw [ByteArray.size_extract]; omega
              · refine Lib.hid ?_
                rw [extract_tail R wd (by omega)]; exact HSH.out
              · rw [ByteArray.size_extract, List.length_append]; simp only [List.length_cons, List.length_nil]; omega
            case measure =>
              show (R.extract wd R.size).size < R.size
              rw [ByteArray.size_extract]; omega
          · rw [if_neg hpr] at hsh
            have HSH := Lib.hid hsh
            have HL6 := Lib.hid (hex_len r)
            have dd : (decide ((32 : Int) ≤ (r : Int)) && decide ((r : Int) ≤ 126)) = false := by
              by_cases p1 : 32 ≤ r
              · have : decide ((r : Int) ≤ 126) = false := by simp; omega
                rw [this]; simp
              · have : decide ((32 : Int) ≤ (r : Int)) = false := by simp; omega
                rw [this]; simp
            have hor : (decide ((32 : Int) ≤ (r : Int)) = false) ∨ (decide ((32 : Int) ≤ (r : Int)) = true ∧ decide ((r : Int) ≤ 126) = false) := by
              by_cases p1 : 32 ≤ r
              · right; constructor <;> (simp; omega)
              · left; simp; omega
            clear hsh h92 hpr dd
            rcases hor with d1 | ⟨d1, d2⟩
            all_goals
              go_wp2_with fail
              refine HRR.out.mono ?_
              rintro e w1 ⟨rfl, hb1⟩
              have HO1 := Lib.hid (ownBuf_below HOWN.out hb1)
              have hZ1 : Tz w1 := hZ.below HO1.out.2.1
              clear hb1
              go_wp2_with fail
              refine (fmt16 _ r (by omega) w1 (by omega) hZ1).mono ?_
              rintro e w2 ⟨H1, rfl, hz1', hH1, hb2⟩
              have HO2 := Lib.hid (ownBuf_below HO1.out hb2)
              have hsz' : (⟨#[92, 117]⟩ ++ H1 ++ ⟨#[59]⟩ : ByteArray).size ≤ 9 := by rw [ByteArray.size_append, ByteArray.size_append]; show 2 + H1.size + 1 ≤ 9; omega
              have HSZ' := Lib.hid hsz'
              have hdt : (⟨#[92, 117]⟩ ++ H1 ++ ⟨#[59]⟩ : ByteArray).data.toList = [92, 117] ++ hex r ++ [59] := by rw [ba_append', ba_append', hH1.out]
              have HDT := Lib.hid hdt
              clear hb2 HO1 hsz' hdt
              go_wp2_with (at_builtin; refine Lib.wpList_append_text rfl _ _ 49 9 rfl w.heap.size 5 i0 Tryd.underlying49 Tryd.underlying9 hi hz0 hz1 hz2 _ _ _ rfl w HO2.out (⟨#[92, 117]⟩ ++ H1 ++ ⟨#[59]⟩) rfl (by have := HSZ'.out; omega) ?_)
              intro v2 w3 hob
              have hob2 := ownBuf_text (R := ⟨#[92, 117]⟩ ++ H1 ++ ⟨#[59]⟩) (by rw [ByteArray.size_append, ByteArray.size_append]; exact hob)
              rw [HDT.out] at hob2
              have HOB := Lib.hid hob2
              clear hob hob2 HO2
              go_wp2
              go_roundw
              case rel =>
                refine ⟨acc ++ ([92, 117] ++ hex r ++ [59]), R.extract wd R.size, rfl, HOB.out, ?_, ?_, ?_⟩
                · rw [ByteArray.size_extract]; omega
                · refine Lib.hid ?_
                  rw [extract_tail R wd (by omega)]; exact HSH.out
                · have := HL6.out
                  rw [ByteArray.size_extract, List.length_append]; simp only [List.length_cons, List.length_nil, List.length_append]; omega
              case measure =>
                show (R.extract wd R.size).size < R.size
                rw [ByteArray.size_extract]; omega
end Go.Proofs.YtofdhhemdoodaaaDoor.Nm
