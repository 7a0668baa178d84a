/-
  The contract of Read: at every text.
-/
import Derived.Test.YtofdhhemdoodaaaDoorNmReadKit
import Derived.Test.YtofdhhemdoodaaaDoorNmParseOut
import Derived.Deep.QuietTactic
import Derived.BigQuiet
namespace Go.Proofs.YtofdhhemdoodaaaDoor.Nm
open Go.RowKit

theorem infoByte : (Tryd.prog.info? 5).map (fun i => (i.zero, i.size, i.bytes)) = some (some (.int .u8 0), 1, 1) := by kernel_rfl

theorem ownBuf_text {B : Nat} {e : TypeId} {v : Value} {acc : List UInt8} {R : ByteArray} {W0 w : World} (h : Lib.OwnBuf B e v (acc.length + R.size) (Lib.byteCells acc ++ Lib.strCells R) W0 w) :
    Lib.OwnBuf B e v (acc ++ R.data.toList).length (Lib.byteCells (acc ++ R.data.toList)) W0 w := by
  have e1 : (acc ++ R.data.toList).length = acc.length + R.size := by rw [List.length_append, Lib.size_eq]
  have e2 : Lib.byteCells (acc ++ R.data.toList) = Lib.byteCells acc ++ Lib.strCells R := by rw [Lib.strCells_eq, Lib.byteCells, List.map_append]; rfl
  rw [e1, e2]; exact h

theorem enc_le4 (r : Nat) : (enc r).length ≤ 4 := by
  cases hg : goodRune r with
  | false => rw [enc_bad hg]; decide
  | true =>
    by_cases h1 : r < 128
    · rw [enc_1 h1]; simp
    · by_cases h2 : r < 2048
      · rw [enc_2 h1 h2]; simp
      · by_cases h3 : r < 65536
        · rw [enc_3 hg h2 h3]; simp
        · rw [enc_4 hg h3]; simp
theorem puN_ne {m k : Nat} {l : List UInt8} (h : puN m l = some k) : 1 ≤ l.length := by
  cases l with
  | nil => rw [puN, if_pos rfl] at h; exact absurd h (by simp)
  | cons x y => simp
theorem ownBuf_rune {B : Nat} {v v' : Value} {acc : List UInt8} {r : Nat} {W0 w w' : World} {o : Obj} (h : Lib.OwnBuf B 5 v acc.length (Lib.byteCells acc) W0 w)
    (ho : w'.ownsRowF B 5 1 v' (acc.length + (Lib.runeCells (r : Int)).length) (Lib.byteCells acc ++ Lib.runeCells (r : Int))) (hg : (w.alloc o).grownBy w' v.ownBlock) :
    Lib.OwnBuf B 5 v' (acc ++ enc r).length (Lib.byteCells (acc ++ enc r)) W0 w' := by
  have h1 := (h.alloc o).grown ho hg
  rw [cells_enc] at h1
  have e1 : (acc ++ enc r).length = acc.length + (Lib.byteCells (enc r)).length := by rw [List.length_append, Lib.byteCells_length]
  have e2 : Lib.byteCells (acc ++ enc r) = Lib.byteCells acc ++ Lib.byteCells (enc r) := by rw [Lib.byteCells, List.map_append]; rfl
  rw [e1, e2]; exact h1

def strSize : Value → Nat | .string r => r.size | _ => 0

/-- What Read answers. -/
def ReadOut (s : ByteArray) (e : Ending) : Prop :=
  match readR s.data.toList with
  | none => e = .returned (.tuple #[.string ⟨#[]⟩, .int .i64 4])
  | some b => e = .returned (.tuple #[.string ⟨b.toArray⟩, .int .i64 0])
theorem readOut_none {s : ByteArray} (h : readR s.data.toList = none) : ReadOut s (.returned (.tuple #[.string ⟨#[]⟩, .int .i64 4])) := by
  rw [ReadOut, h]
theorem readOut_some {s : ByteArray} {b : List UInt8} (h : readR s.data.toList = some b) : ReadOut s (.returned (.tuple #[.string ⟨b.toArray⟩, .int .i64 0])) := by
  rw [ReadOut, h]
theorem readR_bad {l : List UInt8} (h : readN l = none) : readR l = none := by rw [readR, h]
theorem readR_none {l b : List UInt8} (h : readN l = some b) (hn : shown b ≠ l) : readR l = none := by rw [readR, h]; simp [hn]
theorem readR_some {l b : List UInt8} (h : readN l = some b) (hn : shown b = l) : readR l = some b := by rw [readR, h]; simp [hn]

set_option maxHeartbeats 8000000 in
set_option maxRecDepth 100000 in
theorem read_any (s : ByteArray) (w : World) (hZ : Tz w) (hE : Errs w) (hm : s.size < 2305843009213693952) (hs : s.size ≤ 140737488351232 ∨ ∃ r, readN s.data.toList = some r ∧ r.length ≤ 140737488351232) :
    Calls Tryd.prog 23 #[.string s] w fun e w' => ReadOut s e ∧ Below w.heap.size w w' := by
  have mixed : Tryd.prog.follows Departure.mixedOrders = true := by kernel_rfl
  have HS := Lib.hid hs
  clear hs
  obtain ⟨i0, hi, hz0, hz1, hz2⟩ := info_parts infoByte
  go_enter Tryd.func23, Tryd.ntmps23
  go_wp2
  go_loopw [4, 5] (fun v4 v5 wr => ∃ (f : Nat) (acc : List UInt8) (R : ByteArray), v5 = .string R ∧ Lib.OwnBuf w.heap.size 5 v4 acc.length (Lib.byteCells acc) w wr ∧ readF f acc R.data.toList = readN s.data.toList ∧ R.data.toList.length < f ∧ R.size ≤ s.size ∧ (acc.length + R.size ≤ 140737488351232 ∨ ∃ r, readN s.data.toList = some r ∧ r.length ≤ 140737488351232)) (fun _ v5 _ => strSize v5)
  case atStart =>
    refine ⟨s.data.toList.length + 1, [], s, rfl, ⟨⟨rfl, .inl ⟨rfl, rfl⟩⟩, Below.refl _ _, Nat.le_refl _⟩, rfl, by omega, by omega, ?_⟩
    simpa using HS.out
  case round =>
    obtain ⟨f, acc, R, rfl, hown, hrd, hf, hR, hK⟩ := hrel
    obtain ⟨g, rfl⟩ : ∃ g, f = g + 1 := ⟨f - 1, by omega⟩
    have HOWN := Lib.hid hown; have HRD := Lib.hid hrd; have HK := Lib.hid hK; have HF := Lib.hid hf
    clear hown hrd hK hf
    by_cases h0 : R.data.toList = []
    · have hemp : R.toList.isEmpty = true := by
        rw [← decide_eq_emptyBytes]; apply decide_eq_true; cases R; simp at h0; rw [h0]; rfl
      have hrd := HRD.out
      rw [h0, readF_nil] at hrd
      have hcv := conv_owned _ _ _ _ _ HOWN.out.1
      have HR := Lib.hid hrd.symm; have H0 := Lib.hid h0
      have HOW := HOWN
      clear hrd h0
      have hal : (acc).length ≤ 140737488351232 := by
        rcases HK.out with h | ⟨r, h1, h2⟩
        · first | omega | (simp; omega)
        · have hh := HR.out.symm.trans h1
          cases hh; exact h2
      have hz1 := hZ.below (HOW.out.2.1)
      have hsz1 : (⟨(acc).toArray⟩ : ByteArray).size ≤ 140737488355328 := by rw [Lib.size_eq]; simp at hal ⊢; omega
      have HZ1 := Lib.hid hz1; have HSZ1 := Lib.hid hsz1
      clear hz1 hsz1 hal
      go_wp2_with fail
      refine (show_any _ _ HZ1.out HSZ1.out).mono ?_
      rintro e w2 ⟨rfl, hb2⟩
      have hcv2 := conv_owned _ _ _ _ _ (ownBuf_below HOW.out hb2).1
      have hbl := HOW.out.2.1.trans (hb2.mono HOW.out.2.2)
      have HBL := Lib.hid hbl
      clear hbl
      cases hq : (shown acc == s.toList) with
      | true =>
        have hq2 : shown acc = s.data.toList := by rw [← Lib.toList_data s]; exact eq_of_beq hq
        have HQ := Lib.hid (readR_some HR.out hq2)
        clear hq2
        go_wp2
        go_ret2
        exact ⟨readOut_some HQ.out, HBL.out⟩
      | false =>
        have hq2 : shown acc ≠ s.data.toList := by rw [← Lib.toList_data s]; exact ne_of_beq_false hq
        have HQ := Lib.hid (readR_none HR.out hq2)
        clear hq2
        go_wp2
        go_ret2
        exact ⟨readOut_none HQ.out, HBL.out⟩

    · have hemp : R.toList.isEmpty = false := by
        rw [← decide_eq_emptyBytes]; apply decide_eq_false; intro e; apply h0; rw [e]; rfl
      have hRz := Lib.size_eq R
      have HRZ := Lib.hid hRz
      have hR61 : R.size < 4611686018427387904 := by omega
      clear hRz
      go_wp2_with fail
      refine (cut_any R 92 hR61 wr).mono ?_
      rintro e w1 ⟨he, nd, rfl⟩
      have hown1 := HOWN.out.drewN nd
      have HO1 := Lib.hid hown1
      clear hown1
      rcases cutB_cases 92 R.data.toList with ⟨hc, _⟩ | ⟨a, b, hc, _, hab⟩
      · rw [CutOut, hc] at he
        have he' : e = .returned (.tuple #[.string R, .string ⟨#[]⟩, .bool false]) := he
        subst he'
        have hrd := HRD.out
        rw [readF_end hc] at hrd
        have HR := Lib.hid hrd.symm
        clear hrd hc he
        have hlen : acc.length + R.size ≤ 140737488355328 := by
          rcases HK.out with h | ⟨r, h1, h2⟩
          · omega
          · have hh := HR.out.symm.trans h1
            cases hh
            rw [List.length_append] at h2; have := HRZ.out; omega
        go_wp2_with (at_builtin; refine Lib.wpList_append_text rfl _ _ 49 9 rfl w.heap.size 5 i0 Tryd.underlying49 Tryd.underlying9 hi hz0 hz1 hz2 _ _ _ rfl w HO1.out R rfl hlen ?_)
        intro v2 w3 hob
        have hob2 := ownBuf_text hob
        have HOW := Lib.hid hob2
        have hcv := conv_owned _ _ _ _ _ hob2.1
        clear hob hob2 HO1
        have hal : (acc ++ R.data.toList).length ≤ 140737488351232 := by
          rcases HK.out with h | ⟨r, h1, h2⟩
          · first | omega | (simp; omega)
          · have hh := HR.out.symm.trans h1
            cases hh; exact h2
        have hz1 := hZ.below (HOW.out.2.1)
        have hsz1 : (⟨(acc ++ R.data.toList).toArray⟩ : ByteArray).size ≤ 140737488355328 := by rw [Lib.size_eq]; simp at hal ⊢; omega
        have HZ1 := Lib.hid hz1; have HSZ1 := Lib.hid hsz1
        clear hz1 hsz1 hal
        go_wp2_with fail
        refine (show_any _ _ HZ1.out HSZ1.out).mono ?_
        rintro e w2 ⟨rfl, hb2⟩
        have hcv2 := conv_owned _ _ _ _ _ (ownBuf_below HOW.out hb2).1
        have hbl := HOW.out.2.1.trans (hb2.mono HOW.out.2.2)
        have HBL := Lib.hid hbl
        clear hbl
        cases hq : (shown (acc ++ R.data.toList) == s.toList) with
        | true =>
          have hq2 : shown (acc ++ R.data.toList) = s.data.toList := by rw [← Lib.toList_data s]; exact eq_of_beq hq
          have HQ := Lib.hid (readR_some HR.out hq2)
          clear hq2
          go_wp2
          go_ret2
          exact ⟨readOut_some HQ.out, HBL.out⟩
        | false =>
          have hq2 : shown (acc ++ R.data.toList) ≠ s.data.toList := by rw [← Lib.toList_data s]; exact ne_of_beq_false hq
          have HQ := Lib.hid (readR_none HR.out hq2)
          clear hq2
          go_wp2
          go_ret2
          exact ⟨readOut_none HQ.out, HBL.out⟩

      · rw [CutOut, hc] at he
        obtain ⟨A, B, rfl, hA, hB⟩ := he
        dsimp only at hA hB
        have hAz : A.size = a.length := by rw [Lib.size_eq, hA]
        have hBz : B.size = b.length := by rw [Lib.size_eq, hB]
        have hll : R.size = a.length + 1 + b.length := by rw [HRZ.out, hab]; simp; omega
        have hlen : acc.length + A.size ≤ 140737488351232 := by
          rcases HK.out with h | ⟨r, h1, h2⟩
          · omega
          · have hrd := HRD.out.trans h1
            cases he : escR (acc ++ a) b with
            | none => rw [readF_bad hc he] at hrd; exact absurd hrd (by simp)
            | some q =>
              obtain ⟨x, y⟩ := q
              rw [readF_esc hc he] at hrd
              have h3 := readF_grows g hrd
              obtain ⟨_, m, hm⟩ := escR_left he
              rw [hm] at h3
              simp at h3
              omega
        have hlen2 : acc.length + A.size ≤ 140737488355328 := by omega
        have HA := Lib.hid hA; have HB := Lib.hid hB; have HAZ := Lib.hid hAz; have HBZ := Lib.hid hBz; have HLL := Lib.hid hll; have HC := Lib.hid hc
        clear hA hB hAz hBz hll hc hab
        go_wp2_with (at_builtin; refine Lib.wpList_append_text rfl _ _ 49 9 rfl w.heap.size 5 i0 Tryd.underlying49 Tryd.underlying9 hi hz0 hz1 hz2 _ _ _ rfl w HO1.out A rfl hlen2 ?_)
        intro v2 w3 hob
        have hob2 := ownBuf_text hob
        rw [HA.out] at hob2
        have HOB := Lib.hid hob2
        have hE3 := hE.below (hob2.2.1)
        have hbl3 := hob2.2.1
        have HBL := Lib.hid hbl3
        clear hob hob2 HO1 hlen2 hbl3
        have hp1 := fun w => Tryd.strings_HasPrefix B ⟨#[92]⟩ w
        have hp2 := fun w => Tryd.strings_HasPrefix B ⟨#[120]⟩ w
        have hp3 := fun w => Tryd.strings_HasPrefix B ⟨#[117]⟩ w
        rw [HB.out] at hp1 hp2 hp3
        rw [show (⟨#[92]⟩ : ByteArray).data.toList = [92] from rfl] at hp1
        rw [show (⟨#[120]⟩ : ByteArray).data.toList = [120] from rfl] at hp2
        rw [show (⟨#[117]⟩ : ByteArray).data.toList = [117] from rfl] at hp3
        go_wp2_with fail
        cases e1 : Lib.hasPrefix b [92] with
        | true =>
          rw [e1] at hp1
          refine (hp1 _).mono ?_
          rintro e w4 ⟨rfl, hw4⟩
          rw [hw4]
          have hes : escR (acc ++ a) b = some (acc ++ a ++ [92], b.drop 1) := by rw [escR, if_pos e1]
          have hb1 : 1 ≤ B.size := by
            rw [HBZ.out]
            cases b with
            | nil => simp [Lib.hasPrefix] at e1
            | cons x y => simp
          have HES := Lib.hid hes
          clear hes e1 hp1 hp2 hp3
          have hb1i : (1 : Int) ≤ (B.size : Int) := by omega
          have hln : (acc ++ a).length + 1 ≤ 140737488355328 := by rw [List.length_append]; have := HAZ.out; omega
          have HXT := Lib.hid (show (B.extract 1 B.size).data.toList = b.drop 1 by rw [Lib.extract_data, ← HB.out]; exact List.take_of_length_le (by rw [List.length_drop, Lib.size_eq]; omega))
          go_wp2
          go_region_law (refine step_append_byte rfl _ _ 49 rfl w.heap.size 5 i0 Tryd.underlying49 hi hz0 hz1 hz2 v2 (acc ++ a).length (Lib.byteCells (acc ++ a)) (by simp [Act.eval, Act.put]) w (by first | exact ownBuf_drew (HOB.out.alloc _) | exact (ownBuf_drew HOB.out).alloc _) 92 ⟨w3.heap.size, 0, none⟩ 1 (by simp [Act.eval, Act.put]) (by simp) hln ?_; intro v' w5 hob5)
          all_goals
            go_simp
            go_wp2
            go_roundw
            case rel =>
              have q1 := HF.out; have q2 := HRZ.out; have q3 := HLL.out; have q4 := HBZ.out; have q5 := HAZ.out
              refine ⟨g, acc ++ a ++ [92], B.extract 1 B.size, rfl, ownBuf_byte (x := 92) rfl hob5, ?_, ?_, ?_, ?_⟩
              · rw [HXT.out, ← readF_esc HC.out HES.out]; exact HRD.out
              · rw [HXT.out, List.length_drop]; omega
              · rw [ByteArray.size_extract]; omega
              · rcases HK.out with h | h
                · left; rw [ByteArray.size_extract]; simp only [List.length_append, List.length_cons, List.length_nil]; omega
                · exact .inr h
            case measure =>
              show (B.extract 1 B.size).size < R.size
              rw [ByteArray.size_extract]; have := HLL.out; have := HBZ.out; omega
        | false =>
          rw [e1] at hp1
          refine (hp1 _).mono ?_
          rintro e w4 ⟨rfl, hw4⟩
          rw [hw4]
          have E1 := Lib.hid e1
          clear e1 hp1
          go_wp2_with fail
          cases e2 : (Lib.hasPrefix b [120] && decide (2 < b.length)) with
          | true =>
            obtain ⟨e2a, e2b⟩ : Lib.hasPrefix b [120] = true ∧ 2 < b.length := by simpa using e2
            rw [e2a] at hp2
            have hb3 : 2 < B.size := by rw [HBZ.out]; exact e2b
            have hb3i : (2 : Int) < (B.size : Int) := by omega
            have hb3j : (3 : Int) ≤ (B.size : Int) := by omega
            have E2 := Lib.hid e2
            clear e2 e2a e2b
            refine (hp2 _).mono ?_
            rintro e w4 ⟨rfl, hw4⟩
            rw [hw4]
            have hD : (B.extract 1 3).data.toList = (b.drop 1).take 2 := by rw [Lib.extract_data, HB.out]
            have hDz : (B.extract 1 3).size ≤ 9223372036854775806 := by rw [ByteArray.size_extract]; omega
            have hDl : puN 255 (B.extract 1 3).data.toList = none → (B.extract 1 3).size ≤ 281474976710656 := by intro _; rw [ByteArray.size_extract]; omega
            have hpu := parseUint (B.extract 1 3) hDz 8 255 hDl w3 hE3 (.inl ⟨rfl, rfl⟩)
            rw [hD] at hpu
            have HPU := Lib.hid hpu
            clear hD hDz hDl hpu hp2
            go_wp2_with fail
            refine HPU.out.mono ?_
            rintro e w5 ⟨he, hb5⟩
            cases hn : puN 255 ((b.drop 1).take 2) with
            | none =>
              rw [hn] at he
              obtain ⟨vv, pp, rfl⟩ := he
              have hes : escR (acc ++ a) b = none := by rw [escR, if_neg (by rw [E1.out]; decide), if_pos E2.out, hn]; rfl
              have hno : readN s.data.toList = none := HRD.out.symm.trans (readF_bad HC.out hes)
              have HNO := Lib.hid (readR_bad hno)
              have hbl5 := HBL.out.trans (hb5.mono HBL.out.size)
              have HBL5 := Lib.hid hbl5
              clear hes hno hn hbl5
              go_wp2
              go_ret2
              exact ⟨readOut_none HNO.out, HBL5.out⟩
            | some n =>
              rw [hn] at he
              have he' : e = .returned (.tuple #[.int .u64 n, .nilIface]) := he
              subst he'
              have hes : escR (acc ++ a) b = some (acc ++ a ++ [UInt8.ofNat n], b.drop 3) := by rw [escR, if_neg (by rw [E1.out]; decide), if_pos E2.out, hn]; rfl
              have hn255 := puN_le hn
              have hnlt : n < 256 := by omega
              have hob4 := ownBuf_below HOB.out hb5
              have HOB4 := Lib.hid hob4
              have HES := Lib.hid hes
              have HN := Lib.hid hnlt
              have hln : (acc ++ a).length + 1 ≤ 140737488355328 := by rw [List.length_append]; have := HAZ.out; omega
              have HXT := Lib.hid (show (B.extract 3 B.size).data.toList = b.drop 3 by rw [Lib.extract_data, ← HB.out]; exact List.take_of_length_le (by rw [List.length_drop, Lib.size_eq]; omega))
              clear hes hn hob4 he hn255
              go_wp2
              go_region_law (refine step_append_byte rfl _ _ 49 rfl w.heap.size 5 i0 Tryd.underlying49 hi hz0 hz1 hz2 v2 (acc ++ a).length (Lib.byteCells (acc ++ a)) (by simp [Act.eval, Act.put]) w (by first | exact ownBuf_drew (HOB4.out.alloc _) | exact (ownBuf_drew HOB4.out).alloc _) (IntKind.u8.wrap n) ⟨w5.heap.size, 0, none⟩ 1 (by simp [Act.eval, Act.put]) (by simp) hln ?_; intro v' w6 hob6)
              all_goals
                go_simp
                go_wp2
                go_roundw
                case rel =>
                  have q1 := HF.out; have q2 := HRZ.out; have q3 := HLL.out; have q4 := HBZ.out; have q5 := HAZ.out
                  refine ⟨g, acc ++ a ++ [UInt8.ofNat n], B.extract 3 B.size, rfl, ownBuf_byte (x := UInt8.ofNat n) (by rw [byte_ofNat HN.out, IntKind.wrap_u8]; have := HN.out; omega) hob6, ?_, ?_, ?_, ?_⟩
                  · rw [HXT.out, ← readF_esc HC.out HES.out]; exact HRD.out
                  · rw [HXT.out, List.length_drop]; omega
                  · rw [ByteArray.size_extract]; omega
                  · rcases HK.out with h | h
                    · left; rw [ByteArray.size_extract]; simp only [List.length_append, List.length_cons, List.length_nil]; omega
                    · exact .inr h
                case measure =>
                  show (B.extract 3 B.size).size < R.size
                  rw [ByteArray.size_extract]; have := HLL.out; have := HBZ.out; omega
          | false =>
            have E2 := Lib.hid e2
            have hx120 : ∃ q, Lib.hasPrefix b [120] = q ∧ (q && decide ((2 : Int) < (B.size : Int))) = false := ⟨_, rfl, by
              rw [← e2]; congr 1; rw [HBZ.out]; simp; omega⟩
            obtain ⟨q, hq, hq2⟩ := hx120
            rw [hq] at hp2
            clear e2 hq
            refine (hp2 _).mono ?_
            rintro e w4 ⟨rfl, hw4⟩
            rw [hw4]
            clear hp2
            cases e3 : Lib.hasPrefix b [117] with
            | false =>
              rw [e3] at hp3
              have hes : escR (acc ++ a) b = none := by rw [escR, if_neg (by rw [E1.out]; decide), if_neg (by rw [E2.out]; decide), if_neg (by rw [e3]; decide)]
              have hno : readN s.data.toList = none := HRD.out.symm.trans (readF_bad HC.out hes)
              have HNO := Lib.hid (readR_bad hno)
              have HP3 := Lib.hid hp3
              clear hes hno e3 hp3
              cases q
              all_goals
                have hd2 : decide ((2 : Int) < (B.size : Int)) = false ∨ True := .inr trivial
                go_wp2_with fail
                refine (HP3.out _).mono ?_
                rintro e w6 ⟨rfl, hw6⟩
                rw [hw6]
                go_wp2
                go_ret2
                exact ⟨readOut_none HNO.out, HBL.out⟩
            | true =>
              rw [e3] at hp3
              have hb1 : 1 ≤ B.size := by
                rw [HBZ.out]
                cases b with
                | nil => simp [Lib.hasPrefix] at e3
                | cons x y => simp
              have hb1i : (1 : Int) ≤ (B.size : Int) := by omega
              have hXD : (B.extract 1 B.size).data.toList = b.drop 1 := by rw [Lib.extract_data, ← HB.out]; exact List.take_of_length_le (by rw [List.length_drop, Lib.size_eq]; omega)
              have hX61 : (B.extract 1 B.size).size < 4611686018427387904 := by rw [ByteArray.size_extract]; have := HLL.out; have := HBZ.out; omega
              have hXz : (B.extract 1 B.size).size = (b.drop 1).length := by rw [Lib.size_eq, hXD]
              have HCUT := Lib.hid (cut_any (B.extract 1 B.size) 59 hX61)
              have HXD := Lib.hid hXD; have HXZ := Lib.hid hXz; have E3 := Lib.hid e3; have HP3 := Lib.hid hp3; have HX61 := Lib.hid hX61
              clear hXD hX61 hXz e3 hp3
              have hescN : cutB 59 (b.drop 1) = none → escR (acc ++ a) b = none := by
                intro h; rw [escR, if_neg (by rw [E1.out]; decide), if_neg (by rw [E2.out]; decide), if_pos E3.out, h]
              have hescS : ∀ d r2, cutB 59 (b.drop 1) = some (d, r2) → escR (acc ++ a) b = (puN 2147483647 d).map fun n => ((acc ++ a) ++ enc n, r2) := by
                intro d r2 h; rw [escR, if_neg (by rw [E1.out]; decide), if_neg (by rw [E2.out]; decide), if_pos E3.out, h]
              have HEN := Lib.hid hescN; have HESS := Lib.hid hescS
              clear hescN hescS
              cases q
              all_goals
                go_wp2_with fail
                refine (HP3.out _).mono ?_
                rintro e w6 ⟨rfl, hw6⟩
                rw [hw6]
                go_wp2_with fail
                refine (HCUT.out _).mono ?_
                rintro e w7 ⟨he, nd2, rfl⟩
                have hEc := hE3.below (below_drewN (Below.refl w3.heap.size w3) nd2)
                have HOc := Lib.hid (HOB.out.drewN nd2)
                have HBc := Lib.hid (below_drewN HBL.out nd2)
                clear HCUT HP3
                rcases cutB_cases 59 (b.drop 1) with ⟨hc2, _⟩ | ⟨d, r2, hc2, _, hd2⟩
                · rw [CutOut, HXD.out, hc2] at he
                  have he' : e = .returned (.tuple #[.string (B.extract 1 B.size), .string ⟨#[]⟩, .bool false]) := he
                  subst he'
                  have hno : readN s.data.toList = none := HRD.out.symm.trans (readF_bad HC.out (HEN.out hc2))
                  have HNO := Lib.hid (readR_bad hno)
                  have hxs : (B.extract 1 B.size).size ≤ 140737488351232 := by
                    rw [ByteArray.size_extract]
                    rcases HK.out with h | ⟨r, h1, _⟩
                    · have := HLL.out; have := HBZ.out; omega
                    · rw [hno] at h1; exact absurd h1 (by simp)
                  have hpu := parseUint (B.extract 1 B.size) (by omega) 31 2147483647 (fun _ => by omega) (w3.drewN nd2) hEc (.inr ⟨rfl, rfl⟩)
                  have HPU := Lib.hid hpu
                  clear hno hxs hpu he hc2 hb1 hb1i
                  go_wp2_with fail
                  refine HPU.out.mono ?_
                  rintro e w8 ⟨he, hb8⟩
                  have HB8 := Lib.hid (HBc.out.trans (hb8.mono HBc.out.size))
                  cases hn : puN 2147483647 (B.extract 1 B.size).data.toList with
                  | none =>
                    rw [hn] at he
                    obtain ⟨vv, pp, rfl⟩ := he
                    clear hn hb8
                    go_wp2
                    go_ret2
                    exact ⟨readOut_none HNO.out, HB8.out⟩
                  | some n =>
                    rw [hn] at he
                    have he' : e = .returned (.tuple #[.int .u64 n, .nilIface]) := he
                    subst he'
                    clear hn hb8 he
                    go_wp2
                    go_ret2
                    exact ⟨readOut_none HNO.out, HB8.out⟩
                · rw [CutOut, HXD.out, hc2] at he
                  obtain ⟨D, R2, rfl, hD, hR2⟩ := he
                  dsimp only at hD hR2
                  have HES := Lib.hid (HESS.out d r2 hc2)
                  have hdl : b.length - 1 = d.length + 1 + r2.length := by rw [← List.length_drop, hd2]; simp; omega
                  have hDz : D.size = d.length := by rw [Lib.size_eq, hD]
                  have hRz : R2.size = r2.length := by rw [Lib.size_eq, hR2]
                  have hlm : puN 2147483647 D.data.toList = none → D.size ≤ 281474976710656 := by
                    intro h0
                    rw [hD] at h0
                    have h1 : readN s.data.toList = none := HRD.out.symm.trans (readF_bad HC.out (by rw [HES.out, h0]; rfl))
                    rcases HK.out with h | ⟨r, h2, _⟩
                    · have := HLL.out; have := HBZ.out; omega
                    · rw [h1] at h2; exact absurd h2 (by simp)
                  have hmx : D.size ≤ 9223372036854775806 := by have := HLL.out; have := HBZ.out; omega
                  have hpu := parseUint D hmx 31 2147483647 hlm (w3.drewN nd2) hEc (.inr ⟨rfl, rfl⟩)
                  rw [hD] at hpu
                  have HPU := Lib.hid hpu; have HD := Lib.hid hD; have HR2 := Lib.hid hR2; have HDL := Lib.hid hdl; have HDZ := Lib.hid hDz; have HRZ2 := Lib.hid hRz
                  clear hpu hD hR2 hdl hDz hRz hmx hlm hc2 hd2 HESS HEN hb1i
                  go_wp2_with fail
                  refine HPU.out.mono ?_
                  rintro e w8 ⟨he, hb8⟩
                  have HB8 := Lib.hid (HBc.out.trans (hb8.mono HBc.out.size))
                  cases hn : puN 2147483647 d with
                  | none =>
                    rw [hn] at he
                    obtain ⟨vv, pp, rfl⟩ := he
                    have hno : readN s.data.toList = none := HRD.out.symm.trans (readF_bad HC.out (by rw [HES.out, hn]; rfl))
                    have HNO := Lib.hid (readR_bad hno)
                    clear hn hb8 hno
                    go_wp2
                    go_ret2
                    exact ⟨readOut_none HNO.out, HB8.out⟩
                  | some n =>
                    rw [hn] at he
                    have he' : e = .returned (.tuple #[.int .u64 n, .nilIface]) := he
                    subst he'
                    have hes : escR (acc ++ a) b = some (acc ++ a ++ enc n, r2) := by rw [HES.out, hn]; rfl
                    have hd1 := puN_ne hn
                    have hn31 := puN_le hn
                    have hn31i : (n : Int) ≤ 2147483647 := by omega
                    have hn0i : (0 : Int) ≤ (n : Int) := by omega
                    have hn4 := enc_le4 n
                    have HES2 := Lib.hid hes; have HD1 := Lib.hid hd1; have HN4 := Lib.hid hn4
                    have HO8 := Lib.hid (ownBuf_below HOc.out hb8)
                    clear hes hd1 hn hb8 he hn31 hn4
                    have hln : (acc ++ a).length + 4 ≤ 140737488355328 := by rw [List.length_append]; have := HAZ.out; omega
                    have HLN := Lib.hid hln
                    clear hln
                    go_wp2_with fail
                    refine (Tryd.utf8_AppendRune_row w.heap.size v2 (acc ++ a).length (Lib.byteCells (acc ++ a)) (n : Int) (by omega) (by omega) _ HO8.out.1 HLN.out HO8.out.2.2).mono ?_
                    rintro e w9 ⟨v9, rfl, ho9, o9, hg9⟩
                    have HO9 := Lib.hid (ownBuf_rune HO8.out ho9 hg9)
                    clear ho9 hg9
                    go_wp2
                    go_roundw
                    case rel =>
                      have q1 := HF.out; have q2 := HRZ.out; have q3 := HLL.out; have q4 := HBZ.out; have q5 := HAZ.out; have q6 := HDL.out; have q7 := HRZ2.out; have q8 := HD1.out; have q9 := HN4.out
                      refine ⟨g, acc ++ a ++ enc n, R2, rfl, HO9.out, ?_, ?_, ?_, ?_⟩
                      · rw [HR2.out, ← readF_esc HC.out HES2.out]; exact HRD.out
                      · rw [HR2.out]; omega
                      · omega
                      · rcases HK.out with h | h
                        · left; rw [List.length_append, List.length_append]; omega
                        · exact .inr h
                    case measure =>
                      show R2.size < R.size
                      have := HLL.out; have := HBZ.out; have := HDL.out; have := HRZ2.out; omega
end Go.Proofs.YtofdhhemdoodaaaDoor.Nm
