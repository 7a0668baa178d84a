import Derived.Test.YtkeegnhjemhblaaGreatDoorZPNmCheck
import Derived.Test.YtkeegnhjemhblaaGreatDoorZPNmWhole
import Derived.Deep.OwnRows
import Derived.Deep.LoopGhost
import Derived.Lib.Split
import Derived.Lib.SplitLaws
import Derived.Deep.QuietTactic
import Derived.BigQuiet
import Derived.Test.YtkeegnhjemhblaaGreatDoorZPNmLike
import Derived.WalkSmall
import Derived.Test.YtkeegnhjemhblaaGreatDoorZPRbEnd
import Derived.Test.YtkeegnhjemhblaaGreatDoorZPRfBack
set_option linter.unusedSimpArgs false
set_option linter.unusedVariables false
/-
  The contracts of the reference's Rune, runes, Check, Runes, Less.
-/
namespace Go.Proofs.YtkeegnhjemhblaaGreatDoor.Nm
open Go.RowKit

/-- The runes of a text. -/
def runes (l : List UInt8) : List Nat := (seg l).map (·.1)

theorem runes_nil : runes [] = [] := rfl
theorem runes_cons (l : List UInt8) (h : l ≠ []) : runes l = (dec l).1 :: runes (l.drop (dec l).2) := by
  rw [runes, seg_cons l h]; rfl
theorem runes_length (l : List UInt8) : (runes l).length = count l := by simp [runes, count]

/-- The tables of unicode/utf8 as their initialisers lay them. -/
abbrev Tabs (w : World) : Prop := Lib.Utf8Tabs 4 5 w

theorem Tabs.below {w w' : World} (h : Tabs w) (hb : Below w.heap.size w w') : Tabs w' := by
  obtain ⟨h1, h2⟩ := h
  have k1 := World.block_lt_of_cell? _ _ (h1 0 (by omega))
  have k2 := World.block_lt_of_cell? _ _ (h2 0 (by omega)).1
  refine ⟨fun c hc => ?_, fun i hi => ⟨?_, ?_⟩⟩
  · rw [hb.cell (p := ⟨4, c, none⟩) k1]; exact h1 c hc
  · rw [hb.cell (p := ⟨5, 2 * i, none⟩) k2]; exact (h2 i hi).1
  · rw [hb.cell (p := ⟨5, 2 * i + 1, none⟩) k2]; exact (h2 i hi).2

def refRune (l : List UInt8) : Nat × Nat := if l = [] then (0, 0) else if (dec l).1 = 65533 ∧ (dec l).2 = 1 then (0, 0) else dec l

theorem decode0 (s : ByteArray) : Utf8.decode s 0 = dec s.data.toList := by rw [decode_drop]; rfl

set_option maxHeartbeats 1000000 in
set_option maxRecDepth 100000 in
theorem ref_rune (s : ByteArray) (w : World) (hT : Tabs w) :
    Calls Tryz.prog 171 #[.string s] w fun e w' => e = .returned (.tuple #[.int .i32 (refRune s.data.toList).1, .int .i64 (refRune s.data.toList).2]) ∧ Below w.heap.size w w' := by
  have h1 := Tryz.utf8_DecodeRuneInString s w hT
  have hsz := Lib.size_eq s
  unfold Lib.decodeGo at h1
  rw [decode0] at h1
  by_cases he : s.data.toList = []
  · have hs0 : s.size = 0 := by rw [hsz, he]; rfl
    rw [if_pos hs0] at h1
    have HF : Hid (refRune s.data.toList = (0, 0)) := Lib.hid (by rw [refRune, if_pos he])
    clear he hs0 hsz
    go_enter Tryz.func171, Tryz.ntmps171
    go_wp2_with fail
    refine h1.mono ?_
    rintro e w1 ⟨rfl, hb1⟩
    go_wp2
    go_ret2
    exact ⟨by rw [HF.out]; rfl, hb1⟩
  · have hs0 : s.size ≠ 0 := by rw [hsz]; intro h; exact he (List.eq_nil_of_length_eq_zero h)
    rw [if_neg hs0] at h1
    have hw := dec_width _ he
    by_cases hbad : (dec s.data.toList).1 = 65533 ∧ (dec s.data.toList).2 = 1
    · have HF : Hid (refRune s.data.toList = (0, 0)) := Lib.hid (by rw [refRune, if_neg he, if_pos hbad])
      rw [hbad.1, hbad.2] at h1
      clear he hs0 hsz hbad hw
      go_enter Tryz.func171, Tryz.ntmps171
      go_wp2_with fail
      refine h1.mono ?_
      rintro e w1 ⟨rfl, hb1⟩
      go_wp2
      go_ret2
      exact ⟨by rw [HF.out]; rfl, hb1⟩
    · have HF : Hid (refRune s.data.toList = dec s.data.toList) := Lib.hid (by rw [refRune, if_neg he, if_neg hbad])
      generalize dec s.data.toList = d at *
      obtain ⟨r, q⟩ := d
      dsimp only at *
      by_cases hr : r = 65533
      · have hq : 1 < q := by omega
        have br : ((r : Int) == 65533) = true := by rw [beq_iff_eq]; omega
        have bq : decide ((q : Int) ≤ 1) = false := by simp; omega
        clear he hs0 hsz hbad hr
        go_enter Tryz.func171, Tryz.ntmps171
        go_wp2_with fail
        refine h1.mono ?_
        rintro e w1 ⟨rfl, hb1⟩
        go_wp2
        go_ret2
        exact ⟨by rw [HF.out]; rfl, hb1⟩
      · have br : ((r : Int) == 65533) = false := by rw [beq_eq_false_iff_ne]; omega
        clear he hs0 hsz hbad hr
        go_enter Tryz.func171, Tryz.ntmps171
        go_wp2_with fail
        refine h1.mono ?_
        rintro e w1 ⟨rfl, hb1⟩
        go_wp2
        go_ret2
        exact ⟨by rw [HF.out]; rfl, hb1⟩

def rv (r : Nat) : Value := .int .i32 (r : Int)
theorem infoInt32 : (Tryz.prog.info? 21).map (fun i => (i.zero, i.size, i.bytes)) = some (some (.int .i32 0), 1, 4) := by kernel_rfl

theorem own_ge {w : World} {base : Nat} {e : TypeId} {size : Nat} {v : Value} {n : Nat} {xs : List Value} (h : w.ownsRow base e size v n xs) : ∀ k, v.ownBlock = some k → base ≤ k := by
  intro k hk
  obtain ⟨_, ⟨rfl, _⟩ | ⟨g, cap, cur, rfl, hg, _⟩⟩ := h
  · simp [Value.ownBlock] at hk
  · simp [Value.ownBlock] at hk; omega

theorem ownsRow_below {w w' : World} {base : Nat} {e : TypeId} {size : Nat} {v : Value} {n : Nat} {xs : List Value} (h : w.ownsRow base e size v n xs) (hb : Below w.heap.size w w') : w'.ownsRow base e size v n xs := by
  obtain ⟨h1, h2⟩ := h
  refine ⟨h1, ?_⟩
  rcases h2 with h2 | ⟨g, cap, cur, a, b, c, d⟩
  · exact .inl h2
  · exact .inr ⟨g, cap, cur, a, b, by rw [hb.block g (Array.getElem?_eq_some_iff.1 c).1]; exact c, d⟩

/-- What the reference's runes answers: the runes in memory of its own, or nothing. -/
def RunesPost (l : List UInt8) (w : World) (e : Ending) (w' : World) : Prop :=
  ∃ v, e = .returned (.tuple #[v, .bool (okB l)]) ∧ w'.ownsRow w.heap.size 21 1 v (if okB l then (runes l).length else 0) (if okB l then (runes l).map rv else []) ∧ Below w.heap.size w w'

theorem runesPost_no {l : List UInt8} {w w' : World} {e : Ending} (h : okB l = false) (he : e = .returned (.tuple #[.slice none 0 0, .bool false])) (hb : Below w.heap.size w w') : RunesPost l w e w' :=
  ⟨.slice none 0 0, by rw [he, h], by rw [h]; exact ⟨rfl, .inl ⟨rfl, rfl⟩⟩, hb⟩

set_option maxHeartbeats 2000000 in
set_option maxRecDepth 100000 in
theorem ref_runes (s : ByteArray) (w : World) (hT : Tabs w) (hs : s.size ≤ 17592186044416) :
    Calls Tryz.prog 146 #[.string s] w (RunesPost s.data.toList w) := by
  obtain ⟨i0, hi, hz0, hz1, hz2⟩ := info_parts infoInt32
  go_enter Tryz.func146, Tryz.ntmps146
  go_wp2
  go_loopw [0, 4] (fun s0 s4 wr => ∃ (rest : ByteArray) (xs : List Nat), s0 = .string rest ∧ rest.size ≤ s.size ∧ xs.length + rest.size ≤ s.size ∧ wr.ownsRow w.heap.size 21 1 s4 xs.length (xs.map rv) ∧
    xs ++ runes rest.data.toList = runes s.data.toList ∧ okB s.data.toList = okB rest.data.toList ∧ Below w.heap.size w wr) (fun s0 _ _ => match s0 with | .string r => r.size | _ => 0)
  case atStart => exact ⟨s, [], rfl, Nat.le_refl _, by simp, ⟨rfl, .inl ⟨rfl, rfl⟩⟩, rfl, rfl, Below.refl _ _⟩
  case round =>
    obtain ⟨rest, xs, rfl, hrs, hxl, hown, happ, hok, hbw⟩ := hrel
    have hsz := Lib.size_eq rest
    by_cases he : rest.data.toList = []
    · have hs0 : rest.size = 0 := by rw [hsz, he]; rfl
      have hok' : okB s.data.toList = true := by rw [hok, he]; rfl
      rw [he, runes_nil, List.append_nil] at happ
      have HO := Lib.hid hok'; have HA := Lib.hid happ
      clear hok hok' happ he hsz
      go_wp2
      go_ret2
      exact ⟨_, by rw [HO.out]; rfl, by rw [HO.out, if_pos rfl, if_pos rfl, ← HA.out]; exact hown, hbw⟩
    · have hs0 : 0 < rest.size := by rw [hsz]; exact List.length_pos_iff.2 he
      have hr := ref_rune rest wr (hT.below hbw)
      have hw := dec_width _ he
      by_cases hbad : (dec rest.data.toList).1 = 65533 ∧ (dec rest.data.toList).2 = 1
      · have hok' : okB s.data.toList = false := by
          rw [hok, okB, seg_cons _ he, List.all_cons, isBad_head _ he, hbad.1, hbad.2]; rfl
        have e1 : refRune rest.data.toList = (0, 0) := by rw [refRune, if_neg he, if_pos hbad]
        rw [e1] at hr
        have HO := Lib.hid hok'; have HR := Lib.hid hr
        clear hok hok' happ he hsz hbad hr e1
        go_wp2_with fail
        refine HR.out.mono ?_
        rintro e w1 ⟨rfl, hb1⟩
        go_wp2
        go_ret2
        exact runesPost_no HO.out rfl (hbw.trans (hb1.mono hbw.size))
      · have e1 : refRune rest.data.toList = dec rest.data.toList := by rw [refRune, if_neg he, if_neg hbad]
        have hgood : okB rest.data.toList = okB (rest.data.toList.drop (dec rest.data.toList).2) := okB_good _ he (fun h => by
          rw [bad_iff _ h]; have : (dec rest.data.toList).2 ≠ 1 := fun q => hbad ⟨h, q⟩; simp [this])
        have hdb := dec_bound rest.data.toList
        rw [runes_cons _ he] at happ
        rw [e1] at hr
        rw [hgood] at hok
        rw [← hsz] at hw
        have hx : ∀ q, q ≤ rest.size → (rest.extract q rest.size).data.toList = rest.data.toList.drop q := fun q hq => by
          rw [Lib.extract_data]; exact List.take_of_length_le (by rw [List.length_drop, Lib.size_eq]; omega)
        generalize dec rest.data.toList = d at *
        obtain ⟨r, q⟩ := d
        dsimp only at *
        have hx' := hx q hw.2.1
        have bq : ((q : Int) == 0) = false := by rw [beq_eq_false_iff_ne]; omega
        have HO := Lib.hid hok; have HR := Lib.hid hr; have HA := Lib.hid happ; have HX := Lib.hid hx'; have HZ := Lib.hid hsz
        clear hok happ he hsz hbad hr e1 hgood hx hx'
        go_wp2_with fail
        refine HR.out.mono ?_
        rintro e w1 ⟨rfl, hb1⟩
        have hown1 := ownsRow_below hown hb1
        have hbw1 := hbw.trans (hb1.mono hbw.size)
        have hs1 := hbw1.size
        clear hown hb1 hbw
        go_wp2_with (at_builtin; refine wpList_append_own _ rfl _ _ 207 rfl w.heap.size 21 i0 (.int .i32 0) 1 4 Tryz.underlying207 hi hz0 hz1 hz2 rfl (by decide) _ _ _ rfl (hown1.alloc _) ⟨w1.heap.size, 0, none⟩ 1 1 [.int .i32 r] rfl rfl ?c1 ?c2 ?c3 ?c4 ?c5 ?_)
        case c1 => exact cell_one_new _ _ _
        case c2 => intro u hu; simp at hu; subst hu; rfl
        case c3 => unfold maxLen; omega
        case c4 => omega
        case c5 => simp; omega
        · intro v' w2 hown' hgrow _
          go_wp2
          go_roundw
          case rel =>
            refine ⟨rest.extract q rest.size, xs ++ [r], rfl, by rw [ByteArray.size_extract]; omega, by rw [ByteArray.size_extract]; simp; omega, by simpa [rv] using hown', by rw [HX.out, ← HA.out]; simp, by rw [HO.out, HX.out], ?_⟩
            exact (hbw1.alloc hs1 _).grown hgrow (by simp; omega) (fun k hk => own_ge hown1 k hk)
          case measure =>
            show (rest.extract q rest.size).size < rest.size
            rw [ByteArray.size_extract]; omega
end Go.Proofs.YtkeegnhjemhblaaGreatDoor.Nm
/-
  The contracts of the reference's Check, Runes and Less.
-/
namespace Go.Proofs.YtkeegnhjemhblaaGreatDoor.Nm
open Go.RowKit

/-- A row of runes that the call owns, read in a later world. -/
theorem row_cells {w : World} {base : Nat} {v : Value} {rs : List Nat} (h : w.ownsRow base 21 1 v rs.length (rs.map rv)) (hne : rs ≠ []) :
    ∃ g cap, v = .slice (some ⟨g, 0, none⟩) rs.length cap ∧ g < w.heap.size ∧ ∀ (j r : Nat), rs[j]? = some r → w.cell? ⟨g, j, none⟩ = some (.int .i32 (r : Int)) := by
  obtain ⟨hl, ⟨rfl, h0⟩ | ⟨g, cap, cur, rfl, hg, hh, hn, hcap, hsz, ht⟩⟩ := h
  · exact absurd (List.eq_nil_of_length_eq_zero h0) hne
  · refine ⟨g, cap, rfl, (Array.getElem?_eq_some_iff.1 hh).1, fun j r hj => ?_⟩
    have hj' : j < rs.length := (List.getElem?_eq_some_iff.1 hj).1
    have e : cur[j]? = some (rv r) := by
      have := congrArg (fun l => l[j]?) ht
      simp only [List.getElem?_map, hj, Option.map_some] at this
      rw [List.getElem?_take_of_lt (by omega), Array.getElem?_toList] at this
      exact this
    unfold rv at e
    simp only [World.cell?, hh]
    simpa using e

theorem runesFine_runes (l : List UInt8) : runesFine l = (runes l).all fine := by
  simp only [runesFine, runes, List.all_map]; rfl

theorem chkN_no {l : List UInt8} (h : lenFine l = false) : chkN l = 10 := by rw [chkN, chk, h]; rfl

set_option maxHeartbeats 2000000 in
set_option maxRecDepth 100000 in
theorem ref_check (s : ByteArray) (w : World) (hT : Tabs w) :
    Calls Tryz.prog 104 #[.string s] w fun e w' => e = .returned (.int .i64 (chkN s.data.toList)) ∧ Below w.heap.size w w' := by
  have hsz := Lib.size_eq s
  by_cases h1 : s.size < 1
  · have HF : Hid (chkN s.data.toList = 10) := Lib.hid (chkN_no (by
      have : s.data.toList = [] := List.eq_nil_of_length_eq_zero (by omega)
      rw [this]; rfl))
    clear hsz
    go_enter Tryz.func104, Tryz.ntmps104
    go_wp2
    go_ret
    exact ⟨by rw [HF.out]; rfl, Below.refl _ _⟩
  by_cases h2 : 255 < s.size
  · have HF : Hid (chkN s.data.toList = 10) := Lib.hid (chkN_no (by
      have : decide (s.data.toList.length ≤ 255) = false := by simp only [decide_eq_false_iff_not]; omega
      rw [lenFine, this]; simp))
    have h1' : 1 ≤ s.size := by omega
    clear hsz h1
    go_enter Tryz.func104, Tryz.ntmps104
    go_wp2
    go_ret
    exact ⟨by rw [HF.out]; rfl, Below.refl _ _⟩
  have h1' : 1 ≤ s.size := by omega
  have h2' : s.size ≤ 255 := by omega
  clear h1 h2
  cases h3 : s.toList == [46] with
  | true =>
    have HF : Hid (chkN s.data.toList = 10) := Lib.hid (by
      have e : s.data.toList = [46] := by rw [← Lib.toList_data]; simpa using h3
      rw [e]; decide)
    clear hsz
    go_enter Tryz.func104, Tryz.ntmps104
    go_wp2
    go_ret
    exact ⟨by rw [HF.out]; rfl, Below.refl _ _⟩
  | false =>
  cases h4 : s.toList == [46, 46] with
  | true =>
    have HF : Hid (chkN s.data.toList = 10) := Lib.hid (by
      have e : s.data.toList = [46, 46] := by rw [← Lib.toList_data]; simpa using h4
      rw [e]; decide)
    clear hsz
    go_enter Tryz.func104, Tryz.ntmps104
    go_wp2
    go_ret
    exact ⟨by rw [HF.out]; rfl, Below.refl _ _⟩
  | false =>
  have hr := ref_runes s w hT (by omega)
  cases h5 : okB s.data.toList with
  | false =>
    have HF : Hid (chkN s.data.toList = 10) := Lib.hid (chkN_no (by rw [lenFine, h5]; rfl))
    unfold RunesPost at hr
    rw [h5] at hr
    have HR := Lib.hid hr
    clear hsz hr h5
    go_enter Tryz.func104, Tryz.ntmps104
    go_wp2_with fail
    refine HR.out.mono ?_
    rintro e w1 ⟨v, rfl, ho, hb⟩
    go_wp2
    go_ret
    exact ⟨by rw [HF.out]; rfl, hb⟩
  | true =>
    have hn1 : 1 ≤ (runes s.data.toList).length := by
      rw [runes_length, count_cons _ (by intro e; have := congrArg List.length e; rw [List.length_nil] at this; omega)]; omega
    have hn2 : (runes s.data.toList).length ≤ 255 := by rw [runes_length]; have := count_le s.data.toList; omega
    have hlf : lenFine s.data.toList = decide ((runes s.data.toList).length ≤ 64) := by
      rw [Lib.toList_data] at h3 h4
      rw [lenFine, h5, h3, h4, ← runes_length]
      have a1 : decide (1 ≤ (runes s.data.toList).length) = true := by simpa using hn1
      have a2 : decide (s.data.toList.length ≤ 255) = true := by simp; omega
      rw [a1, a2]; simp
    have hrf := runesFine_runes s.data.toList
    unfold RunesPost at hr
    rw [h5] at hr
    simp only [if_true] at hr
    generalize hrs : runes s.data.toList = rs at *
    have HR := Lib.hid hr; have HRF := Lib.hid hrf; have HLF := Lib.hid hlf
    clear hsz hr h5 hrs hrf hlf
    by_cases h6 : 64 < rs.length
    · have HF : Hid (chkN s.data.toList = 10) := Lib.hid (chkN_no (by rw [HLF.out]; simp; omega))
      go_enter Tryz.func104, Tryz.ntmps104
      go_wp2_with fail
      refine HR.out.mono ?_
      rintro e w1 ⟨v, rfl, ho, hb⟩
      obtain ⟨g, cap, rfl, hg, hcell⟩ := row_cells ho (by intro e; rw [e] at hn1; simp at hn1)
      clear ho hcell
      go_wp2
      go_ret
      exact ⟨by rw [HF.out]; rfl, hb⟩
    · have h6' : rs.length ≤ 64 := by omega
      clear h6
      go_enter Tryz.func104, Tryz.ntmps104
      go_wp2_with fail
      refine HR.out.mono ?_
      rintro e w1 ⟨v, rfl, ho, hb⟩
      obtain ⟨g, cap, rfl, hg, hcell⟩ := row_cells ho (by intro e; rw [e] at hn1; simp at hn1)
      have HC := Lib.hid hcell
      clear ho hcell
      go_wp2
      go_loop [5] (fun s5 => ∃ k : Nat, k ≤ rs.length ∧ s5 = .int .i64 k ∧ (∀ (j r : Nat), j < k → rs[j]? = some r → fine r = true)) (fun s5 => rs.length - (intOf s5).toNat)
      case atStart => exact ⟨0, by omega, rfl, fun j r h => by omega⟩
      case round =>
        obtain ⟨k, hk, rfl, hall⟩ := hrel
        have HA := Lib.hid hall
        clear hall
        by_cases hlt : k < rs.length
        · obtain ⟨r, hkr⟩ : ∃ r, rs[k]? = some r := ⟨rs[k], List.getElem?_eq_getElem hlt⟩
          have hc := HC.out k r hkr
          have HK := Lib.hid hkr
          clear hkr
          cases hf : fine r with
          | true =>
            have HFN := Lib.hid hf
            have hn1 : ¬ r < 32 ∧ ¬ r = 127 ∧ ¬ r = 47 := by simpa [fine, and_assoc] using hf
            have t2 : ((r : Int) == 127) = false := by rw [beq_eq_false_iff_ne]; omega
            have t3 : ((r : Int) == 47) = false := by rw [beq_eq_false_iff_ne]; omega
            have t1 : 32 ≤ r := by omega
            clear hf hn1
            go_wp2
            go_round
            case rel =>
              refine ⟨k + 1, by omega, by go_num, fun j x hj hjx => ?_⟩
              by_cases e : j = k
              · subst e; rw [HK.out] at hjx; cases hjx; exact HFN.out
              · exact HA.out j x (by omega) hjx
            case measure => simp [intOf]; omega
          | false =>
            have HF : Hid (chkN s.data.toList = 10) := Lib.hid (by
              have : rs.all fine = false := by
                rw [List.all_eq_false]; exact ⟨r, List.mem_of_getElem? HK.out, by simp [hf]⟩
              rw [chkN, chk, HRF.out, this]; simp)
            have hn1 : r < 32 ∨ r = 127 ∨ r = 47 := by
              by_cases a : r < 32 ∨ r = 127 ∨ r = 47
              · exact a
              · exfalso; have : fine r = true := by { simp [fine]; omega }
                rw [this] at hf; cases hf
            clear hf
            rcases hn1 with t1 | rfl | rfl
            all_goals
              go_wp2
              go_ret
              exact ⟨by rw [HF.out]; rfl, hb⟩
        · have HF : Hid (chkN s.data.toList = 0) := Lib.hid (by
            have : rs.all fine = true := by
              rw [List.all_eq_true]
              intro x hx
              obtain ⟨j, hj, e⟩ := List.getElem_of_mem hx
              exact HA.out j x (by omega) (by rw [List.getElem?_eq_getElem hj, e])
            have h64 : decide (rs.length ≤ 64) = true := by simpa using h6'
            rw [chkN, chk, HRF.out, HLF.out, this, h64]; rfl)
          go_wp2
          go_ret
          exact ⟨by rw [HF.out]; rfl, hb⟩
end Go.Proofs.YtkeegnhjemhblaaGreatDoor.Nm
/-
  The contract of the reference's Copy.
-/
namespace Go.Proofs.YtkeegnhjemhblaaGreatDoor.Rb
open Go.RowKit Go.Maps Go.WideMaps Go.Proofs.YtkeegnhjemhblaaGreatDoor.Rf

theorem chk_no {l : List UInt8} (h : Nm.chk l = false) : Nm.chkN l = 10 := by rw [Nm.chkN, h]; rfl
theorem chk_yes {l : List UInt8} (h : Nm.chk l = true) : Nm.chkN l = 0 := by rw [Nm.chkN, h]; rfl
theorem at_len {B : Nat} {w : World} {r : Nat} {v : Value} {Z : BM} (h : RBk B w r v Z) {i : Nat} {k : List UInt8} {n : Value × List En} (hz : Z[i]? = some (k, n)) : ∀ w' : World, Below w.heap.size w w' → ∃ g c, v = .slice (some ⟨g, 0, none⟩) Z.length c ∧ w'.cell? ⟨r, 0, none⟩ = some (.slice (some ⟨g, 0, none⟩) Z.length c) ∧ w'.cell? ⟨g, i * 2 + 1, none⟩ = some n.1 := fun w' hb => by
  obtain ⟨g, c, hv, _, hc⟩ := (h.below hb).cells (by have := (List.getElem?_eq_some_iff.1 hz).1; omega)
  exact ⟨g, c, hv, by rw [← hv]; exact cell_of_heap (h.below hb).book, (hc i _ hz).2⟩
end Go.Proofs.YtkeegnhjemhblaaGreatDoor.Rb
