import Derived.Test.YtpbhkaokgpacoaaGreatDoorZStSplit
import Derived.WalkSmall
set_option linter.unusedSimpArgs false
set_option linter.unusedVariables false
/-
  The contracts of the reference's Rune, runes, Check, Runes, Less.
-/
namespace Go.Proofs.YtpbhkaokgpacoaaGreatDoor.Nm
open Go.RowKit

/-- The runes of a text. -/
def runes (l : List UInt8) : List Nat := (seg l).map (·.1)

theorem runes_nil : runes [] = [] := rfl
theorem runes_cons (l : List UInt8) (h : l ≠ []) : runes l = (dec l).1 :: runes (l.drop (dec l).2) := by
  rw [runes, seg_cons l h]; rfl
theorem runes_length (l : List UInt8) : (runes l).length = count l := by simp [runes, count]

/-- The tables of unicode/utf8 as their initialisers lay them. -/
abbrev Tabs (w : World) : Prop := Lib.Utf8Tabs 1 2 w

theorem Tabs.below {w w' : World} (h : Tabs w) (hb : Below w.heap.size w w') : Tabs w' := by
  obtain ⟨h1, h2⟩ := h
  have k1 := World.block_lt_of_cell? _ _ (h1 0 (by omega))
  have k2 := World.block_lt_of_cell? _ _ (h2 0 (by omega)).1
  refine ⟨fun c hc => ?_, fun i hi => ⟨?_, ?_⟩⟩
  · rw [hb.cell (p := ⟨1, c, none⟩) k1]; exact h1 c hc
  · rw [hb.cell (p := ⟨2, 2 * i, none⟩) k2]; exact (h2 i hi).1
  · rw [hb.cell (p := ⟨2, 2 * i + 1, none⟩) k2]; exact (h2 i hi).2

def refRune (l : List UInt8) : Nat × Nat := if l = [] then (0, 0) else if (dec l).1 = 65533 ∧ (dec l).2 = 1 then (0, 0) else dec l

theorem decode0 (s : ByteArray) : Utf8.decode s 0 = dec s.data.toList := by rw [decode_drop]; rfl

set_option maxHeartbeats 1000000 in
set_option maxRecDepth 100000 in
theorem ref_rune (s : ByteArray) (w : World) (hT : Tabs w) :
    Calls Tryz.prog 131 #[.string s] w fun e w' => e = .returned (.tuple #[.int .i32 (refRune s.data.toList).1, .int .i64 (refRune s.data.toList).2]) ∧ Below w.heap.size w w' := by
  have h1 := Tryz.utf8_DecodeRuneInString s w hT
  have hsz := Lib.size_eq s
  unfold Lib.decodeGo at h1
  rw [decode0] at h1
  by_cases he : s.data.toList = []
  · have hs0 : s.size = 0 := by rw [hsz, he]; rfl
    rw [if_pos hs0] at h1
    have HF : Hid (refRune s.data.toList = (0, 0)) := Lib.hid (by rw [refRune, if_pos he])
    clear he hs0 hsz
    go_enter Tryz.func131, Tryz.ntmps131
    go_wp2_with fail
    refine h1.mono ?_
    rintro e w1 ⟨rfl, hb1⟩
    go_wp2
    go_ret2
    exact ⟨by rw [HF.out]; rfl, hb1⟩
  · have hs0 : s.size ≠ 0 := by rw [hsz]; intro h; exact he (List.eq_nil_of_length_eq_zero h)
    rw [if_neg hs0] at h1
    have hw := dec_width _ he
    by_cases hbad : (dec s.data.toList).1 = 65533 ∧ (dec s.data.toList).2 = 1
    · have HF : Hid (refRune s.data.toList = (0, 0)) := Lib.hid (by rw [refRune, if_neg he, if_pos hbad])
      rw [hbad.1, hbad.2] at h1
      clear he hs0 hsz hbad hw
      go_enter Tryz.func131, Tryz.ntmps131
      go_wp2_with fail
      refine h1.mono ?_
      rintro e w1 ⟨rfl, hb1⟩
      go_wp2
      go_ret2
      exact ⟨by rw [HF.out]; rfl, hb1⟩
    · have HF : Hid (refRune s.data.toList = dec s.data.toList) := Lib.hid (by rw [refRune, if_neg he, if_neg hbad])
      generalize dec s.data.toList = d at *
      obtain ⟨r, q⟩ := d
      dsimp only at *
      by_cases hr : r = 65533
      · have hq : 1 < q := by omega
        have br : ((r : Int) == 65533) = true := by rw [beq_iff_eq]; omega
        have bq : decide ((q : Int) ≤ 1) = false := by simp; omega
        clear he hs0 hsz hbad hr
        go_enter Tryz.func131, Tryz.ntmps131
        go_wp2_with fail
        refine h1.mono ?_
        rintro e w1 ⟨rfl, hb1⟩
        go_wp2
        go_ret2
        exact ⟨by rw [HF.out]; rfl, hb1⟩
      · have br : ((r : Int) == 65533) = false := by rw [beq_eq_false_iff_ne]; omega
        clear he hs0 hsz hbad hr
        go_enter Tryz.func131, Tryz.ntmps131
        go_wp2_with fail
        refine h1.mono ?_
        rintro e w1 ⟨rfl, hb1⟩
        go_wp2
        go_ret2
        exact ⟨by rw [HF.out]; rfl, hb1⟩

def rv (r : Nat) : Value := .int .i32 (r : Int)
theorem infoInt32 : (Tryz.prog.info? 21).map (fun i => (i.zero, i.size, i.bytes)) = some (some (.int .i32 0), 1, 4) := by kernel_rfl

theorem own_ge {w : World} {base : Nat} {e : TypeId} {size : Nat} {v : Value} {n : Nat} {xs : List Value} (h : w.ownsRow base e size v n xs) : ∀ k, v.ownBlock = some k → base ≤ k := by
  intro k hk
  obtain ⟨_, ⟨rfl, _⟩ | ⟨g, cap, cur, rfl, hg, _⟩⟩ := h
  · simp [Value.ownBlock] at hk
  · simp [Value.ownBlock] at hk; omega

theorem ownsRow_below {w w' : World} {base : Nat} {e : TypeId} {size : Nat} {v : Value} {n : Nat} {xs : List Value} (h : w.ownsRow base e size v n xs) (hb : Below w.heap.size w w') : w'.ownsRow base e size v n xs := by
  obtain ⟨h1, h2⟩ := h
  refine ⟨h1, ?_⟩
  rcases h2 with h2 | ⟨g, cap, cur, a, b, c, d⟩
  · exact .inl h2
  · exact .inr ⟨g, cap, cur, a, b, by rw [hb.block g (Array.getElem?_eq_some_iff.1 c).1]; exact c, d⟩

/-- What the reference's runes answers: the runes in memory of its own, or nothing. -/
def RunesPost (l : List UInt8) (w : World) (e : Ending) (w' : World) : Prop :=
  ∃ v, e = .returned (.tuple #[v, .bool (okB l)]) ∧ w'.ownsRow w.heap.size 21 1 v (if okB l then (runes l).length else 0) (if okB l then (runes l).map rv else []) ∧ Below w.heap.size w w'

theorem runesPost_no {l : List UInt8} {w w' : World} {e : Ending} (h : okB l = false) (he : e = .returned (.tuple #[.slice none 0 0, .bool false])) (hb : Below w.heap.size w w') : RunesPost l w e w' :=
  ⟨.slice none 0 0, by rw [he, h], by rw [h]; exact ⟨rfl, .inl ⟨rfl, rfl⟩⟩, hb⟩

set_option maxHeartbeats 2000000 in
set_option maxRecDepth 100000 in
theorem ref_runes (s : ByteArray) (w : World) (hT : Tabs w) (hs : s.size ≤ 17592186044416) :
    Calls Tryz.prog 111 #[.string s] w (RunesPost s.data.toList w) := by
  obtain ⟨i0, hi, hz0, hz1, hz2⟩ := info_parts infoInt32
  go_enter Tryz.func111, Tryz.ntmps111
  go_wp2
  go_loopw [0, 4] (fun s0 s4 wr => ∃ (rest : ByteArray) (xs : List Nat), s0 = .string rest ∧ rest.size ≤ s.size ∧ xs.length + rest.size ≤ s.size ∧ wr.ownsRow w.heap.size 21 1 s4 xs.length (xs.map rv) ∧
    xs ++ runes rest.data.toList = runes s.data.toList ∧ okB s.data.toList = okB rest.data.toList ∧ Below w.heap.size w wr) (fun s0 _ _ => match s0 with | .string r => r.size | _ => 0)
  case atStart => exact ⟨s, [], rfl, Nat.le_refl _, by simp, ⟨rfl, .inl ⟨rfl, rfl⟩⟩, rfl, rfl, Below.refl _ _⟩
  case round =>
    obtain ⟨rest, xs, rfl, hrs, hxl, hown, happ, hok, hbw⟩ := hrel
    have hsz := Lib.size_eq rest
    by_cases he : rest.data.toList = []
    · have hs0 : rest.size = 0 := by rw [hsz, he]; rfl
      have hok' : okB s.data.toList = true := by rw [hok, he]; rfl
      rw [he, runes_nil, List.append_nil] at happ
      have HO := Lib.hid hok'; have HA := Lib.hid happ
      clear hok hok' happ he hsz
      go_wp2
      go_ret2
      exact ⟨_, by rw [HO.out]; rfl, by rw [HO.out, if_pos rfl, if_pos rfl, ← HA.out]; exact hown, hbw⟩
    · have hs0 : 0 < rest.size := by rw [hsz]; exact List.length_pos_iff.2 he
      have hr := ref_rune rest wr (hT.below hbw)
      have hw := dec_width _ he
      by_cases hbad : (dec rest.data.toList).1 = 65533 ∧ (dec rest.data.toList).2 = 1
      · have hok' : okB s.data.toList = false := by
          rw [hok, okB, seg_cons _ he, List.all_cons, isBad_head _ he, hbad.1, hbad.2]; rfl
        have e1 : refRune rest.data.toList = (0, 0) := by rw [refRune, if_neg he, if_pos hbad]
        rw [e1] at hr
        have HO := Lib.hid hok'; have HR := Lib.hid hr
        clear hok hok' happ he hsz hbad hr e1
        go_wp2_with fail
        refine HR.out.mono ?_
        rintro e w1 ⟨rfl, hb1⟩
        go_wp2
        go_ret2
        exact runesPost_no HO.out rfl (hbw.trans (hb1.mono hbw.size))
      · have e1 : refRune rest.data.toList = dec rest.data.toList := by rw [refRune, if_neg he, if_neg hbad]
        have hgood : okB rest.data.toList = okB (rest.data.toList.drop (dec rest.data.toList).2) := okB_good _ he (fun h => by
          rw [bad_iff _ h]; have : (dec rest.data.toList).2 ≠ 1 := fun q => hbad ⟨h, q⟩; simp [this])
        have hdb := dec_bound rest.data.toList
        rw [runes_cons _ he] at happ
        rw [e1] at hr
        rw [hgood] at hok
        rw [← hsz] at hw
        have hx : ∀ q, q ≤ rest.size → (rest.extract q rest.size).data.toList = rest.data.toList.drop q := fun q hq => by
          rw [Lib.extract_data]; exact List.take_of_length_le (by rw [List.length_drop, Lib.size_eq]; omega)
        generalize dec rest.data.toList = d at *
        obtain ⟨r, q⟩ := d
        dsimp only at *
        have hx' := hx q hw.2.1
        have bq : ((q : Int) == 0) = false := by rw [beq_eq_false_iff_ne]; omega
        have HO := Lib.hid hok; have HR := Lib.hid hr; have HA := Lib.hid happ; have HX := Lib.hid hx'; have HZ := Lib.hid hsz
        clear hok happ he hsz hbad hr e1 hgood hx hx'
        go_wp2_with fail
        refine HR.out.mono ?_
        rintro e w1 ⟨rfl, hb1⟩
        have hown1 := ownsRow_below hown hb1
        have hbw1 := hbw.trans (hb1.mono hbw.size)
        have hs1 := hbw1.size
        clear hown hb1 hbw
        go_wp2_with (at_builtin; refine wpList_append_own _ rfl _ _ 176 rfl w.heap.size 21 i0 (.int .i32 0) 1 4 Tryz.underlying176 hi hz0 hz1 hz2 rfl (by decide) _ _ _ rfl (hown1.alloc _) ⟨w1.heap.size, 0, none⟩ 1 1 [.int .i32 r] rfl rfl ?c1 ?c2 ?c3 ?c4 ?c5 ?_)
        case c1 => exact cell_one_new _ _ _
        case c2 => intro u hu; simp at hu; subst hu; rfl
        case c3 => unfold maxLen; omega
        case c4 => omega
        case c5 => simp; omega
        · intro v' w2 hown' hgrow _
          go_wp2
          go_roundw
          case rel =>
            refine ⟨rest.extract q rest.size, xs ++ [r], rfl, by rw [ByteArray.size_extract]; omega, by rw [ByteArray.size_extract]; simp; omega, by simpa [rv] using hown', by rw [HX.out, ← HA.out]; simp, by rw [HO.out, HX.out], ?_⟩
            exact (hbw1.alloc hs1 _).grown hgrow (by simp; omega) (fun k hk => own_ge hown1 k hk)
          case measure =>
            show (rest.extract q rest.size).size < rest.size
            rw [ByteArray.size_extract]; omega
end Go.Proofs.YtpbhkaokgpacoaaGreatDoor.Nm
