import Derived.Test.YtkeegnhjemhblaaGreatDoorZPRbPut
import Derived.Test.YtkeegnhjemhblaaGreatDoorZPRfBack
import Derived.Test.YtkeegnhjemhblaaGreatDoorZPNmCheck
import Derived.Test.YtkeegnhjemhblaaGreatDoorZPNmWhole
import Derived.Deep.OwnRows
import Derived.Deep.LoopGhost
import Derived.Lib.Split
import Derived.Lib.SplitLaws
import Derived.Deep.QuietTactic
import Derived.BigQuiet
import Derived.Test.YtkeegnhjemhblaaGreatDoorZPNmLike
import Derived.WalkSmall
set_option linter.unusedSimpArgs false
set_option linter.unusedVariables false
/-
  How the reference's calls on a book end.
-/
namespace Go.Proofs.YtkeegnhjemhblaaGreatDoor.Rb
open Go.RowKit Go.Maps Go.WideMaps Go.Proofs.YtkeegnhjemhblaaGreatDoor.Rf

def zeroEn : Value := .agg (List.replicate 32 (Value.int .u8 0) ++ [Value.int .i64 0]).toArray
theorem infoEn : (Tryz.prog.info? EnT).map (fun i => (i.zero, i.size, i.bytes)) = some (some zeroEn, 33, 40) := by kernel_rfl
theorem undE : Tryz.prog.underlying 99 = some (.slice (Tryz.prog.elem 99)) := by kernel_rfl
theorem sizeE (w : World) : (sizeOf (Tryz.prog.elem 99)).run Tryz.prog w = .ok 33 w := by kernel_rfl
theorem zeroEn_size : zeroEn.cells.size = 33 := by kernel_rfl
theorem hold_row {w : World} {B : Nat} {e : TypeId} {s n : Nat} {v : Value} {xs : List Value} (h : w.ownsRow B e s v n xs) : HoldN w v n xs := by
  obtain ⟨h1, ⟨rfl, h2⟩ | ⟨g, cap, cur, rfl, a1, a2, a3, a4, a5, a6⟩⟩ := h
  · subst h2
    exact .inr ⟨0, rfl, rfl, List.eq_nil_of_length_eq_zero (by simpa using h1)⟩
  · refine .inl ⟨⟨g, 0, none⟩, cap, rfl, fun j u hj => ?_⟩
    rw [Addr.add_lit, Nat.zero_add, cell_of_heap a2]
    have hlt := (List.getElem?_eq_some_iff.1 hj).1
    rw [← a6, List.getElem?_take_of_lt (by omega), Array.getElem?_toList] at hj
    exact hj
theorem cellsL_one (l : List En) : ∀ u ∈ cellsL l, u.oneCell' = true := by
  intro u hu
  obtain ⟨e, _, hu⟩ := List.mem_flatMap.1 hu
  rw [En.cells, List.mem_append] at hu
  rcases hu with hu | hu
  · rw [Lib.byteCells, List.mem_map] at hu
    obtain ⟨b, _, rfl⟩ := hu; rfl
  · rw [List.mem_singleton] at hu; subst hu; rfl
section
variable {B : Nat} {w w5 w' : World} {r : Nat} {v x : Value} {Z : BM} {k : List UInt8} {l : List En} {c : Int} {e : Ending}
/-- A branch more, by put. -/
theorem rbPost_new (h : RBk B w r v Z) (hb : Below w.heap.size w w5) (hx : w5.ownsRow w.heap.size EnT 33 x l.length (cellsL l)) (ha : atN Z k = none) (he : e = .returned (.int .i64 c))
    (hp : ∃ v' wc, w' = wc.setCell ⟨r, 0, none⟩ v' ∧ Below w5.heap.size w5 wc ∧ wc.ownsRow w5.heap.size BrT 2 v' (Z.length + 1) (bcells (Z.take (putAt Z k) ++ (k, (x, l)) :: Z.drop (putAt Z k)))) :
    RBPost B w r v Z c (putM (plainB Z) k l) e w' := by
  obtain ⟨v', wc, rfl, hc, ho⟩ := hp
  have hr := lt_of_heap h.book
  have hs := hb.size
  have hz : putM Z k (x, l) = Z.take (putAt Z k) ++ (k, (x, l)) :: Z.drop (putAt Z k) := put_new ha
  have hlen : (putM Z k (x, l)).length = Z.length + 1 := by
    rw [hz, List.length_append, List.length_cons, List.length_take, List.length_drop]
    have : putAt Z k ≤ Z.length := by rw [putAt]; exact (List.takeWhile_prefix _).length_le
    omega
  rw [← hz, ← hlen] at ho
  have hge := rowS_ge hx
  obtain ⟨p1, p2, p3, p4⟩ := (h.below hb).put hc ho hs (fun p hp => by
    rcases mem_ins.1 hp with rfl | hp
    · exact .inr ⟨row_mono hx h.size, fun hc => by have := hge r hc; omega, hge⟩
    · exact .inl (mem_del.1 hp).1) (put_srt h.srt k (x, l))
  exact ⟨he, v', _, p1, plain_put Z k x l, ((Turn.of_below hb : Turn (r :: ob v) w w5).trans p2 (fun y hy => .inl (by rw [List.mem_singleton] at hy; rw [hy]; exact List.mem_cons_self ..))), p3, fun b hb2 => .inr (p4 b hb2)⟩
/-- A branch less. -/
theorem rbPost_del {v' : Value} {wc : World} {i : Nat} (h : RBk B w r v Z) (hb : Below w.heap.size w wc) (ha : atN Z k = some i) (he : e = .returned (.int .i64 c))
    (ho : wc.ownsRow w.heap.size BrT 2 v' (i + (Z.length - (i + 1))) (bcells (Z.take i ++ Z.drop (i + 1)))) :
    RBPost B w r v Z c (delM (plainB Z) k) e (wc.setCell ⟨r, 0, none⟩ v') := by
  have hz : delM Z k = Z.take i ++ Z.drop (i + 1) := del_at h.srt ha
  obtain ⟨n, hn, _⟩ := at_some ha
  have hil := (List.getElem?_eq_some_iff.1 hn).1
  have hlen : (delM Z k).length = i + (Z.length - (i + 1)) := by
    rw [hz, List.length_append, List.length_take, List.length_drop, Nat.min_eq_left (by omega)]
  rw [← hz, ← hlen] at ho
  obtain ⟨p1, p2, p3, p4⟩ := h.put hb ho (Nat.le_refl _) (fun p hp => .inl (mem_del.1 hp).1) (del_srt h.srt k)
  exact ⟨he, v', _, p1, plain_del Z k, p2.mono (fun y hy => by rw [List.mem_singleton] at hy; rw [hy]; exact List.mem_cons_self ..), p3, fun b hb2 => .inr (p4 b hb2)⟩
/-- A branch's entries written. -/
theorem rbPost_set {g n cc i : Nat} {x0 : Value} {l0 : List En} {w1 : World} (h : RBk B w r (.slice (some ⟨g, 0, none⟩) n cc) Z) (hn : n = Z.length) (ha : atN Z k = some i) (hi : Z[i]? = some (k, (x0, l0))) (hb : Below w.heap.size w w1) (hx : w1.ownsRow w.heap.size EnT 33 x l.length (cellsL l)) (he : e = .returned (.int .i64 c)) :
    RBPost B w r (.slice (some ⟨g, 0, none⟩) n cc) Z c (putM (plainB Z) k l) e (w1.setCell ⟨g, i * 2 + 1, none⟩ x) ∧ w1.frozen? ⟨g, i * 2 + 1, none⟩ = false ∧ ∃ z, w1.cell? ⟨g, i * 2 + 1, none⟩ = some z := by
  obtain ⟨p1, p2, p3, p4, p5⟩ := h.set hn hi hb hx (Nat.le_refl _)
  refine ⟨⟨he, _, _, p1, ?_, p2.mono (fun y hy => ?_), p3, fun b hb2 => .inl hb2⟩, p4, p5⟩
  · rw [← put_at h.srt ha (n := (x, l))]; exact plain_put Z k x l
  · rw [List.mem_singleton] at hy; rw [hy]; exact List.mem_cons_of_mem _ (by simp [ob, Value.ownBlock])
end
end Go.Proofs.YtkeegnhjemhblaaGreatDoor.Rb
/-
  The contracts of the reference's Rune, runes, Check, Runes, Less.
-/
namespace Go.Proofs.YtkeegnhjemhblaaGreatDoor.Nm
open Go.RowKit

/-- The runes of a text. -/
def runes (l : List UInt8) : List Nat := (seg l).map (·.1)

theorem runes_nil : runes [] = [] := rfl
theorem runes_cons (l : List UInt8) (h : l ≠ []) : runes l = (dec l).1 :: runes (l.drop (dec l).2) := by
  rw [runes, seg_cons l h]; rfl
theorem runes_length (l : List UInt8) : (runes l).length = count l := by simp [runes, count]

/-- The tables of unicode/utf8 as their initialisers lay them. -/
abbrev Tabs (w : World) : Prop := Lib.Utf8Tabs 4 5 w

theorem Tabs.below {w w' : World} (h : Tabs w) (hb : Below w.heap.size w w') : Tabs w' := by
  obtain ⟨h1, h2⟩ := h
  have k1 := World.block_lt_of_cell? _ _ (h1 0 (by omega))
  have k2 := World.block_lt_of_cell? _ _ (h2 0 (by omega)).1
  refine ⟨fun c hc => ?_, fun i hi => ⟨?_, ?_⟩⟩
  · rw [hb.cell (p := ⟨4, c, none⟩) k1]; exact h1 c hc
  · rw [hb.cell (p := ⟨5, 2 * i, none⟩) k2]; exact (h2 i hi).1
  · rw [hb.cell (p := ⟨5, 2 * i + 1, none⟩) k2]; exact (h2 i hi).2

def refRune (l : List UInt8) : Nat × Nat := if l = [] then (0, 0) else if (dec l).1 = 65533 ∧ (dec l).2 = 1 then (0, 0) else dec l

theorem decode0 (s : ByteArray) : Utf8.decode s 0 = dec s.data.toList := by rw [decode_drop]; rfl

set_option maxHeartbeats 1000000 in
set_option maxRecDepth 100000 in
theorem ref_rune (s : ByteArray) (w : World) (hT : Tabs w) :
    Calls Tryz.prog 171 #[.string s] w fun e w' => e = .returned (.tuple #[.int .i32 (refRune s.data.toList).1, .int .i64 (refRune s.data.toList).2]) ∧ Below w.heap.size w w' := by
  have h1 := Tryz.utf8_DecodeRuneInString s w hT
  have hsz := Lib.size_eq s
  unfold Lib.decodeGo at h1
  rw [decode0] at h1
  by_cases he : s.data.toList = []
  · have hs0 : s.size = 0 := by rw [hsz, he]; rfl
    rw [if_pos hs0] at h1
    have HF : Hid (refRune s.data.toList = (0, 0)) := Lib.hid (by rw [refRune, if_pos he])
    clear he hs0 hsz
    go_enter Tryz.func171, Tryz.ntmps171
    go_wp2_with fail
    refine h1.mono ?_
    rintro e w1 ⟨rfl, hb1⟩
    go_wp2
    go_ret2
    exact ⟨by rw [HF.out]; rfl, hb1⟩
  · have hs0 : s.size ≠ 0 := by rw [hsz]; intro h; exact he (List.eq_nil_of_length_eq_zero h)
    rw [if_neg hs0] at h1
    have hw := dec_width _ he
    by_cases hbad : (dec s.data.toList).1 = 65533 ∧ (dec s.data.toList).2 = 1
    · have HF : Hid (refRune s.data.toList = (0, 0)) := Lib.hid (by rw [refRune, if_neg he, if_pos hbad])
      rw [hbad.1, hbad.2] at h1
      clear he hs0 hsz hbad hw
      go_enter Tryz.func171, Tryz.ntmps171
      go_wp2_with fail
      refine h1.mono ?_
      rintro e w1 ⟨rfl, hb1⟩
      go_wp2
      go_ret2
      exact ⟨by rw [HF.out]; rfl, hb1⟩
    · have HF : Hid (refRune s.data.toList = dec s.data.toList) := Lib.hid (by rw [refRune, if_neg he, if_neg hbad])
      generalize dec s.data.toList = d at *
      obtain ⟨r, q⟩ := d
      dsimp only at *
      by_cases hr : r = 65533
      · have hq : 1 < q := by omega
        have br : ((r : Int) == 65533) = true := by rw [beq_iff_eq]; omega
        have bq : decide ((q : Int) ≤ 1) = false := by simp; omega
        clear he hs0 hsz hbad hr
        go_enter Tryz.func171, Tryz.ntmps171
        go_wp2_with fail
        refine h1.mono ?_
        rintro e w1 ⟨rfl, hb1⟩
        go_wp2
        go_ret2
        exact ⟨by rw [HF.out]; rfl, hb1⟩
      · have br : ((r : Int) == 65533) = false := by rw [beq_eq_false_iff_ne]; omega
        clear he hs0 hsz hbad hr
        go_enter Tryz.func171, Tryz.ntmps171
        go_wp2_with fail
        refine h1.mono ?_
        rintro e w1 ⟨rfl, hb1⟩
        go_wp2
        go_ret2
        exact ⟨by rw [HF.out]; rfl, hb1⟩

def rv (r : Nat) : Value := .int .i32 (r : Int)
theorem infoInt32 : (Tryz.prog.info? 21).map (fun i => (i.zero, i.size, i.bytes)) = some (some (.int .i32 0), 1, 4) := by kernel_rfl

theorem own_ge {w : World} {base : Nat} {e : TypeId} {size : Nat} {v : Value} {n : Nat} {xs : List Value} (h : w.ownsRow base e size v n xs) : ∀ k, v.ownBlock = some k → base ≤ k := by
  intro k hk
  obtain ⟨_, ⟨rfl, _⟩ | ⟨g, cap, cur, rfl, hg, _⟩⟩ := h
  · simp [Value.ownBlock] at hk
  · simp [Value.ownBlock] at hk; omega

theorem ownsRow_below {w w' : World} {base : Nat} {e : TypeId} {size : Nat} {v : Value} {n : Nat} {xs : List Value} (h : w.ownsRow base e size v n xs) (hb : Below w.heap.size w w') : w'.ownsRow base e size v n xs := by
  obtain ⟨h1, h2⟩ := h
  refine ⟨h1, ?_⟩
  rcases h2 with h2 | ⟨g, cap, cur, a, b, c, d⟩
  · exact .inl h2
  · exact .inr ⟨g, cap, cur, a, b, by rw [hb.block g (Array.getElem?_eq_some_iff.1 c).1]; exact c, d⟩

/-- What the reference's runes answers: the runes in memory of its own, or nothing. -/
def RunesPost (l : List UInt8) (w : World) (e : Ending) (w' : World) : Prop :=
  ∃ v, e = .returned (.tuple #[v, .bool (okB l)]) ∧ w'.ownsRow w.heap.size 21 1 v (if okB l then (runes l).length else 0) (if okB l then (runes l).map rv else []) ∧ Below w.heap.size w w'

theorem runesPost_no {l : List UInt8} {w w' : World} {e : Ending} (h : okB l = false) (he : e = .returned (.tuple #[.slice none 0 0, .bool false])) (hb : Below w.heap.size w w') : RunesPost l w e w' :=
  ⟨.slice none 0 0, by rw [he, h], by rw [h]; exact ⟨rfl, .inl ⟨rfl, rfl⟩⟩, hb⟩

set_option maxHeartbeats 2000000 in
set_option maxRecDepth 100000 in
theorem ref_runes (s : ByteArray) (w : World) (hT : Tabs w) (hs : s.size ≤ 17592186044416) :
    Calls Tryz.prog 146 #[.string s] w (RunesPost s.data.toList w) := by
  obtain ⟨i0, hi, hz0, hz1, hz2⟩ := info_parts infoInt32
  go_enter Tryz.func146, Tryz.ntmps146
  go_wp2
  go_loopw [0, 4] (fun s0 s4 wr => ∃ (rest : ByteArray) (xs : List Nat), s0 = .string rest ∧ rest.size ≤ s.size ∧ xs.length + rest.size ≤ s.size ∧ wr.ownsRow w.heap.size 21 1 s4 xs.length (xs.map rv) ∧
    xs ++ runes rest.data.toList = runes s.data.toList ∧ okB s.data.toList = okB rest.data.toList ∧ Below w.heap.size w wr) (fun s0 _ _ => match s0 with | .string r => r.size | _ => 0)
  case atStart => exact ⟨s, [], rfl, Nat.le_refl _, by simp, ⟨rfl, .inl ⟨rfl, rfl⟩⟩, rfl, rfl, Below.refl _ _⟩
  case round =>
    obtain ⟨rest, xs, rfl, hrs, hxl, hown, happ, hok, hbw⟩ := hrel
    have hsz := Lib.size_eq rest
    by_cases he : rest.data.toList = []
    · have hs0 : rest.size = 0 := by rw [hsz, he]; rfl
      have hok' : okB s.data.toList = true := by rw [hok, he]; rfl
      rw [he, runes_nil, List.append_nil] at happ
      have HO := Lib.hid hok'; have HA := Lib.hid happ
      clear hok hok' happ he hsz
      go_wp2
      go_ret2
      exact ⟨_, by rw [HO.out]; rfl, by rw [HO.out, if_pos rfl, if_pos rfl, ← HA.out]; exact hown, hbw⟩
    · have hs0 : 0 < rest.size := by rw [hsz]; exact List.length_pos_iff.2 he
      have hr := ref_rune rest wr (hT.below hbw)
      have hw := dec_width _ he
      by_cases hbad : (dec rest.data.toList).1 = 65533 ∧ (dec rest.data.toList).2 = 1
      · have hok' : okB s.data.toList = false := by
          rw [hok, okB, seg_cons _ he, List.all_cons, isBad_head _ he, hbad.1, hbad.2]; rfl
        have e1 : refRune rest.data.toList = (0, 0) := by rw [refRune, if_neg he, if_pos hbad]
        rw [e1] at hr
        have HO := Lib.hid hok'; have HR := Lib.hid hr
        clear hok hok' happ he hsz hbad hr e1
        go_wp2_with fail
        refine HR.out.mono ?_
        rintro e w1 ⟨rfl, hb1⟩
        go_wp2
        go_ret2
        exact runesPost_no HO.out rfl (hbw.trans (hb1.mono hbw.size))
      · have e1 : refRune rest.data.toList = dec rest.data.toList := by rw [refRune, if_neg he, if_neg hbad]
        have hgood : okB rest.data.toList = okB (rest.data.toList.drop (dec rest.data.toList).2) := okB_good _ he (fun h => by
          rw [bad_iff _ h]; have : (dec rest.data.toList).2 ≠ 1 := fun q => hbad ⟨h, q⟩; simp [this])
        have hdb := dec_bound rest.data.toList
        rw [runes_cons _ he] at happ
        rw [e1] at hr
        rw [hgood] at hok
        rw [← hsz] at hw
        have hx : ∀ q, q ≤ rest.size → (rest.extract q rest.size).data.toList = rest.data.toList.drop q := fun q hq => by
          rw [Lib.extract_data]; exact List.take_of_length_le (by rw [List.length_drop, Lib.size_eq]; omega)
        generalize dec rest.data.toList = d at *
        obtain ⟨r, q⟩ := d
        dsimp only at *
        have hx' := hx q hw.2.1
        have bq : ((q : Int) == 0) = false := by rw [beq_eq_false_iff_ne]; omega
        have HO := Lib.hid hok; have HR := Lib.hid hr; have HA := Lib.hid happ; have HX := Lib.hid hx'; have HZ := Lib.hid hsz
        clear hok happ he hsz hbad hr e1 hgood hx hx'
        go_wp2_with fail
        refine HR.out.mono ?_
        rintro e w1 ⟨rfl, hb1⟩
        have hown1 := ownsRow_below hown hb1
        have hbw1 := hbw.trans (hb1.mono hbw.size)
        have hs1 := hbw1.size
        clear hown hb1 hbw
        go_wp2_with (at_builtin; refine wpList_append_own _ rfl _ _ 207 rfl w.heap.size 21 i0 (.int .i32 0) 1 4 Tryz.underlying207 hi hz0 hz1 hz2 rfl (by decide) _ _ _ rfl (hown1.alloc _) ⟨w1.heap.size, 0, none⟩ 1 1 [.int .i32 r] rfl rfl ?c1 ?c2 ?c3 ?c4 ?c5 ?_)
        case c1 => exact cell_one_new _ _ _
        case c2 => intro u hu; simp at hu; subst hu; rfl
        case c3 => unfold maxLen; omega
        case c4 => omega
        case c5 => simp; omega
        · intro v' w2 hown' hgrow _
          go_wp2
          go_roundw
          case rel =>
            refine ⟨rest.extract q rest.size, xs ++ [r], rfl, by rw [ByteArray.size_extract]; omega, by rw [ByteArray.size_extract]; simp; omega, by simpa [rv] using hown', by rw [HX.out, ← HA.out]; simp, by rw [HO.out, HX.out], ?_⟩
            exact (hbw1.alloc hs1 _).grown hgrow (by simp; omega) (fun k hk => own_ge hown1 k hk)
          case measure =>
            show (rest.extract q rest.size).size < rest.size
            rw [ByteArray.size_extract]; omega
end Go.Proofs.YtkeegnhjemhblaaGreatDoor.Nm
/-
  The contracts of the reference's Check, Runes and Less.
-/
namespace Go.Proofs.YtkeegnhjemhblaaGreatDoor.Nm
open Go.RowKit

/-- A row of runes that the call owns, read in a later world. -/
theorem row_cells {w : World} {base : Nat} {v : Value} {rs : List Nat} (h : w.ownsRow base 21 1 v rs.length (rs.map rv)) (hne : rs ≠ []) :
    ∃ g cap, v = .slice (some ⟨g, 0, none⟩) rs.length cap ∧ g < w.heap.size ∧ ∀ (j r : Nat), rs[j]? = some r → w.cell? ⟨g, j, none⟩ = some (.int .i32 (r : Int)) := by
  obtain ⟨hl, ⟨rfl, h0⟩ | ⟨g, cap, cur, rfl, hg, hh, hn, hcap, hsz, ht⟩⟩ := h
  · exact absurd (List.eq_nil_of_length_eq_zero h0) hne
  · refine ⟨g, cap, rfl, (Array.getElem?_eq_some_iff.1 hh).1, fun j r hj => ?_⟩
    have hj' : j < rs.length := (List.getElem?_eq_some_iff.1 hj).1
    have e : cur[j]? = some (rv r) := by
      have := congrArg (fun l => l[j]?) ht
      simp only [List.getElem?_map, hj, Option.map_some] at this
      rw [List.getElem?_take_of_lt (by omega), Array.getElem?_toList] at this
      exact this
    unfold rv at e
    simp only [World.cell?, hh]
    simpa using e

theorem runesFine_runes (l : List UInt8) : runesFine l = (runes l).all fine := by
  simp only [runesFine, runes, List.all_map]; rfl

theorem chkN_no {l : List UInt8} (h : lenFine l = false) : chkN l = 10 := by rw [chkN, chk, h]; rfl

set_option maxHeartbeats 2000000 in
set_option maxRecDepth 100000 in
theorem ref_check (s : ByteArray) (w : World) (hT : Tabs w) :
    Calls Tryz.prog 104 #[.string s] w fun e w' => e = .returned (.int .i64 (chkN s.data.toList)) ∧ Below w.heap.size w w' := by
  have hsz := Lib.size_eq s
  by_cases h1 : s.size < 1
  · have HF : Hid (chkN s.data.toList = 10) := Lib.hid (chkN_no (by
      have : s.data.toList = [] := List.eq_nil_of_length_eq_zero (by omega)
      rw [this]; rfl))
    clear hsz
    go_enter Tryz.func104, Tryz.ntmps104
    go_wp2
    go_ret
    exact ⟨by rw [HF.out]; rfl, Below.refl _ _⟩
  by_cases h2 : 255 < s.size
  · have HF : Hid (chkN s.data.toList = 10) := Lib.hid (chkN_no (by
      have : decide (s.data.toList.length ≤ 255) = false := by simp only [decide_eq_false_iff_not]; omega
      rw [lenFine, this]; simp))
    have h1' : 1 ≤ s.size := by omega
    clear hsz h1
    go_enter Tryz.func104, Tryz.ntmps104
    go_wp2
    go_ret
    exact ⟨by rw [HF.out]; rfl, Below.refl _ _⟩
  have h1' : 1 ≤ s.size := by omega
  have h2' : s.size ≤ 255 := by omega
  clear h1 h2
  cases h3 : s.toList == [46] with
  | true =>
    have HF : Hid (chkN s.data.toList = 10) := Lib.hid (by
      have e : s.data.toList = [46] := by rw [← Lib.toList_data]; simpa using h3
      rw [e]; decide)
    clear hsz
    go_enter Tryz.func104, Tryz.ntmps104
    go_wp2
    go_ret
    exact ⟨by rw [HF.out]; rfl, Below.refl _ _⟩
  | false =>
  cases h4 : s.toList == [46, 46] with
  | true =>
    have HF : Hid (chkN s.data.toList = 10) := Lib.hid (by
      have e : s.data.toList = [46, 46] := by rw [← Lib.toList_data]; simpa using h4
      rw [e]; decide)
    clear hsz
    go_enter Tryz.func104, Tryz.ntmps104
    go_wp2
    go_ret
    exact ⟨by rw [HF.out]; rfl, Below.refl _ _⟩
  | false =>
  have hr := ref_runes s w hT (by omega)
  cases h5 : okB s.data.toList with
  | false =>
    have HF : Hid (chkN s.data.toList = 10) := Lib.hid (chkN_no (by rw [lenFine, h5]; rfl))
    unfold RunesPost at hr
    rw [h5] at hr
    have HR := Lib.hid hr
    clear hsz hr h5
    go_enter Tryz.func104, Tryz.ntmps104
    go_wp2_with fail
    refine HR.out.mono ?_
    rintro e w1 ⟨v, rfl, ho, hb⟩
    go_wp2
    go_ret
    exact ⟨by rw [HF.out]; rfl, hb⟩
  | true =>
    have hn1 : 1 ≤ (runes s.data.toList).length := by
      rw [runes_length, count_cons _ (by intro e; have := congrArg List.length e; rw [List.length_nil] at this; omega)]; omega
    have hn2 : (runes s.data.toList).length ≤ 255 := by rw [runes_length]; have := count_le s.data.toList; omega
    have hlf : lenFine s.data.toList = decide ((runes s.data.toList).length ≤ 64) := by
      rw [Lib.toList_data] at h3 h4
      rw [lenFine, h5, h3, h4, ← runes_length]
      have a1 : decide (1 ≤ (runes s.data.toList).length) = true := by simpa using hn1
      have a2 : decide (s.data.toList.length ≤ 255) = true := by simp; omega
      rw [a1, a2]; simp
    have hrf := runesFine_runes s.data.toList
    unfold RunesPost at hr
    rw [h5] at hr
    simp only [if_true] at hr
    generalize hrs : runes s.data.toList = rs at *
    have HR := Lib.hid hr; have HRF := Lib.hid hrf; have HLF := Lib.hid hlf
    clear hsz hr h5 hrs hrf hlf
    by_cases h6 : 64 < rs.length
    · have HF : Hid (chkN s.data.toList = 10) := Lib.hid (chkN_no (by rw [HLF.out]; simp; omega))
      go_enter Tryz.func104, Tryz.ntmps104
      go_wp2_with fail
      refine HR.out.mono ?_
      rintro e w1 ⟨v, rfl, ho, hb⟩
      obtain ⟨g, cap, rfl, hg, hcell⟩ := row_cells ho (by intro e; rw [e] at hn1; simp at hn1)
      clear ho hcell
      go_wp2
      go_ret
      exact ⟨by rw [HF.out]; rfl, hb⟩
    · have h6' : rs.length ≤ 64 := by omega
      clear h6
      go_enter Tryz.func104, Tryz.ntmps104
      go_wp2_with fail
      refine HR.out.mono ?_
      rintro e w1 ⟨v, rfl, ho, hb⟩
      obtain ⟨g, cap, rfl, hg, hcell⟩ := row_cells ho (by intro e; rw [e] at hn1; simp at hn1)
      have HC := Lib.hid hcell
      clear ho hcell
      go_wp2
      go_loop [5] (fun s5 => ∃ k : Nat, k ≤ rs.length ∧ s5 = .int .i64 k ∧ (∀ (j r : Nat), j < k → rs[j]? = some r → fine r = true)) (fun s5 => rs.length - (intOf s5).toNat)
      case atStart => exact ⟨0, by omega, rfl, fun j r h => by omega⟩
      case round =>
        obtain ⟨k, hk, rfl, hall⟩ := hrel
        have HA := Lib.hid hall
        clear hall
        by_cases hlt : k < rs.length
        · obtain ⟨r, hkr⟩ : ∃ r, rs[k]? = some r := ⟨rs[k], List.getElem?_eq_getElem hlt⟩
          have hc := HC.out k r hkr
          have HK := Lib.hid hkr
          clear hkr
          cases hf : fine r with
          | true =>
            have HFN := Lib.hid hf
            have hn1 : ¬ r < 32 ∧ ¬ r = 127 ∧ ¬ r = 47 := by simpa [fine, and_assoc] using hf
            have t2 : ((r : Int) == 127) = false := by rw [beq_eq_false_iff_ne]; omega
            have t3 : ((r : Int) == 47) = false := by rw [beq_eq_false_iff_ne]; omega
            have t1 : 32 ≤ r := by omega
            clear hf hn1
            go_wp2
            go_round
            case rel =>
              refine ⟨k + 1, by omega, by go_num, fun j x hj hjx => ?_⟩
              by_cases e : j = k
              · subst e; rw [HK.out] at hjx; cases hjx; exact HFN.out
              · exact HA.out j x (by omega) hjx
            case measure => simp [intOf]; omega
          | false =>
            have HF : Hid (chkN s.data.toList = 10) := Lib.hid (by
              have : rs.all fine = false := by
                rw [List.all_eq_false]; exact ⟨r, List.mem_of_getElem? HK.out, by simp [hf]⟩
              rw [chkN, chk, HRF.out, this]; simp)
            have hn1 : r < 32 ∨ r = 127 ∨ r = 47 := by
              by_cases a : r < 32 ∨ r = 127 ∨ r = 47
              · exact a
              · exfalso; have : fine r = true := by { simp [fine]; omega }
                rw [this] at hf; cases hf
            clear hf
            rcases hn1 with t1 | rfl | rfl
            all_goals
              go_wp2
              go_ret
              exact ⟨by rw [HF.out]; rfl, hb⟩
        · have HF : Hid (chkN s.data.toList = 0) := Lib.hid (by
            have : rs.all fine = true := by
              rw [List.all_eq_true]
              intro x hx
              obtain ⟨j, hj, e⟩ := List.getElem_of_mem hx
              exact HA.out j x (by omega) (by rw [List.getElem?_eq_getElem hj, e])
            have h64 : decide (rs.length ≤ 64) = true := by simpa using h6'
            rw [chkN, chk, HRF.out, HLF.out, this, h64]; rfl)
          go_wp2
          go_ret
          exact ⟨by rw [HF.out]; rfl, hb⟩
end Go.Proofs.YtkeegnhjemhblaaGreatDoor.Nm
/-
  The contract of the reference's Copy.
-/
namespace Go.Proofs.YtkeegnhjemhblaaGreatDoor.Rb
open Go.RowKit Go.Maps Go.WideMaps Go.Proofs.YtkeegnhjemhblaaGreatDoor.Rf

theorem chk_no {l : List UInt8} (h : Nm.chk l = false) : Nm.chkN l = 10 := by rw [Nm.chkN, h]; rfl
theorem chk_yes {l : List UInt8} (h : Nm.chk l = true) : Nm.chkN l = 0 := by rw [Nm.chkN, h]; rfl
theorem at_len {B : Nat} {w : World} {r : Nat} {v : Value} {Z : BM} (h : RBk B w r v Z) {i : Nat} {k : List UInt8} {n : Value × List En} (hz : Z[i]? = some (k, n)) : ∀ w' : World, Below w.heap.size w w' → ∃ g c, v = .slice (some ⟨g, 0, none⟩) Z.length c ∧ w'.cell? ⟨r, 0, none⟩ = some (.slice (some ⟨g, 0, none⟩) Z.length c) ∧ w'.cell? ⟨g, i * 2 + 1, none⟩ = some n.1 := fun w' hb => by
  obtain ⟨g, c, hv, _, hc⟩ := (h.below hb).cells (by have := (List.getElem?_eq_some_iff.1 hz).1; omega)
  exact ⟨g, c, hv, by rw [← hv]; exact cell_of_heap (h.below hb).book, (hc i _ hz).2⟩
set_option linter.unusedSimpArgs false in
set_option maxHeartbeats 8000000 in
set_option maxRecDepth 100000 in
theorem rcopy_any (B : Nat) (w : World) (hT : Nm.Tabs w) (r : Nat) (v : Value) (Z : BM) (s t : List UInt8) (ok : OkB (plainB Z)) (h : RBk B w r v Z) :
    Calls Tryz.prog 59 #[ptr r, .string ⟨s.toArray⟩, .string ⟨t.toArray⟩] w (RBPost B w r v Z (copyB (plainB Z) s t).1 (copyB (plainB Z) s t).2) := by
  obtain ⟨i0, hi0, hz0, hz1, hz2⟩ := info_parts infoEn
  have hz3 := zeroEn_size
  have hn : Z.length ≤ 64 := by rw [← plain_length]; exact ok.size
  have AT : Hid (∀ (w' : World) (k : List UInt8), Below w.heap.size w w' → Calls Tryz.prog 43 #[ptr r, .string ⟨k.toArray⟩] w' fun e w2 => e = .returned (.int .i64 (atI Z k)) ∧ Below w'.heap.size w' w2) := Lib.hid (fun w' k hb => rat_any B w' r v Z k (by omega) (h.below hb))
  have CK : Hid (∀ w' : World, Below w.heap.size w w' → Calls Tryz.prog 104 #[.string ⟨t.toArray⟩] w' fun e w2 => e = .returned (.int .i64 (Nm.chkN t)) ∧ Below w'.heap.size w' w2) := Lib.hid (fun w' hb => Nm.ref_check ⟨t.toArray⟩ w' (hT.below hb))
  obtain ⟨va, vc, rfl⟩ := rowS_slice h.row
  have KV : Hid (∀ w' : World, Below w.heap.size w w' → w'.cell? ⟨r, 0, none⟩ = some (.slice va Z.length vc)) := Lib.hid (fun w' hb => cell_of_heap (h.below hb).book)
  have H := Lib.hid h
  have HO := Lib.hid ok
  obtain ⟨P, hP⟩ : ∃ P, P = copyB (plainB Z) s t := ⟨_, rfl⟩
  rw [← hP]
  have HP := Lib.hid hP
  clear h ok hT hP
  unfold ptr at *
  cases ha : atN Z s with
  | none =>
    obtain ⟨_, e2⟩ := logV_none ha
    have HR : Hid (P = (6, plainB Z)) := Lib.hid (by rw [HP.out, copyB, plain_get, (at_none ha).1]; rfl)
    have A1 := AT.out w s (Below.refl _ _)
    rw [e2] at A1
    clear e2 ha
    go_enter Tryz.func59, Tryz.ntmps59
    go_wp2_with fail
    refine A1.mono ?_
    rintro ex w1 ⟨rfl, hb1⟩
    go_wp2
    go_ret
    rw [HR.out]
    exact rbPost_same H.out hb1 rfl
  | some i =>
    obtain ⟨n, hz, hg⟩ := at_some ha
    obtain ⟨x0, l⟩ := n
    obtain ⟨_, e2⟩ := logV_some ha hg
    have A1 := AT.out w s (Below.refl _ _)
    rw [e2] at A1
    have A1 := Lib.hid A1
    have hil : i < Z.length := (List.getElem?_eq_some_iff.1 hz).1
    have HK : Hid (getM (plainB Z) s = some l) := Lib.hid (by rw [plain_get, hg]; rfl)
    have HZ := Lib.hid hz
    have hge : ¬ (i : Int) < 0 := by omega
    clear e2 ha hg hz
    go_enter Tryz.func59, Tryz.ntmps59
    go_wp2_with fail
    refine A1.out.mono ?_
    rintro ex w1 ⟨rfl, hb1⟩
    have HB1 := Lib.hid hb1
    have C1 := Lib.hid (CK.out w1 hb1)
    clear hb1 A1
    cases hc : Nm.chk t with
    | false =>
      have HR : Hid (P = (10, plainB Z)) := Lib.hid (by rw [HP.out, copyB, HK.out, hc]; rfl)
      rw [chk_no hc] at C1
      clear hc
      go_wp2_with fail
      refine C1.out.mono ?_
      rintro ex w2 ⟨rfl, hb2⟩
      go_wp2
      go_ret
      rw [HR.out]
      exact rbPost_same H.out (HB1.out.trans (hb2.mono HB1.out.size)) rfl
    | true =>
      rw [chk_yes hc] at C1
      have HC := Lib.hid hc
      clear hc
      go_wp2_with fail
      refine C1.out.mono ?_
      rintro ex w2 ⟨rfl, hb2⟩
      have HB2 : Hid (Below w.heap.size w w2) := Lib.hid (HB1.out.trans (hb2.mono HB1.out.size))
      have A2 := AT.out w2 t HB2.out
      clear hb2 C1
      cases hat : atN Z t with
      | some j =>
        obtain ⟨m, _, hgm⟩ := at_some hat
        obtain ⟨_, e3⟩ := logV_some hat hgm
        have HR : Hid (P = (7, plainB Z)) := Lib.hid (by rw [HP.out, copyB, HK.out, HC.out, plain_get, hgm]; rfl)
        rw [e3] at A2
        have A2 := Lib.hid A2
        have hj : (0 : Int) ≤ (j : Int) := by omega
        clear e3 hat hgm
        go_wp2_with fail
        refine A2.out.mono ?_
        rintro ex w3 ⟨rfl, hb3⟩
        go_wp2
        go_ret
        rw [HR.out]
        exact rbPost_same H.out (HB2.out.trans (hb3.mono HB2.out.size)) rfl
      | none =>
        obtain ⟨_, e3⟩ := logV_none hat
        have HGN : Hid (getM (plainB Z) t = none) := Lib.hid (by rw [plain_get, (at_none hat).1]; rfl)
        rw [e3] at A2
        have A2 := Lib.hid A2
        have HAT := Lib.hid hat
        clear e3 hat
        go_wp2_with fail
        refine A2.out.mono ?_
        rintro ex w3 ⟨rfl, hb3⟩
        have HB3 : Hid (Below w.heap.size w w3) := Lib.hid (HB2.out.trans (hb3.mono HB2.out.size))
        have k3 := KV.out w3 HB3.out
        clear hb3 A2
        by_cases hfull : 64 ≤ Z.length
        · have HR : Hid (P = (3, plainB Z)) := Lib.hid (by rw [HP.out, copyB, HK.out, HC.out, HGN.out, plain_length]; simp [hfull])
          have hf : (64 : Int) ≤ (Z.length : Int) := by omega
          clear hfull
          go_wp2
          go_ret
          rw [HR.out]
          exact rbPost_same H.out HB3.out rfl
        · have HR : Hid (P = (0, putM (plainB Z) t l)) := Lib.hid (by rw [HP.out, copyB, HK.out, HC.out, HGN.out, plain_length]; simp [hfull])
          have hf : ¬ (64 : Int) ≤ (Z.length : Int) := by omega
          have HF : Hid (Z.length < 64) := Lib.hid (by omega)
          obtain ⟨g, c, hv, k4, k5⟩ := at_len H.out HZ.out w3 HB3.out
          injection hv with e1 _ e4
          subst e1 e4
          obtain ⟨wa, hwa⟩ : ∃ wa, wa = w3.alloc (.cells #[] EnT) := ⟨_, rfl⟩
          have hba : Below w3.heap.size w3 wa := by rw [hwa]; exact (Below.refl _ _).alloc (Nat.le_refl _) _
          have hoa : wa.ownsRow w3.heap.size EnT 33 (.slice (some ⟨w3.heap.size, 0, none⟩) 0 0) 0 [] := by rw [hwa]; exact own_noneN 33 w3 EnT
          have HWA := Lib.hid hwa; have HBA : Hid (Below w.heap.size w wa) := Lib.hid (HB3.out.trans (hba.mono HB3.out.size)); have HOA := Lib.hid hoa
          have HSA : Hid (w3.heap.size ≤ wa.heap.size) := Lib.hid hba.size
          have hll : l.length ≤ 4096 := HO.out.len (s, l) (getM_mem HK.out)
          have hent : ∀ e ∈ l, e.c.length = 32 ∧ 0 ≤ e.t ∧ e.t ≤ 1099511627776 := HO.out.ent (s, l) (getM_mem HK.out)
          have HLL : Hid (l.length ≤ 4096 ∧ (cellsL l).length = l.length * 33) := Lib.hid ⟨hll, by rw [cellsL_length (fun e he => (hent e he).1)]; omega⟩
          have HH : Hid (HoldN wa x0 l.length (cellsL l)) := Lib.hid (hold_row (rowS_kept (H.out.each (s, (x0, l)) (List.mem_of_getElem? HZ.out)) (fun b _ hl => HBA.out.block b hl)))
          have h0 : (0 : Int) ≤ (i : Int) := by omega
          have hi2 : (i : Int) < (Z.length : Int) := by omega
          obtain ⟨xa, xcc, hxe⟩ : ∃ a c, x0 = .slice a l.length c := rowS_slice (H.out.each (s, (x0, l)) (List.mem_of_getElem? HZ.out))
          subst hxe
          have k6 : (w3.alloc (.cells #[] EnT)).cell? ⟨r, 0, none⟩ = some (.slice (some ⟨g, 0, none⟩) Z.length vc) := by rw [← hwa]; exact KV.out wa HBA.out
          have k7 : (w3.alloc (.cells #[] EnT)).cell? ⟨g, i * 2 + 1, none⟩ = some (.slice xa l.length xcc) := by
            rw [← hwa]
            obtain ⟨g', c', hv', _, k⟩ := at_len H.out HZ.out wa HBA.out
            injection hv' with e1 _ _
            injection e1 with e1
            injection e1 with e1
            subst e1; exact k
          clear hwa hba hoa hll hent k4 k5 hfull
          go_wp2_with (first
            | (at_builtin; refine wpList_appendN 33 (by decide) rfl _ _ 99 rfl w3.heap.size EnT i0 _ 40 Tryz.underlying99 hi0 hz0 hz1 hz2 hz3 (.slice (some ⟨w3.heap.size, 0, none⟩) 0 0) 0 [] rfl (by have h := HOA.out; rw [HWA.out] at h; exact h) _ l.length (cellsL l) rfl (by have h := HH.out; rw [HWA.out] at h; exact h) HLL.out.2 (cellsL_one l) (by have := HLL.out; unfold maxLen; omega) (by have := HLL.out; omega) (by have h := HSA.out; rw [HWA.out] at h; exact h) ?_
               intro x5 w5 ho5 hg5 hv5
               rw [Nat.zero_add, List.nil_append] at ho5
               obtain ⟨a5, c5, rfl⟩ := rowS_slice ho5
               have HO5 := Lib.hid ho5
               have HB5 : Hid (Below w.heap.size w w5) := Lib.hid (HBA.out.grown (by rw [HWA.out]; exact hg5) (Nat.le_trans HB3.out.size HSA.out) (fun k hk => by have := HB3.out.size; have e : w3.heap.size = k := (by simpa [Value.ownBlock] using hk); omega))
               clear ho5 hg5 hv5)
            | fail)
          have HX5 : Hid (w5.ownsRow w.heap.size EnT 33 (.slice a5 l.length c5) l.length (cellsL l)) := Lib.hid (row_mono HO5.out HB3.out.size)
          have PU := rput_any B w5 r _ Z (t, (.slice a5 l.length c5, l)) hn rfl H.out.ones (H.out.below HB5.out)
          unfold ptr at PU
          refine PU.mono ?_
          rintro ex w6 ⟨rfl, hp⟩
          have HPP := Lib.hid hp
          clear hp PU
          go_wp2
          go_ret
          rw [HR.out]
          exact rbPost_new H.out HB5.out HX5.out HAT.out rfl HPP.out
end Go.Proofs.YtkeegnhjemhblaaGreatDoor.Rb
