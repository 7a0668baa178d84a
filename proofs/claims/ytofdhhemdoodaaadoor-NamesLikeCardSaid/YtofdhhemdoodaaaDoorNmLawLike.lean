/-
  The walk of the statement NamesLike.
-/
import Derived.Test.YtofdhhemdoodaaaDoorNmAwake
import Derived.Test.YtofdhhemdoodaaaDoorNmDbl
import Derived.WalkSmall
import Derived.Lib.OthersKept
namespace Go.Proofs.YtofdhhemdoodaaaDoor.Nm
open Go.RowKit

def TruePost (w : World) (e : Ending) (w' : World) : Prop := e = .returned (.bool true) ∧ Below w.heap.size w w'

def rv (r : Nat) : Value := .int .i32 (r : Int)

set_option maxHeartbeats 1000000 in
set_option maxRecDepth 100000 in
theorem like_no (n p : ByteArray) (at' : Int) (w : World) (hn : n.size ≤ 140737488355328) (hc : chk n.data.toList = false) :
    Calls Tryd.prog 3 #[.string n, .string p, .int .u8 at'] w (TruePost w) := by
  have h1 := check_any n w (by unfold maxLen; omega)
  have h2 := fun w => match_any ⟨#[42]⟩ n w (by decide) (by unfold maxLen; omega)
  have e1 : chkN n.data.toList = 10 := by rw [chkN, hc]; rfl
  have e2 : matchR (⟨#[42]⟩ : ByteArray).data.toList n.data.toList = (false, 10) := match_star_no hc
  rw [e1] at h1
  rw [e2] at h2
  have H2 := Lib.hid h2
  clear h2 e1 e2 hc
  go_enter Tryd.func3, Tryd.ntmps3
  go_wp2_with fail
  refine h1.mono ?_
  rintro e w1 ⟨rfl, hb1⟩
  go_wp2_with fail
  refine (H2.out _).mono ?_
  rintro e w2 ⟨rfl, hb2⟩
  go_wp2_with fail
  refine (awake_any _).mono ?_
  rintro e w3 ⟨rfl, hb3⟩
  go_wp2
  go_ret
  exact ⟨rfl, hb1.trans ((hb2.trans (hb3.mono hb2.size)).mono hb1.size)⟩

theorem own_ge {w : World} {base : Nat} {e : TypeId} {size : Nat} {v : Value} {n : Nat} {xs : List Value} (h : w.ownsRow base e size v n xs) : ∀ k, v.ownBlock = some k → base ≤ k := by
  intro k hk
  obtain ⟨_, ⟨rfl, _⟩ | ⟨g, cap, cur, rfl, hg, _⟩⟩ := h
  · simp [Value.ownBlock] at hk
  · simp [Value.ownBlock] at hk; omega

/-- What an append to an owned row leaves: a block below it stands, and the frame goes on. -/
theorem kept_of_grown {W w2 : World} {B : Nat} {e : TypeId} {v : Value} {n : Nat} {xs : List Value} {o x : Obj} (hx : W.heap[B]? = some x) (hown : W.ownsRow (B + 1) e 1 v n xs) (hg : (W.alloc o).grownBy w2 v.ownBlock) :
    w2.heap[B]? = some x := by
  have hB : B < W.heap.size := (Array.getElem?_eq_some_iff.1 hx).1
  rw [hg.block B (by simp; omega) (fun e => by have := own_ge hown B e.symm; omega)]
  rw [← hx]; exact Below.heap_alloc _ _ _ hB

theorem below_of_grown {w1 W w2 : World} {B : Nat} {e : TypeId} {v : Value} {n : Nat} {xs : List Value} {o : Obj} (hb : Below B w1 W) (hB : B ≤ W.heap.size) (hown : W.ownsRow (B + 1) e 1 v n xs) (hg : (W.alloc o).grownBy w2 v.ownBlock) :
    Below B w1 w2 :=
  (hb.alloc hB o).grown hg (by simp; omega) (fun k hk => by have := own_ge hown k hk; omega)

theorem plainB_snoc (xs : List Nat) (r : Nat) : plainB (xs ++ [r]) = (plainB xs && (!(r == 63) && !(r == 42))) := by
  simp [plainB, List.all_append]

theorem setCell_heap (w : World) (g j : Nat) (v : Value) (cur : Array Value) (T : TypeId) (h : w.heap[g]? = some (.cells cur T)) :
    (w.setCell ⟨g, j, none⟩ v).heap[g]? = some (.cells (cur.setIfInBounds j v) T) := by
  simp [World.setCell, Array.getElem?_modify, h]

theorem cell_of_heap {w : World} {g j : Nat} {cur : Array Value} {T : TypeId} (h : w.heap[g]? = some (.cells cur T)) : w.cell? ⟨g, j, none⟩ = cur[j]? := by
  simp [World.cell?, h]
theorem frozen_of_heap {w : World} {g j : Nat} {cur : Array Value} {T : TypeId} (h : w.heap[g]? = some (.cells cur T)) : w.frozen? ⟨g, j, none⟩ = false := by
  simp [World.frozen?, h]

/-- A row of runes, one of them written over, turned into a text. -/
theorem conv_set (w : World) (g i cap : Nat) (cur : Array Value) (rs : List Nat) (h : w.heap[g]? = some (.cells cur 21)) (hs : rs.length ≤ cur.size) (ht : cur.toList.take rs.length = rs.map rv) (hi : i < rs.length) :
    (convert 27 9 (.slice (some ⟨g, 0, none⟩) rs.length cap)).run Tryd.prog (w.setCell ⟨g, i, none⟩ (.int .i32 63)) = .ok (.string (runesBytes ((rs.set i 63).map Int.ofNat))) (w.setCell ⟨g, i, none⟩ (.int .i32 63)) := by
  have hh := setCell_heap w g i (.int .i32 63) cur 21 h
  have := run_convert_runes (P := Tryd.prog) (w.setCell ⟨g, i, none⟩ (.int .i32 63)) 27 9 21 ⟨g, 0, none⟩ rs.length cap ((rs.set i 63).map Int.ofNat) (by simp) Tryd.underlying27 Tryd.underlying21 Tryd.underlying9 (by
    intro j hj
    have hj' : j < rs.length := by simpa using hj
    rw [Addr.add_lit, Nat.zero_add, cell_of_heap hh, Array.getElem?_setIfInBounds]
    have e : cur[j]? = some (rv rs[j]) := by
      have := congrArg (fun l => l[j]?) ht
      simp only [List.getElem?_map, List.getElem?_eq_getElem hj', Option.map_some] at this
      rw [List.getElem?_take_of_lt hj', Array.getElem?_toList] at this
      exact this
    by_cases hij : i = j
    · subst hij
      rw [if_pos rfl, if_pos (by omega)]
      simp [List.getD, hi]
    · rw [if_neg hij, e]
      simp [List.getD, hij, List.getElem?_eq_getElem hj', rv])
  rw [List.take_of_length_le (by simp)] at this
  exact this

theorem infoInt32 : (Tryd.prog.info? 21).map (fun i => (i.zero, i.size, i.bytes)) = some (some (.int .i32 0), 1, 4) := by kernel_rfl

set_option maxHeartbeats 4000000 in
set_option maxRecDepth 100000 in
theorem like_yes (n p : ByteArray) (at' : Int) (w : World) (hat : 0 ≤ at' ∧ at' ≤ 255) (hn : n.size ≤ 140737488355328) (hp : p.size ≤ 140737488355328) (hc : chk n.data.toList = true) :
    Calls Tryd.prog 3 #[.string n, .string p, .int .u8 at'] w (TruePost w) := by
  have h1 := check_any n w (by unfold maxLen; omega)
  have e1 : chkN n.data.toList = 0 := by rw [chkN, hc]; rfl
  rw [e1] at h1
  have hn255 := chk_255 hc
  rw [← Lib.size_eq] at hn255
  obtain ⟨i0, hi, hz0, hz1, hz2⟩ := info_parts infoInt32
  have HCN := Lib.hid hc
  have HSZ := Lib.hid (Lib.size_eq n)
  clear hc e1
  go_enter Tryd.func3, Tryd.ntmps3
  go_wp2_with fail
  refine h1.mono ?_
  rintro e w1 ⟨rfl, hb1⟩
  clear h1
  go_wp2
  go_loopw [9, 10] (fun s9 s10 wr => ∃ (pos : Nat) (xs : List Nat), s9 = .bool (plainB xs) ∧ wr.ownsRow (w1.heap.size + 1) 21 1 s10 xs.length (xs.map rv) ∧ wr.heap[w1.heap.size]? = some (.stringIter n pos) ∧
    xs ++ runes (n.data.toList.drop pos) = runes n.data.toList ∧ Below w1.heap.size w1 wr) (fun _ _ w' => n.size - w'.iterPos w1.heap.size)
  case atStart =>
    refine ⟨0, [], rfl, ⟨rfl, .inl ⟨rfl, rfl⟩⟩, ?_, by simp, (Below.refl _ _).alloc (Nat.le_refl _) _⟩
    show (w1.heap.push _)[w1.heap.size]? = _
    simp
  case round =>
    obtain ⟨pos, xs, rfl, hown, hit, happ, hbw⟩ := hrel
    by_cases hps : pos < n.size
    · have hne := ne_of_lt (HSZ.out ▸ hps : pos < n.data.toList.length)
      have hnx : ∀ ty, (Instr.next (.pointer (some ⟨w1.heap.size, 0, none⟩)) true ty).run Tryd.prog wr = _ := fun ty => Lib.run_next_any_at wr w1.heap.size n pos ty hit hps
      rw [decode_drop] at hnx
      have hwd := dec_width _ hne
      rw [runes_cons _ hne, List.drop_drop] at happ
      have hdb := dec_bound (n.data.toList.drop pos)
      obtain ⟨W, hWd⟩ : ∃ W, wr.iterAt w1.heap.size n (pos + (dec (n.data.toList.drop pos)).2) = W := ⟨_, rfl⟩
      have hownW : W.ownsRow (w1.heap.size + 1) 21 1 _ xs.length (xs.map rv) := hWd ▸ ownsRow_iterAt hown (Nat.lt_succ_self _) _ _
      have hitW : W.heap[w1.heap.size]? = some (.stringIter n (pos + (dec (n.data.toList.drop pos)).2)) := hWd ▸ Lib.iterAt_heap wr w1.heap.size n pos _ hit
      have hbwW : Below w1.heap.size w1 W := hWd ▸ Lib.below_iterAt hbw (k := w1.heap.size) (Nat.le_refl _) n _
      rw [hWd] at hnx
      have hpos0 : wr.iterPos w1.heap.size = pos := iterPos_of hit
      generalize (dec (n.data.toList.drop pos)).1 = r at *
      generalize (dec (n.data.toList.drop pos)).2 = wd at *
      have hxl : xs.length < 256 := by
        have h := congrArg List.length happ
        rw [List.length_append, runes_length, List.length_cons] at h
        have := count_le n.data.toList
        have := HSZ.out
        omega
      have hsz0 : w1.heap.size < W.heap.size := by
        have := (Array.getElem?_eq_some_iff.1 hitW).1; exact this
      have HAP := Lib.hid happ; have HIT := Lib.hid hitW; have HWD := Lib.hid hWd; have HP0 := Lib.hid hpos0
      clear happ hitW hWd hit hown hbw hpos0
      cases hpl : plainB xs with
      | false =>
        have HPL := Lib.hid hpl
        clear hpl
        go_wp2_with (at_builtin; refine wpList_append_own _ rfl _ _ 27 rfl (w1.heap.size + 1) 21 i0 (.int .i32 0) 1 4 Tryd.underlying27 hi hz0 hz1 hz2 rfl (by decide) _ _ _ rfl (hownW.alloc _) ⟨W.heap.size, 0, none⟩ 1 1 [.int .i32 r] rfl rfl ?c1 ?c2 ?c3 ?c4 ?c5 ?_)
        case c1 => exact cell_one_new _ _ _
        case c2 => intro u hu; simp at hu; subst hu; rfl
        case c3 => unfold maxLen; omega
        case c4 => omega
        case c5 => simp; omega
        · intro v' w2 hown' hgrow _
          go_wp2
          go_roundw
          case rel =>
            refine ⟨pos + wd, xs ++ [r], by rw [plainB_snoc, HPL.out]; rfl, ?_, kept_of_grown HIT.out hownW hgrow, by rw [← HAP.out]; simp, below_of_grown hbwW (by omega) hownW hgrow⟩
            simpa [rv] using hown'
          case measure =>
            rw [iterPos_of (kept_of_grown HIT.out hownW hgrow), HP0.out]; omega
      | true =>
        have HPL := Lib.hid hpl
        clear hpl
        by_cases hq : r = 63
        · have b63 : ((r : Int) == 63) = true := by rw [beq_iff_eq]; omega
          have b63' : ((r : Int) != 63) = false := by rw [bne, b63]; rfl
          have HV : Hid ((!(r == 63) && !(r == 42)) = false) := Lib.hid (by simp; omega)
          clear hq
          go_wp2_with (at_builtin; refine wpList_append_own _ rfl _ _ 27 rfl (w1.heap.size + 1) 21 i0 (.int .i32 0) 1 4 Tryd.underlying27 hi hz0 hz1 hz2 rfl (by decide) _ _ _ rfl (hownW.alloc _) ⟨W.heap.size, 0, none⟩ 1 1 [.int .i32 r] rfl rfl ?c1 ?c2 ?c3 ?c4 ?c5 ?_)
          case c1 => exact cell_one_new _ _ _
          case c2 => intro u hu; simp at hu; subst hu; rfl
          case c3 => unfold maxLen; omega
          case c4 => omega
          case c5 => simp; omega
          · intro v' w2 hown' hgrow _
            go_wp2
            go_roundw
            case rel =>
              refine ⟨pos + wd, xs ++ [r], by rw [plainB_snoc, HPL.out, HV.out]; rfl, ?_, kept_of_grown HIT.out hownW hgrow, by rw [← HAP.out]; simp, below_of_grown hbwW (by omega) hownW hgrow⟩
              simpa [rv] using hown'
            case measure =>
              rw [iterPos_of (kept_of_grown HIT.out hownW hgrow), HP0.out]; omega
        by_cases hq2 : r = 42
        · have hq := hq2
          clear hq2
          have b63 : ((r : Int) == 63) = false := by rw [beq_eq_false_iff_ne]; omega
          have b63' : ((r : Int) != 63) = true := by rw [bne, b63]; rfl
          have b42 : ((r : Int) == 42) = true := by rw [beq_iff_eq]; omega
          have b42' : ((r : Int) != 42) = false := by rw [bne, b42]; rfl
          have HV : Hid ((!(r == 63) && !(r == 42)) = false) := Lib.hid (by simp; omega)
          clear hq
          go_wp2_with (at_builtin; refine wpList_append_own _ rfl _ _ 27 rfl (w1.heap.size + 1) 21 i0 (.int .i32 0) 1 4 Tryd.underlying27 hi hz0 hz1 hz2 rfl (by decide) _ _ _ rfl (hownW.alloc _) ⟨W.heap.size, 0, none⟩ 1 1 [.int .i32 r] rfl rfl ?c1 ?c2 ?c3 ?c4 ?c5 ?_)
          case c1 => exact cell_one_new _ _ _
          case c2 => intro u hu; simp at hu; subst hu; rfl
          case c3 => unfold maxLen; omega
          case c4 => omega
          case c5 => simp; omega
          · intro v' w2 hown' hgrow _
            go_wp2
            go_roundw
            case rel =>
              refine ⟨pos + wd, xs ++ [r], by rw [plainB_snoc, HPL.out, HV.out]; rfl, ?_, kept_of_grown HIT.out hownW hgrow, by rw [← HAP.out]; simp, below_of_grown hbwW (by omega) hownW hgrow⟩
              simpa [rv] using hown'
            case measure =>
              rw [iterPos_of (kept_of_grown HIT.out hownW hgrow), HP0.out]; omega
        · have b63 : ((r : Int) == 63) = false := by rw [beq_eq_false_iff_ne]; omega
          have b63' : ((r : Int) != 63) = true := by rw [bne, b63]; rfl
          have b42 : ((r : Int) == 42) = false := by rw [beq_eq_false_iff_ne]; omega
          have b42' : ((r : Int) != 42) = true := by rw [bne, b42]; rfl
          have HV : Hid ((!(r == 63) && !(r == 42)) = true) := Lib.hid (by simp; omega)
          clear hq hq2
          go_wp2_with (at_builtin; refine wpList_append_own _ rfl _ _ 27 rfl (w1.heap.size + 1) 21 i0 (.int .i32 0) 1 4 Tryd.underlying27 hi hz0 hz1 hz2 rfl (by decide) _ _ _ rfl (hownW.alloc _) ⟨W.heap.size, 0, none⟩ 1 1 [.int .i32 r] rfl rfl ?c1 ?c2 ?c3 ?c4 ?c5 ?_)
          case c1 => exact cell_one_new _ _ _
          case c2 => intro u hu; simp at hu; subst hu; rfl
          case c3 => unfold maxLen; omega
          case c4 => omega
          case c5 => simp; omega
          · intro v' w2 hown' hgrow _
            go_wp2
            go_roundw
            case rel =>
              refine ⟨pos + wd, xs ++ [r], by rw [plainB_snoc, HPL.out, HV.out]; rfl, ?_, kept_of_grown HIT.out hownW hgrow, by rw [← HAP.out]; simp, below_of_grown hbwW (by omega) hownW hgrow⟩
              simpa [rv] using hown'
            case measure =>
              rw [iterPos_of (kept_of_grown HIT.out hownW hgrow), HP0.out]; omega
    · have hnx : ∀ ty, (Instr.next (.pointer (some ⟨w1.heap.size, 0, none⟩)) true ty).run Tryd.prog wr = _ := fun ty => Lib.run_next_end_at wr w1.heap.size n pos ty hit hps
      have hnil : n.data.toList.drop pos = [] := List.drop_eq_nil_of_le (by have := HSZ.out; omega)
      rw [hnil, runes_nil, List.append_nil] at happ
      have hrl := chk_ne HCN.out
      have hrl2 : (runes n.data.toList).length ≤ 255 := by
        rw [runes_length]; have := count_le n.data.toList; have := HSZ.out; omega
      subst happ
      obtain ⟨hlen0, ⟨rfl, h0⟩ | ⟨g, cap, cur, rfl, hg1, hgh, hgn, hgc, hgs, hgt⟩⟩ := hown
      · omega
      clear hlen0
      have m1 := fun w => match_any n n w (by unfold maxLen; omega) (by unfold maxLen; omega)
      have m2 := fun w => match_any ⟨#[42]⟩ n w (by decide) (by unfold maxLen; omega)
      have e1 : matchR (⟨#[42]⟩ : ByteArray).data.toList n.data.toList = (true, 0) := match_star HCN.out
      rw [match_self HCN.out] at m1
      rw [e1] at m2
      have m4 := fun (s : ByteArray) w (h : s.size ≤ maxLen) => match_any s n w h (by unfold maxLen; omega)
      have m3 := fun i => match_asked HCN.out i
      have hpl := fun h => like_plain (rs := runes n.data.toList) h
      have hpa := fun h i => like_asked (rs := runes n.data.toList) h i
      generalize runes n.data.toList = rs at *
      have M1 := Lib.hid m1; have M2 := Lib.hid m2; have M3 := Lib.hid m3; have M4 := Lib.hid m4; have PL := Lib.hid hpl; have PA := Lib.hid hpa
      have GH := Lib.hid hgh; have GS := Lib.hid hgs; have GT := Lib.hid hgt
      clear m1 m2 m3 m4 e1 hpl hpa hnil hgh hgs hgt hit
      go_wp2_with fail
      refine (M1.out _).mono ?_
      rintro e w2 ⟨rfl, hb2⟩
      go_wp2_with fail
      refine (M2.out _).mono ?_
      rintro e w3 ⟨rfl, hb3⟩
      have hgw : g < wr.heap.size := (Array.getElem?_eq_some_iff.1 GH.out).1
      have hh3 : w3.heap[g]? = some (.cells cur 21) := by
        rw [hb3.block g (Nat.lt_of_lt_of_le hgw hb2.size), hb2.block g hgw, GH.out]
      have hidx : (at' % (rs.length : Int)).toNat < rs.length := by
        have h1 := Int.emod_lt_of_pos at' (show (0 : Int) < rs.length by omega)
        have h2 := Int.emod_nonneg at' (show (rs.length : Int) ≠ 0 by omega)
        omega
      have hix0 : 0 ≤ at' % (rs.length : Int) := Int.emod_nonneg at' (by omega)
      have hix1 : at' % (rs.length : Int) < (rs.length : Int) := Int.emod_lt_of_pos at' (by omega)
      have hcs : rs.length ≤ cur.size := by rw [GS.out]; omega
      have hcv := conv_set w3 g (at' % (rs.length : Int)).toNat cap cur rs hh3 hcs (by have := GT.out; simpa using this) hidx
      obtain ⟨x, hx⟩ : ∃ x, cur[(at' % (rs.length : Int)).toNat]? = some x := ⟨_, Array.getElem?_eq_getElem (by omega)⟩
      have hcell : w3.cell? ⟨g, (at' % (rs.length : Int)).toNat, none⟩ = some x := by rw [cell_of_heap hh3]; exact hx
      have hfr : w3.frozen? ⟨g, (at' % (rs.length : Int)).toNat, none⟩ = false := frozen_of_heap hh3
      obtain ⟨S, hS⟩ : ∃ S : ByteArray, runesBytes ((rs.set (at' % (rs.length : Int)).toNat 63).map Int.ofNat) = S := ⟨_, rfl⟩
      have hSd : S.data.toList = encs (rs.set (at' % (rs.length : Int)).toNat 63) := by rw [← hS, runesBytes_encs]
      have hSs : S.size ≤ 1020 := by rw [← hS]; have := runesBytes_size_le ((rs.set (at' % (rs.length : Int)).toNat 63).map Int.ofNat); simp only [List.length_map, List.length_set] at this; omega
      have m5 := fun w => M4.out S w (by unfold maxLen; omega)
      rw [hSd, M3.out] at m5
      rw [hS] at hcv
      have hpa := fun h => PA.out h (at' % (rs.length : Int)).toNat
      have hB3 : Below w.heap.size w (w3.setCell ⟨g, (at' % (rs.length : Int)).toNat, none⟩ (.int .i32 63)) := by
        refine Below.setCell ?_ (by have := hb1.size; show _ ≤ g; omega) _
        have h2 := hbw.size
        exact hb1.trans (((hbw.trans ((hb2.trans (hb3.mono hb2.size)).mono h2))).mono hb1.size)
      generalize (rs.set (at' % (rs.length : Int)).toNat 63) = rs' at *
      have M5 := Lib.hid m5; have PA2 := Lib.hid hpa
      clear m5 hS hSd hh3 hx PA M3 M4 hpa
      cases hpl : plainB rs with
      | true =>
        have e1 : like rs rs = true := PL.out hpl
        have e2 : like rs' rs = true := PA2.out hpl
        rw [e2] at M5
        rw [e1]
        clear PL PA2 hpl e1 e2
        go_wp2_with fail
        refine (M5.out _).mono ?_
        rintro e w4 ⟨rfl, hb4⟩
        have hb40 := hB3.trans (hb4.mono hB3.size)
        clear hb4 hB3 hcv hcell hfr
        have m6 := fun w => match_any p n w (by unfold maxLen; omega) (by unfold maxLen; omega)
        have m7 := fun (T : ByteArray) w (h : T.size ≤ maxLen) => match_any T n w h (by unfold maxLen; omega)
        have mtw := match_tw p.data.toList n.data.toList
        generalize matchR p.data.toList n.data.toList = mp at *
        have M6 := Lib.hid m6; have M7 := Lib.hid m7; have MT := Lib.hid mtw
        clear m6 m7 mtw
        go_wp2_with fail
        refine (M6.out _).mono ?_
        rintro e w5 ⟨rfl, hb5⟩
        have hb50 := hb40.trans (hb5.mono hb40.size)
        clear hb40 hb5 hb2 hb3 hbw hb1
        go_wp2
        go_loopw [21, 22] (fun s21 s22 wr => ∃ (k : Nat) (T : ByteArray), k ≤ p.size ∧ s22 = .int .i64 k ∧ s21 = .string T ∧ T.data.toList = tw (p.data.toList.take k) ∧ T.size ≤ 2 * k ∧ wr = w5) (fun _ s22 _ => p.size - (intOf s22).toNat)
        case atStart => exact ⟨0, ⟨#[]⟩, by omega, rfl, rfl, rfl, by simp [ByteArray.size], rfl⟩
        case round =>
          obtain ⟨k, T, hk, rfl, rfl, hT, hTs, rfl⟩ := hrel
          have HT := Lib.hid hT
          clear hT
          by_cases hlt : k < p.size
          · obtain ⟨c, hkc⟩ : ∃ c, p.data.toList[k]? = some c := ⟨p.data.toList[k]'(by rw [← Lib.size_eq]; exact hlt), List.getElem?_eq_getElem _⟩
            have htk : p.data.toList.take (k + 1) = p.data.toList.take k ++ [c] := by rw [List.take_add_one, hkc]; rfl
            have hx1 : (p.extract k (k + 1)).data.toList = [c] := by
              rw [Lib.extract_data, show k + 1 - k = 1 by omega, List.take_one, List.head?_drop, hkc]; rfl
            have hx2 : (p.extract k (k + 1)).size = 1 := by rw [Lib.size_eq, hx1]; rfl
            have hpk : p[k]'hlt = c := by
              have h := (List.getElem?_eq_some_iff.1 hkc).2
              rw [← h]; exact (Array.getElem_toList (xs := p.data) hlt).symm
            have HX1 := Lib.hid hx1; have HTK := Lib.hid htk; have HX2 := Lib.hid hx2
            clear hx1 htk hkc hx2
            by_cases hc42 : c = 42
            · have hb42 : ((c.toNat : Int) == 42) = true := by subst hc42; rfl
              have HC := Lib.hid hc42
              clear hc42
              go_wp2
              go_roundw
              case rel =>
                refine ⟨k + 1, _, by omega, by go_num, rfl, ?_, ?_, trivial⟩
                · rw [HTK.out, tw_append, ← HT.out, HC.out]
                  simp only [ByteArray.data_append, Array.toList_append, HX1.out, HC.out]
                  simp [tw]
                · rw [ByteArray.size_append, ByteArray.size_append, HX2.out]
                  show _ + 1 + 1 ≤ _
                  omega
              case measure => simp [intOf]; omega
            · have hb42 : ((c.toNat : Int) == 42) = false := by
                rw [beq_eq_false_iff_ne]; intro e; exact hc42 (UInt8.toNat_inj.1 (by show _ = 42; omega))
              have HC := Lib.hid hc42
              clear hc42
              go_wp2
              go_roundw
              case rel =>
                refine ⟨k + 1, _, by omega, by go_num, rfl, ?_, ?_, trivial⟩
                · rw [HTK.out, tw_append, ← HT.out]
                  simp only [ByteArray.data_append, Array.toList_append, HX1.out]
                  simp [tw, HC.out]
                · rw [ByteArray.size_append, HX2.out]
                  omega
              case measure => simp [intOf]; omega
          · have hke : k = p.size := by omega
            have hT := HT.out
            rw [hke, Lib.size_eq, List.take_length] at hT
            have m8 := fun w => M7.out T w (by unfold maxLen; omega)
            rw [hT] at m8
            have M8 := Lib.hid m8
            clear hT m8 hke
            go_wp2_with fail
            refine (M8.out _).mono ?_
            rintro e w6 ⟨rfl, hb6⟩
            have hb60 := hb50.trans (hb6.mono hb50.size)
            clear hb50 hb6 M8 HT
            have fin : ∀ w', Below w6.heap.size w6 w' → TruePost w (.returned (.bool true)) w' := fun w' h => ⟨rfl, hb60.trans (h.mono hb60.size)⟩
            have FIN := Lib.hid fin
            clear fin
            obtain ⟨a, i⟩ := mp
            generalize matchR (tw p.data.toList) n.data.toList = mq at *
            obtain ⟨b, j⟩ := mq
            by_cases hi0 : i = 0
            · have bi : (i != 0) = false := by rw [hi0]; rfl
              by_cases hj0 : j = 0
              · have bj : (j != 0) = false := by rw [hj0]; rfl
                have hab := MT.out hi0 hj0
                dsimp only at hab
                have bab : (a == b) = true := by rw [hab]; simp
                have hab := Lib.hid hab
                clear MT hi0 hj0
                go_wp2_with fail
                refine (awake_any _).mono ?_
                rintro e w7 ⟨rfl, hb7⟩
                go_wp2
                go_ret
                exact FIN.out _ hb7
              · have bj : (j != 0) = true := by simpa using hj0
                clear MT hi0 hj0
                go_wp2_with fail
                refine (awake_any _).mono ?_
                rintro e w7 ⟨rfl, hb7⟩
                go_wp2
                go_ret
                exact FIN.out _ hb7
            · have bi : (i != 0) = true := by simpa using hi0
              clear MT hi0
              go_wp2_with fail
              refine (awake_any _).mono ?_
              rintro e w7 ⟨rfl, hb7⟩
              go_wp2
              go_ret
              exact FIN.out _ hb7
      | false =>
        clear PL PA2 hpl
        go_wp2_with fail
        refine (M5.out _).mono ?_
        rintro e w4 ⟨rfl, hb4⟩
        have hb40 := hB3.trans (hb4.mono hB3.size)
        clear hb4 hB3 hcv hcell hfr
        have m6 := fun w => match_any p n w (by unfold maxLen; omega) (by unfold maxLen; omega)
        have m7 := fun (T : ByteArray) w (h : T.size ≤ maxLen) => match_any T n w h (by unfold maxLen; omega)
        have mtw := match_tw p.data.toList n.data.toList
        generalize matchR p.data.toList n.data.toList = mp at *
        have M6 := Lib.hid m6; have M7 := Lib.hid m7; have MT := Lib.hid mtw
        clear m6 m7 mtw
        go_wp2_with fail
        refine (M6.out _).mono ?_
        rintro e w5 ⟨rfl, hb5⟩
        have hb50 := hb40.trans (hb5.mono hb40.size)
        clear hb40 hb5 hb2 hb3 hbw hb1
        go_wp2
        go_loopw [21, 22] (fun s21 s22 wr => ∃ (k : Nat) (T : ByteArray), k ≤ p.size ∧ s22 = .int .i64 k ∧ s21 = .string T ∧ T.data.toList = tw (p.data.toList.take k) ∧ T.size ≤ 2 * k ∧ wr = w5) (fun _ s22 _ => p.size - (intOf s22).toNat)
        case atStart => exact ⟨0, ⟨#[]⟩, by omega, rfl, rfl, rfl, by simp [ByteArray.size], rfl⟩
        case round =>
          obtain ⟨k, T, hk, rfl, rfl, hT, hTs, rfl⟩ := hrel
          have HT := Lib.hid hT
          clear hT
          by_cases hlt : k < p.size
          · obtain ⟨c, hkc⟩ : ∃ c, p.data.toList[k]? = some c := ⟨p.data.toList[k]'(by rw [← Lib.size_eq]; exact hlt), List.getElem?_eq_getElem _⟩
            have htk : p.data.toList.take (k + 1) = p.data.toList.take k ++ [c] := by rw [List.take_add_one, hkc]; rfl
            have hx1 : (p.extract k (k + 1)).data.toList = [c] := by
              rw [Lib.extract_data, show k + 1 - k = 1 by omega, List.take_one, List.head?_drop, hkc]; rfl
            have hx2 : (p.extract k (k + 1)).size = 1 := by rw [Lib.size_eq, hx1]; rfl
            have hpk : p[k]'hlt = c := by
              have h := (List.getElem?_eq_some_iff.1 hkc).2
              rw [← h]; exact (Array.getElem_toList (xs := p.data) hlt).symm
            have HX1 := Lib.hid hx1; have HTK := Lib.hid htk; have HX2 := Lib.hid hx2
            clear hx1 htk hkc hx2
            by_cases hc42 : c = 42
            · have hb42 : ((c.toNat : Int) == 42) = true := by subst hc42; rfl
              have HC := Lib.hid hc42
              clear hc42
              go_wp2
              go_roundw
              case rel =>
                refine ⟨k + 1, _, by omega, by go_num, rfl, ?_, ?_, trivial⟩
                · rw [HTK.out, tw_append, ← HT.out, HC.out]
                  simp only [ByteArray.data_append, Array.toList_append, HX1.out, HC.out]
                  simp [tw]
                · rw [ByteArray.size_append, ByteArray.size_append, HX2.out]
                  show _ + 1 + 1 ≤ _
                  omega
              case measure => simp [intOf]; omega
            · have hb42 : ((c.toNat : Int) == 42) = false := by
                rw [beq_eq_false_iff_ne]; intro e; exact hc42 (UInt8.toNat_inj.1 (by show _ = 42; omega))
              have HC := Lib.hid hc42
              clear hc42
              go_wp2
              go_roundw
              case rel =>
                refine ⟨k + 1, _, by omega, by go_num, rfl, ?_, ?_, trivial⟩
                · rw [HTK.out, tw_append, ← HT.out]
                  simp only [ByteArray.data_append, Array.toList_append, HX1.out]
                  simp [tw, HC.out]
                · rw [ByteArray.size_append, HX2.out]
                  omega
              case measure => simp [intOf]; omega
          · have hke : k = p.size := by omega
            have hT := HT.out
            rw [hke, Lib.size_eq, List.take_length] at hT
            have m8 := fun w => M7.out T w (by unfold maxLen; omega)
            rw [hT] at m8
            have M8 := Lib.hid m8
            clear hT m8 hke
            go_wp2_with fail
            refine (M8.out _).mono ?_
            rintro e w6 ⟨rfl, hb6⟩
            have hb60 := hb50.trans (hb6.mono hb50.size)
            clear hb50 hb6 M8 HT
            have fin : ∀ w', Below w6.heap.size w6 w' → TruePost w (.returned (.bool true)) w' := fun w' h => ⟨rfl, hb60.trans (h.mono hb60.size)⟩
            have FIN := Lib.hid fin
            clear fin
            obtain ⟨a, i⟩ := mp
            generalize matchR (tw p.data.toList) n.data.toList = mq at *
            obtain ⟨b, j⟩ := mq
            by_cases hi0 : i = 0
            · have bi : (i != 0) = false := by rw [hi0]; rfl
              by_cases hj0 : j = 0
              · have bj : (j != 0) = false := by rw [hj0]; rfl
                have hab := MT.out hi0 hj0
                dsimp only at hab
                have bab : (a == b) = true := by rw [hab]; simp
                have hab := Lib.hid hab
                clear MT hi0 hj0
                go_wp2_with fail
                refine (awake_any _).mono ?_
                rintro e w7 ⟨rfl, hb7⟩
                go_wp2
                go_ret
                exact FIN.out _ hb7
              · have bj : (j != 0) = true := by simpa using hj0
                clear MT hi0 hj0
                go_wp2_with fail
                refine (awake_any _).mono ?_
                rintro e w7 ⟨rfl, hb7⟩
                go_wp2
                go_ret
                exact FIN.out _ hb7
            · have bi : (i != 0) = true := by simpa using hi0
              clear MT hi0
              go_wp2_with fail
              refine (awake_any _).mono ?_
              rintro e w7 ⟨rfl, hb7⟩
              go_wp2
              go_ret
              exact FIN.out _ hb7
end Go.Proofs.YtofdhhemdoodaaaDoor.Nm
