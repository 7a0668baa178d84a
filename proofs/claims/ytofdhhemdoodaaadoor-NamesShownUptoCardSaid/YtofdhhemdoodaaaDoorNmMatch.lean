/-
  The contracts of Match: at every pattern and every name.
-/
import Derived.Test.YtofdhhemdoodaaaDoorNmCheck
import Derived.Test.YtofdhhemdoodaaaDoorNmLike
import Derived.Laws.Cover4
import Derived.Deep.QuietTactic
import Derived.BigQuiet
namespace Go.Proofs.YtofdhhemdoodaaaDoor.Nm
open Go.RowKit

def runes (l : List UInt8) : List Nat := (seg l).map (·.1)

theorem runes_nil : runes [] = [] := rfl
theorem runes_cons (l : List UInt8) (h : l ≠ []) : runes l = (dec l).1 :: runes (l.drop (dec l).2) := by
  rw [runes, seg_cons l h]; rfl
theorem runes_length (l : List UInt8) : (runes l).length = count l := by simp [runes, count]

theorem runesFrom_eq (s : ByteArray) : ∀ (bound i : Nat) (acc : Array Value), s.size - i ≤ bound →
    (Conv.runesFrom s bound i acc).toList = acc.toList ++ (runes (s.data.toList.drop i)).map fun (r : Nat) => Value.int .i32 (r : Int)
  | 0, i, acc, h => by
    have : s.data.toList.drop i = [] := List.drop_eq_nil_of_le (by rw [← Lib.size_eq]; omega)
    rw [this]; simp [Conv.runesFrom, runes_nil]
  | b + 1, i, acc, h => by
    unfold Conv.runesFrom
    by_cases hi : i < s.size
    · have hne : s.data.toList.drop i ≠ [] := ne_of_lt (Lib.size_eq s ▸ hi)
      have hw := dec_width _ hne
      rw [if_pos hi]
      simp only [decode_drop]
      rw [runesFrom_eq s b _ _ (by omega), runes_cons _ hne, List.drop_drop]
      simp
    · have : s.data.toList.drop i = [] := List.drop_eq_nil_of_le (by rw [← Lib.size_eq]; omega)
      rw [if_neg hi, this]; simp [runes_nil]

/-- A text turned into its runes: a new row. -/
theorem conv_runes (s : ByteArray) (hs : s.size ≤ 70368744177664) :
    ∃ (cap : World → Nat) (arr : World → Array Value), (∀ W, (runes s.data.toList).length ≤ cap W ∧ (arr W).size = cap W ∧ (∀ (j c : Nat), (runes s.data.toList)[j]? = some c → (arr W)[j]? = some (.int .i32 (c : Int)))) ∧
      ∀ W : World, (convert 9 27 (.string s)).run Tryd.prog W = .ok (.slice (some ⟨W.heap.size, 0, none⟩) (runes s.data.toList).length (cap W)) (W.alloc (.cells (arr W) 21)).drew := by
  have he : (Conv.runesFrom s s.size 0 #[]).toList = (runes s.data.toList).map fun (r : Nat) => Value.int .i32 (r : Int) := by
    rw [runesFrom_eq s s.size 0 #[] (by omega)]; simp
  have hl : (Conv.runesFrom s s.size 0 #[]).size = (runes s.data.toList).length := by
    rw [← Array.length_toList, he, List.length_map]
  have h46 : (Conv.runesFrom s s.size 0 #[]).size ≤ 70368744177664 := by
    have := size_runesFrom s s.size 0 #[]
    simp at this; omega
  refine ⟨fun W => grownCap W (runes s.data.toList).length 0 21, fun W => Conv.runesFrom s s.size 0 #[] ++ Array.replicate (grownCap W (runes s.data.toList).length 0 21 - (runes s.data.toList).length) (.int .i32 0), fun W => ⟨grownCap_ge W _ 0 _, ?_, ?_⟩, fun W => ?_⟩
  · have := grownCap_ge W (runes s.data.toList).length 0 21
    simp [hl]; omega
  · intro j c h
    have hj : j < (runes s.data.toList).length := (List.getElem?_eq_some_iff.1 h).1
    rw [Array.getElem?_append_left (by omega), ← Array.getElem?_toList, he, List.getElem?_map, h]; rfl
  · have := run_runes_of_string (P := Tryd.prog) W 9 27 21 s Tryd.underlying9 Tryd.underlying27 Tryd.underlying21 h46
    rw [this, hl]; rfl

def matchR (p n : List UInt8) : Bool × Int := if okB p && decide (p.length ≤ 255) then (if chk n then (like (runes p) (runes n), 0) else (false, 10)) else (false, 4)

set_option maxHeartbeats 1000000 in
set_option maxRecDepth 100000 in
theorem match_form (p n : ByteArray) (w : World) (hp : p.size ≤ maxLen) (h : okB p.data.toList = false ∨ 255 < p.size) :
    Calls Tryd.prog 9 #[.string p, .string n] w fun e w' => e = .returned (.tuple #[.bool false, .int .i64 4]) ∧ Below w.heap.size w w' := by
  have hwh := whole_any p w hp
  unfold maxLen at hp
  generalize whN p.data.toList = q at *
  cases h1 : okB p.data.toList with
  | false =>
    rw [h1] at hwh
    clear h h1
    go_enter Tryd.func9, Tryd.ntmps9
    go_wp2
    go_step3
    go_wp2_with fail
    refine hwh.mono ?_
    rintro e w1 ⟨rfl, pos, rfl⟩
    clear hwh
    go_wp2
    try rw [Exit.noGoto_ret]
    go_ret2
    exact ⟨rfl, (Below.refl _ _).alloc (Nat.le_refl _) _⟩
  | true =>
    rw [h1] at hwh h
    have h2 : 255 < p.size := by simpa using h
    clear h h1
    go_enter Tryd.func9, Tryd.ntmps9
    go_wp2
    go_step3
    go_wp2_with fail
    refine hwh.mono ?_
    rintro e w1 ⟨rfl, pos, rfl⟩
    clear hwh
    go_wp2
    try rw [Exit.noGoto_ret]
    go_ret2
    exact ⟨rfl, (Below.refl _ _).alloc (Nat.le_refl _) _⟩

set_option maxHeartbeats 1000000 in
set_option maxRecDepth 100000 in
theorem match_name (p n : ByteArray) (w : World) (hn : n.size ≤ maxLen) (h1 : okB p.data.toList = true) (h2 : p.size ≤ 255) (h3 : chk n.data.toList = false) :
    Calls Tryd.prog 9 #[.string p, .string n] w fun e w' => e = .returned (.tuple #[.bool false, .int .i64 10]) ∧ Below w.heap.size w w' := by
  have hwh := whole_any p w (by unfold maxLen; omega)
  have hch := fun w => check_any n w hn
  rw [h1] at hwh
  have h4 : chkN n.data.toList = 10 := by rw [chkN, h3]; rfl
  rw [h4] at hch
  generalize whN p.data.toList = q at *
  have HC := Lib.hid hch; clear hch h4 h3 h1
  go_enter Tryd.func9, Tryd.ntmps9
  go_wp2
  go_step3
  go_wp2_with fail
  refine hwh.mono ?_
  rintro e w1 ⟨rfl, pos, hw1⟩
  have hb : Below w.heap.size w w1 := hw1 ▸ (Below.refl _ _).alloc (Nat.le_refl _) _
  clear hwh hw1
  go_wp2_with fail
  refine (HC.out _).mono ?_
  rintro e w2 ⟨rfl, hb2⟩
  go_wp2
  try rw [Exit.noGoto_ret]
  go_ret2
  exact ⟨rfl, hb.trans (hb2.mono hb.size)⟩

/-- What the round of Match's loop knows of the memory. -/
def Lies (w' : World) (b : Nat) (rs : List Nat) : Prop := ∀ (j c : Nat), rs[j]? = some c → w'.cell? ⟨b, j, none⟩ = some (.int .i32 (c : Int))

theorem cell_two (w : World) (o : Obj) (arr : Array Value) (T : TypeId) (j : Nat) : ((w.alloc (.cells arr T)).alloc o).drew.drew.cell? ⟨w.heap.size, j, none⟩ = arr[j]? := by
  have e : ((w.alloc (.cells arr T)).alloc o).drew.drew.heap = (w.heap.push (.cells arr T)).push o := rfl
  have e2 : ((w.heap.push (.cells arr T)).push o)[w.heap.size]? = some (.cells arr T) := by
    rw [Array.getElem?_push, if_neg (by simp), Array.getElem?_push, if_pos rfl]
  rw [World.cell?, e, e2]; rfl
theorem cell_two' (w : World) (o : Obj) (arr : Array Value) (T : TypeId) (j : Nat) : ((w.alloc o).alloc (.cells arr T)).drew.drew.cell? ⟨w.heap.size + 1, j, none⟩ = arr[j]? := by
  have e : ((w.alloc o).alloc (.cells arr T)).drew.drew.heap = (w.heap.push o).push (.cells arr T) := rfl
  have e2 : ((w.heap.push o).push (.cells arr T))[w.heap.size + 1]? = some (.cells arr T) := by
    rw [Array.getElem?_push, if_pos (by simp)]
  rw [World.cell?, e, e2]; rfl

set_option maxHeartbeats 2000000 in
set_option maxRecDepth 100000 in
theorem match_ok (p n : ByteArray) (w : World) (h1 : okB p.data.toList = true) (h2 : p.size ≤ 255) (h3 : chk n.data.toList = true) (hn : n.size ≤ 255) :
    Calls Tryd.prog 9 #[.string p, .string n] w fun e w' => e = .returned (.tuple #[.bool (like (runes p.data.toList) (runes n.data.toList)), .int .i64 0]) ∧ Below w.heap.size w w' := by
  have hwh := whole_any p w (by unfold maxLen; omega)
  have hch := fun w => check_any n w (by unfold maxLen; omega)
  rw [h1] at hwh
  have h4 : chkN n.data.toList = 0 := by rw [chkN, h3]; rfl
  rw [h4] at hch
  obtain ⟨cp, ap, hap, hcp⟩ := conv_runes p (by omega)
  obtain ⟨cn, an, han, hcn⟩ := conv_runes n (by omega)
  have hlp : (runes p.data.toList).length ≤ 255 := by rw [runes_length]; have := count_le p.data.toList; rw [← Lib.size_eq] at this; omega
  have hln : (runes n.data.toList).length ≤ 255 := by rw [runes_length]; have := count_le n.data.toList; rw [← Lib.size_eq] at this; omega
  generalize whN p.data.toList = q at *
  generalize runes p.data.toList = P at *
  generalize runes n.data.toList = L at *
  have HC := Lib.hid hch; have HAP := Lib.hid hap; have HAN := Lib.hid han; clear hch h4 h3 h1 hap han
  go_enter Tryd.func9, Tryd.ntmps9
  go_wp2
  go_step3
  go_wp2_with fail
  refine hwh.mono ?_
  rintro e w1 ⟨rfl, pos, hw1⟩
  have hb : Below w.heap.size w w1 := hw1 ▸ (Below.refl _ _).alloc (Nat.le_refl _) _
  clear hwh hw1
  go_wp2_with fail
  refine (HC.out _).mono ?_
  rintro e w2 ⟨rfl, hb2⟩
  have hb3 := hb.trans (hb2.mono hb.size)
  clear hb hb2 HC
  go_wp2
  go_step3
  go_wp2
  have hP := (HAP.out w2).2.2
  have hL := (HAN.out (w2.alloc (Obj.cells (ap w2) 21)).drew).2.2
  have hcap := (HAP.out w2).1
  generalize cn (w2.alloc (Obj.cells (ap w2) 21)).drew = capn at *
  generalize an (w2.alloc (Obj.cells (ap w2) 21)).drew = arrn at *
  generalize cp w2 = capp at *
  generalize ap w2 = arrp at *
  have LP : Lies ((w2.alloc (Obj.cells arrp 21)).alloc (Obj.cells arrn 21)).drew.drew w2.heap.size P := by
    intro j c h
    rw [cell_two]; exact hP j c h
  have LN : Lies ((w2.alloc (Obj.cells arrp 21)).alloc (Obj.cells arrn 21)).drew.drew (w2.heap.size + 1) L := by
    intro j c h
    rw [cell_two']; exact hL j c h
  have HB : Below w.heap.size w ((w2.alloc (Obj.cells arrp 21)).alloc (Obj.cells arrn 21)).drew.drew :=
    (((hb3.alloc (by have := hb3.size; omega) _).alloc (by have := hb3.size; simp; omega) _).drew).drew
  have HCP := Lib.hid hcp; have HCN := Lib.hid hcn
  clear hP hL hcp hcn HAP HAN hb3
  go_loopw [11, 12, 13, 14] (fun st fr i k w' => ∃ (star : Int) (fr' i' k' : Nat), st = .int .i64 star ∧ fr = .int .i64 fr' ∧ i = .int .i64 i' ∧ k = .int .i64 k' ∧ Way P L star fr' i' k' ∧ Lies w' w2.heap.size P ∧ Lies w' (w2.heap.size + 1) L ∧ Below w.heap.size w w') (fun _ fr i _ _ => (256 - (intOf fr).toNat) * 300 + (256 - (intOf i).toNat))
  case atStart => exact ⟨-1, 0, 0, 0, rfl, rfl, rfl, rfl, way_zero _ _, LP, LN, HB⟩
  case round =>
    obtain ⟨star, fr, i, k, rfl, rfl, rfl, rfl, hway, LPr, LNr, HBr⟩ := hrel
    clear LP LN HB
    have hfr : fr ≤ k := hway.2.2.1
    have hi0 : i ≤ P.length := hway.1
    have hk0 : k ≤ L.length := hway.2.1
    by_cases hk : k < L.length
    · have hx : L[k]? = some L[k] := List.getElem?_eq_getElem hk
      generalize L[k] = x at hx
      have cx := LNr k x hx
      cases hc : P[i]? with
      | none =>
        have hi : ¬ i < P.length := by have := List.getElem?_eq_none_iff.1 hc; omega
        have hm : Miss P L i k := ⟨hk, fun c' e => by rw [hc] at e; cases e⟩
        have bi : decide ((i : Int) < (P.length : Int)) = false := by simp; omega
        by_cases hs : star < 0
        · have hf := way_none hway hm hs
          have HF := Lib.hid hf
          clear hf hm hc hx hway LPr LNr
          go_wp2
          go_quiet (fail)
          go_wp2
          try rw [Exit.noGoto_ret]
          go_ret2
          exact ⟨by rw [HF.out]; rfl, below_drewN HBr _⟩
        · obtain ⟨st, rfl, hst, hfl, hw'⟩ := way_back hway hm (by omega)
          have HW := Lib.hid hw'; have HL1 := Lib.hid LPr; have HL2 := Lib.hid LNr
          clear hw' hm hc hx hway LPr LNr hs
          go_wp2
          go_quiet (fail)
          go_wp2
          go_roundw
          case rel => exact ⟨_, _, _, _, rfl, by go_num, by go_num, by go_num, HW.out, HL1.out, HL2.out, below_drewN HBr _⟩
          case measure => simp [intOf]; omega
      | some c =>
        have hi : i < P.length := (List.getElem?_eq_some_iff.1 hc).1
        have cc := LPr i c hc
        by_cases h42 : c = 42
        · subst h42
          have hw' := way_keep hway hc
          have HW := Lib.hid hw'; have HC := Lib.hid hc; have HX := Lib.hid hx; have HWY := Lib.hid hway; have HL1 := Lib.hid LPr; have HL2 := Lib.hid LNr
          clear hw' hc hx hway LPr LNr
          go_wp2
          go_roundw
          case rel => exact ⟨_, _, _, _, rfl, rfl, by go_num, rfl, HW.out, HL1.out, HL2.out, HBr⟩
          case measure => simp [intOf]; omega
        · by_cases h63 : c = 63 ∨ c = x
          · have hw' := way_fit hway hc hx h42 h63
            have b42 : ((c : Int) == 42) = false := by rw [beq_eq_false_iff_ne]; omega
            have HW := Lib.hid hw'; have HC := Lib.hid hc; have HX := Lib.hid hx; have HWY := Lib.hid hway; have HL1 := Lib.hid LPr; have HL2 := Lib.hid LNr
            clear hw' hc hx hway LPr LNr h42
            by_cases h1 : c = 63
            · subst h1
              clear h63
              go_wp2
              go_quiet (fail)
              go_wp2
              go_roundw
              case rel => exact ⟨_, _, _, _, rfl, rfl, by go_num, by go_num, HW.out, HL1.out, HL2.out, below_drewN HBr _⟩
              case measure => simp [intOf]; omega
            · obtain rfl : c = x := by omega
              have b63 : ((c : Int) == 63) = false := by rw [beq_eq_false_iff_ne]; omega
              clear h63 h1
              go_wp2
              go_quiet (fail)
              go_wp2
              go_roundw
              case rel => exact ⟨_, _, _, _, rfl, rfl, by go_num, by go_num, HW.out, HL1.out, HL2.out, below_drewN HBr _⟩
              case measure => simp [intOf]; omega
          · have hm : Miss P L i k := ⟨hk, fun c' e => by
              rw [hc] at e; cases e
              exact ⟨h42, by omega, fun x' e2 => by rw [hx] at e2; cases e2; omega⟩⟩
            have b42 : ((c : Int) == 42) = false := by rw [beq_eq_false_iff_ne]; omega
            have b63 : ((c : Int) == 63) = false := by rw [beq_eq_false_iff_ne]; omega
            have bx : ((c : Int) == (x : Int)) = false := by rw [beq_eq_false_iff_ne]; omega
            by_cases hs : star < 0
            · have hf := way_none hway hm hs
              have HF := Lib.hid hf
              clear hf hm hc hx hway LPr LNr h42 h63
              go_wp2
              go_quiet (fail)
              go_wp2
              try rw [Exit.noGoto_ret]
              go_ret2
              exact ⟨by rw [HF.out]; rfl, below_drewN HBr _⟩
            · obtain ⟨st, rfl, hst, hfl, hw'⟩ := way_back hway hm (by omega)
              have HW := Lib.hid hw'; have HL1 := Lib.hid LPr; have HL2 := Lib.hid LNr
              clear hw' hm hc hx hway LPr LNr h42 h63 hs
              go_wp2
              go_quiet (fail)
              go_wp2
              go_roundw
              case rel => exact ⟨_, _, _, _, rfl, by go_num, by go_num, by go_num, HW.out, HL1.out, HL2.out, below_drewN HBr _⟩
              case measure => simp [intOf]; omega
    · have hend := way_end hway (by omega)
      have HW := Lib.hid hend; have HL1 := Lib.hid LPr; have HL2 := Lib.hid LNr
      clear hend hway LPr LNr
      obtain ⟨S, hS⟩ : ∃ S : ByteArray, S = runesBytes ((P.drop i).map Int.ofNat) := ⟨_, rfl⟩
      have hST : (Lib.trimB S.data.toList 42).isEmpty = like P L := by
        rw [← List.beq_nil_eq, trimB_nil, hS, runesBytes_encs, encs_all, HW.out]
      have hSs : S.size ≤ 9223372036854775807 := by
        have := runesBytes_size_le ((P.drop i).map Int.ofNat)
        rw [hS]; rw [List.length_map, List.length_drop] at this; omega
      have hcv : ∀ c : Nat, (convert 27 9 (.slice (some ⟨w2.heap.size, i, none⟩) (P.length - i) c)).run Tryd.prog wr = .ok (.string S) wr := by
        intro c
        have := run_convert_runes (P := Tryd.prog) wr 27 9 21 ⟨w2.heap.size, i, none⟩ (P.length - i) c ((P.drop i).map Int.ofNat) (by simp) Tryd.underlying27 Tryd.underlying21 Tryd.underlying9 (by
          intro j hj
          have hj' : i + j < P.length := by simp at hj; omega
          have := HL1.out (i + j) P[i + j] (List.getElem?_eq_getElem hj')
          have e : (⟨w2.heap.size, i, none⟩ : Addr).add j = ⟨w2.heap.size, i + j, none⟩ := Addr.add_lit _ _ _
          rw [e, this]
          simp [List.getD, List.getElem?_eq_getElem hj'])
        rw [List.take_of_length_le (by simp)] at this
        rw [hS]; exact this
      have hcz : i = P.length → ∀ (a : Addr) (c : Nat), (convert 27 9 (.slice (some a) 0 c)).run Tryd.prog wr = .ok (.string S) wr := by
        intro hi a c
        have := run_convert_runes (P := Tryd.prog) wr 27 9 21 a 0 c [] (by simp) Tryd.underlying27 Tryd.underlying21 Tryd.underlying9 (by simp)
        rw [hS, hi, List.drop_length]
        exact this
      have HT := Lib.hid hST
      clear hST hS
      by_cases hi : i = P.length
      · have hcz' := hcz hi
        clear hcv hcz
        go_wp2_with fail
        all_goals
          refine (Tryd.strings_Trim_one S 42 (by decide) _ hSs).mono ?_
          rintro e w3 ⟨rfl, rfl | rfl⟩
          · go_wp2
            try rw [Exit.noGoto_ret]
            go_ret2
            exact ⟨by rw [← HT.out]; rfl, HBr⟩
          · go_wp2
            try rw [Exit.noGoto_ret]
            go_ret2
            exact ⟨by rw [← HT.out]; rfl, HBr.drew⟩
      · have hi1 : i < P.length := by omega
        clear hi hcz
        go_wp2_with fail
        refine (Tryd.strings_Trim_one S 42 (by decide) _ hSs).mono ?_
        rintro e w3 ⟨rfl, rfl | rfl⟩
        · go_wp2
          try rw [Exit.noGoto_ret]
          go_ret2
          exact ⟨by rw [← HT.out]; rfl, HBr⟩
        · go_wp2
          try rw [Exit.noGoto_ret]
          go_ret2
          exact ⟨by rw [← HT.out]; rfl, HBr.drew⟩

/-- **Match, at every pattern and every name.** -/
theorem match_any (p n : ByteArray) (w : World) (hp : p.size ≤ maxLen) (hn : n.size ≤ maxLen) :
    Calls Tryd.prog 9 #[.string p, .string n] w fun e w' => e = .returned (.tuple #[.bool (matchR p.data.toList n.data.toList).1, .int .i64 (matchR p.data.toList n.data.toList).2]) ∧ Below w.heap.size w w' := by
  by_cases h : okB p.data.toList = true ∧ p.size ≤ 255
  · have h' : (okB p.data.toList && decide (p.data.toList.length ≤ 255)) = true := by rw [← Lib.size_eq]; simpa using h
    rw [matchR, if_pos h']
    cases hc : chk n.data.toList with
    | true =>
      have hl : n.size ≤ 255 := by
        rw [Lib.size_eq]
        simp only [chk, lenFine, Bool.and_eq_true, decide_eq_true_eq] at hc; omega
      exact match_ok p n w h.1 h.2 hc hl
    | false => exact match_name p n w hn h.1 h.2 hc
  · have h' : (okB p.data.toList && decide (p.data.toList.length ≤ 255)) = false := by
      rw [← Lib.size_eq]
      cases ho : okB p.data.toList with
      | false => rfl
      | true => have : ¬ p.size ≤ 255 := fun q => h ⟨ho, q⟩
                simp; omega
    rw [matchR, h']
    exact match_form p n w hp (by
      cases ho : okB p.data.toList with
      | false => exact .inl rfl
      | true => right; have : ¬ p.size ≤ 255 := fun q => h ⟨ho, q⟩
                omega)
end Go.Proofs.YtofdhhemdoodaaaDoor.Nm
