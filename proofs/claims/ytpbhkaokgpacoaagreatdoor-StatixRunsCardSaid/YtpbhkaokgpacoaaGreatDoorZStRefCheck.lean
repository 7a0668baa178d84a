import Derived.Test.YtpbhkaokgpacoaaGreatDoorZStRef
/-
  The contracts of the reference's Check, Runes and Less.
-/
namespace Go.Proofs.YtpbhkaokgpacoaaGreatDoor.Nm
open Go.RowKit

/-- A row of runes that the call owns, read in a later world. -/
theorem row_cells {w : World} {base : Nat} {v : Value} {rs : List Nat} (h : w.ownsRow base 21 1 v rs.length (rs.map rv)) (hne : rs ≠ []) :
    ∃ g cap, v = .slice (some ⟨g, 0, none⟩) rs.length cap ∧ g < w.heap.size ∧ ∀ (j r : Nat), rs[j]? = some r → w.cell? ⟨g, j, none⟩ = some (.int .i32 (r : Int)) := by
  obtain ⟨hl, ⟨rfl, h0⟩ | ⟨g, cap, cur, rfl, hg, hh, hn, hcap, hsz, ht⟩⟩ := h
  · exact absurd (List.eq_nil_of_length_eq_zero h0) hne
  · refine ⟨g, cap, rfl, (Array.getElem?_eq_some_iff.1 hh).1, fun j r hj => ?_⟩
    have hj' : j < rs.length := (List.getElem?_eq_some_iff.1 hj).1
    have e : cur[j]? = some (rv r) := by
      have := congrArg (fun l => l[j]?) ht
      simp only [List.getElem?_map, hj, Option.map_some] at this
      rw [List.getElem?_take_of_lt (by omega), Array.getElem?_toList] at this
      exact this
    unfold rv at e
    simp only [World.cell?, hh]
    simpa using e

theorem runesFine_runes (l : List UInt8) : runesFine l = (runes l).all fine := by
  simp only [runesFine, runes, List.all_map]; rfl

theorem chkN_no {l : List UInt8} (h : lenFine l = false) : chkN l = 10 := by rw [chkN, chk, h]; rfl

set_option maxHeartbeats 2000000 in
set_option maxRecDepth 100000 in
theorem ref_check (s : ByteArray) (w : World) (hT : Tabs w) :
    Calls Tryz.prog 77 #[.string s] w fun e w' => e = .returned (.int .i64 (chkN s.data.toList)) ∧ Below w.heap.size w w' := by
  have hsz := Lib.size_eq s
  by_cases h1 : s.size < 1
  · have HF : Hid (chkN s.data.toList = 10) := Lib.hid (chkN_no (by
      have : s.data.toList = [] := List.eq_nil_of_length_eq_zero (by omega)
      rw [this]; rfl))
    clear hsz
    go_enter Tryz.func77, Tryz.ntmps77
    go_wp2
    go_ret
    exact ⟨by rw [HF.out]; rfl, Below.refl _ _⟩
  by_cases h2 : 255 < s.size
  · have HF : Hid (chkN s.data.toList = 10) := Lib.hid (chkN_no (by
      have : decide (s.data.toList.length ≤ 255) = false := by simp only [decide_eq_false_iff_not]; omega
      rw [lenFine, this]; simp))
    have h1' : 1 ≤ s.size := by omega
    clear hsz h1
    go_enter Tryz.func77, Tryz.ntmps77
    go_wp2
    go_ret
    exact ⟨by rw [HF.out]; rfl, Below.refl _ _⟩
  have h1' : 1 ≤ s.size := by omega
  have h2' : s.size ≤ 255 := by omega
  clear h1 h2
  cases h3 : s.toList == [46] with
  | true =>
    have HF : Hid (chkN s.data.toList = 10) := Lib.hid (by
      have e : s.data.toList = [46] := by rw [← Lib.toList_data]; simpa using h3
      rw [e]; decide)
    clear hsz
    go_enter Tryz.func77, Tryz.ntmps77
    go_wp2
    go_ret
    exact ⟨by rw [HF.out]; rfl, Below.refl _ _⟩
  | false =>
  cases h4 : s.toList == [46, 46] with
  | true =>
    have HF : Hid (chkN s.data.toList = 10) := Lib.hid (by
      have e : s.data.toList = [46, 46] := by rw [← Lib.toList_data]; simpa using h4
      rw [e]; decide)
    clear hsz
    go_enter Tryz.func77, Tryz.ntmps77
    go_wp2
    go_ret
    exact ⟨by rw [HF.out]; rfl, Below.refl _ _⟩
  | false =>
  have hr := ref_runes s w hT (by omega)
  cases h5 : okB s.data.toList with
  | false =>
    have HF : Hid (chkN s.data.toList = 10) := Lib.hid (chkN_no (by rw [lenFine, h5]; rfl))
    unfold RunesPost at hr
    rw [h5] at hr
    have HR := Lib.hid hr
    clear hsz hr h5
    go_enter Tryz.func77, Tryz.ntmps77
    go_wp2_with fail
    refine HR.out.mono ?_
    rintro e w1 ⟨v, rfl, ho, hb⟩
    go_wp2
    go_ret
    exact ⟨by rw [HF.out]; rfl, hb⟩
  | true =>
    have hn1 : 1 ≤ (runes s.data.toList).length := by
      rw [runes_length, count_cons _ (by intro e; have := congrArg List.length e; rw [List.length_nil] at this; omega)]; omega
    have hn2 : (runes s.data.toList).length ≤ 255 := by rw [runes_length]; have := count_le s.data.toList; omega
    have hlf : lenFine s.data.toList = decide ((runes s.data.toList).length ≤ 64) := by
      rw [Lib.toList_data] at h3 h4
      rw [lenFine, h5, h3, h4, ← runes_length]
      have a1 : decide (1 ≤ (runes s.data.toList).length) = true := by simpa using hn1
      have a2 : decide (s.data.toList.length ≤ 255) = true := by simp; omega
      rw [a1, a2]; simp
    have hrf := runesFine_runes s.data.toList
    unfold RunesPost at hr
    rw [h5] at hr
    simp only [if_true] at hr
    generalize hrs : runes s.data.toList = rs at *
    have HR := Lib.hid hr; have HRF := Lib.hid hrf; have HLF := Lib.hid hlf
    clear hsz hr h5 hrs hrf hlf
    by_cases h6 : 64 < rs.length
    · have HF : Hid (chkN s.data.toList = 10) := Lib.hid (chkN_no (by rw [HLF.out]; simp; omega))
      go_enter Tryz.func77, Tryz.ntmps77
      go_wp2_with fail
      refine HR.out.mono ?_
      rintro e w1 ⟨v, rfl, ho, hb⟩
      obtain ⟨g, cap, rfl, hg, hcell⟩ := row_cells ho (by intro e; rw [e] at hn1; simp at hn1)
      clear ho hcell
      go_wp2
      go_ret
      exact ⟨by rw [HF.out]; rfl, hb⟩
    · have h6' : rs.length ≤ 64 := by omega
      clear h6
      go_enter Tryz.func77, Tryz.ntmps77
      go_wp2_with fail
      refine HR.out.mono ?_
      rintro e w1 ⟨v, rfl, ho, hb⟩
      obtain ⟨g, cap, rfl, hg, hcell⟩ := row_cells ho (by intro e; rw [e] at hn1; simp at hn1)
      have HC := Lib.hid hcell
      clear ho hcell
      go_wp2
      go_loop [5] (fun s5 => ∃ k : Nat, k ≤ rs.length ∧ s5 = .int .i64 k ∧ (∀ (j r : Nat), j < k → rs[j]? = some r → fine r = true)) (fun s5 => rs.length - (intOf s5).toNat)
      case atStart => exact ⟨0, by omega, rfl, fun j r h => by omega⟩
      case round =>
        obtain ⟨k, hk, rfl, hall⟩ := hrel
        have HA := Lib.hid hall
        clear hall
        by_cases hlt : k < rs.length
        · obtain ⟨r, hkr⟩ : ∃ r, rs[k]? = some r := ⟨rs[k], List.getElem?_eq_getElem hlt⟩
          have hc := HC.out k r hkr
          have HK := Lib.hid hkr
          clear hkr
          cases hf : fine r with
          | true =>
            have HFN := Lib.hid hf
            have hn1 : ¬ r < 32 ∧ ¬ r = 127 ∧ ¬ r = 47 := by simpa [fine, and_assoc] using hf
            have t2 : ((r : Int) == 127) = false := by rw [beq_eq_false_iff_ne]; omega
            have t3 : ((r : Int) == 47) = false := by rw [beq_eq_false_iff_ne]; omega
            have t1 : 32 ≤ r := by omega
            clear hf hn1
            go_wp2
            go_round
            case rel =>
              refine ⟨k + 1, by omega, by go_num, fun j x hj hjx => ?_⟩
              by_cases e : j = k
              · subst e; rw [HK.out] at hjx; cases hjx; exact HFN.out
              · exact HA.out j x (by omega) hjx
            case measure => simp [intOf]; omega
          | false =>
            have HF : Hid (chkN s.data.toList = 10) := Lib.hid (by
              have : rs.all fine = false := by
                rw [List.all_eq_false]; exact ⟨r, List.mem_of_getElem? HK.out, by simp [hf]⟩
              rw [chkN, chk, HRF.out, this]; simp)
            have hn1 : r < 32 ∨ r = 127 ∨ r = 47 := by
              by_cases a : r < 32 ∨ r = 127 ∨ r = 47
              · exact a
              · exfalso; have : fine r = true := by { simp [fine]; omega }
                rw [this] at hf; cases hf
            clear hf
            rcases hn1 with t1 | rfl | rfl
            all_goals
              go_wp2
              go_ret
              exact ⟨by rw [HF.out]; rfl, hb⟩
        · have HF : Hid (chkN s.data.toList = 0) := Lib.hid (by
            have : rs.all fine = true := by
              rw [List.all_eq_true]
              intro x hx
              obtain ⟨j, hj, e⟩ := List.getElem_of_mem hx
              exact HA.out j x (by omega) (by rw [List.getElem?_eq_getElem hj, e])
            have h64 : decide (rs.length ≤ 64) = true := by simpa using h6'
            rw [chkN, chk, HRF.out, HLF.out, this, h64]; rfl)
          go_wp2
          go_ret
          exact ⟨by rw [HF.out]; rfl, hb⟩
end Go.Proofs.YtpbhkaokgpacoaaGreatDoor.Nm
/-
  The contract of the reference's Split: it answers what the program's Split answers.
-/
namespace Go.Proofs.YtpbhkaokgpacoaaGreatDoor.Nm
open Go.RowKit

theorem len_of_owns {w : World} {base : Nat} {e : TypeId} {size : Nat} {v : Value} {n : Nat} {xs : List Value} (h : w.ownsRow base e size v n xs) : ∃ a c, v = .slice a n c := by
  obtain ⟨h1, ⟨rfl, h2⟩ | ⟨g, cap, cur, rfl, _⟩⟩ := h
  · subst h2; exact ⟨none, 0, rfl⟩
  · exact ⟨_, _, rfl⟩
theorem infoStr : (Tryz.prog.info? 9).map (fun i => (i.zero, i.size, i.bytes)) = some (some (.string ByteArray.empty), 1, 16) := by kernel_rfl

/-- How far the reference has cut: 'xs' are done, the next name begins at 'fr', no slash stands from there to i. -/
structure Cut (p : List UInt8) (xs : List (List UInt8)) (fr i : Nat) : Prop where
  le : fr ≤ i
  one : 1 ≤ fr
  top : i ≤ p.length + 1
  len : xs.length ≤ 16
  chks : ∀ x ∈ xs, chk x = true
  none : ∀ c ∈ (p.drop fr).take (i - fr), c ≠ 47
  yet : i ≤ p.length → parts (p.drop 1) = xs ++ parts (p.drop fr)
  done : i = p.length + 1 → parts (p.drop 1) = xs

theorem cut_zero (p : List UInt8) (h : 1 ≤ p.length) : Cut p [] 1 1 := ⟨by omega, by omega, by omega, by simp, by simp, by simp, fun _ => rfl, fun h => by omega⟩

theorem take_succ_drop {p : List UInt8} {fr i : Nat} {c : UInt8} (h : p[i]? = some c) (hle : fr ≤ i) : (p.drop fr).take (i + 1 - fr) = (p.drop fr).take (i - fr) ++ [c] := by
  rw [show i + 1 - fr = (i - fr) + 1 by omega, List.take_add_one, List.getElem?_drop, show fr + (i - fr) = i by omega, h]; rfl

theorem drop_atB {p : List UInt8} {i : Nat} {c : UInt8} (h : p[i]? = some c) : p.drop i = c :: p.drop (i + 1) := by
  obtain ⟨hi, e⟩ := List.getElem?_eq_some_iff.1 h
  rw [List.drop_eq_getElem_cons hi, e]

theorem cut_go {p : List UInt8} {xs : List (List UInt8)} {fr i : Nat} {c : UInt8} (h : Cut p xs fr i) (hc : p[i]? = some c) (hne : c ≠ 47) : Cut p xs fr (i + 1) := by
  have hi : i < p.length := (List.getElem?_eq_some_iff.1 hc).1
  refine ⟨by have := h.le; omega, h.one, by omega, h.len, h.chks, ?_, fun _ => h.yet (by omega), fun e => by omega⟩
  rw [take_succ_drop hc h.le]
  intro x hx
  rcases List.mem_append.1 hx with hx | hx
  · exact h.none x hx
  · simp at hx; subst hx; exact hne

/-- The name that ends at i, where a slash stands or the text ends. -/
theorem cut_name {p : List UInt8} {xs : List (List UInt8)} {fr i : Nat} (h : Cut p xs fr i) (hb : i = p.length ∨ p[i]? = some 47) :
    parts (p.drop 1) = xs ++ (p.drop fr).take (i - fr) :: (if i = p.length then [] else parts (p.drop (i + 1))) := by
  rcases hb with hb | hb
  · rw [if_pos hb, h.yet (by omega)]
    have e : (p.drop fr).take (i - fr) = p.drop fr := List.take_of_length_le (by rw [List.length_drop]; omega)
    rw [e]
    have hn := h.none
    rw [e] at hn
    rw [parts_none _ hn]
  · have hi : i < p.length := (List.getElem?_eq_some_iff.1 hb).1
    rw [if_neg (by omega), h.yet (by omega)]
    have e : p.drop fr = (p.drop fr).take (i - fr) ++ 47 :: p.drop (i + 1) := by
      have h1 := List.take_append_drop (i - fr) (p.drop fr)
      rw [List.drop_drop, show fr + (i - fr) = i by have := h.le; omega] at h1
      have h2 := drop_atB hb
      rw [h2] at h1
      exact h1.symm
    conv => lhs; rw [e, parts_hit _ _ h.none]

theorem cut_next {p : List UInt8} {xs : List (List UInt8)} {fr i : Nat} (h : Cut p xs fr i) (hb : i = p.length ∨ p[i]? = some 47) (hl : xs.length < 16) (hc : chk ((p.drop fr).take (i - fr)) = true) :
    Cut p (xs ++ [(p.drop fr).take (i - fr)]) (i + 1) (i + 1) := by
  have hn := cut_name h hb
  have hi : i ≤ p.length := by
    rcases hb with hb | hb
    · omega
    · have := (List.getElem?_eq_some_iff.1 hb).1; omega
  refine ⟨by omega, by omega, by omega, by simp; omega, ?_, by simp, fun e => ?_, fun e => ?_⟩
  · intro x hx
    rcases List.mem_append.1 hx with hx | hx
    · exact h.chks x hx
    · simp at hx; subst hx; exact hc
  · rw [hn, if_neg (by omega)]; simp
  · rw [hn, if_pos (by omega)]


set_option maxHeartbeats 2000000 in
set_option maxRecDepth 100000 in
theorem ref_split (p : ByteArray) (w : World) (hT : Tabs w) (hs : p.size ≤ 4611686018427387904) :
    Calls Tryz.prog 40 #[.string p] w (SplitPost p.data.toList w) := by
  obtain ⟨i0, hi, hz0, hz1, hz2⟩ := info_parts infoStr
  have hsz := Lib.size_eq p
  by_cases h0 : p.data.toList = [47]
  · have h0' : (p.toList == [47]) = true := by rw [Lib.toList_data]; simpa using h0
    have hend : ∀ w', Below w.heap.size w w' → SplitPost p.data.toList w (.returned (.tuple #[.slice none 0 0, .int .i64 0])) w' := by
      intro w' hb
      have hp : splitP p.data.toList = some [] := by rw [splitP, if_pos h0]
      refine ⟨.slice none 0 0, by rw [splitE, hp]; rfl, ?_, hb⟩
      rw [splitL, hp]; exact ⟨rfl, .inl ⟨rfl, rfl⟩⟩
    have HE := Lib.hid hend
    clear h0 hend hsz
    go_enter Tryz.func40, Tryz.ntmps40
    go_wp2
    go_ret2
    exact HE.out _ (Below.refl _ _)
  have h0' : (p.toList == [47]) = false := by rw [Lib.toList_data]; simpa using h0
  by_cases h1 : p.data.toList = []
  · have h1' : p.toList.isEmpty = true := by rw [Lib.toList_data, h1]; rfl
    have HN := Lib.hid (splitP_no1 h0 (by rw [h1]; rfl))
    clear hsz h1 h0
    go_enter Tryz.func40, Tryz.ntmps40
    go_wp2
    go_ret2
    exact splitPost_no HN.out rfl (Below.refl _ _)
  have h1' : p.toList.isEmpty = false := by
    rw [Lib.toList_data]
    cases h : p.data.toList with
    | nil => exact absurd h h1
    | cons _ _ => rfl
  have hps : 0 < p.size := by rw [hsz]; exact List.length_pos_iff.2 h1
  have hp0 : p.data.toList[0]? = some p[0] := by
    rw [List.getElem?_eq_getElem (by omega)]; exact congrArg some (Array.getElem_toList (xs := p.data) hps)
  by_cases h2 : p[0] = 47
  · have hb2 : ((p[0].toNat : Int) != 47) = false := by rw [h2]; rfl
    have hpre : Lib.hasPrefix p.data.toList [47] = true := (hasPrefix_one _).2 (by
      cases h : p.data.toList with
      | nil => exact absurd h h1
      | cons a t => rw [h] at hp0; simp at hp0; exact ⟨t, by rw [hp0, h2]⟩)
    have hcz := cut_zero p.data.toList (by omega)
    have hcount : p.data.toList.count 47 = (parts (p.data.toList.drop 1)).length := by
      obtain ⟨t, e⟩ := (hasPrefix_one _).1 hpre
      rw [parts_count, e]; simp
    have H0 := Lib.hid h0; have HPRE := Lib.hid hpre; have HZ := Lib.hid hsz; have HCZ := Lib.hid hcz; have HCO := Lib.hid hcount
    clear h0 h1 hp0 h2 hpre hsz hcz hcount
    go_enter Tryz.func40, Tryz.ntmps40
    go_wp2
    go_loopw [4, 5, 6] (fun s4 s5 s6 wr => ∃ (xs : List (List UInt8)) (fr i : Nat), s5 = .int .i64 fr ∧ s6 = .int .i64 i ∧ Cut p.data.toList xs fr i ∧
      wr.ownsRow w.heap.size 9 1 s4 xs.length (xs.map sv) ∧ Below w.heap.size w wr) (fun _ _ s6 _ => p.size + 1 - (intOf s6).toNat)
    case atStart => exact ⟨[], 1, 1, rfl, rfl, HCZ.out, ⟨rfl, .inl ⟨rfl, rfl⟩⟩, Below.refl _ _⟩
    case round =>
      obtain ⟨xs, fr, i, rfl, rfl, hcut, hown, hbw⟩ := hrel
      have hle := hcut.le
      have hone := hcut.one
      have htop : i ≤ p.size + 1 := by have := hcut.top; have := HZ.out; omega
      have hx16 := hcut.len
      obtain ⟨a4, c4, rfl⟩ := len_of_owns hown
      have HCUT := Lib.hid hcut
      clear hcut
      by_cases hi1 : i ≤ p.size
      · by_cases hgo : ∃ c, p.data.toList[i]? = some c ∧ c ≠ 47
        · obtain ⟨c, hc, hne⟩ := hgo
          have hlt : i < p.size := by rw [HZ.out]; exact (List.getElem?_eq_some_iff.1 hc).1
          have hpi : p[i] = c := by
            have h := (List.getElem?_eq_some_iff.1 hc).2
            rw [← h]; exact (Array.getElem_toList (xs := p.data) hlt).symm
          have hbne : ((c.toNat : Int) != 47) = true := by
            rw [bne_iff_ne]; intro e; exact hne (UInt8.toNat_inj.1 (by show _ = 47; omega))
          have HN := Lib.hid (cut_go HCUT.out hc hne)
          clear hc hne
          go_wp2
          go_roundw
          case rel => exact ⟨xs, fr, i + 1, rfl, by go_num, HN.out, hown, hbw⟩
          case measure => simp [intOf]; omega
        · have hb : i = p.data.toList.length ∨ p.data.toList[i]? = some 47 := by
            by_cases e : i = p.size
            · left; rw [← HZ.out]; exact e
            · right
              have hl : i < p.data.toList.length := by have := HZ.out; omega
              rw [List.getElem?_eq_getElem hl]
              by_cases e2 : p.data.toList[i] = 47
              · rw [e2]
              · exact absurd ⟨_, List.getElem?_eq_getElem hl, e2⟩ hgo
          have HB := Lib.hid hb
          have hnm := cut_name HCUT.out hb
          have HNM := Lib.hid hnm
          have hx : (p.extract fr i).data.toList = (p.data.toList.drop fr).take (i - fr) := Lib.extract_data p fr i
          have HX := Lib.hid hx
          have hch := fun w hT => ref_check (p.extract fr i) w hT
          rw [hx] at hch
          -- the three facts that decide the guard
          have hd : (i = p.size ∧ decide ((i : Int) < p.size) = false) ∨ (∃ h : i < p.size, ((p[i].toNat : Int) != 47) = false) := by
            rcases hb with hb | hb
            · left; have := HZ.out; exact ⟨by omega, by simp; omega⟩
            · right
              have hl : i < p.size := by rw [HZ.out]; exact (List.getElem?_eq_some_iff.1 hb).1
              refine ⟨hl, ?_⟩
              have h := (List.getElem?_eq_some_iff.1 hb).2
              have : p[i] = 47 := by rw [← h]; exact (Array.getElem_toList (xs := p.data) hl).symm
              rw [this]; rfl
          clear hgo hb hnm hx
          rcases hd with ⟨hie, hde⟩ | ⟨hil, hpe⟩
          · subst hie
            by_cases hl : xs.length = 16
            · have bl : ((xs.length : Int) == 16) = true := by rw [beq_iff_eq]; omega
              have HN := Lib.hid (splitP_no2 H0.out (by
                rw [HCO.out, HNM.out, List.length_append, List.length_cons]; omega))
              clear hl hch
              go_wp2
              go_ret2
              exact splitPost_no HN.out rfl hbw
            · have bl : ((xs.length : Int) == 16) = false := by rw [beq_eq_false_iff_ne]; omega
              have hl16 : xs.length < 16 := by omega
              cases hcb : chk ((p.data.toList.drop fr).take (p.size - fr)) with
              | false =>
                have e1 : chkN ((p.data.toList.drop fr).take (p.size - fr)) = 10 := by rw [chkN, hcb]; rfl
                rw [e1] at hch
                have HN := Lib.hid (splitP_no3 (n := (p.data.toList.drop fr).take (p.size - fr)) H0.out (by rw [HNM.out]; simp) hcb)
                have HCH := Lib.hid hch
                clear hl hch e1 hcb
                go_wp2_with fail
                refine (HCH.out _ (hT.below hbw)).mono ?_
                rintro e w1 ⟨rfl, hb1⟩
                go_wp2
                go_ret2
                exact splitPost_no HN.out rfl (hbw.trans (hb1.mono hbw.size))
              | true =>
                have e1 : chkN ((p.data.toList.drop fr).take (p.size - fr)) = 0 := by rw [chkN, hcb]; rfl
                rw [e1] at hch
                have HNX := Lib.hid (cut_next HCUT.out HB.out hl16 hcb)
                have HCH := Lib.hid hch
                clear hl hch e1 hcb
                go_wp2_with fail
                refine (HCH.out _ (hT.below hbw)).mono ?_
                rintro e w1 ⟨rfl, hb1⟩
                have hown1 := ownsRow_below hown hb1
                have hbw1 := hbw.trans (hb1.mono hbw.size)
                have hs1 := hbw1.size
                clear hown hb1 hbw
                go_wp2_with (at_builtin; refine wpList_append_own _ rfl _ _ 34 rfl w.heap.size 9 i0 (.string ByteArray.empty) 1 16 Tryz.underlying34 hi hz0 hz1 hz2 rfl (by decide) _ _ _ rfl (hown1.alloc _) ⟨w1.heap.size, 0, none⟩ 1 1 [.string (p.extract fr p.size)] rfl rfl ?c1 ?c2 ?c3 ?c4 ?c5 ?_)
                case c1 => exact cell_one_new _ _ _
                case c2 => intro u hu; simp at hu; subst hu; rfl
                case c3 => unfold maxLen; omega
                case c4 => omega
                case c5 => simp; omega
                · intro v' w2 hown' hgrow _
                  go_wp2
                  go_roundw
                  case rel =>
                    refine ⟨xs ++ [(p.data.toList.drop fr).take (p.size - fr)], p.size + 1, p.size + 1, by go_num, by go_num, HNX.out, ?_, ?_⟩
                    · have e : sv ((p.data.toList.drop fr).take (p.size - fr)) = .string (p.extract fr p.size) := by rw [← HX.out, sv_data]
                      rw [List.map_append, List.map_cons, List.map_nil, e]
                      simpa using hown'
                    · exact (hbw1.alloc hs1 _).grown hgrow (by simp; omega) (fun k hk => own_ge hown1 k hk)
                  case measure => simp [intOf]
          · by_cases hl : xs.length = 16
            · have bl : ((xs.length : Int) == 16) = true := by rw [beq_iff_eq]; omega
              have HN := Lib.hid (splitP_no2 H0.out (by
                rw [HCO.out, HNM.out, List.length_append, List.length_cons]; omega))
              clear hl hch
              go_wp2
              go_ret2
              exact splitPost_no HN.out rfl hbw
            · have bl : ((xs.length : Int) == 16) = false := by rw [beq_eq_false_iff_ne]; omega
              have hl16 : xs.length < 16 := by omega
              cases hcb : chk ((p.data.toList.drop fr).take (i - fr)) with
              | false =>
                have e1 : chkN ((p.data.toList.drop fr).take (i - fr)) = 10 := by rw [chkN, hcb]; rfl
                rw [e1] at hch
                have HN := Lib.hid (splitP_no3 (n := (p.data.toList.drop fr).take (i - fr)) H0.out (by rw [HNM.out]; simp) hcb)
                have HCH := Lib.hid hch
                clear hl hch e1 hcb
                go_wp2_with fail
                refine (HCH.out _ (hT.below hbw)).mono ?_
                rintro e w1 ⟨rfl, hb1⟩
                go_wp2
                go_ret2
                exact splitPost_no HN.out rfl (hbw.trans (hb1.mono hbw.size))
              | true =>
                have e1 : chkN ((p.data.toList.drop fr).take (i - fr)) = 0 := by rw [chkN, hcb]; rfl
                rw [e1] at hch
                have HNX := Lib.hid (cut_next HCUT.out HB.out hl16 hcb)
                have HCH := Lib.hid hch
                clear hl hch e1 hcb
                go_wp2_with fail
                refine (HCH.out _ (hT.below hbw)).mono ?_
                rintro e w1 ⟨rfl, hb1⟩
                have hown1 := ownsRow_below hown hb1
                have hbw1 := hbw.trans (hb1.mono hbw.size)
                have hs1 := hbw1.size
                clear hown hb1 hbw
                go_wp2_with (at_builtin; refine wpList_append_own _ rfl _ _ 34 rfl w.heap.size 9 i0 (.string ByteArray.empty) 1 16 Tryz.underlying34 hi hz0 hz1 hz2 rfl (by decide) _ _ _ rfl (hown1.alloc _) ⟨w1.heap.size, 0, none⟩ 1 1 [.string (p.extract fr i)] rfl rfl ?c1 ?c2 ?c3 ?c4 ?c5 ?_)
                case c1 => exact cell_one_new _ _ _
                case c2 => intro u hu; simp at hu; subst hu; rfl
                case c3 => unfold maxLen; omega
                case c4 => omega
                case c5 => simp; omega
                · intro v' w2 hown' hgrow _
                  go_wp2
                  go_roundw
                  case rel =>
                    refine ⟨xs ++ [(p.data.toList.drop fr).take (i - fr)], i + 1, i + 1, by go_num, by go_num, HNX.out, ?_, ?_⟩
                    · have e : sv ((p.data.toList.drop fr).take (i - fr)) = .string (p.extract fr i) := by rw [← HX.out, sv_data]
                      rw [List.map_append, List.map_cons, List.map_nil, e]
                      simpa using hown'
                    · exact (hbw1.alloc hs1 _).grown hgrow (by simp; omega) (fun k hk => own_ge hown1 k hk)
                  case measure => simp [intOf]; omega
      · have hi2 : i = p.size + 1 := by omega
        have HF : Hid (splitP p.data.toList = some xs) := Lib.hid (by
          have hd := HCUT.out.done (by rw [← HZ.out]; exact hi2)
          have hy := splitP_yes H0.out HPRE.out (by rw [HCO.out, hd]; exact hx16) (by
            rw [hd, List.all_eq_true]; exact HCUT.out.chks)
          rw [hy, hd])
        go_wp2
        go_ret2
        exact ⟨_, by rw [splitE, HF.out]; rfl, by rw [splitL, HF.out]; exact hown, hbw⟩
  · have hb2 : ((p[0].toNat : Int) != 47) = true := by
      rw [bne_iff_ne]; intro e; exact h2 (UInt8.toNat_inj.1 (by show _ = 47; omega))
    have HN := Lib.hid (splitP_no1 h0 (by
      cases h : Lib.hasPrefix p.data.toList [47] with
      | false => rfl
      | true => obtain ⟨t, e⟩ := (hasPrefix_one _).1 h
                rw [e] at hp0; simp at hp0; exact absurd hp0.symm h2))
    clear hsz h1 h0 hp0 h2
    go_enter Tryz.func40, Tryz.ntmps40
    go_wp2
    go_ret2
    exact splitPost_no HN.out rfl (Below.refl _ _)
end Go.Proofs.YtpbhkaokgpacoaaGreatDoor.Nm
